/- Strings: bytes, as lists: lemmas for the rows of this seat. No conditions. -/
import Derived.Laws.StructEq
import Derived.Laws.IdiomStrings
import Derived.Laws.Strings2
import Derived.Laws.Strings3
import Derived.Test.YtojeeindlijgkaaGreatDoorTab
import Derived.Test.YtojeeindlijgkaaGreatDoorV8
set_option linter.all false
namespace Go.Proofs.YtojeeindlijgkaaGreatDoor
open Go.RowKit
/-! ## Strings: bytes, as lists -/
def bs (l : List UInt8) : ByteArray := ⟨l.toArray⟩
theorem bs_size (l : List UInt8) : (bs l).size = l.length := by show l.toArray.size = _; simp
theorem bs_list (s : ByteArray) : bs s.data.toList = s := by cases s; rfl
theorem bs_toList (l : List UInt8) : (bs l).toList = l := ByteArray.toList_mk l
theorem bs_data (l : List UInt8) : (bs l).data.toList = l := by simp [bs]
theorem bs_append (a b : List UInt8) : bs a ++ bs b = bs (a ++ b) := by
 have : (bs a ++ bs b).data = (bs (a ++ b)).data := by simp [bs]
 cases h1 : bs a ++ bs b; cases h2 : bs (a ++ b)
 rw [h1, h2] at this
 exact congrArg _ this
theorem bs_extract (l : List UInt8) (i j : Nat) : (bs l).extract i j = bs ((l.drop i).take (j - i)) := by
 have : ((bs l).extract i j).data = (bs ((l.drop i).take (j - i))).data := by
  simp [bs, ByteArray.data_extract]
 cases h1 : (bs l).extract i j; cases h2 : bs ((l.drop i).take (j - i))
 rw [h1, h2] at this
 exact congrArg _ this
def byV (l : List UInt8) : List Value := l.map fun b => .int .u8 b.toNat
theorem byV_length (l : List UInt8) : (byV l).length = l.length := by simp [byV]
section
variable {P : Program} {tab : TT} {w0 : World} {n : Nat} {ds : List Deferred} {ops : List Oper} {o : Oper} {os : List Oper} {ks : List Kind} {ts : TS} {A : List Chunk} {K : TS → List Chunk → Prop} {d : Tmp} {x y z : Operand} {t u : TypeId}
theorem ot_slen {l : List UInt8} (ht : P.underlying t = some .string) (hop : o.op = .call { callee := .builtin .len, args := #[x], argTypes := #[t] }) (hd : o.dst = some d) (hw : wantB ops ts o = some true) (hx : evT ts x = some (.string (bs l)))
  (hk : OT P w0 n ds ops os ks.tail ((d, .int .i64 (l.length : Int)) :: ts) A K) : OT P w0 n ds ops (o :: os) ks ts A K :=
 ot_val _ hd hw (fun a w hh => by
  rw [exec_builtin hop, BigFrame.builtin_len]
  simp [hh.ev hx, Builtin.len_, run_underlying ht, goInt, bs_size]) hk
theorem ot_sidx {l : List UInt8} {j : Nat} {k : IntKind} (hj : j < l.length) (ht : P.underlying t = some .string) (hop : o.op = .index t x y) (hd : o.dst = some d) (hw : wantB ops ts o = some true) (hx : evT ts x = some (.string (bs l))) (hy : evT ts y = some (.int k (j : Int)))
  (hk : OT P w0 n ds ops os ks.tail ((d, .int .u8 ((l[j]?.getD 0).toNat : Int)) :: ts) A K) : OT P w0 n ds ops (o :: os) ks ts A K :=
 ot_val _ hd hw (fun a w hh => by
  have hb : (0 : Int) ≤ j ∧ (j : Int) < (bs l).size := by rw [bs_size]; omega
  have := run_index_string w t (bs l) k j ht
  rw [dif_pos hb] at this
  have e : (bs l)[(j : Int).toNat]'(by have := hb.2; omega) = l[j]?.getD 0 := by
   rw [List.getElem?_eq_getElem hj]
   show l.toArray[(j : Int).toNat] = _
   simp
  rw [e] at this
  simp [execOp, hop, hh.ev hx, hh.ev hy, this]) hk
theorem ot_sslice {l : List UInt8} {i j : Nat} {k k' : IntKind} (hi : i ≤ j) (hj : j ≤ l.length) (ht : P.underlying t = some .string) (hop : o.op = .slice t x (some y) (some z) none) (hd : o.dst = some d) (hw : wantB ops ts o = some true) (hx : evT ts x = some (.string (bs l))) (hy : evT ts y = some (.int k (i : Int))) (hz : evT ts z = some (.int k' (j : Int)))
  (hk : OT P w0 n ds ops os ks.tail ((d, .string (bs ((l.drop i).take (j - i)))) :: ts) A K) : OT P w0 n ds ops (o :: os) ks ts A K :=
 ot_val _ hd hw (fun a w hh => by
  have h1 := run_slice_string w t (bs l) k k' i j ht (by omega) (by omega) (by rw [bs_size]; omega)
  rw [bs_extract] at h1
  have h2 := run_sliceAt_string w t (.string (bs l)) (some (.int k i)) (some (.int k' j)) none ht
  simp only [Int.toNat_natCast] at h1
  simp [execOp, hop, hh.ev hx, hh.ev hy, hh.ev hz, h2, h1]) hk
theorem ot_sfrom {l : List UInt8} {i : Nat} {k : IntKind} (hi : i ≤ l.length) (ht : P.underlying t = some .string) (hop : o.op = .slice t x (some y) none none) (hd : o.dst = some d) (hw : wantB ops ts o = some true) (hx : evT ts x = some (.string (bs l))) (hy : evT ts y = some (.int k (i : Int)))
  (hk : OT P w0 n ds ops os ks.tail ((d, .string (bs (l.drop i))) :: ts) A K) : OT P w0 n ds ops (o :: os) ks ts A K :=
 ot_val _ hd hw (fun a w hh => by
  have h1 := run_slice_string_l (P := P) w t ht (s := bs l) k i (by omega) (by rw [bs_size]; omega)
  rw [bs_extract, bs_size] at h1
  have h2 := run_sliceAt_string w t (.string (bs l)) (some (.int k i)) none none ht
  simp only [Int.toNat_natCast] at h1
  have e : (l.drop i).take (l.length - i) = l.drop i := List.take_of_length_le (by simp)
  rw [e] at h1
  simp [execOp, hop, hh.ev hx, hh.ev hy, h2, h1]) hk
theorem ot_sadd {l m : List UInt8} (hl : l.length + m.length ≤ 1000000) (hop : o.op = .binOp .add t x y u) (hd : o.dst = some d) (hw : wantB ops ts o = some true) (hx : evT ts x = some (.string (bs l))) (hy : evT ts y = some (.string (bs m)))
  (hk : OT P w0 n ds ops os ks.tail ((d, .string (bs (l ++ m))) :: ts) A K) : OT P w0 n ds ops (o :: os) ks ts A K :=
 ot_val _ hd hw (fun a w hh => by
  have h1 : ¬ (((bs l).size + (bs m).size : Nat) : Int) > IntKind.i64.max := by
   rw [bs_size, bs_size, show IntKind.i64.max = 9223372036854775807 from rfl]; omega
  have h2 : (binOp .add t (.string (bs l)) (.string (bs m))).run P w = .ok (.string (bs (l ++ m))) w := by
   rw [binOp_string_add]
   simp only [Op.stringOp]
   rw [if_neg h1, bs_append]
   rfl
  have e1 : eqGuard .add t x y (.string (bs l)) (.string (bs m)) = pure () := rfl
  simp [execOp, hop, hh.ev hx, hh.ev hy, e1, h2]) hk
theorem ot_strq {l m : List UInt8} (b : Bool) (hb : decide (l = m) = b) (hop : o.op = .binOp .eql t x y u) (hd : o.dst = some d) (hw : wantB ops ts o = some true) (hx : evT ts x = some (.string (bs l))) (hy : evT ts y = some (.string (bs m)))
  (hk : OT P w0 n ds ops os ks.tail ((d, .bool b) :: ts) A K) : OT P w0 n ds ops (o :: os) ks ts A K :=
 ot_val _ hd hw (fun a w hh => by
  have h2 : (binOp .eql t (.string (bs l)) (.string (bs m))).run P w = .ok (.bool b) w := by
   have : (l == m) = b := by rw [← hb, Bool.eq_iff_iff]; simp
   rw [binOp_string_eql, bs_toList, bs_toList, this]
   rfl
  have e1 : eqGuard .eql t x y (.string (bs l)) (.string (bs m)) = pure () := rfl
  simp [execOp, hop, hh.ev hx, hh.ev hy, e1, h2]) hk
theorem ot_strn {l m : List UInt8} (b : Bool) (hb : decide (l = m) = !b) (hop : o.op = .binOp .neq t x y u) (hd : o.dst = some d) (hw : wantB ops ts o = some true) (hx : evT ts x = some (.string (bs l))) (hy : evT ts y = some (.string (bs m)))
  (hk : OT P w0 n ds ops os ks.tail ((d, .bool b) :: ts) A K) : OT P w0 n ds ops (o :: os) ks ts A K :=
 ot_val _ hd hw (fun a w hh => by
  have h2 : (binOp .neq t (.string (bs l)) (.string (bs m))).run P w = .ok (.bool b) w := by
   rw [binOp_string_neq, bs_toList, bs_toList]
   have : (l == m) = !b := by rw [← hb, Bool.eq_iff_iff]; simp
   rw [this, Bool.not_not]
   rfl
  have e1 : eqGuard .neq t x y (.string (bs l)) (.string (bs m)) = pure () := rfl
  simp [execOp, hop, hh.ev hx, hh.ev hy, e1, h2]) hk
theorem ot_sbytes {e : TypeId} {l : List UInt8} (hh : ks.headD .wr ≠ .rd) (ht : P.underlying t = some .string) (hu : P.underlying u = some (.slice e)) (he : P.underlying e = some (.int .u8)) (hop : o.op = .convert t u x) (hd : o.dst = some d) (hw : wantB ops ts o = some true) (hx : evT ts x = some (.string (bs l)))
  (hk : ∀ g c, w0.heap.size ≤ g → OT P w0 n ds ops os ks.tail ((d, .slice (some ⟨g, 0, none⟩) l.length c) :: ts) (.row g 0 (byV l) :: A) K) : OT P w0 n ds ops (o :: os) ks ts A K := by
 refine ot_new (N := fun _ _ => True) (v := undef) hh hd hw fun a w hh => ?_
 have h1 := run_bytes_of_string w t u e (bs l) ht hu he
 generalize grownCap w (bs l).size 0 e = c at h1
 rw [bs_size] at h1
 have hB : Below w.heap.size w (w.drew.alloc (.cells (bytesRow (bs l) c) e ((bytesRow (bs l) c).size, (bytesRow (bs l) c).size + 1))) := (Below.refl _ _).drew.alloc (Nat.le_refl _) _
 refine ⟨.slice (some ⟨w.heap.size, 0, none⟩) l.length c, _, .row w.heap.size 0 (byV l) :: A, by simp [execOp, hop, hh.ev hx, h1], hB, hh.st.add_row hB (Nat.le_refl _) ?_ ?_, hk _ _ hh.st.base.size⟩
 ·show w.heap.size < (w.drew.alloc _).heap.size
  show w.heap.size < (w.heap.push _).size
  simp
 ·intro j v hv
  have hj : j < l.length := by have := (List.getElem?_eq_some_iff.1 hv).1; rwa [byV_length] at this
  have e1 : (w.drew.alloc (.cells (bytesRow (bs l) c) e ((bytesRow (bs l) c).size, (bytesRow (bs l) c).size + 1))).heap[w.heap.size]? = some (.cells (bytesRow (bs l) c) e ((bytesRow (bs l) c).size, (bytesRow (bs l) c).size + 1)) := by
   show (w.heap.push _)[w.heap.size]? = _
   simp
  have e2 : (bytesRow (bs l) c)[j]? = some v := by
   unfold bytesRow
   rw [Array.getElem?_append_left (by simp [bs, hj])]
   rw [← hv]
   simp [byV, bs]
  unfold World.cell?
  rw [e1]
  simpa using e2
end
/-! ## The sum behind a text -/
def sumB (n : Int) (c : UInt8) : Int := (n * 257 + (c.toNat : Int) + 1).tmod 65521
def sumT (n : Int) (l : List UInt8) : Int := l.foldl sumB n
theorem sumB_bd (n : Int) (c : UInt8) (h : 0 ≤ n ∧ n ≤ 65520) : 0 ≤ sumB n c ∧ sumB n c ≤ 65520 := by
 unfold sumB
 have hc : (0 : Int) ≤ c.toNat := by omega
 have h0 : 0 ≤ n * 257 + (c.toNat : Int) + 1 := by omega
 rw [Int.tmod_eq_emod_of_nonneg h0]
 omega
theorem sumT_bd (l : List UInt8) : ∀ (n : Int), 0 ≤ n ∧ n ≤ 65520 → 0 ≤ sumT n l ∧ sumT n l ≤ 65520 := by
 induction l with
 | nil => exact fun n h => h
 | cons c l ih => exact fun n h => ih _ (sumB_bd n c h)
theorem sumT_step {l : List UInt8} {j : Nat} (n : Int) (h : j < l.length) : sumT n (l.take (j + 1)) = sumB (sumT n (l.take j)) (l[j]?.getD 0) := by
 unfold sumT
 rw [List.take_succ_eq_append_getElem h, List.foldl_append, List.getElem?_eq_getElem h]; rfl
theorem u8_lt (c : UInt8) : (c.toNat : Int) ≤ 255 := by have := c.toNat_lt; omega
set_option maxRecDepth 20000 in
theorem sum89_any (n0 : Int) (l : List UInt8) (w : World) (hn : 0 ≤ n0 ∧ n0 ≤ 65520) (hl : l.length ≤ 100000) : Calls Tryz.prog 89 #[.int .i64 n0, .string (bs l)] w fun e w' => e = .returned (.int .i64 (sumT n0 l)) ∧ Below w.heap.size w w' := by
 refine fn_v tk (n := 23) (A := []) Tryz.func89 rfl rfl (Nat.le_of_ble_eq_true rfl) (St.nil (Below.refl _ _)) ?_
 ((conv => whnf); (repeat ((apply VStop.mk; (refine ot_sbytes (by decide) Tryz.underlying9 Tryz.underlying65 Tryz.underlying5 rfl rfl rfl rfl (fun gb c hgb => ?_)); apply ot_v tk); (conv => whnf))); apply VStop.mk)
 refine v_loop (fun gm ds ts A => ds = [] ∧ ∃ j : Nat, j + gm = l.length ∧ A = [.row gb 0 (byV l)] ∧ ts = [(0, .int .i64 (sumT n0 (l.take j))), (8, .slice (some ⟨gb, 0, none⟩) l.length c), (9, .int .i64 (l.length : Int)), (10, .int .i64 (j : Int))]) l.length (l := [(0, _), (8, _), (9, _), (10, _)]) (B := _) ?_ (List.Sublist.refl _) ⟨rfl, 0, by omega, rfl, rfl⟩ ?_
 ·exact ⟨rfl, rfl, rfl, rfl, trivial⟩
 rintro gm ds ts A ⟨rfl, j, hj, rfl, rfl⟩
 by_cases hlt : j < l.length
 ·have hst := sumT_step n0 hlt
  have hbd := sumT_bd (l.take j) n0 hn
  have hc : CellAt w [.row gb 0 (byV l)] gb (0 + j * 1) (.int .u8 ((l[j]?.getD 0).toNat : Int)) := by
   rw [Nat.zero_add, Nat.mul_one]
   have := cell_row (w0 := w) (A := [.row gb 0 (byV l)]) (b := gb) (o := 0) (cs := byV l) (j := j) (v := .int .u8 ((l[j]?.getD 0).toNat : Int)) (.head _) (by simp [byV, List.getElem?_eq_getElem hlt])
   rwa [Nat.zero_add] at this
  have hu := u8_lt (l[j]?.getD 0)
  unfold sumB at hst
  generalize l[j]?.getD 0 = b at *
  generalize sumT n0 (l.take j) = s at *
  (apply tr_v tk; (conv => whnf); (repeat ((first | (apply VLd.mk; exact hc) | (apply VIx.mk (j := j); exact rfl; omega) | (apply VRng.mk; omega) | apply VBr.t | (apply v_t; omega) | (apply v_wr64; omega) | (apply VNz.mk; omega)); (conv => whnf))))
  exact v_rnd (gm - 1) (by omega) (l := [(0, _), (8, _), (9, _), (10, _)]) (B := _) ⟨rfl, rfl, rfl, rfl, trivial⟩ (List.Sublist.refl _) ⟨rfl, j + 1, by omega, rfl, by rw [hst]; rfl⟩
 obtain rfl : j = l.length := by omega
 rw [List.take_length]
 (apply tr_v tk; (conv => whnf); (repeat ((first | apply VBr.f | (apply v_f; omega)); (conv => whnf))))
 (apply VRet.mk)
 refine ret1 (by first | exact .inl rfl | exact .inr rfl) rfl (by exact rv_tmp rfl) ?_
 exact fun w h => ⟨rfl, h.base⟩
set_option maxRecDepth 20000 in
theorem sumOf_any (n0 : Int) (l : List UInt8) (w : World) (hn : 0 ≤ n0 ∧ n0 ≤ 65520) (hl : l.length ≤ 100000) : Calls Tryz.prog 78 #[.int .i64 n0, .string (bs l)] w fun e w' => e = .returned (.int .i64 (sumT n0 l)) ∧ Below w.heap.size w w' := by
 refine fn_v tk (n := 22) (A := []) Tryz.func78 rfl rfl (Nat.le_of_ble_eq_true rfl) (St.nil (Below.refl _ _)) ?_
 ((conv => whnf); apply VStop.mk)
 refine v_loop (fun gm ds ts A => ds = [] ∧ A = [] ∧ ∃ j : Nat, j + gm = l.length ∧ ts = [(0, .int .i64 (sumT n0 (l.take j))), (1, .string (bs l)), (5, .int .i64 (j : Int))]) l.length (l := [(0, _), (1, _), (5, _)]) (B := []) ?_ (List.nil_sublist _) ⟨rfl, rfl, 0, by omega, rfl⟩ ?_
 ·exact ⟨rfl, rfl, rfl, trivial⟩
 rintro gm ds ts A ⟨rfl, rfl, j, hj, rfl⟩
 by_cases hlt : j < l.length
 ·have hst := sumT_step n0 hlt
  have hbd := sumT_bd (l.take j) n0 hn
  have hu := u8_lt (l[j]?.getD 0)
  unfold sumB at hst
  (apply tr_v tk; (conv => whnf); (repeat ((first | (apply VStop.mk; (first | (refine ot_slen Tryz.underlying9 rfl rfl rfl rfl ?_) | (refine ot_sidx hlt Tryz.underlying9 rfl rfl rfl rfl rfl ?_)); apply ot_v tk) | (apply VRng.mk; omega) | apply VBr.t | (apply v_t; omega) | (apply v_wr64; omega) | (apply VNz.mk; omega)); (conv => whnf))))
  exact v_rnd (gm - 1) (by omega) (l := [(0, _), (1, _), (5, _)]) (B := []) ⟨rfl, rfl, rfl, trivial⟩ (List.nil_sublist _) ⟨rfl, rfl, j + 1, by omega, by rw [hst]; rfl⟩
 obtain rfl : j = l.length := by omega
 rw [List.take_length]
 (apply tr_v tk; (conv => whnf); (repeat ((first | (apply VStop.mk; (refine ot_slen Tryz.underlying9 rfl rfl rfl rfl ?_); apply ot_v tk) | apply VBr.f | (apply v_f; omega)); (conv => whnf))))
 (apply VRet.mk)
 refine ret1 (by first | exact .inl rfl | exact .inr rfl) rfl (by exact rv_tmp rfl) ?_
 exact fun w h => ⟨rfl, h.base⟩
end Go.Proofs.YtojeeindlijgkaaGreatDoor
