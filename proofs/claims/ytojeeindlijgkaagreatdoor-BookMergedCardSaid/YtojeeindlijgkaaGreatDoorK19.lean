/- append of a strings bytes; the builder: lemmas for the rows of this seat. No conditions. -/
import Derived.Laws.StructEq
import Derived.Laws.IdiomStrings
import Derived.Laws.Strings2
import Derived.Laws.Strings3
import Derived.Lib.AppendStr
import Derived.Lib.Builder
import Derived.Test.YtojeeindlijgkaaGreatDoorK9
import Derived.Test.YtojeeindlijgkaaGreatDoorK18
set_option linter.all false
namespace Go.Proofs.YtojeeindlijgkaaGreatDoor
open Go.RowKit
/-! ## append of a string's bytes; the builder -/
theorem strCells_bs (l : List UInt8) : Go.Lib.strCells (bs l) = byV l := by unfold Go.Lib.strCells byV; rw [bs_data]
theorem append_block_s {P : Program} {w : World} {base : Nat} {t u ty e : TypeId} {i : TypeInfo} (ht : P.underlying t = some (.slice e)) (hu : P.underlying u = some .string) (hi : P.info? e = some i) (hz : i.zero = some (.int .u8 0)) (hsize : i.size = 1) (hby : i.bytes = 1)
  {v : Value} {n : Nat} {xs : List Value} (hown : w.ownsRow base e 1 v n xs) {s : ByteArray} (h63 : n + s.size ≤ 1000000) {v' : Value} {w' : World} (hr : (Builtin.append_ #[t, u] ty #[v, .string s]).run P w = .ok v' w') :
  ∀ b, v'.ownBlock = some b → v.ownBlock = some b ∨ w.heap.size ≤ b := by
 have hxl : xs.length = n := by simpa using hown.1
 intro b hb
 rcases hown.2 with ⟨rfl, rfl⟩ | ⟨g, cap, cur, rfl, hbg, hg, hnc, hcm, hcs, htake⟩
 ·by_cases hm : s.size = 0
  ·have hf := Go.Lib.run_firstCells_string (P := P) w 1 s
   rw [hm] at hf
   have h2 : (Builtin.append_ #[t, u] ty #[.slice none 0 0, .string s]).run P w = .ok (.slice none 0 0) w := by
    simp [Builtin.append_, run_underlying ht, run_underlying hu, sizeOf, typeInfo, hi, hsize, Builtin.lenOf, hm, hf]
   rw [h2] at hr
   cases hr
   cases hb
  ·have h2 := run_append_nil_string (P := P) w t u ty e i (.int .u8 0) ht hu hi hz s (by omega) (by omega) (by rw [hby]; omega)
   rw [h2] at hr
   cases hr
   cases hb
   exact .inr (Nat.le_refl _)
 ·by_cases hroom : n + s.size ≤ cap
  ·have hcs' : cur.size = cap := by simpa using hcs
   have h2 := Go.Lib.run_append_room_string (P := P) w t u ty e i ht hu hi hsize g n cap cur hg s hroom (by omega)
   rw [h2] at hr
   cases hr
   exact .inl hb
  ·have holds : ∀ j u, xs[j]? = some u → w.cell? ((⟨g, 0, none⟩ : Addr).add j) = some u := hown.cells (g := g) rfl
   have h2 := Go.Lib.run_append_grow_string (P := P) w t u ty e i (.int .u8 0) ht hu hi hz ⟨g, 0, none⟩ n cap xs (by rw [hsize]; simpa using hxl) holds s (by omega) (by omega) (by rw [hby]; exact growslice_fits (by omega) (by omega))
   rw [h2] at hr
   cases hr
   cases hb
   exact .inr (Nat.le_refl _)
section
variable {P : Program} {tab : TT} {w0 : World} {n : Nat} {ds : List Deferred} {ops : List Oper} {o : Oper} {os : List Oper} {ks : List Kind} {ts : TS} {A : List Chunk} {K : TS → List Chunk → Prop} {d : Tmp} {x y z : Operand} {t u : TypeId}
theorem ot_appendStr {e : TypeId} {v : Value} {xs : List Value} {sl : Nat} {l : List UInt8} {i : TypeInfo} {A'v : Value → List Chunk} (hh : ks.headD .wr = .wr) (ht : P.underlying t = some (.slice e)) (hu : P.underlying u = some .string) (hi : P.info? e = some i) (hz : i.zero = some (.int .u8 0)) (hsize : i.size = 1) (hby : i.bytes = 1)
  (hop : o.op = .call { callee := .builtin .append, args := #[x, y], argTypes := #[t, u] }) (hd : o.dst = some d) (hw : wantB ops ts o = some true) (hx : evT ts x = some v) (hy : evT ts y = some (.string (bs l)))
  (hup : ∀ v', Upd (.own v e 1 sl xs) (.own v' e 1 (sl + l.length) (xs ++ byV l)) A (A'v v')) (h63 : sl + l.length ≤ 1000000)
  (hk : ∀ B c, OT P w0 n ds ops os ks.tail ((d, .slice B (sl + l.length) c) :: ts) (A'v (.slice B (sl + l.length) c)) K) : OT P w0 n ds ops (o :: os) ks ts A K := by
 refine ot_wr hh fun a w hd' => ?_
 unfold wpV
 rw [if_pos (wantB_spec hd' hw), exec_builtin hop, BigFrame.builtin_append]
 have hown := hd'.st.all _ (hup v).mem
 have hsz := bs_size l
 obtain ⟨v', w', hr, h2, h3, _⟩ := Go.Lib.run_append_own_string (P := P) w w0.heap.size t u o.type e i ht hu hi hz hsize hby v sl xs hown (bs l) (by rw [hsz]; unfold maxLen; omega) (by omega) hd'.st.base.size
 have hab := append_block_s (P := P) ht hu hi hz hsize hby hown (s := bs l) (by omega) hr
 rw [hsz, strCells_bs] at h2
 simp only [List.map_toArray, List.map_cons, List.map_nil, hd'.ev hx, hd'.ev hy, Sem.run_bind, hr, Result.andThen_ok, Sem.run_pure]
 obtain ⟨B, c, rfl⟩ : ∃ B c, v' = .slice B (sl + l.length) c := by
  rcases h2.2 with ⟨rfl, e0⟩ | ⟨g, cap, cur, rfl, _⟩
  ·exact ⟨none, 0, by rw [e0]⟩
  ·exact ⟨_, _, rfl⟩
 exact ⟨A'v _, (fun e => by cases e), hd'.st.upd (hup _) rfl h3 h2 hab, by rw [hd]; exact hk B c⟩
end
/-! ## strings.Builder -/
section
variable {P : Program} {tab : TT} {w0 : World} {n : Nat} {ds : List Deferred} {ops : List Oper} {o : Oper} {os : List Oper} {ks : List Kind} {ts : TS} {A : List Chunk} {K : TS → List Chunk → Prop} {d : Tmp} {x y z : Operand} {t u : TypeId}
theorem blk_shape {w : World} {g T : Nat} {cs : List Value} (hs : St w0 A w) (h : Chunk.blk g T cs ∈ A) : w.shape? g = some (T, cs.length) := by
 have hb : w.heap[g]? = some (.cells cs.toArray T (0, 0)) := (hs.all _ h).2
 simp [World.shape?, hb]
theorem ot_tounsafe {g T e : Nat} {cs : List Value} {j : TypeInfo} (hp : P.underlying t = some (.pointer e)) (hu : P.underlying u = some .unsafePointer) (hj : P.info? e = some j) (hj0 : j.size ≠ 0) (hA : Chunk.blk g T cs ∈ A) (hc : 0 < cs.length) (hop : o.op = .convert t u x) (hd : o.dst = some d) (hw : wantB ops ts o = some true) (hx : evT ts x = some (.pointer (some ⟨g, 0, none⟩)))
  (hk : OT P w0 n ds ops os ks.tail ((d, .pointer (some ⟨g, 0, none⟩)) :: ts) A K) : OT P w0 n ds ops (o :: os) ks ts A K :=
 ot_val _ hd hw (fun a w hh => by
  have h1 := Go.Lib.run_to_unsafe (P := P) w ⟨g, 0, none⟩ hp hu hj hj0 (blk_shape hh.st hA) hc
  simp [execOp, hop, hh.ev hx, h1]) hk
theorem ot_fromunsafe {g T e : Nat} {cs : List Value} {j : TypeInfo} (hp : P.underlying t = some .unsafePointer) (hu : P.underlying u = some (.pointer e)) (hj : P.info? e = some j) (hA : Chunk.blk g T cs ∈ A) (hl : liesAt P P.depth T (cs.length / P.cellsOf T) 0 e 1 = true) (hop : o.op = .convert t u x) (hd : o.dst = some d) (hw : wantB ops ts o = some true) (hx : evT ts x = some (.pointer (some ⟨g, 0, none⟩)))
  (hk : OT P w0 n ds ops os ks.tail ((d, .pointer (some ⟨g, 0, none⟩)) :: ts) A K) : OT P w0 n ds ops (o :: os) ks ts A K :=
 ot_val _ hd hw (fun a w hh => by
  have h1 := Go.Lib.run_from_unsafe (P := P) w ⟨g, 0, none⟩ hp hu hj (blk_shape hh.st hA) hl
  simp [execOp, hop, hh.ev hx, h1]) hk
theorem ot_noesc {f : FuncId} {fn : Func} {v : Value} {ats : Array TypeId} (hf : P.funcs[f]? = some fn) (h1 : (fn.name == "runtime.NumGoroutine") = false) (h2 : fn.body.isNone = true) (h3 : Extern.findNext fn = none) (h4 : Extern.find fn = some Extern.AbiNoEscape.same) (hop : o.op = .call { callee := .value (.func f), args := #[x], argTypes := ats }) (hd : o.dst = some d) (hw : wantB ops ts o = some true) (hx : evT ts x = some v)
  (hk : OT P w0 n ds ops os ks.tail ((d, v) :: ts) A K) : OT P w0 n ds ops (o :: os) ks ts A K :=
 ot_val _ hd hw (fun a w hh => by
  have h5 : (callFunc f #[v]).run P w = .ok (.value v) w := by
   rw [run_callFunc_extern hf h1 h2 h3 h4, Go.Lib.run_noEscape]
   rfl
  obtain ⟨dst, op, type, pos, after, guard⟩ := o
  cases hop
  simp only [execOp, resolve]
  show ((do let d ← (pure { target := .fn (.func f) #[], args := #[] ++ #[x].map a.eval } : Sem Deferred); invoke d.target d.args)).run P w = _
  have e : #[x].map a.eval = #[v] := by simp [hh.ev hx]
  rw [e]
  simp [invoke, h5]) hk
theorem ot_eqlP {p q : Option Addr} (b : Bool) (he : ∀ w, (Op.equal t (.pointer p) (.pointer q)).run P w = .ok b w) (hop : o.op = .binOp .eql t x y u) (hd : o.dst = some d) (hw : wantB ops ts o = some true) (hx : evT ts x = some (.pointer p)) (hy : evT ts y = some (.pointer q))
  (hk : OT P w0 n ds ops os ks.tail ((d, .bool b) :: ts) A K) : OT P w0 n ds ops (o :: os) ks ts A K :=
 ot_val _ hd hw (fun a w hh => by
  have e1 : eqGuard .eql t x y (.pointer p) (.pointer q) = pure () := by rfl
  have e2 : (binOp .eql t (.pointer p) (.pointer q)).run P w = .ok (.bool b) w := by simp [binOp, he]
  simp [execOp, hop, hh.ev hx, hh.ev hy, e1, e2]) hk
theorem ot_neqP {p q : Option Addr} (b : Bool) (he : ∀ w, (Op.equal t (.pointer p) (.pointer q)).run P w = .ok b w) (hop : o.op = .binOp .neq t x y u) (hd : o.dst = some d) (hw : wantB ops ts o = some true) (hx : evT ts x = some (.pointer p)) (hy : evT ts y = some (.pointer q))
  (hk : OT P w0 n ds ops os ks.tail ((d, .bool (!b)) :: ts) A K) : OT P w0 n ds ops (o :: os) ks ts A K :=
 ot_val _ hd hw (fun a w hh => by
  have e1 : eqGuard .neq t x y (.pointer p) (.pointer q) = pure () := by rfl
  have e2 : (binOp .neq t (.pointer p) (.pointer q)).run P w = .ok (.bool (!b)) w := by simp [binOp, he]
  simp [execOp, hop, hh.ev hx, hh.ev hy, e1, e2]) hk
theorem ptr_same {tp te : TypeId} {j : TypeInfo} (a : Addr) (hp : P.underlying tp = some (.pointer te)) (hte : P.info? te = some j) (w : World) : (Op.equal tp (.pointer (some a)) (.pointer (some a))).run P w = .ok true w := by
 have h : ∀ d : Nat, (Op.equalIn (d + 1) tp (.pointer (some a)) (.pointer (some a))).run P w = .ok true w := fun d => by
  simp [Op.equalIn, run_underlying hp, sizeOf, typeInfo, hte, run_sameAddr_same]
 exact h 9999
end
theorem info120 : ∃ j, Tryz.prog.info? 120 = some j ∧ j.size = 2 := by
 obtain ⟨j, hj⟩ := info_of_underlying Tryz.underlying120
 refine ⟨j, hj, ?_⟩
 have : (Tryz.prog.info? 120).map (·.size) = some 2 := by kernel_rfl
 rw [hj] at this
 simpa using this
set_option maxRecDepth 20000 in
theorem copyCheck_any (gb : Nat) (p v : Value) (hp : p = .pointer none ∨ p = .pointer (some ⟨gb, 0, none⟩)) {c0 : Chunk} {A : List Chunk} {w0 w : World} (hs : St w0 (c0 :: .blk gb 120 [p, v] :: A) w) : Calls Tryz.prog 107 #[.pointer (some ⟨gb, 0, none⟩)] w fun e w' => e = .returned (.tuple #[]) ∧ St w0 (c0 :: .blk gb 120 [.pointer (some ⟨gb, 0, none⟩), v] :: A) w' := by
 obtain ⟨j, hj, hj2⟩ := info120
 have hn := fun w => run_equal_pointer_nil (P := Tryz.prog) w 118 none (by kernel_rfl)
 have hn2 := fun w => run_equal_pointer_nil (P := Tryz.prog) w 118 (some ⟨gb, 0, none⟩) (by kernel_rfl)
 have hsame := fun w => ptr_same (P := Tryz.prog) (tp := 118) ⟨gb, 0, none⟩ Tryz.underlying118 hj w
 refine fn_v tk (n := 20) (A := c0 :: .blk gb 120 _ :: A) Tryz.func107 rfl rfl (Nat.le_of_ble_eq_true rfl) hs ?_
 rcases hp with rfl | rfl
 ·((conv => whnf); (repeat ((first | (apply VStop.mk; (refine ot_eqlP true hn rfl rfl rfl rfl rfl ?_); apply ot_v tk) | (apply VLd.mk; (focus ((repeat (first | ((with_reducible apply ld_blk); exact rfl) | (with_reducible apply ld_skip))); done))) | apply VBr.t); (conv => whnf))); apply VStop.mk)
  refine ot_tounsafe Tryz.underlying118 Tryz.underlying148 hj (by omega) (.tail _ (.head _)) (Nat.zero_lt_succ _) rfl rfl rfl rfl ?_
  apply ot_v tk
  ((conv => whnf); apply VCall.stop)
  refine ot_noesc (f := 121) (fn := Tryz.f121) (v := .pointer (some ⟨gb, 0, none⟩)) Tryz.func121 (by kernel_rfl) (by kernel_rfl) (by kernel_rfl) (by kernel_rfl) rfl rfl rfl rfl ?_
  apply ot_v tk
  ((conv => whnf); apply VStop.mk)
  refine ot_fromunsafe Tryz.underlying148 Tryz.underlying118 hj (.tail _ (.head _)) (by kernel_rfl) rfl rfl rfl rfl ?_
  apply ot_v tk
  ((conv => whnf); (repeat ((apply VSt.mk; (focus ((repeat (first | (with_reducible exact At.here) | (with_reducible apply At.there))); done)); exact rfl); (conv => whnf))))
  (apply VRet.mk)
  exact ret0 (by first | exact .inl rfl | exact .inr rfl) rfl fun w hs => ⟨rfl, hs⟩
 ·((conv => whnf); (repeat ((first | (apply VStop.mk; (first | (refine ot_eqlP false hn2 rfl rfl rfl rfl rfl ?_) | (refine ot_neqP true hsame rfl rfl rfl rfl rfl ?_)); apply ot_v tk) | (apply VLd.mk; (focus ((repeat (first | ((with_reducible apply ld_blk); exact rfl) | (with_reducible apply ld_skip))); done))) | apply VBr.f); (conv => whnf))))
  (apply VRet.mk)
  exact ret0 (by first | exact .inl rfl | exact .inr rfl) rfl fun w hs => ⟨rfl, hs⟩
theorem info5 : ∃ i, Tryz.prog.info? 5 = some i ∧ i.zero = some (.int .u8 0) ∧ i.size = 1 ∧ i.bytes = 1 := by
 obtain ⟨i, hi⟩ := info_of_underlying Tryz.underlying5
 refine ⟨i, hi, ?_, ?_, ?_⟩
 ·have : (Tryz.prog.info? 5).map (·.zero) = some (some (.int .u8 0)) := by kernel_rfl
  rw [hi] at this; simpa using this
 ·have : (Tryz.prog.info? 5).map (·.size) = some 1 := by kernel_rfl
  rw [hi] at this; simpa using this
 ·have : (Tryz.prog.info? 5).map (·.bytes) = some 1 := by kernel_rfl
  rw [hi] at this; simpa using this
set_option maxRecDepth 20000 in
theorem write_any (gb m c : Nat) (B : Option Addr) (xs : List Value) (p : Value) (l : List UInt8) (hp : p = .pointer none ∨ p = .pointer (some ⟨gb, 0, none⟩)) (hl : m + l.length ≤ 1000000) {c0 : Chunk} {A : List Chunk} {w0 w : World} (hs : St w0 (c0 :: .blk gb 120 [p, .slice B m c] :: .own (.slice B m c) 5 1 m xs :: A) w) :
  Calls Tryz.prog 91 #[.pointer (some ⟨gb, 0, none⟩), .string (bs l)] w fun e w' => ∃ x : SlX, e = .returned (.tuple #[.int .i64 (l.length : Int), .nilIface]) ∧ True ∧ St w0 (c0 :: .blk gb 120 [.pointer (some ⟨gb, 0, none⟩), .slice x.1 (m + l.length) x.2] :: .own (.slice x.1 (m + l.length) x.2) 5 1 (m + l.length) (xs ++ byV l) :: A) w' := by
 obtain ⟨i, hi, hi1, hi2, hi3⟩ := info5
 refine fn_v tk (n := 19) (A := c0 :: .blk gb 120 _ :: .own (.slice B m c) 5 1 m xs :: A) Tryz.func91 rfl rfl (Nat.le_of_ble_eq_true rfl) hs ?_
 ((conv => whnf); apply VCall.stop)
 refine ot_callW (X := Unit) (us := []) (vs := []) (fun _ => .tuple #[]) (fun _ => c0 :: .blk gb 120 [.pointer (some ⟨gb, 0, none⟩), .slice B m c] :: .own (.slice B m c) 5 1 m xs :: A) (fun _ => True) rfl rfl rfl rfl rfl (by kernel_rfl) (evl_of rfl) rfl (fun w1 hs => (copyCheck_any gb p _ hp hs).mono fun e w' h => ⟨(), h.1, trivial, h.2⟩) (fun _ _ => ?_)
 apply ot_v tk
 ((conv => whnf); (repeat ((apply VLd.mk; (focus ((repeat (first | ((with_reducible apply ld_blk); exact rfl) | (with_reducible apply ld_skip))); done))); (conv => whnf))); apply VStop.mk)
 refine ot_appendStr (e := 5) (v := .slice B m c) (sl := m) (xs := xs) (l := l) (A'v := fun v' => _ :: _ :: .own v' 5 1 (m + l.length) (xs ++ byV l) :: A) rfl Tryz.underlying65 Tryz.underlying9 hi hi1 hi2 hi3 rfl rfl rfl rfl rfl (fun v' => .there (.there .here)) hl (fun B3 c3 => ?_)
 apply ot_v tk
 ((conv => whnf); (repeat ((apply VSt.mk; (focus ((repeat (first | (with_reducible exact At.here) | (with_reducible apply At.there))); done)); exact rfl); (conv => whnf))); apply VStop.mk)
 refine ot_slen Tryz.underlying9 rfl rfl rfl rfl ?_
 apply ot_v tk
 ((conv => whnf))
 (apply VRet.mk)
 refine ret2 (by first | exact .inl rfl | exact .inr rfl) rfl (by exact rv_tmp rfl) (by exact rv_tmp rfl) ?_
 exact fun w hs => ⟨(B3, c3), rfl, trivial, hs⟩
end Go.Proofs.YtojeeindlijgkaaGreatDoor
