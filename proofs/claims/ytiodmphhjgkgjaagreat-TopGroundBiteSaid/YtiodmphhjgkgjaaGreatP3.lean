/- Sorting of short lists: lemmas for the rows of this seat. No conditions. -/
import Derived.Laws.StructEq
import Derived.Test.YtiodmphhjgkgjaaGreatP1
set_option linter.all false
namespace Go.Proofs.YtiodmphhjgkgjaaGreat
open Go.RowKit
/-! ## Sorting of short lists -/
theorem isNaN_any (a : Int) (w : World) : Calls Tryz.prog 296 #[.int .i64 a] w fun e w' => e = .returned (.bool false) ∧ Below w.heap.size w w' := by
 refine fn_v tk (n := 6) (A := []) Tryz.func296 rfl rfl (Nat.le_of_ble_eq_true rfl) (St.nil (Below.refl _ _)) ?_
 ((conv => whnf); (repeat ((apply v_f; omega); (conv => whnf))))
 (apply VRet.mk)
 refine ret1 (by first | exact .inl rfl | exact .inr rfl) rfl (by exact rv_tmp rfl) ?_
 exact fun w h => ⟨by simp, h.base⟩
set_option maxRecDepth 20000 in
theorem less_any (a b : Int) (w : World) : Calls Tryz.prog 284 #[.int .i64 a, .int .i64 b] w fun e w' => e = .returned (.bool (decide (a < b))) ∧ Below w.heap.size w w' := by
 refine fn_v tk (n := 17) (A := []) Tryz.func284 rfl rfl (Nat.le_of_ble_eq_true rfl) (St.nil (Below.refl _ _)) ?_
 ((conv => whnf); (repeat ((first | (apply VCall.q; kernel_rfl; (focus (intro w1 hs; first | with_reducible apply isNaN_any _ w1))) | apply VBr.f | apply v_d); (conv => whnf))))
 (apply VRet.mk)
 refine ret1 (by first | exact .inl rfl | exact .inr rfl) rfl (by exact rv_tmp rfl) ?_
 exact fun w h => ⟨rfl, h.base⟩
section
variable {P : Program} {tab : TT} {w0 : World} {n : Nat} {ds : List Deferred} {ops : List Oper} {o : Oper} {os : List Oper} {ks : List Kind} {ts : TS} {A : List Chunk} {K : TS → List Chunk → Prop} {d : Tmp} {x y z : Operand} {t u : TypeId}
theorem ot_sany {s : ByteArray} {j : Nat} {k : IntKind} (hj : j < s.size) (ht : P.underlying t = some .string) (hop : o.op = .index t x y) (hd : o.dst = some d) (hw : wantB ops ts o = some true) (hx : evT ts x = some (.string s)) (hy : evT ts y = some (.int k (j : Int)))
  (hk : ∀ b : Nat, b ≤ 255 → OT P w0 n ds ops os ks.tail ((d, .int .u8 (b : Int)) :: ts) A K) : OT P w0 n ds ops (o :: os) ks ts A K :=
 ot_val _ hd hw (fun a w hh => by
  have hb : (0 : Int) ≤ j ∧ (j : Int) < s.size := by omega
  have := run_index_string w t s k j ht
  rw [dif_pos hb] at this
  simp [execOp, hop, hh.ev hx, hh.ev hy, this]
  done) (hk (s[(j : Int).toNat]'(by omega)).toNat (by have := UInt8.toNat_lt (s[(j : Int).toNat]'(by omega)); omega))
end
set_option maxRecDepth 20000 in
theorem len64_any (n : Nat) (hn : n ≤ 12) (w : World) : Calls Tryz.prog 288 #[.int .u64 (n : Int)] w fun e w' => ∃ x : Int, e = .returned (.int .i64 x) ∧ True ∧ Below w.heap.size w w' := by
 have k1 := IntWalk.u8_in (n : Int) (by omega)
 refine fn_v tk (n := 25) (A := []) Tryz.func288 rfl rfl (Nat.le_of_ble_eq_true rfl) (St.nil (Below.refl _ _)) ?_
 ((conv => whnf); (repeat ((first | apply VBr.f | (apply v_f; omega) | (apply VWr.mk; assumption)); (conv => whnf))); apply VStop.mk)
 refine ot_sany (Nat.le_trans (Nat.succ_le_succ hn) (Nat.le_of_ble_eq_true (by kernel_rfl))) Tryz.underlying9 rfl rfl rfl rfl rfl (fun b hb => ?_)
 (apply ot_v tk; (conv => whnf); (repeat ((first | (apply VRng.mk; omega) | (apply v_wr64; omega)); (conv => whnf))))
 (apply VRet.mk)
 refine ret1 (by first | exact .inl rfl | exact .inr rfl) rfl (by exact rv_tmp rfl) ?_
 exact fun w h => ⟨_, rfl, trivial, h.base⟩
set_option maxRecDepth 20000 in
theorem len_any (n : Nat) (hn : n ≤ 12) (w : World) : Calls Tryz.prog 271 #[.int .u64 (n : Int)] w fun e w' => ∃ x : Int, e = .returned (.int .i64 x) ∧ True ∧ Below w.heap.size w w' := by
 refine fn_v tk (n := 8) (A := []) Tryz.func271 rfl rfl (Nat.le_of_ble_eq_true rfl) (St.nil (Below.refl _ _)) ?_
 ((conv => whnf); (repeat ((first | (apply VCall.stop; (refine ot_callQ (us := []) (vs := []) (fun x : Int => .int .i64 x) (fun _ => True) (by decide) rfl rfl rfl rfl (by kernel_rfl) (evl_of rfl) rfl (fun w1 hs => len64_any n hn w1) (fun x _ => ?_)); apply ot_v tk) | apply VBr.f); (conv => whnf))))
 (apply VRet.mk)
 refine ret1 (by first | exact .inl rfl | exact .inr rfl) rfl (by exact rv_tmp rfl) ?_
 exact fun w h => ⟨_, rfl, trivial, h.base⟩
def Inc (l : List Int) : Prop := ∀ i, i + 1 < l.length → rAt l i ≤ rAt l (i + 1)
def InV (l : List Int) : Prop := ∀ x ∈ l, 0 ≤ x ∧ x ≤ 1000
theorem InV.at_ {l : List Int} (h : InV l) {k : Nat} (hk : k < l.length) : 0 ≤ rAt l k ∧ rAt l k ≤ 1000 := h _ (rAt_mem hk)
theorem InV.set {l : List Int} (h : InV l) {k : Nat} {v : Int} (hv : 0 ≤ v ∧ v ≤ 1000) : InV (l.set k v) := fun x hx => by
 rcases List.mem_or_eq_of_mem_set hx with h1 | h1
 ·exact h x h1
 ·subst h1; exact hv
theorem rAt_get {l : List Int} {k : Nat} (hk : k < l.length) : (i64s l)[k]? = some (.int .i64 (rAt l k)) := by
 unfold rAt i64s
 rw [List.getElem?_map, List.getElem?_eq_getElem hk, Option.getD_some]; rfl
theorem i64s_set (l : List Int) (k : Nat) (v : Int) : (i64s l).set k (.int .i64 v) = i64s (l.set k v) := by simp [i64s, List.map_set]
theorem cell_ownI {w0 : World} {R : List Chunk} {g cap m : Nat} {l : List Int} {k : Nat} (hk : k < l.length) : CellAt w0 (.own (.slice (some ⟨g, 0, none⟩) m cap) 2 1 m (i64s l) :: R) g (0 + k * 1) (.int .i64 (rAt l k)) := by
 rw [Nat.zero_add, Nat.mul_one]; exact cell_own (.head _) (rAt_get hk)
set_option maxHeartbeats 2000000 in
set_option maxRecDepth 20000 in
theorem insort_any {w0 w : World} {R : List Chunk} (g cap n : Nat) (l : List Int) (hn : l.length = n) (hl : n ≤ 12) (hv : InV l) (hs : St w0 (.own (.slice (some ⟨g, 0, none⟩) n cap) 2 1 n (i64s l) :: R) w) :
  Calls Tryz.prog 278 #[.slice (some ⟨g, 0, none⟩) n cap, .int .i64 0, .int .i64 (n : Int)] w fun e w' => ∃ l' : List Int, e = .returned (.tuple #[]) ∧ (l'.length = n ∧ InV l' ∧ (Inc l → l' = l)) ∧ St w0 (.own (.slice (some ⟨g, 0, none⟩) n cap) 2 1 n (i64s l') :: R) w' := by
 refine fn_v tk (n := 49) (A := _) Tryz.func278 rfl rfl (Nat.le_of_ble_eq_true rfl) hs ?_
 ((conv => whnf); (repeat ((first | (apply VRng.mk; omega) | (refine slist_and (by (repeat (first | exact sl0 _ | exact sl1 _ | refine sl2 _ ?_ | refine sl3 _ ?_))) ?_; first | refine otl_nil ?_ | (refine otl_cons ?_; apply ot_v tk) | skip) | (apply VK.mk; first | (refine otl_cons ?_; apply ot_v tk) | apply ot_v tk)); (conv => whnf))); apply VStop.mk)
 refine v_loop (fun gm ds ts A => ds = [] ∧ ∃ (i : Nat) (M : List Int), (i + gm = n ∨ n ≤ i ∧ gm = 0) ∧ M.length = n ∧ InV M ∧ (Inc l → M = l) ∧ A = .own (.slice (some ⟨g, 0, none⟩) n cap) 2 1 n (i64s M) :: R ∧ ts = [(0, .slice (some ⟨g, 0, none⟩) n cap), (1, .int .i64 0), (2, .int .i64 (n : Int)), (6, .int .i64 ((i + 1 : Nat) : Int))]) n
  (l := [(0, _), (1, _), (2, _), (6, _)]) (B := _) ?_ (List.Sublist.refl _) ⟨rfl, 0, l, by omega, hn, hv, fun _ => rfl, rfl, rfl⟩ ?_
 ·exact ⟨rfl, rfl, rfl, rfl, trivial⟩
 rintro gm ds ts A ⟨rfl, i, M, hi, hM, hMv, hMi, rfl, rfl⟩
 by_cases hlt : i + 1 < n
 rotate_left
 ·(apply tr_v tk; (conv => whnf); (repeat ((first | apply VBr.f | (apply v_f; omega) | (refine slist_and (by (repeat (first | exact sl0 _ | exact sl1 _ | refine sl2 _ ?_ | refine sl3 _ ?_))) ?_; first | refine otl_nil ?_ | (refine otl_cons ?_; apply ot_v tk) | skip) | (apply VK.mk; first | (refine otl_cons ?_; apply ot_v tk) | apply ot_v tk)); (conv => whnf))))
  (apply VRet.mk)
  exact ret0 (by first | exact .inl rfl | exact .inr rfl) rfl fun w hs => ⟨M, rfl, ⟨hM, hMv, hMi⟩, hs⟩
 (apply tr_v tk; (conv => whnf); (repeat ((first | apply VBr.t | (apply v_t; omega) | (refine slist_and (by (repeat (first | exact sl0 _ | exact sl1 _ | refine sl2 _ ?_ | refine sl3 _ ?_))) ?_; first | refine otl_nil ?_ | (refine otl_cons ?_; apply ot_v tk) | skip) | (apply VK.mk; first | (refine otl_cons ?_; apply ot_v tk) | apply ot_v tk)); (conv => whnf))); apply VStop.mk)
 refine v_loop (fun gm' ds ts A => ds = [] ∧ ∃ (j : Nat) (M : List Int), j = gm' ∧ j ≤ i + 1 ∧ M.length = n ∧ InV M ∧ (Inc l → M = l) ∧ A = .own (.slice (some ⟨g, 0, none⟩) n cap) 2 1 n (i64s M) :: R ∧ ts = [(0, .slice (some ⟨g, 0, none⟩) n cap), (1, .int .i64 0), (2, .int .i64 (n : Int)), (6, .int .i64 ((i + 1 : Nat) : Int)), (7, .int .i64 (j : Int))]) (i + 1)
  (l := [(0, _), (1, _), (2, _), (6, _), (7, _)]) (B := _) ?_ (List.Sublist.refl _) ⟨rfl, i + 1, M, rfl, Nat.le_refl _, hM, hMv, hMi, rfl, rfl⟩ ?_
 ·exact ⟨rfl, rfl, rfl, rfl, rfl, trivial⟩
 clear hMi hMv hM M
 rintro gm' ds ts A ⟨rfl, j, M, hj, hji, hM, hMv, hMi, rfl, rfl⟩
 subst hj
 by_cases h0 : j = 0
 ·subst h0
  (apply tr_v tk; (conv => whnf); (repeat ((first | (apply VStop.mk; refine tr_region_lex (id := 4) (by kernel_rfl) [.rd, .rd, .rd, .rd, .rd, .rd, .rd, .rd, .rd, .rd, .rd, .rd, .rd, .cr, .rd] rfl (by kernel_rfl) ?_; apply ot_v tk) | (apply VRng.mk; omega) | apply VBr.f | (apply v_f; omega) | (refine slist_and (by (repeat (first | exact sl0 _ | exact sl1 _ | refine sl2 _ ?_ | refine sl3 _ ?_))) ?_; first | refine otl_nil ?_ | (refine otl_cons ?_; apply ot_v tk) | skip) | (apply VK.mk; first | (refine otl_cons ?_; apply ot_v tk) | apply ot_v tk)); (conv => whnf))))
  exact v_rnd (gm - 1) (by omega) (l := [(0, _), (1, _), (2, _), (6, _)]) (B := _) ⟨rfl, rfl, rfl, rfl, trivial⟩ (List.Sublist.refl _) ⟨rfl, i + 1, M, by omega, hM, hMv, hMi, rfl, rfl⟩
 obtain ⟨k, rfl⟩ : ∃ k, j = k + 1 := ⟨j - 1, by omega⟩
 have c1 : ∀ {R' : List Chunk} {L : List Int}, k + 1 < L.length → CellAt w0 (.own (.slice (some ⟨g, 0, none⟩) n cap) 2 1 n (i64s L) :: R') g (0 + (k + 1) * 1) (.int .i64 (rAt L (k + 1))) := fun h => cell_ownI h
 have c2 : ∀ {R' : List Chunk} {L : List Int}, k < L.length → CellAt w0 (.own (.slice (some ⟨g, 0, none⟩) n cap) 2 1 n (i64s L) :: R') g (0 + (((k + 1 : Nat) : Int) - 1).toNat * 1) (.int .i64 (rAt L k)) := fun {R' L} h => by
  rw [show (((k + 1 : Nat) : Int) - 1).toNat = k by omega]; exact cell_ownI h
 by_cases hc : rAt M (k + 1) < rAt M k
 ·have kl := fun w1 => less_any (rAt M (k + 1)) (rAt M k) w1
  rw [decide_eq_true hc] at kl
  (apply tr_v tk; (conv => whnf); (repeat ((first | ((first | apply VStop.mk | apply VCall.stop); refine tr_region_lex (id := 4) (by kernel_rfl) [.rd, .rd, .rd, .rd, .rd, .rd, .rd, .rd, .rd, .rd, .rd, .rd, .rd, .cr, .rd] rfl (by kernel_rfl) ?_; apply ot_v tk) | (apply VLd.mk; first | exact c1 (by omega) | exact c2 (by omega)) | (apply VCall.q; kernel_rfl; (focus (intro w1 hs; first | with_reducible apply kl w1))) | (apply VRng.mk; omega) | apply VBr.t | (apply v_t; omega) | (apply VIx.mk; exact rfl; omega) | (refine slist_and (by (repeat (first | exact sl0 _ | exact sl1 _ | refine sl2 _ ?_ | refine sl3 _ ?_))) ?_; first | refine otl_nil ?_ | (refine otl_cons ?_; apply ot_v tk) | skip) | (apply v_ixn; omega) | (apply VK.mk; first | (refine otl_cons ?_; apply ot_v tk) | apply ot_v tk)); (conv => whnf))); apply VStop.mk)
  (apply tr_v tk; (conv => whnf); (repeat ((first | (apply VStop.mk; refine tr_region_late2 (id := 6) (by kernel_rfl) [] (by (repeat (first | exact sl0 _ | exact sl1 _ | refine sl2 _ ?_ | refine sl3 _ ?_))) [2, 3, 4] [0, 1, 5, 6, 7, 8, 9, 10, 11, 12, 13, 14] 15 [16, 17] [.rd, .rd, .rd] [.rd, .rd, .rd, .rd, .rd, .rd, .rd, .rd, .rd, .rd, .rd, .rd] [.wr, .wr, .wr] rfl (by kernel_rfl) ?_; apply ot_v tk) | (apply VLd.mk; first | exact c1 (by omega) | exact c2 (by omega)) | (apply VSt.stop; refine ot_store_own (sv := .nilFunc) tk rfl rfl rfl rfl rfl rfl rfl rfl rfl rfl .here (by omega) ?_; apply ot_v tk) | (apply VRng.mk; omega) | (apply VIx.mk; exact rfl; omega) | (refine slist_and (by (repeat (first | exact sl0 _ | exact sl1 _ | refine sl2 _ ?_ | refine sl3 _ ?_))) ?_; first | refine otl_nil ?_ | (refine otl_cons ?_; apply ot_v tk) | skip) | (apply v_ixn; omega) | (apply VK.mk; first | (refine otl_cons ?_; apply ot_v tk) | apply ot_v tk)); (conv => whnf))))
  rw [Nat.zero_add, Nat.mul_one, i64s_set, Nat.zero_add, Nat.mul_one, i64s_set, show (((k + 1 : Nat) : Int) - 1).toNat = k by omega]
  have hb1 := hMv.at_ (k := k) (by omega)
  have hb2 := hMv.at_ (k := k + 1) (by omega)
  exact v_rnd k (by omega) (l := [(0, _), (1, _), (2, _), (6, _), (7, _)]) (B := _) ⟨rfl, rfl, rfl, rfl, rfl, trivial⟩ (List.Sublist.refl _) ⟨rfl, k, (M.set (k + 1) (rAt M k)).set k (rAt M (k + 1)), rfl, by omega, by rw [List.length_set, List.length_set]; exact hM, (hMv.set hb1).set hb2, fun hI => by
   exfalso
   have e := hMi hI
   subst e
   have := hI k (by omega)
   omega, rfl, by rw [show (((k + 1 : Nat) : Int) - 1) = (k : Int) by omega]⟩
 ·have kl := fun w1 => less_any (rAt M (k + 1)) (rAt M k) w1
  rw [decide_eq_false hc] at kl
  (apply tr_v tk; (conv => whnf); (repeat ((first | ((first | apply VStop.mk | apply VCall.stop); refine tr_region_lex (id := 4) (by kernel_rfl) [.rd, .rd, .rd, .rd, .rd, .rd, .rd, .rd, .rd, .rd, .rd, .rd, .rd, .cr, .rd] rfl (by kernel_rfl) ?_; apply ot_v tk) | (apply VLd.mk; first | exact c1 (by omega) | exact c2 (by omega)) | (apply VCall.q; kernel_rfl; (focus (intro w1 hs; first | with_reducible apply kl w1))) | (apply VRng.mk; omega) | apply VBr.t | apply VBr.f | (apply v_t; omega) | (apply VIx.mk; exact rfl; omega) | (refine slist_and (by (repeat (first | exact sl0 _ | exact sl1 _ | refine sl2 _ ?_ | refine sl3 _ ?_))) ?_; first | refine otl_nil ?_ | (refine otl_cons ?_; apply ot_v tk) | skip) | (apply v_ixn; omega) | (apply VK.mk; first | (refine otl_cons ?_; apply ot_v tk) | apply ot_v tk)); (conv => whnf))))
  exact v_rnd (gm - 1) (by omega) (l := [(0, _), (1, _), (2, _), (6, _)]) (B := _) ⟨rfl, rfl, rfl, rfl, trivial⟩ (List.Sublist.refl _) ⟨rfl, i + 1, M, by omega, hM, hMv, hMi, rfl, rfl⟩
set_option maxHeartbeats 2000000 in
set_option maxRecDepth 20000 in
theorem pdq_any {w0 w : World} {R : List Chunk} (g cap n : Nat) (lim : Int) (l : List Int) (hn : l.length = n) (hl : n ≤ 12) (hv : InV l) (hs : St w0 (.own (.slice (some ⟨g, 0, none⟩) n cap) 2 1 n (i64s l) :: R) w) :
  Calls Tryz.prog 270 #[.slice (some ⟨g, 0, none⟩) n cap, .int .i64 0, .int .i64 (n : Int), .int .i64 lim] w fun e w' => ∃ l' : List Int, e = .returned (.tuple #[]) ∧ (l'.length = n ∧ InV l' ∧ (Inc l → l' = l)) ∧ St w0 (.own (.slice (some ⟨g, 0, none⟩) n cap) 2 1 n (i64s l') :: R) w' := by
 refine fn_v tk (n := 134) (A := _) Tryz.func270 rfl rfl (Nat.le_of_ble_eq_true rfl) hs ?_
 ((conv => whnf); apply VStop.mk)
 refine v_loop (fun gm ds ts A => ds = [] ∧ A = .own (.slice (some ⟨g, 0, none⟩) n cap) 2 1 n (i64s l) :: R ∧ ts = [(0, .slice (some ⟨g, 0, none⟩) n cap), (1, .int .i64 0), (2, .int .i64 (n : Int)), (3, .int .i64 lim)]) 0
  (l := [(0, _), (1, _), (2, _), (3, _)]) (B := _) ?_ (List.Sublist.refl _) ⟨rfl, rfl, rfl⟩ ?_
 ·exact ⟨rfl, rfl, rfl, rfl, trivial⟩
 rintro gm ds ts A ⟨rfl, rfl, rfl⟩
 (apply tr_v tk; (conv => whnf); (repeat ((first | (apply VRng.mk; omega) | apply VBr.t | (apply v_t; omega)); (conv => whnf))); apply VCall.stop)
 refine ot_callW (us := []) (vs := []) (fun _ : List Int => .tuple #[]) (fun l' => .own (.slice (some ⟨g, 0, none⟩) n cap) 2 1 n (i64s l') :: R) (fun l' : List Int => l'.length = n ∧ InV l' ∧ (Inc l → l' = l)) rfl rfl rfl rfl rfl (by kernel_rfl) (evl_of rfl) rfl (fun w1 hs => insort_any g cap n l hn hl hv hs) (fun l' hl' => ?_)
 (apply ot_v tk; (conv => whnf))
 (apply VRet.mk)
 exact ret0 (by first | exact .inl rfl | exact .inr rfl) rfl fun w hs => ⟨l', rfl, hl', hs⟩
set_option maxHeartbeats 2000000 in
set_option maxRecDepth 20000 in
theorem sort_any {w0 w : World} {R : List Chunk} (g cap n : Nat) (l : List Int) (hn : l.length = n) (hl : n ≤ 12) (hv : InV l) (hs : St w0 (.own (.slice (some ⟨g, 0, none⟩) n cap) 2 1 n (i64s l) :: R) w) :
  Calls Tryz.prog 245 #[.slice (some ⟨g, 0, none⟩) n cap] w fun e w' => ∃ l' : List Int, e = .returned (.tuple #[]) ∧ (l'.length = n ∧ InV l' ∧ (Inc l → l' = l)) ∧ St w0 (.own (.slice (some ⟨g, 0, none⟩) n cap) 2 1 n (i64s l') :: R) w' := by
 have ku : IntKind.u64.wrap (n : Int) = (n : Int) := by unfold IntKind.wrap; simp [IntKind.bits]; omega
 refine fn_v tk (n := 11) (A := _) Tryz.func245 rfl rfl (Nat.le_of_ble_eq_true rfl) hs ?_
 ((conv => whnf); (repeat ((apply VWr.mk; assumption); (conv => whnf))); apply VCall.stop)
 refine ot_callQ (us := []) (vs := []) (fun x : Int => .int .i64 x) (fun _ => True) (by decide) rfl rfl rfl rfl (by kernel_rfl) (evl_of rfl) rfl (fun w1 hs => len_any n hl w1) (fun lim _ => ?_)
 (apply ot_v tk; (conv => whnf); apply VCall.stop)
 refine ot_callW (us := []) (vs := []) (fun _ : List Int => .tuple #[]) (fun l' => .own (.slice (some ⟨g, 0, none⟩) n cap) 2 1 n (i64s l') :: R) (fun l' : List Int => l'.length = n ∧ InV l' ∧ (Inc l → l' = l)) rfl rfl rfl rfl rfl (by kernel_rfl) (evl_of rfl) rfl (fun w1 hs => pdq_any g cap n lim l hn hl hv hs) (fun l' hl' => ?_)
 (apply ot_v tk; (conv => whnf))
 (apply VRet.mk)
 exact ret0 (by first | exact .inl rfl | exact .inr rfl) rfl fun w hs => ⟨l', rfl, hl', hs⟩
end Go.Proofs.YtiodmphhjgkgjaaGreat
