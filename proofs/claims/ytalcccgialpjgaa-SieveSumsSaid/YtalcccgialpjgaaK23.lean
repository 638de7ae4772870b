/- Row and More of the definition: lemmas for the rows of this seat. No conditions. -/
import Derived.Test.YtalcccgialpjgaaN23
set_option linter.all false
namespace Go.Proofs.Ytalcccgialpjgaa
open Go.RowKit
/-! ## Row and More of the definition -/
section
variable (RA : Option Addr) (rc : Nat) (CA : Option Addr) (cc : Nat) (XA : Option Addr) (xc : Nat) (R C : List R2) (X : List (List R2)) (w : World) (hT : TabR w RA CA XA R C X)
include hT
set_option maxHeartbeats 1000000 in
set_option maxRecDepth 20000 in
theorem refRow_any (hF : FitT R C X) (i : Int) : Calls Try.prog 33 #[tabV RA rc CA cc XA xc R C X, .int .i64 i] w fun e w' => e = .returned (resV (rowA R C X i)) ∧ Below w.heap.size w w' := by
  have hct := fun w1 (h : TabR w1 RA CA XA R C X) => refTable_any RA rc CA cc XA xc R C X w1 h hF
  have her := fun w1 (h : TabR w1 RA CA XA R C X) => error_any RA rc CA cc XA xc R C X w1 h hF
  have hco := fun w1 (h : TabR w1 RA CA XA R C X) => rowOf_any RA rc CA cc XA xc R C X w1 h
  unfold tabV at *
  by_cases hz : chkTab R C X = 0
  rotate_left
  · have hq : rowA R C X i = ((0, 0), chkTab R C X) := by unfold rowA; rw [if_pos hz]
    rw [hq]
    generalize chkTab R C X = z at *
    refine fn_v tk (n := 31) (A := []) Try.func33 rfl rfl (Nat.le_of_ble_eq_true rfl) (St.nil (Below.refl _ _)) ?_
    ((try first | apply tr_v tk | apply ot_v tk); (conv => whnf); (repeat ((first | (apply VCall.q; kernel_rfl; (focus (intro w1 hs; first | with_reducible apply hct w1 (hs.tab hT)))) | (apply VLdN.mk; (focus ((repeat (first | (with_reducible apply ldn_blk) | (with_reducible apply ldn_skip))); done)); exact rfl) | apply VBr.t | (apply v_t; omega) | (apply VNew.mk; intro g hg) | (apply VSt.mk; (focus ((repeat (first | (with_reducible exact At.here) | (with_reducible apply At.there))); done)); exact rfl)); (conv => whnf))); try (first | apply VStop.mk | apply VCall.stop))
    (apply VRet.mk)
    refine ret2 (by first | exact .inl rfl | exact .inr rfl) rfl (by exact rv_row tk rfl rfl rfl (by first | exact cells_blk_all (by (repeat (first | exact List.Mem.head _ | assumption | refine List.Mem.tail _ ?_))) | exact cells_row0 (by (repeat (first | exact List.Mem.head _ | assumption | refine List.Mem.tail _ ?_)))) rfl) (by exact rv_tmp rfl) ?_
    exact fun w h => ⟨rfl, h.base⟩
  have hV := chk_valid hz
  rw [hz] at hct
  have hn4 := hV.r4
  by_cases hI : 0 ≤ i ∧ i < R.length
  rotate_left
  · have hq : rowA R C X i = ((0, 0), 2) := by unfold rowA; rw [if_neg (by rw [hz]; simp), if_pos hI]
    rw [hq]
    refine fn_v tk (n := 31) (A := []) Try.func33 rfl rfl (Nat.le_of_ble_eq_true rfl) (St.nil (Below.refl _ _)) ?_
    by_cases h1 : i < 0
    · ((try first | apply tr_v tk | apply ot_v tk); (conv => whnf); (repeat ((first | (apply VCall.q; kernel_rfl; (focus (intro w1 hs; first | with_reducible apply hct w1 (hs.tab hT)))) | (apply VLdN.mk; (focus ((repeat (first | (with_reducible apply ldn_blk) | (with_reducible apply ldn_skip))); done)); exact rfl) | apply VBr.t | apply VBr.f | (apply v_t; omega) | (apply v_f; omega) | (apply VNew.mk; intro g hg) | (apply VSt.mk; (focus ((repeat (first | (with_reducible exact At.here) | (with_reducible apply At.there))); done)); exact rfl)); (conv => whnf))); try (first | apply VStop.mk | apply VCall.stop))
      (apply VRet.mk)
      refine ret2 (by first | exact .inl rfl | exact .inr rfl) rfl (by exact rv_row tk rfl rfl rfl (by first | exact cells_blk_all (by (repeat (first | exact List.Mem.head _ | assumption | refine List.Mem.tail _ ?_))) | exact cells_row0 (by (repeat (first | exact List.Mem.head _ | assumption | refine List.Mem.tail _ ?_)))) rfl) (by exact rv_tmp rfl) ?_
      exact fun w h => ⟨rfl, h.base⟩
    ((try first | apply tr_v tk | apply ot_v tk); (conv => whnf); (repeat ((first | (apply VCall.q; kernel_rfl; (focus (intro w1 hs; first | with_reducible apply hct w1 (hs.tab hT)))) | (apply VLd.mk; (focus ((repeat (first | ((with_reducible apply ld_blk); exact rfl) | (with_reducible apply ld_skip))); done))) | (apply VLdN.mk; (focus ((repeat (first | (with_reducible apply ldn_blk) | (with_reducible apply ldn_skip))); done)); exact rfl) | apply VBr.t | apply VBr.f | (apply v_t; omega) | (apply v_f; omega) | (apply VNew.mk; intro g hg) | (apply VSt.mk; (focus ((repeat (first | (with_reducible exact At.here) | (with_reducible apply At.there))); done)); exact rfl)); (conv => whnf))); try (first | apply VStop.mk | apply VCall.stop))
    (apply VRet.mk)
    refine ret2 (by first | exact .inl rfl | exact .inr rfl) rfl (by exact rv_row tk rfl rfl rfl (by first | exact cells_blk_all (by (repeat (first | exact List.Mem.head _ | assumption | refine List.Mem.tail _ ?_))) | exact cells_row0 (by (repeat (first | exact List.Mem.head _ | assumption | refine List.Mem.tail _ ?_)))) rfl) (by exact rv_tmp rfl) ?_
    exact fun w h => ⟨rfl, h.base⟩
  by_cases hH : HasT R C X
  rotate_left
  · have hq : rowA R C X i = ((0, 0), 20) := by unfold rowA; rw [if_neg (by rw [hz]; simp), if_neg (fun h => h hI), errT_no hV hH, if_pos (by decide)]
    rw [hq]
    rw [errT_no hV hH] at her
    refine fn_v tk (n := 31) (A := []) Try.func33 rfl rfl (Nat.le_of_ble_eq_true rfl) (St.nil (Below.refl _ _)) ?_
    ((try first | apply tr_v tk | apply ot_v tk); (conv => whnf); (repeat ((first | (apply VCall.q; kernel_rfl; (focus (intro w1 hs; first | with_reducible apply hct w1 (hs.tab hT) | with_reducible apply her w1 (hs.tab hT)))) | (apply VLd.mk; (focus ((repeat (first | ((with_reducible apply ld_blk); exact rfl) | (with_reducible apply ld_skip))); done))) | (apply VLdN.mk; (focus ((repeat (first | (with_reducible apply ldn_blk) | (with_reducible apply ldn_skip))); done)); exact rfl) | apply VBr.t | apply VBr.f | (apply v_t; omega) | (apply v_f; omega) | (apply VNew.mk; intro g hg) | (apply VSt.mk; (focus ((repeat (first | (with_reducible exact At.here) | (with_reducible apply At.there))); done)); exact rfl)); (conv => whnf))); try (first | apply VStop.mk | apply VCall.stop))
    (apply VRet.mk)
    refine ret2 (by first | exact .inl rfl | exact .inr rfl) rfl (by exact rv_row tk rfl rfl rfl (by first | exact cells_blk_all (by (repeat (first | exact List.Mem.head _ | assumption | refine List.Mem.tail _ ?_))) | exact cells_row0 (by (repeat (first | exact List.Mem.head _ | assumption | refine List.Mem.tail _ ?_)))) rfl) (by exact rv_tmp rfl) ?_
    exact fun w h => ⟨rfl, h.base⟩
  obtain ⟨i, rfl⟩ : ∃ j : Nat, i = j := ⟨i.toNat, by omega⟩
  have hq : rowA R C X i = (rowR R C X i, 0) := by unfold rowA; rw [if_neg (by rw [hz]; simp), if_neg (fun h => h hI), errT_ok hV hH, if_neg (by decide)]; rfl
  rw [hq]
  rw [errT_ok hV hH] at her
  have h83 := fun w1 h => hco w1 h hV hH i (by omega)
  generalize rowR R C X i = r at *
  refine fn_v tk (n := 31) (A := []) Try.func33 rfl rfl (Nat.le_of_ble_eq_true rfl) (St.nil (Below.refl _ _)) ?_
  ((try first | apply tr_v tk | apply ot_v tk); (conv => whnf); (repeat ((first | (apply VCall.q; kernel_rfl; (focus (intro w1 hs; first | with_reducible apply hct w1 (hs.tab hT) | with_reducible apply her w1 (hs.tab hT) | with_reducible apply h83 w1 (hs.tab hT)))) | (apply VLd.mk; (focus ((repeat (first | ((with_reducible apply ld_blk); exact rfl) | (with_reducible apply ld_skip))); done))) | (apply VLdN.mk; (focus ((repeat (first | (with_reducible apply ldn_blk) | (with_reducible apply ldn_skip))); done)); exact rfl) | apply VBr.f | (apply v_f; omega) | (apply VNew.mk; intro g hg) | (apply VSt.mk; (focus ((repeat (first | (with_reducible exact At.here) | (with_reducible apply At.there))); done)); exact rfl)); (conv => whnf))); try (first | apply VStop.mk | apply VCall.stop))
  (apply VRet.mk)
  refine ret2 (by first | exact .inl rfl | exact .inr rfl) rfl (by exact rv_row tk rfl rfl rfl (by first | exact cells_blk_all (by (repeat (first | exact List.Mem.head _ | assumption | refine List.Mem.tail _ ?_))) | exact cells_row0 (by (repeat (first | exact List.Mem.head _ | assumption | refine List.Mem.tail _ ?_)))) rfl) (by exact rv_tmp rfl) ?_
  exact fun w h => ⟨rfl, h.base⟩
set_option maxRecDepth 20000 in
theorem refMore_err (hF : FitT R C X) (many : Int) (hE : errT R C X ≠ 0) : Calls Try.prog 37 #[tabV RA rc CA cc XA xc R C X, .int .i64 many] w fun e w' => e = .returned (.tuple #[.slice none 0 0, .int .i64 (errT R C X)]) ∧ Below w.heap.size w w' := by
  have her := fun w1 (h : TabR w1 RA CA XA R C X) => error_any RA rc CA cc XA xc R C X w1 h hF
  unfold tabV at *
  generalize errT R C X = z at *
  refine fn_v tk (n := 42) (A := []) Try.func37 rfl rfl (Nat.le_of_ble_eq_true rfl) (St.nil (Below.refl _ _)) ?_
  ((try first | apply tr_v tk | apply ot_v tk); (conv => whnf); (repeat ((first | (apply VCall.q; kernel_rfl; (focus (intro w1 hs; first | with_reducible apply her w1 (hs.tab hT)))) | (apply VLdN.mk; (focus ((repeat (first | (with_reducible apply ldn_blk) | (with_reducible apply ldn_skip))); done)); exact rfl) | apply VBr.t | (apply v_t; omega) | (apply VNew.mk; intro g hg)); (conv => whnf))); try (first | apply VStop.mk | apply VCall.stop))
  (apply VRet.mk)
  refine ret2 (by first | exact .inl rfl | exact .inr rfl) rfl (by exact rv_tmp rfl) (by exact rv_tmp rfl) ?_
  exact fun w h => ⟨rfl, h.base⟩
set_option maxHeartbeats 2000000 in
set_option maxRecDepth 20000 in
theorem refMore_ok (hV : Valid R C X) (hH : HasT R C X) (many : Int) : Calls Try.prog 37 #[tabV RA rc CA cc XA xc R C X, .int .i64 many] w fun e w' => ∃ x : SlX, e = .returned (.tuple #[.slice x.B R.length x.c, .int .i64 0]) ∧ True ∧ St w [.own (.slice x.B R.length x.c) 3 1 R.length (i64s (moreL R C X many R.length))] w' := by
  have her := fun w1 (h : TabR w1 RA CA XA R C X) => error_any RA rc CA cc XA xc R C X w1 h hV.fit
  rw [errT_ok hV hH] at her
  have hro := fun w1 (h : TabR w1 RA CA XA R C X) => rowOf_any RA rc CA cc XA xc R C X w1 h hV hH
  unfold tabV at *
  have hn := hV.r1
  have hn4 := hV.r4
  refine fn_v tk (n := 42) (A := []) Try.func37 rfl rfl (Nat.le_of_ble_eq_true rfl) (St.nil (Below.refl _ _)) ?_
  ((try first | apply tr_v tk | apply ot_v tk); (conv => whnf); (repeat ((first | (apply VCall.q; kernel_rfl; (focus (intro w1 hs; first | with_reducible apply her w1 (hs.tab hT)))) | (apply VLdN.mk; (focus ((repeat (first | (with_reducible apply ldn_blk) | (with_reducible apply ldn_skip))); done)); exact rfl) | apply VBr.f | (apply v_f; omega) | (apply VNew.mk; intro g hg)); (conv => whnf))); try (first | apply VStop.mk | apply VCall.stop))
  revert g hg
  intro gt hgt
  refine tr_own_nil 3 1 ?_
  refine v_loop (fun gm ds ts A => ds = [] ∧ ∃ k B1 c1, k + gm = R.length ∧ A = .own (.slice B1 k c1) 3 1 k (i64s (moreL R C X many k)) :: [.blk gt 25 [.slice RA R.length rc, .slice CA C.length cc, .slice XA X.length xc]] ∧ ts = [(1, .int .i64 many), (2, .pointer (some ⟨gt, 0, none⟩)), (6, .slice B1 k c1), (7, .int .i64 (k : Int))]) R.length
      (l := [(1, _), (2, _), (6, _), (7, _)]) (B := _) ?_ (List.Sublist.refl _) ⟨rfl, 0, none, 0, by omega, rfl, rfl⟩ ?_
  · exact ⟨rfl, rfl, rfl, rfl, trivial⟩
  rintro gm ds ts A ⟨rfl, k, B1, c1, hk, rfl, rfl⟩
  by_cases hlt : k < R.length
  · have hst := moreL_step R C X many k
    have hll := moreL_len R C X many k
    have hr := fun w1 h => hro w1 h k hlt
    generalize moreL R C X many k = ml at *
    unfold moreI at hst
    generalize rowR R C X k = r at *
    obtain ⟨lo, hi⟩ := r
    dsimp only at hst hr
    by_cases e1 : many < lo
    · rw [if_pos e1] at hst
      have e9 : i64s ml ++ [.int .i64 2] = i64s (ml ++ [2]) := by simp [i64s]
      ((try first | apply tr_v tk | apply ot_v tk); (conv => whnf); (repeat ((first | ((first | apply VStop.mk | apply VCall.stop); (first | (refine ot_appendS (sz := 1) (sl := k) (xs := i64s ml) (news := [.int .i64 2]) (A'v := fun v' => _ :: _ :: .own v' 3 1 (k + 1) _ :: _) tk rfl rfl rfl rfl rfl rfl rfl rfl rfl rfl (by decide) rfl (cells_blk_all (.head _)) rfl rfl (fun v' => .there (.there .here)) (by omega) (by decide) (fun Bn cn => ?_))); try first | apply ot_v tk | apply tr_v tk) | (apply VCall.q; kernel_rfl; (focus (intro w1 hs; first | with_reducible apply hr w1 (hs.tab hT)))) | (apply VLd.mk; (focus ((repeat (first | ((with_reducible apply ld_blk); exact rfl) | (with_reducible apply ld_skip))); done))) | (apply VLdN.mk; (focus ((repeat (first | (with_reducible apply ldn_blk) | (with_reducible apply ldn_skip))); done)); exact rfl) | (apply VRng.mk; omega) | apply VBr.t | (apply v_t; omega) | (apply VNew.mk; intro g hg) | (apply VSt.mk; (focus ((repeat (first | (with_reducible exact At.here) | (with_reducible apply At.there))); done)); exact rfl)); (conv => whnf))); try (first | apply VStop.mk | apply VCall.stop))
      rw [e9, ← hst]
      exact v_rnd (gm - 1) (by omega) (l := [(1, _), (2, _), (6, _), (7, _)]) (B := _) ⟨rfl, rfl, rfl, rfl, trivial⟩ (.cons _ (.cons _ (List.Sublist.refl _))) ⟨rfl, k + 1, Bn, cn, by omega, rfl, rfl⟩
    rw [if_neg e1] at hst
    by_cases e2 : many < hi
    · rw [if_pos e2] at hst
      have e9 : i64s ml ++ [.int .i64 1] = i64s (ml ++ [1]) := by simp [i64s]
      ((try first | apply tr_v tk | apply ot_v tk); (conv => whnf); (repeat ((first | ((first | apply VStop.mk | apply VCall.stop); (first | (refine ot_appendS (sz := 1) (sl := k) (xs := i64s ml) (news := [.int .i64 1]) (A'v := fun v' => _ :: _ :: .own v' 3 1 (k + 1) _ :: _) tk rfl rfl rfl rfl rfl rfl rfl rfl rfl rfl (by decide) rfl (cells_blk_all (.head _)) rfl rfl (fun v' => .there (.there .here)) (by omega) (by decide) (fun Bn cn => ?_))); try first | apply ot_v tk | apply tr_v tk) | (apply VCall.q; kernel_rfl; (focus (intro w1 hs; first | with_reducible apply hr w1 (hs.tab hT)))) | (apply VLd.mk; (focus ((repeat (first | ((with_reducible apply ld_blk); exact rfl) | (with_reducible apply ld_skip))); done))) | (apply VLdN.mk; (focus ((repeat (first | (with_reducible apply ldn_blk) | (with_reducible apply ldn_skip))); done)); exact rfl) | (apply VRng.mk; omega) | apply VBr.t | apply VBr.f | (apply v_t; omega) | (apply v_f; omega) | (apply VNew.mk; intro g hg) | (apply VSt.mk; (focus ((repeat (first | (with_reducible exact At.here) | (with_reducible apply At.there))); done)); exact rfl)); (conv => whnf))); try (first | apply VStop.mk | apply VCall.stop))
      rw [e9, ← hst]
      exact v_rnd (gm - 1) (by omega) (l := [(1, _), (2, _), (6, _), (7, _)]) (B := _) ⟨rfl, rfl, rfl, rfl, trivial⟩ (.cons _ (.cons _ (List.Sublist.refl _))) ⟨rfl, k + 1, Bn, cn, by omega, rfl, rfl⟩
    rw [if_neg e2] at hst
    have e9 : i64s ml ++ [.int .i64 0] = i64s (ml ++ [0]) := by simp [i64s]
    ((try first | apply tr_v tk | apply ot_v tk); (conv => whnf); (repeat ((first | ((first | apply VStop.mk | apply VCall.stop); (first | (refine ot_appendS (sz := 1) (sl := k) (xs := i64s ml) (news := [.int .i64 0]) (A'v := fun v' => _ :: _ :: .own v' 3 1 (k + 1) _ :: _) tk rfl rfl rfl rfl rfl rfl rfl rfl rfl rfl (by decide) rfl (cells_blk_all (.head _)) rfl rfl (fun v' => .there (.there .here)) (by omega) (by decide) (fun Bn cn => ?_))); try first | apply ot_v tk | apply tr_v tk) | (apply VCall.q; kernel_rfl; (focus (intro w1 hs; first | with_reducible apply hr w1 (hs.tab hT)))) | (apply VLd.mk; (focus ((repeat (first | ((with_reducible apply ld_blk); exact rfl) | (with_reducible apply ld_skip))); done))) | (apply VLdN.mk; (focus ((repeat (first | (with_reducible apply ldn_blk) | (with_reducible apply ldn_skip))); done)); exact rfl) | (apply VRng.mk; omega) | apply VBr.t | apply VBr.f | (apply v_t; omega) | (apply v_f; omega) | (apply VNew.mk; intro g hg) | (apply VSt.mk; (focus ((repeat (first | (with_reducible exact At.here) | (with_reducible apply At.there))); done)); exact rfl)); (conv => whnf))); try (first | apply VStop.mk | apply VCall.stop))
    rw [e9, ← hst]
    exact v_rnd (gm - 1) (by omega) (l := [(1, _), (2, _), (6, _), (7, _)]) (B := _) ⟨rfl, rfl, rfl, rfl, trivial⟩ (.cons _ (.cons _ (List.Sublist.refl _))) ⟨rfl, k + 1, Bn, cn, by omega, rfl, rfl⟩
  obtain rfl : k = R.length := by omega
  ((try first | apply tr_v tk | apply ot_v tk); (conv => whnf); (repeat ((first | (apply VLd.mk; (focus ((repeat (first | ((with_reducible apply ld_blk); exact rfl) | (with_reducible apply ld_skip))); done))) | apply VBr.f | (apply v_f; omega)); (conv => whnf))); try (first | apply VStop.mk | apply VCall.stop))
  (apply VRet.mk)
  refine ret2 (by first | exact .inl rfl | exact .inr rfl) rfl (by exact rv_tmp rfl) (by exact rv_tmp rfl) ?_
  exact fun w hs => ⟨⟨B1, c1⟩, rfl, trivial, Pick.st (by ((try dsimp only); repeat (first | exact Pick.nil | ((apply Pick.cons); (focus (repeat (first | exact Rem.here | apply Rem.there)); done))))) hs⟩
end
end Go.Proofs.Ytalcccgialpjgaa
