/- Cell, Row, More of the definition: lemmas for the rows of this seat. No conditions. -/
import Derived.Test.YtalcccgialpjgaaM22
set_option linter.all false
namespace Go.Proofs.Ytalcccgialpjgaa
open Go.RowKit
/-! ## Cell, Row, More of the definition -/
section
variable (RA : Option Addr) (rc : Nat) (CA : Option Addr) (cc : Nat) (XA : Option Addr) (xc : Nat) (R C : List R2) (X : List (List R2)) (w : World) (hT : TabR w RA CA XA R C X)
include hT
set_option maxHeartbeats 1000000 in
set_option maxRecDepth 20000 in
theorem refCell_any (hF : FitT R C X) (i k : Int) : Calls Try.prog 26 #[tabV RA rc CA cc XA xc R C X, .int .i64 i, .int .i64 k] w fun e w' => e = .returned (resV (cellA R C X i k)) ∧ Below w.heap.size w w' := by
 have hct := fun w1 (h : TabR w1 RA CA XA R C X) => refTable_any RA rc CA cc XA xc R C X w1 h hF
 have her := fun w1 (h : TabR w1 RA CA XA R C X) => error_any RA rc CA cc XA xc R C X w1 h hF
 have hco := fun w1 (h : TabR w1 RA CA XA R C X) => cellOf_any RA rc CA cc XA xc R C X w1 h
 unfold tabV at *
 by_cases hz : chkTab R C X = 0
 rotate_left
 ·have hq : cellA R C X i k = ((0, 0), chkTab R C X) := by unfold cellA; rw [if_pos hz]
  rw [hq]
  generalize chkTab R C X = z at *
  refine fn_v tk (n := 45) (A := []) Try.func26 rfl rfl (Nat.le_of_ble_eq_true rfl) (St.nil (Below.refl _ _)) ?_
  ((try first | apply tr_v tk | apply ot_v tk); (conv => whnf); (repeat ((first | (apply VCall.q; kernel_rfl; (focus (intro w1 hs; first | with_reducible apply hct w1 (hs.tab hT)))) | (apply VLdN.mk; (focus ((repeat (first | (with_reducible apply ldn_blk) | (with_reducible apply ldn_skip))); done)); exact rfl) | apply VBr.t | (apply v_t; omega) | (apply VNew.mk; intro g hg) | (apply VSt.mk; (focus ((repeat (first | (with_reducible exact At.here) | (with_reducible apply At.there))); done)); exact rfl)); (conv => whnf))); try (first | apply VStop.mk | apply VCall.stop))
  (apply VRet.mk)
  refine ret2 (by first | exact .inl rfl | exact .inr rfl) rfl (by exact rv_row tk rfl rfl rfl (by first | exact cells_blk_all (by (repeat (first | exact List.Mem.head _ | assumption | refine List.Mem.tail _ ?_))) | exact cells_row0 (by (repeat (first | exact List.Mem.head _ | assumption | refine List.Mem.tail _ ?_)))) rfl) (by exact rv_tmp rfl) ?_
  exact fun w h => ⟨rfl, h.base⟩
 have hV := chk_valid hz
 rw [hz] at hct
 have hn4 := hV.r4
 have hm4 := hV.c4
 by_cases hI : 0 ≤ i ∧ i < R.length ∧ 0 ≤ k ∧ k < C.length
 rotate_left
 ·have hq : cellA R C X i k = ((0, 0), 2) := by unfold cellA; rw [if_neg (by rw [hz]; simp), if_pos hI]
  rw [hq]
  refine fn_v tk (n := 45) (A := []) Try.func26 rfl rfl (Nat.le_of_ble_eq_true rfl) (St.nil (Below.refl _ _)) ?_
  by_cases h1 : i < 0
  ·((try first | apply tr_v tk | apply ot_v tk); (conv => whnf); (repeat ((first | (apply VCall.q; kernel_rfl; (focus (intro w1 hs; first | with_reducible apply hct w1 (hs.tab hT)))) | (apply VLdN.mk; (focus ((repeat (first | (with_reducible apply ldn_blk) | (with_reducible apply ldn_skip))); done)); exact rfl) | apply VBr.t | apply VBr.f | (apply v_t; omega) | (apply v_f; omega) | (apply VNew.mk; intro g hg) | (apply VSt.mk; (focus ((repeat (first | (with_reducible exact At.here) | (with_reducible apply At.there))); done)); exact rfl)); (conv => whnf))); try (first | apply VStop.mk | apply VCall.stop))
   (apply VRet.mk)
   refine ret2 (by first | exact .inl rfl | exact .inr rfl) rfl (by exact rv_row tk rfl rfl rfl (by first | exact cells_blk_all (by (repeat (first | exact List.Mem.head _ | assumption | refine List.Mem.tail _ ?_))) | exact cells_row0 (by (repeat (first | exact List.Mem.head _ | assumption | refine List.Mem.tail _ ?_)))) rfl) (by exact rv_tmp rfl) ?_
   exact fun w h => ⟨rfl, h.base⟩
  by_cases h2 : i < R.length
  rotate_left
  ·((try first | apply tr_v tk | apply ot_v tk); (conv => whnf); (repeat ((first | (apply VCall.q; kernel_rfl; (focus (intro w1 hs; first | with_reducible apply hct w1 (hs.tab hT)))) | (apply VLd.mk; (focus ((repeat (first | ((with_reducible apply ld_blk); exact rfl) | (with_reducible apply ld_skip))); done))) | (apply VLdN.mk; (focus ((repeat (first | (with_reducible apply ldn_blk) | (with_reducible apply ldn_skip))); done)); exact rfl) | apply VBr.t | apply VBr.f | (apply v_t; omega) | (apply v_f; omega) | (apply VNew.mk; intro g hg) | (apply VSt.mk; (focus ((repeat (first | (with_reducible exact At.here) | (with_reducible apply At.there))); done)); exact rfl)); (conv => whnf))); try (first | apply VStop.mk | apply VCall.stop))
   (apply VRet.mk)
   refine ret2 (by first | exact .inl rfl | exact .inr rfl) rfl (by exact rv_row tk rfl rfl rfl (by first | exact cells_blk_all (by (repeat (first | exact List.Mem.head _ | assumption | refine List.Mem.tail _ ?_))) | exact cells_row0 (by (repeat (first | exact List.Mem.head _ | assumption | refine List.Mem.tail _ ?_)))) rfl) (by exact rv_tmp rfl) ?_
   exact fun w h => ⟨rfl, h.base⟩
  by_cases h3 : k < 0
  ·((try first | apply tr_v tk | apply ot_v tk); (conv => whnf); (repeat ((first | (apply VCall.q; kernel_rfl; (focus (intro w1 hs; first | with_reducible apply hct w1 (hs.tab hT)))) | (apply VLd.mk; (focus ((repeat (first | ((with_reducible apply ld_blk); exact rfl) | (with_reducible apply ld_skip))); done))) | (apply VLdN.mk; (focus ((repeat (first | (with_reducible apply ldn_blk) | (with_reducible apply ldn_skip))); done)); exact rfl) | apply VBr.t | apply VBr.f | (apply v_t; omega) | (apply v_f; omega) | (apply VNew.mk; intro g hg) | (apply VSt.mk; (focus ((repeat (first | (with_reducible exact At.here) | (with_reducible apply At.there))); done)); exact rfl)); (conv => whnf))); try (first | apply VStop.mk | apply VCall.stop))
   (apply VRet.mk)
   refine ret2 (by first | exact .inl rfl | exact .inr rfl) rfl (by exact rv_row tk rfl rfl rfl (by first | exact cells_blk_all (by (repeat (first | exact List.Mem.head _ | assumption | refine List.Mem.tail _ ?_))) | exact cells_row0 (by (repeat (first | exact List.Mem.head _ | assumption | refine List.Mem.tail _ ?_)))) rfl) (by exact rv_tmp rfl) ?_
   exact fun w h => ⟨rfl, h.base⟩
  ((try first | apply tr_v tk | apply ot_v tk); (conv => whnf); (repeat ((first | (apply VCall.q; kernel_rfl; (focus (intro w1 hs; first | with_reducible apply hct w1 (hs.tab hT)))) | (apply VLd.mk; (focus ((repeat (first | ((with_reducible apply ld_blk); exact rfl) | (with_reducible apply ld_skip))); done))) | (apply VLdN.mk; (focus ((repeat (first | (with_reducible apply ldn_blk) | (with_reducible apply ldn_skip))); done)); exact rfl) | apply VBr.t | apply VBr.f | (apply v_t; omega) | (apply v_f; omega) | (apply VNew.mk; intro g hg) | (apply VSt.mk; (focus ((repeat (first | (with_reducible exact At.here) | (with_reducible apply At.there))); done)); exact rfl)); (conv => whnf))); try (first | apply VStop.mk | apply VCall.stop))
  (apply VRet.mk)
  refine ret2 (by first | exact .inl rfl | exact .inr rfl) rfl (by exact rv_row tk rfl rfl rfl (by first | exact cells_blk_all (by (repeat (first | exact List.Mem.head _ | assumption | refine List.Mem.tail _ ?_))) | exact cells_row0 (by (repeat (first | exact List.Mem.head _ | assumption | refine List.Mem.tail _ ?_)))) rfl) (by exact rv_tmp rfl) ?_
  exact fun w h => ⟨rfl, h.base⟩
 have hIK : ¬¬(0 ≤ i ∧ i < R.length ∧ 0 ≤ k ∧ k < C.length) := fun h => h hI
 by_cases hH : HasT R C X
 rotate_left
 ·have hq : cellA R C X i k = ((0, 0), 20) := by unfold cellA; rw [if_neg (by rw [hz]; simp), if_neg hIK, errT_no hV hH, if_pos (by decide)]
  rw [hq]
  rw [errT_no hV hH] at her
  refine fn_v tk (n := 45) (A := []) Try.func26 rfl rfl (Nat.le_of_ble_eq_true rfl) (St.nil (Below.refl _ _)) ?_
  ((try first | apply tr_v tk | apply ot_v tk); (conv => whnf); (repeat ((first | (apply VCall.q; kernel_rfl; (focus (intro w1 hs; first | with_reducible apply hct w1 (hs.tab hT) | with_reducible apply her w1 (hs.tab hT)))) | (apply VLd.mk; (focus ((repeat (first | ((with_reducible apply ld_blk); exact rfl) | (with_reducible apply ld_skip))); done))) | (apply VLdN.mk; (focus ((repeat (first | (with_reducible apply ldn_blk) | (with_reducible apply ldn_skip))); done)); exact rfl) | apply VBr.t | apply VBr.f | (apply v_t; omega) | (apply v_f; omega) | (apply VNew.mk; intro g hg) | (apply VSt.mk; (focus ((repeat (first | (with_reducible exact At.here) | (with_reducible apply At.there))); done)); exact rfl)); (conv => whnf))); try (first | apply VStop.mk | apply VCall.stop))
  (apply VRet.mk)
  refine ret2 (by first | exact .inl rfl | exact .inr rfl) rfl (by exact rv_row tk rfl rfl rfl (by first | exact cells_blk_all (by (repeat (first | exact List.Mem.head _ | assumption | refine List.Mem.tail _ ?_))) | exact cells_row0 (by (repeat (first | exact List.Mem.head _ | assumption | refine List.Mem.tail _ ?_)))) rfl) (by exact rv_tmp rfl) ?_
  exact fun w h => ⟨rfl, h.base⟩
 obtain ⟨i, rfl⟩ : ∃ j : Nat, i = j := ⟨i.toNat, by omega⟩
 obtain ⟨k, rfl⟩ : ∃ j : Nat, k = j := ⟨k.toNat, by omega⟩
 have hq : cellA R C X i k = (cellR R C X i k, 0) := by unfold cellA; rw [if_neg (by rw [hz]; simp), if_neg hIK, errT_ok hV hH, if_neg (by decide)]; rfl
 rw [hq]
 rw [errT_ok hV hH] at her
 have h74 := fun w1 h => hco w1 h hV hH i k (by omega) (by omega)
 generalize cellR R C X i k = r at *
 refine fn_v tk (n := 45) (A := []) Try.func26 rfl rfl (Nat.le_of_ble_eq_true rfl) (St.nil (Below.refl _ _)) ?_
 ((try first | apply tr_v tk | apply ot_v tk); (conv => whnf); (repeat ((first | (apply VCall.q; kernel_rfl; (focus (intro w1 hs; first | with_reducible apply hct w1 (hs.tab hT) | with_reducible apply her w1 (hs.tab hT) | with_reducible apply h74 w1 (hs.tab hT)))) | (apply VLd.mk; (focus ((repeat (first | ((with_reducible apply ld_blk); exact rfl) | (with_reducible apply ld_skip))); done))) | (apply VLdN.mk; (focus ((repeat (first | (with_reducible apply ldn_blk) | (with_reducible apply ldn_skip))); done)); exact rfl) | apply VBr.f | (apply v_f; omega) | (apply VNew.mk; intro g hg) | (apply VSt.mk; (focus ((repeat (first | (with_reducible exact At.here) | (with_reducible apply At.there))); done)); exact rfl)); (conv => whnf))); try (first | apply VStop.mk | apply VCall.stop))
 (apply VRet.mk)
 refine ret2 (by first | exact .inl rfl | exact .inr rfl) rfl (by exact rv_row tk rfl rfl rfl (by first | exact cells_blk_all (by (repeat (first | exact List.Mem.head _ | assumption | refine List.Mem.tail _ ?_))) | exact cells_row0 (by (repeat (first | exact List.Mem.head _ | assumption | refine List.Mem.tail _ ?_)))) rfl) (by exact rv_tmp rfl) ?_
 exact fun w h => ⟨rfl, h.base⟩
end
end Go.Proofs.Ytalcccgialpjgaa
