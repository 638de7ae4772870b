/- SieveTables: lemmas for the rows of this seat. No conditions. -/
import Derived.Test.YtalcccgialpjgaaM3
import Derived.Test.YtalcccgialpjgaaN31
set_option linter.all false
namespace Go.Proofs.Ytalcccgialpjgaa
open Go.RowKit
/-! ## SieveTables -/
section
variable (RA : Option Addr) (rc : Nat) (CA : Option Addr) (cc : Nat) (XA : Option Addr) (xc : Nat) (R C : List R2) (X : List (List R2)) (w : World) (hT : TabR w RA CA XA R C X)
include hT
set_option maxHeartbeats 1000000 in
set_option maxRecDepth 20000 in
theorem law3_any (hx : X.length ≤ maxLen) (NA : Option Addr) (nc : Nat) (L : List (List Int)) (hN : NestR w 1 NA (nestI L)) (hl : L.length ≤ maxLen) : Calls Try.prog 3 #[tabV RA rc CA cc XA xc R C X, .slice NA L.length nc] w fun e w' => e = .returned (.bool true) ∧ Below w.heap.size w w' := by
 have hgr := fun w1 (h : TabR w1 RA CA XA R C X) => great_any RA rc CA cc XA xc R C X w1 h hx
 have hwi := fun w1 (h : NestR w1 1 NA (nestI L)) => wide_any NA nc L w1 h hl
 have hc := fun w1 (h : TabR w1 RA CA XA R C X) hF => checkTable_any RA rc CA cc XA xc R C X w1 h hF
 have hr := fun w1 (h : TabR w1 RA CA XA R C X) hF => refTable_any RA rc CA cc XA xc R C X w1 h hF
 have hcu := fun w1 (h : TabR w1 RA CA XA R C X) (hn : NestR w1 1 NA (nestI L)) hF h7 h8 => checkTruth_any RA rc CA cc XA xc R C X w1 h NA nc L hn hF h7 h8
 have hru := fun w1 (h : TabR w1 RA CA XA R C X) (hn : NestR w1 1 NA (nestI L)) hF h7 h8 => refTruth_any RA rc CA cc XA xc R C X w1 h NA nc L hn hF h7 h8
 unfold tabV at *
 cases h7 : greatB R C X with
 | true =>
  rw [h7] at hgr
  refine fn_v tk (n := 29) (A := []) Try.func3 rfl rfl (Nat.le_of_ble_eq_true rfl) (St.nil (Below.refl _ _)) ?_
  ((try first | apply tr_v tk | apply ot_v tk); (conv => whnf); (repeat ((first | (apply VCall.q; kernel_rfl; (focus (intro w1 hs; first | with_reducible apply hgr w1 (hs.tab hT) | with_reducible apply works_any w1))) | (apply VLdN.mk; (focus ((repeat (first | (with_reducible apply ldn_blk) | (with_reducible apply ldn_skip))); done)); exact rfl) | apply VBr.t | (apply VNew.mk; intro g hg)); (conv => whnf))); try (first | apply VStop.mk | apply VCall.stop))
  ((apply VRet.mk); refine ret1 (by first | exact .inl rfl | exact .inr rfl) rfl (by exact rv_tmp rfl) ?_; exact fun w h => ⟨rfl, h.base⟩)
 | false =>
  have hF := great_fit.1 h7
  rw [h7] at hgr
  cases h8 : wideB L with
  | true =>
   rw [h8] at hwi
   refine fn_v tk (n := 29) (A := []) Try.func3 rfl rfl (Nat.le_of_ble_eq_true rfl) (St.nil (Below.refl _ _)) ?_
   ((try first | apply tr_v tk | apply ot_v tk); (conv => whnf); (repeat ((first | (apply VCall.q; kernel_rfl; (focus (intro w1 hs; first | with_reducible apply hgr w1 (hs.tab hT) | with_reducible apply hwi w1 (hs.nest hN) | with_reducible apply works_any w1))) | (apply VLdN.mk; (focus ((repeat (first | (with_reducible apply ldn_blk) | (with_reducible apply ldn_skip))); done)); exact rfl) | apply VBr.t | apply VBr.f | (apply VNew.mk; intro g hg)); (conv => whnf))); try (first | apply VStop.mk | apply VCall.stop))
   ((apply VRet.mk); refine ret1 (by first | exact .inl rfl | exact .inr rfl) rfl (by exact rv_tmp rfl) ?_; exact fun w h => ⟨rfl, h.base⟩)
  | false =>
   have hW := wide_fit.1 h8
   rw [h8] at hwi
   have hc' := fun w1 h => hc w1 h hF
   have hr' := fun w1 h => hr w1 h hF
   have hcu' := fun w1 h h' => hcu w1 h h' hF hW.1 hW.2
   have hru' := fun w1 h h' => hru w1 h h' hF hW.1 hW.2
   clear hc hr hcu hru
   generalize chkTab R C X = z at *
   generalize chkTru R C X L = z2 at *
   refine fn_v tk (n := 29) (A := []) Try.func3 rfl rfl (Nat.le_of_ble_eq_true rfl) (St.nil (Below.refl _ _)) ?_
   ((try first | apply tr_v tk | apply ot_v tk); (conv => whnf); (repeat ((first | ((first | apply VStop.mk | apply VCall.stop); (first | refine tr_region_draw (id := 3) (by kernel_rfl) [0, 2, 1, 3, 4, 5, 6, 7, 9, 10, 8, 11, 12, 13, 14, 15, 16, 17] [.rd, .rd, .cr, .cr, .rd, .rd, .rd, .rd, .rd, .rd, .cr, .cr, .rd, .rd, .rd, .cr, .rd, .rd] rfl (by kernel_rfl) ?_); try first | apply ot_v tk | apply tr_v tk) | (apply VCall.q; kernel_rfl; (focus (intro w1 hs; first | with_reducible apply hgr w1 (hs.tab hT) | with_reducible apply hwi w1 (hs.nest hN) | with_reducible apply hc' w1 (hs.tab hT) | with_reducible apply hr' w1 (hs.tab hT) | with_reducible apply hcu' w1 (hs.tab hT) (hs.nest hN) | with_reducible apply hru' w1 (hs.tab hT) (hs.nest hN) | with_reducible apply works_any w1))) | (apply VLdN.mk; (focus ((repeat (first | (with_reducible apply ldn_blk) | (with_reducible apply ldn_skip))); done)); exact rfl) | apply VBr.t | apply VBr.f | (apply v_t; omega) | (apply VNew.mk; intro g hg)); (conv => whnf))); try (first | apply VStop.mk | apply VCall.stop))
   ((apply VRet.mk); refine ret1 (by first | exact .inl rfl | exact .inr rfl) rfl (by exact rv_tmp rfl) ?_; exact fun w h => ⟨rfl, h.base⟩)
end
end Go.Proofs.Ytalcccgialpjgaa
