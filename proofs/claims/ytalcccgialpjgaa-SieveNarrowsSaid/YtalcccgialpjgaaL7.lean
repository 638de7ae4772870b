/- SieveNarrows: lemmas for the rows of this seat. No conditions. -/
import Derived.Test.YtalcccgialpjgaaN25
import Derived.Test.YtalcccgialpjgaaN31
import Derived.Test.YtalcccgialpjgaaL0
set_option linter.all false
namespace Go.Proofs.Ytalcccgialpjgaa
open Go.RowKit
/-! ## SieveNarrows -/
section
variable (RA : Option Addr) (rc : Nat) (CA : Option Addr) (cc : Nat) (XA : Option Addr) (xc : Nat) (R C : List R2) (X : List (List R2)) (w : World) (hT : TabR w RA CA XA R C X)
include hT
theorem refNarrow_okN (hV : Valid R C X) (hH : HasT R C X) : Calls Try.prog 40 #[tabV RA rc CA cc XA xc R C X] w fun e w' => ∃ x : TabX, e = .returned (.tuple #[tabX x (nrR R C X R.length) (nrC R C X C.length) (nrX R C X R.length), .int .i64 0]) ∧ x.xs.length = (nrX R C X R.length).length ∧ St w ([] ++ tabCh (nrR R C X R.length) (nrC R C X C.length) (nrX R C X R.length) x) w' := refNarrow_ok RA rc CA cc XA xc R C X w hT hV hH
set_option maxHeartbeats 1000000 in
set_option maxRecDepth 20000 in
theorem law7_any (hx : X.length ≤ maxLen) : Calls Try.prog 7 #[tabV RA rc CA cc XA xc R C X] w fun e w' => e = .returned (.bool true) ∧ Below w.heap.size w w' := by
 have hgr := fun w1 (h : TabR w1 RA CA XA R C X) => great_any RA rc CA cc XA xc R C X w1 h hx
 cases h7 : greatB R C X with
 | true =>
  rw [h7] at hgr
  unfold tabV at *
  refine fn_v tk (n := 31) (A := []) Try.func7 rfl rfl (Nat.le_of_ble_eq_true rfl) (St.nil (Below.refl _ _)) ?_
  ((try first | apply tr_v tk | apply ot_v tk); (conv => whnf); (repeat ((first | (apply VCall.q; kernel_rfl; (focus (intro w1 hs; first | with_reducible apply hgr w1 (hs.tab hT) | with_reducible apply works_any w1))) | (apply VLdN.mk; (focus ((repeat (first | (with_reducible apply ldn_blk) | (with_reducible apply ldn_skip))); done)); exact rfl) | apply VBr.t | (apply VNew.mk; intro g hg)); (conv => whnf))); try (first | apply VStop.mk | apply VCall.stop))
  ((apply VRet.mk); refine ret1 (by first | exact .inl rfl | exact .inr rfl) rfl (by exact rv_tmp rfl) ?_; exact fun w h => ⟨rfl, h.base⟩)
 | false =>
  have hF := great_fit.1 h7
  rw [h7] at hgr
  rcases errT_cases R C X with ⟨hV, hH, _⟩ | hE
  ·have ha := fun w1 (h : TabR w1 RA CA XA R C X) => narrow_okN RA rc CA cc XA xc R C X w1 h hV hH
   have hb := fun w1 (h : TabR w1 RA CA XA R C X) => refNarrow_okN RA rc CA cc XA xc R C X w1 h hV hH
   have hV' := nr_valid hV hH
   generalize nrR R C X R.length = R' at *
   generalize nrC R C X C.length = C' at *
   generalize nrX R C X R.length = X' at *
   have e1 := hV'.r4
   have e2 := hV'.c4
   have e3 := hV'.x
   have hsa : ∀ {A1 w1}, St w A1 w1 → ∀ {x y : TabX}, x.xs.length = X'.length → y.xs.length = X'.length → (∀ {d}, d ∈ tabCh R' C' X' x → d ∈ A1) → (∀ {d}, d ∈ tabCh R' C' X' y → d ∈ A1) → Calls Try.prog 41 #[tabX x R' C' X', tabX y R' C' X'] w1 fun e w' => e = .returned (.bool true) ∧ Below w1.heap.size w1 w' := fun {A1 w1} hs {x y} hx hy h1 h2 => same_any _ _ _ _ _ _ _ _ _ _ _ _ R' C' X' w1 (hs.tabX' x hx h1) (hs.tabX' y hy h2) (by unfold maxLen; omega) (by unfold maxLen; omega) (by unfold maxLen; omega) (fun s hs' => by rw [hV'.xs s hs']; unfold maxLen; omega)
   unfold tabX tabV at *
   refine fn_v tk (n := 31) (A := []) Try.func7 rfl rfl (Nat.le_of_ble_eq_true rfl) (St.nil (Below.refl _ _)) ?_
   ((try first | apply tr_v tk | apply ot_v tk); (conv => whnf); (repeat ((first | (apply VCall.q; kernel_rfl; (focus (intro w1 hs; first | with_reducible apply hgr w1 (hs.tab hT)))) | (apply VLdN.mk; (focus ((repeat (first | (with_reducible apply ldn_blk) | (with_reducible apply ldn_skip))); done)); exact rfl) | apply VBr.f | (apply VNew.mk; intro g hg)); (conv => whnf))); try (first | apply VStop.mk | apply VCall.stop))
   refine ot_callT (X := TabX) (us := []) (vs := []) (fun x => .tuple #[tabX x R' C' X', .int .i64 0]) (fun x => []) (fun x => tabCh R' C' X' x) _ (fun x c hc => tabCh_mut' hc) (by decide) rfl rfl rfl rfl (by kernel_rfl) (evl_of rfl) rfl (fun w1 hs => ha w1 (hs.tab hT)) ?_
   intro x hxx
   dsimp only [tabX, tabV]
   (dsimp only [List.cons_append, List.nil_append]; apply ot_v tk)
   ((try first | apply tr_v tk | apply ot_v tk); (conv => whnf); (repeat ((first | (apply VLdN.mk; (focus ((repeat (first | (with_reducible apply ldn_blk) | (with_reducible apply ldn_skip))); done)); exact rfl) | (apply VNew.mk; intro g hg) | (apply VSt.mk; (focus ((repeat (first | (with_reducible exact At.here) | (with_reducible apply At.there))); done)); exact rfl)); (conv => whnf))); try (first | apply VStop.mk | apply VCall.stop))
   refine ot_callT (X := TabX) (us := []) (vs := []) (fun x => .tuple #[tabX x R' C' X', .int .i64 0]) (fun x => []) (fun x => tabCh R' C' X' x) _ (fun x c hc => tabCh_mut' hc) (by decide) rfl rfl rfl rfl (by kernel_rfl) (evl_of rfl) rfl (fun w1 hs => hb w1 (hs.tab hT)) ?_
   intro y hyy
   dsimp only [tabX, tabV]
   (dsimp only [List.cons_append, List.nil_append]; apply ot_v tk)
   ((try first | apply tr_v tk | apply ot_v tk); (conv => whnf); (repeat ((first | (apply VCall.q; kernel_rfl; (focus (intro w1 hs; first | with_reducible apply hsa hs hxx hyy (fun {d} hd => by (with_reducible (repeat refine List.mem_cons_of_mem _ ?_); first | exact hd | exact List.mem_append_left _ hd | exact List.mem_append_right _ hd | exact List.mem_append_left _ (List.mem_append_left _ hd) | exact List.mem_append_left _ (List.mem_append_right _ hd) | exact List.mem_append_left _ (List.mem_append_left _ (List.mem_append_left _ hd)) | exact List.mem_append_left _ (List.mem_append_left _ (List.mem_append_right _ hd)))) (fun {d} hd => by (with_reducible (repeat refine List.mem_cons_of_mem _ ?_); first | exact hd | exact List.mem_append_left _ hd | exact List.mem_append_right _ hd | exact List.mem_append_left _ (List.mem_append_left _ hd) | exact List.mem_append_left _ (List.mem_append_right _ hd) | exact List.mem_append_left _ (List.mem_append_left _ (List.mem_append_left _ hd)) | exact List.mem_append_left _ (List.mem_append_left _ (List.mem_append_right _ hd)))) | with_reducible apply works_any w1))) | (apply VLdN.mk; (focus ((repeat (first | (with_reducible apply ldn_blk) | (with_reducible apply ldn_skip))); done)); exact rfl) | apply VBr.t | (apply v_t; omega) | (apply VNew.mk; intro g hg) | (apply VSt.mk; (focus ((repeat (first | (with_reducible exact At.here) | (with_reducible apply At.there))); done)); exact rfl)); (conv => whnf))); try (first | apply VStop.mk | apply VCall.stop))
   ((apply VRet.mk); refine ret1 (by first | exact .inl rfl | exact .inr rfl) rfl (by exact rv_tmp rfl) ?_; exact fun w h => ⟨rfl, h.base⟩)
  ·have ha := fun w1 (h : TabR w1 RA CA XA R C X) => narrow_err RA rc CA cc XA xc R C X w1 h hF hE
   have hb := fun w1 (h : TabR w1 RA CA XA R C X) => refNarrow_err RA rc CA cc XA xc R C X w1 h hF hE
   generalize errT R C X = z2 at *
   unfold tabV at *
   simp only [List.length_nil] at ha hb
   refine fn_v tk (n := 31) (A := []) Try.func7 rfl rfl (Nat.le_of_ble_eq_true rfl) (St.nil (Below.refl _ _)) ?_
   ((try first | apply tr_v tk | apply ot_v tk); (conv => whnf); (repeat ((first | (apply VCall.q; kernel_rfl; (focus (intro w1 hs; first | with_reducible apply hgr w1 (hs.tab hT) | with_reducible apply ha w1 (hs.tab hT) | with_reducible apply hb w1 (hs.tab hT) | with_reducible apply same_nil w1 | with_reducible apply works_any w1))) | (apply VLdN.mk; (focus ((repeat (first | (with_reducible apply ldn_blk) | (with_reducible apply ldn_skip))); done)); exact rfl) | apply VBr.t | apply VBr.f | (apply v_t; omega) | (apply VNew.mk; intro g hg) | (apply VSt.mk; (focus ((repeat (first | (with_reducible exact At.here) | (with_reducible apply At.there))); done)); exact rfl)); (conv => whnf))); try (first | apply VStop.mk | apply VCall.stop))
   ((apply VRet.mk); refine ret1 (by first | exact .inl rfl | exact .inr rfl) rfl (by exact rv_tmp rfl) ?_; exact fun w h => ⟨rfl, h.base⟩)
end
end Go.Proofs.Ytalcccgialpjgaa
