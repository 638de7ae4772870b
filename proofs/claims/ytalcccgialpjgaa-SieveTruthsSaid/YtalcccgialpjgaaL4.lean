/- SieveTruths: lemmas for the rows of this seat. No conditions. -/
import Derived.Test.YtalcccgialpjgaaM23
import Derived.Test.YtalcccgialpjgaaN26
import Derived.Test.YtalcccgialpjgaaN31
import Derived.Test.YtalcccgialpjgaaL0
set_option linter.all false
namespace Go.Proofs.Ytalcccgialpjgaa
open Go.RowKit
/-! ## SieveTruths -/
section
variable (RA : Option Addr) (rc : Nat) (CA : Option Addr) (cc : Nat) (XA : Option Addr) (xc : Nat) (R C : List R2) (X : List (List R2)) (w : World) (hT : TabR w RA CA XA R C X)
include hT
theorem refTruth_okN (hV : Valid R C X) (hH : HasT R C X) : Calls Try.prog 24 #[tabV RA rc CA cc XA xc R C X] w fun e w' => ∃ x : NumX, e = .returned (.tuple #[.slice x.x.1 R.length x.x.2, .int .i64 0]) ∧ x.xs.length = R.length ∧ St w ([] ++ numCh R.length (truL R C X R.length) x) w' := refTruthL_ok RA rc CA cc XA xc R C X w hT hV hH
set_option maxHeartbeats 1000000 in
set_option maxRecDepth 20000 in
theorem law4_any (hx : X.length ≤ maxLen) (i k : Int) : Calls Try.prog 4 #[tabV RA rc CA cc XA xc R C X, .int .i64 i, .int .i64 k] w fun e w' => e = .returned (.bool true) ∧ Below w.heap.size w w' := by
 have hgr := fun w1 (h : TabR w1 RA CA XA R C X) => great_any RA rc CA cc XA xc R C X w1 h hx
 have hce := fun w1 (h : TabR w1 RA CA XA R C X) hF => cell25_any RA rc CA cc XA xc R C X w1 h hF i k
 have hre := fun w1 (h : TabR w1 RA CA XA R C X) hF => refCell_any RA rc CA cc XA xc R C X w1 h hF i k
 cases h7 : greatB R C X with
 | true =>
  rw [h7] at hgr
  unfold tabV at *
  refine fn_v tk (n := 63) (A := []) Try.func4 rfl rfl (Nat.le_of_ble_eq_true rfl) (St.nil (Below.refl _ _)) ?_
  ((try first | apply tr_v tk | apply ot_v tk); (conv => whnf); (repeat ((first | (apply VCall.q; kernel_rfl; (focus (intro w1 hs; first | with_reducible apply hgr w1 (hs.tab hT) | with_reducible apply works_any w1))) | (apply VLdN.mk; (focus ((repeat (first | (with_reducible apply ldn_blk) | (with_reducible apply ldn_skip))); done)); exact rfl) | apply VBr.t | (apply VNew.mk; intro g hg)); (conv => whnf))); try (first | apply VStop.mk | apply VCall.stop))
  ((apply VRet.mk); refine ret1 (by first | exact .inl rfl | exact .inr rfl) rfl (by exact rv_tmp rfl) ?_; exact fun w h => ⟨rfl, h.base⟩)
 | false =>
  have hF := great_fit.1 h7
  rw [h7] at hgr
  obtain ⟨⟨r1, r2⟩, z, hq⟩ := cellA_err (R := R) (C := C) (X := X) i k
  have hce' := fun w1 h => hce w1 h hF
  have hre' := fun w1 h => hre w1 h hF
  rw [hq] at hce' hre'
  unfold resV at hce' hre'
  dsimp only at hce' hre'
  have hrs := fun w => rng_same r1 r2 w
  clear hce hre hq
  rcases errT_cases R C X with ⟨hV, hH, _⟩ | hE
  ·have ha := fun w1 (h : TabR w1 RA CA XA R C X) => truth_okN RA rc CA cc XA xc R C X w1 h hV hH
   have hb := fun w1 (h : TabR w1 RA CA XA R C X) => refTruth_okN RA rc CA cc XA xc R C X w1 h hV hH
   have hn := hV.r4
   have hm := hV.c4
   unfold tabV at *
   refine fn_v tk (n := 63) (A := []) Try.func4 rfl rfl (Nat.le_of_ble_eq_true rfl) (St.nil (Below.refl _ _)) ?_
   ((try first | apply tr_v tk | apply ot_v tk); (conv => whnf); (repeat ((first | (apply VCall.q; kernel_rfl; (focus (intro w1 hs; first | with_reducible apply hgr w1 (hs.tab hT)))) | (apply VLdN.mk; (focus ((repeat (first | (with_reducible apply ldn_blk) | (with_reducible apply ldn_skip))); done)); exact rfl) | apply VBr.f | (apply VNew.mk; intro g hg)); (conv => whnf))); try (first | apply VStop.mk | apply VCall.stop))
   refine ot_callT (X := NumX) (us := []) (vs := []) (fun x => .tuple #[.slice x.x.1 R.length x.x.2, .int .i64 0]) (fun x => []) (fun x => numCh R.length (truL R C X R.length) x) _ (fun x c hc => numCh_mut hc) (by decide) rfl rfl rfl rfl (by kernel_rfl) (evl_of rfl) rfl (fun w1 hs => ha w1 (hs.tab hT)) ?_
   intro x hxx
   (dsimp only [List.cons_append, List.nil_append]; apply ot_v tk)
   ((try first | apply tr_v tk | apply ot_v tk); (conv => whnf); (repeat ((first | (apply VLdN.mk; (focus ((repeat (first | (with_reducible apply ldn_blk) | (with_reducible apply ldn_skip))); done)); exact rfl)); (conv => whnf))); try (first | apply VStop.mk | apply VCall.stop))
   refine ot_callT (X := NumX) (us := []) (vs := []) (fun x => .tuple #[.slice x.x.1 R.length x.x.2, .int .i64 0]) (fun x => []) (fun x => numCh R.length (truL R C X R.length) x) _ (fun x c hc => numCh_mut hc) (by decide) rfl rfl rfl rfl (by kernel_rfl) (evl_of rfl) rfl (fun w1 hs => hb w1 (hs.tab hT)) ?_
   intro y hyy
   (dsimp only [List.cons_append, List.nil_append]; apply ot_v tk)
   have hlo : ∀ {A1 w1}, St w A1 w1 → (∀ {d}, d ∈ numCh R.length (truL R C X R.length) x → d ∈ A1) → (∀ {d}, d ∈ numCh R.length (truL R C X R.length) y → d ∈ A1) → _ := fun {A1 w1} (hs : St w A1 w1) h1 h2 => longs_any x.x.1 x.x.2 y.x.1 y.x.2 (truL R C X R.length) w1 (hs.numX x (truL_len ..) hxx h1) (hs.numX y (truL_len ..) hyy h2) (by rw [truL_len]; unfold maxLen; omega) (fun s hs' => by rw [truL_rows s hs']; unfold maxLen; omega)
   rw [truL_len] at hlo
   ((try first | apply tr_v tk | apply ot_v tk); (conv => whnf); (repeat ((first | (apply VEq.mk true; kernel_rfl; exact hrs) | (apply VCall.q; kernel_rfl; (focus (intro w1 hs; first | with_reducible apply hce' w1 (hs.tab hT) | with_reducible apply hre' w1 (hs.tab hT) | with_reducible apply hlo hs (fun {d} hd => by (with_reducible (repeat refine List.mem_cons_of_mem _ ?_); first | exact hd | exact List.mem_append_left _ hd | exact List.mem_append_right _ hd | exact List.mem_append_left _ (List.mem_append_left _ hd) | exact List.mem_append_left _ (List.mem_append_right _ hd) | exact List.mem_append_left _ (List.mem_append_left _ (List.mem_append_left _ hd)) | exact List.mem_append_left _ (List.mem_append_left _ (List.mem_append_right _ hd)))) (fun {d} hd => by (with_reducible (repeat refine List.mem_cons_of_mem _ ?_); first | exact hd | exact List.mem_append_left _ hd | exact List.mem_append_right _ hd | exact List.mem_append_left _ (List.mem_append_left _ hd) | exact List.mem_append_left _ (List.mem_append_right _ hd) | exact List.mem_append_left _ (List.mem_append_left _ (List.mem_append_left _ hd)) | exact List.mem_append_left _ (List.mem_append_left _ (List.mem_append_right _ hd)))) | with_reducible apply works_any w1))) | (apply VLdN.mk; (focus ((repeat (first | (with_reducible apply ldn_blk) | (with_reducible apply ldn_skip))); done)); exact rfl) | apply VBr.t | (apply v_t; omega) | (apply VNew.mk; intro g hg) | (apply VSt.mk; (focus ((repeat (first | (with_reducible exact At.here) | (with_reducible apply At.there))); done)); exact rfl)); (conv => whnf))); try (first | apply VStop.mk | apply VCall.stop))
   ((apply VRet.mk); refine ret1 (by first | exact .inl rfl | exact .inr rfl) rfl (by exact rv_tmp rfl) ?_; exact fun w h => ⟨rfl, h.base⟩)
  ·have ha := fun w1 (h : TabR w1 RA CA XA R C X) => truth_err RA rc CA cc XA xc R C X w1 h hF hE
   have hb := fun w1 (h : TabR w1 RA CA XA R C X) => refTruthL_err RA rc CA cc XA xc R C X w1 h hF hE
   generalize errT R C X = z2 at *
   unfold tabV at *
   refine fn_v tk (n := 63) (A := []) Try.func4 rfl rfl (Nat.le_of_ble_eq_true rfl) (St.nil (Below.refl _ _)) ?_
   ((try first | apply tr_v tk | apply ot_v tk); (conv => whnf); (repeat ((first | (apply VEq.mk true; kernel_rfl; exact hrs) | (apply VCall.q; kernel_rfl; (focus (intro w1 hs; first | with_reducible apply hgr w1 (hs.tab hT) | with_reducible apply ha w1 (hs.tab hT) | with_reducible apply hb w1 (hs.tab hT) | with_reducible apply hce' w1 (hs.tab hT) | with_reducible apply hre' w1 (hs.tab hT) | with_reducible apply longs_nil w1 | with_reducible apply works_any w1))) | (apply VLdN.mk; (focus ((repeat (first | (with_reducible apply ldn_blk) | (with_reducible apply ldn_skip))); done)); exact rfl) | apply VBr.t | apply VBr.f | (apply v_t; omega) | (apply VNew.mk; intro g hg) | (apply VSt.mk; (focus ((repeat (first | (with_reducible exact At.here) | (with_reducible apply At.there))); done)); exact rfl)); (conv => whnf))); try (first | apply VStop.mk | apply VCall.stop))
   ((apply VRet.mk); refine ret1 (by first | exact .inl rfl | exact .inr rfl) rfl (by exact rv_tmp rfl) ?_; exact fun w h => ⟨rfl, h.base⟩)
end
end Go.Proofs.Ytalcccgialpjgaa
