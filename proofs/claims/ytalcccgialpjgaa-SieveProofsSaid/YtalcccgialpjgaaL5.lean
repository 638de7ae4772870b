/- SieveProofs: lemmas for the rows of this seat. No conditions. -/
import Derived.Test.YtalcccgialpjgaaM22
import Derived.Test.YtalcccgialpjgaaN31
set_option linter.all false
namespace Go.Proofs.Ytalcccgialpjgaa
open Go.RowKit
/-! ## SieveProofs -/
section
variable (RA : Option Addr) (rc : Nat) (CA : Option Addr) (cc : Nat) (XA : Option Addr) (xc : Nat) (R C : List R2) (X : List (List R2)) (w : World) (hT : TabR w RA CA XA R C X)
include hT
set_option maxHeartbeats 2000000 in
set_option maxRecDepth 20000 in
theorem law5_any (hx : X.length ≤ maxLen) (PA : Option Addr) (pcap : Nat) (P : List Int) (hP : Reads w w.heap.size 1 PA P.length (i64s P)) (QA : Option Addr) (qcap : Nat) (Q : List Int) (hQ : Reads w w.heap.size 1 QA Q.length (i64s Q)) (hpm : P.length ≤ maxLen) (hqm : Q.length ≤ maxLen) (side : Int) :
  Calls Try.prog 5 #[tabV RA rc CA cc XA xc R C X, proofV PA pcap P.length QA qcap Q.length side] w fun e w' => e = .returned (.bool true) ∧ Below w.heap.size w w' := by
 have hgr := fun w1 (h : TabR w1 RA CA XA R C X) => great_any RA rc CA cc XA xc R C X w1 h hx
 unfold maxLen at hpm hqm
 cases h7 : greatB R C X with
 | true =>
  rw [h7] at hgr
  unfold tabV proofV at *
  refine fn_v tk (n := 114) (A := []) Try.func5 rfl rfl (Nat.le_of_ble_eq_true rfl) (St.nil (Below.refl _ _)) ?_
  ((try first | apply tr_v tk | apply ot_v tk); (conv => whnf); (repeat ((first | (apply VCall.q; kernel_rfl; (focus (intro w1 hs; first | with_reducible apply hgr w1 (hs.tab hT) | with_reducible apply works_any w1))) | (apply VLdN.mk; (focus ((repeat (first | (with_reducible apply ldn_blk) | (with_reducible apply ldn_skip))); done)); exact rfl) | apply VBr.t | (apply VNew.mk; intro g hg)); (conv => whnf))); try (first | apply VStop.mk | apply VCall.stop))
  ((apply VRet.mk); refine ret1 (by first | exact .inl rfl | exact .inr rfl) rfl (by exact rv_tmp rfl) ?_; exact fun w h => ⟨rfl, h.base⟩)
 | false =>
  have hF := great_fit.1 h7
  rw [h7] at hgr
  by_cases hp7 : P.length ≤ 7
  rotate_left
  ·unfold tabV proofV at *
   refine fn_v tk (n := 114) (A := []) Try.func5 rfl rfl (Nat.le_of_ble_eq_true rfl) (St.nil (Below.refl _ _)) ?_
   ((try first | apply tr_v tk | apply ot_v tk); (conv => whnf); (repeat ((first | (apply VCall.q; kernel_rfl; (focus (intro w1 hs; first | with_reducible apply hgr w1 (hs.tab hT) | with_reducible apply works_any w1))) | (apply VLd.mk; (focus ((repeat (first | ((with_reducible apply ld_blk); exact rfl) | (with_reducible apply ld_skip))); done))) | (apply VLdN.mk; (focus ((repeat (first | (with_reducible apply ldn_blk) | (with_reducible apply ldn_skip))); done)); exact rfl) | apply VBr.t | apply VBr.f | (apply v_t; omega) | (apply VNew.mk; intro g hg)); (conv => whnf))); try (first | apply VStop.mk | apply VCall.stop))
   ((apply VRet.mk); refine ret1 (by first | exact .inl rfl | exact .inr rfl) rfl (by exact rv_tmp rfl) ?_; exact fun w h => ⟨rfl, h.base⟩)
  by_cases hq7 : Q.length ≤ 7
  rotate_left
  ·unfold tabV proofV at *
   refine fn_v tk (n := 114) (A := []) Try.func5 rfl rfl (Nat.le_of_ble_eq_true rfl) (St.nil (Below.refl _ _)) ?_
   ((try first | apply tr_v tk | apply ot_v tk); (conv => whnf); (repeat ((first | (apply VCall.q; kernel_rfl; (focus (intro w1 hs; first | with_reducible apply hgr w1 (hs.tab hT) | with_reducible apply works_any w1))) | (apply VLd.mk; (focus ((repeat (first | ((with_reducible apply ld_blk); exact rfl) | (with_reducible apply ld_skip))); done))) | (apply VLdN.mk; (focus ((repeat (first | (with_reducible apply ldn_blk) | (with_reducible apply ldn_skip))); done)); exact rfl) | apply VBr.t | apply VBr.f | (apply v_t; omega) | (apply v_f; omega) | (apply VNew.mk; intro g hg)); (conv => whnf))); try (first | apply VStop.mk | apply VCall.stop))
   ((apply VRet.mk); refine ret1 (by first | exact .inl rfl | exact .inr rfl) rfl (by exact rv_tmp rfl) ?_; exact fun w h => ⟨rfl, h.base⟩)
  have hc := fun w1 (h : TabR w1 RA CA XA R C X) h1 h2 => checkProof_any RA rc CA cc XA xc R C X w1 h hF PA pcap P h1 hp7 QA qcap Q h2 hq7 side
  have hr := fun w1 (h : TabR w1 RA CA XA R C X) h1 h2 => refProof_any RA rc CA cc XA xc R C X w1 h hF PA pcap P h1 hp7 QA qcap Q h2 hq7 side
  have her := fun w1 (h : TabR w1 RA CA XA R C X) => error_any RA rc CA cc XA xc R C X w1 h hF
  generalize chkPr R C X P Q side = pr at *
  obtain ⟨p1, p2⟩ := pr
  dsimp only at hc hr
  by_cases hz : chkTab R C X = 0
  ·have hV := chk_valid hz
   by_cases hH : HasT R C X
   ·have h30 := fun w1 (h : TabR w1 RA CA XA R C X) => proof30_yes RA rc CA cc XA xc R C X w1 h hV hH
    rw [errT_ok hV hH] at her
    unfold tabV proofV at *
    refine fn_v tk (n := 114) (A := []) Try.func5 rfl rfl (Nat.le_of_ble_eq_true rfl) (St.nil (Below.refl _ _)) ?_
    ((try first | apply tr_v tk | apply ot_v tk); (conv => whnf); (repeat ((first | (apply VCall.q; kernel_rfl; (focus (intro w1 hs; first | with_reducible apply hgr w1 (hs.tab hT) | with_reducible apply hc w1 (hs.tab hT) (hs.reads hP) (hs.reads hQ) | with_reducible apply hr w1 (hs.tab hT) (hs.reads hP) (hs.reads hQ) | with_reducible apply h30 w1 (hs.tab hT) | with_reducible apply her w1 (hs.tab hT) | with_reducible apply works_any w1))) | (apply VLd.mk; (focus ((repeat (first | ((with_reducible apply ld_blk); exact rfl) | (with_reducible apply ld_skip))); done))) | (apply VLdN.mk; (focus ((repeat (first | (with_reducible apply ldn_blk) | (with_reducible apply ldn_skip))); done)); exact rfl) | apply VBr.t | apply VBr.f | (apply v_t; omega) | (apply v_f; omega) | (apply VNew.mk; intro g hg) | (apply VSt.mk; (focus ((repeat (first | (with_reducible exact At.here) | (with_reducible apply At.there))); done)); exact rfl)); (conv => whnf))); try (first | apply VStop.mk | apply VCall.stop))
    ((apply VRet.mk); refine ret1 (by first | exact .inl rfl | exact .inr rfl) rfl (by exact rv_tmp rfl) ?_; exact fun w h => ⟨rfl, h.base⟩)
   ·have h30 := fun w1 (h : TabR w1 RA CA XA R C X) => proof30_no RA rc CA cc XA xc R C X w1 h hV hH
    have hr2 := fun {A1 w1} (hs : St w A1 w1) (q : PfQ) (hq : PfGood R C X q) h1 h2 => refProof_any RA rc CA cc XA xc R C X w1 (hs.tab hT) hF q.B1 q.c1 q.P (hs.own_rd (t := 3) (c := q.c1) h1) (by have := hq.p4; omega) q.B2 q.c2 q.Q (hs.own_rd (t := 3) (c := q.c2) h2) (by have := hq.q4; omega) q.side
    rw [errT_no hV hH] at her
    unfold tabV proofV at *
    refine fn_v tk (n := 114) (A := []) Try.func5 rfl rfl (Nat.le_of_ble_eq_true rfl) (St.nil (Below.refl _ _)) ?_
    ((try first | apply tr_v tk | apply ot_v tk); (conv => whnf); (repeat ((first | (apply VCall.q; kernel_rfl; (focus (intro w1 hs; first | with_reducible apply hgr w1 (hs.tab hT) | with_reducible apply hc w1 (hs.tab hT) (hs.reads hP) (hs.reads hQ) | with_reducible apply hr w1 (hs.tab hT) (hs.reads hP) (hs.reads hQ)))) | (apply VLd.mk; (focus ((repeat (first | ((with_reducible apply ld_blk); exact rfl) | (with_reducible apply ld_skip))); done))) | (apply VLdN.mk; (focus ((repeat (first | (with_reducible apply ldn_blk) | (with_reducible apply ldn_skip))); done)); exact rfl) | apply VBr.f | (apply v_f; omega) | (apply VNew.mk; intro g hg)); (conv => whnf))); try (first | apply VStop.mk | apply VCall.stop))
    refine ot_callC (X := PfQ) (us := []) (vs := []) (fun x => .tuple #[pfV x, .int .i64 0]) pfCh (PfGood R C X) (fun x => pfCh_mut) (by decide) rfl rfl rfl rfl (by kernel_rfl) (evl_of rfl) rfl (fun w1 hs => h30 w1 (hs.tab hT)) (fun q hq => ?_)
    have hr3 := fun {A1 w1} hs => hr2 (A1 := A1) (w1 := w1) hs q hq
    have q4 := hq.p4
    have q5 := hq.q4
    have hk := hq.pos
    rw [chkPr_ok hV hq.ok, if_neg (by omega)] at hr3
    dsimp only [pfV, pfCh, proofV, List.cons_append, List.nil_append]
    dsimp only at hr3
    generalize shP R C X q.P q.Q q.side = kq at *
    apply ot_v tk
    ((try first | apply tr_v tk | apply ot_v tk); (conv => whnf); (repeat ((first | (apply VCall.q; kernel_rfl; (focus (intro w1 hs; first | with_reducible apply her w1 (hs.tab hT) | with_reducible apply hr3 hs (by (repeat (first | exact List.mem_cons_self | refine List.mem_cons_of_mem _ ?_))) (by (repeat (first | exact List.mem_cons_self | refine List.mem_cons_of_mem _ ?_))) | with_reducible apply works_any w1))) | (apply VLd.mk; (focus ((repeat (first | ((with_reducible apply ld_blk); exact rfl) | (with_reducible apply ld_skip))); done))) | (apply VLdN.mk; (focus ((repeat (first | (with_reducible apply ldn_blk) | (with_reducible apply ldn_skip))); done)); exact rfl) | apply VBr.t | apply VBr.f | (apply v_t; omega) | (apply v_f; omega) | (apply VNew.mk; intro g hg) | (apply VSt.mk; (focus ((repeat (first | (with_reducible exact At.here) | (with_reducible apply At.there))); done)); exact rfl)); (conv => whnf))); try (first | apply VStop.mk | apply VCall.stop))
    ((apply VRet.mk); refine ret1 (by first | exact .inl rfl | exact .inr rfl) rfl (by exact rv_tmp rfl) ?_; exact fun w h => ⟨rfl, h.base⟩)
  ·have h30 := fun w1 (h : TabR w1 RA CA XA R C X) => proof30_err RA rc CA cc XA xc R C X w1 h hF hz
   rw [errT_chk hz] at her
   have h20 := chkTab_vals (R := R) (C := C) (X := X)
   generalize chkTab R C X = z at *
   unfold tabV proofV at *
   refine fn_v tk (n := 114) (A := []) Try.func5 rfl rfl (Nat.le_of_ble_eq_true rfl) (St.nil (Below.refl _ _)) ?_
   rcases h20 with rfl | rfl | rfl | rfl
   ·exact absurd rfl hz
   all_goals
    ((try first | apply tr_v tk | apply ot_v tk); (conv => whnf); (repeat ((first | (apply VCall.q; kernel_rfl; (focus (intro w1 hs; first | with_reducible apply hgr w1 (hs.tab hT) | with_reducible apply hc w1 (hs.tab hT) (hs.reads hP) (hs.reads hQ) | with_reducible apply hr w1 (hs.tab hT) (hs.reads hP) (hs.reads hQ) | with_reducible apply h30 w1 (hs.tab hT) | with_reducible apply her w1 (hs.tab hT) | with_reducible apply works_any w1))) | (apply VLd.mk; (focus ((repeat (first | ((with_reducible apply ld_blk); exact rfl) | (with_reducible apply ld_skip))); done))) | (apply VLdN.mk; (focus ((repeat (first | (with_reducible apply ldn_blk) | (with_reducible apply ldn_skip))); done)); exact rfl) | apply VBr.t | apply VBr.f | (apply v_t; omega) | (apply v_f; omega) | (apply VNew.mk; intro g hg) | (apply VSt.mk; (focus ((repeat (first | (with_reducible exact At.here) | (with_reducible apply At.there))); done)); exact rfl)); (conv => whnf))); try (first | apply VStop.mk | apply VCall.stop))
    ((apply VRet.mk); refine ret1 (by first | exact .inl rfl | exact .inr rfl) rfl (by exact rv_tmp rfl) ?_; exact fun w h => ⟨rfl, h.base⟩)
end
end Go.Proofs.Ytalcccgialpjgaa
