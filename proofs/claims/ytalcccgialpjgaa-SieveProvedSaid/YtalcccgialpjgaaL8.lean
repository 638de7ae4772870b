/- SieveProved: lemmas for the rows of this seat. No conditions. -/
import Derived.Test.YtalcccgialpjgaaN19
import Derived.Test.YtalcccgialpjgaaN31
import Derived.Test.YtalcccgialpjgaaL1
set_option linter.all false
namespace Go.Proofs.Ytalcccgialpjgaa
open Go.RowKit
/-! ## SieveProved -/
section
variable (RA : Option Addr) (rc : Nat) (CA : Option Addr) (cc : Nat) (XA : Option Addr) (xc : Nat) (R C : List R2) (X : List (List R2)) (w : World) (hT : TabR w RA CA XA R C X)
include hT
set_option maxHeartbeats 4000000 in
set_option maxRecDepth 20000 in
theorem law8_any (hx : X.length ≤ maxLen) (BA : Option Addr) (bc : Nat) (by_ : List Int) (hby : Reads w w.heap.size 1 BA by_.length (by_.map (Value.int .u8))) (hbm : by_.length ≤ maxLen) (hb : ∀ z ∈ by_, 0 ≤ z ∧ z ≤ 255) (rb cb : Nat) (hrb : rb < 256) (hcb : cb < 256) (other : Bool) :
  Calls Try.prog 8 #[tabV RA rc CA cc XA xc R C X, .slice BA by_.length bc, .int .u8 (rb : Int), .int .u8 (cb : Int), .bool other] w fun e w' => e = .returned (.bool true) ∧ Below w.heap.size w w' := by
 unfold maxLen at hbm
 by_cases hV : Valid R C X
 rotate_left
 ·have hfi := fun w1 (h : TabR w1 RA CA XA R C X) => fine_no RA rc CA cc XA xc R C X w1 h hx hV
  unfold tabV at *
  refine fn_v tk (n := 175) (A := []) Try.func8 rfl rfl (Nat.le_of_ble_eq_true rfl) (St.nil (Below.refl _ _)) ?_
  ((try first | apply tr_v tk | apply ot_v tk); (conv => whnf); (repeat ((first | (apply VCall.q; kernel_rfl; (focus (intro w1 hs; first | with_reducible apply hfi w1 (hs.tab hT) | with_reducible apply works_any w1))) | (apply VLdN.mk; (focus ((repeat (first | (with_reducible apply ldn_blk) | (with_reducible apply ldn_skip))); done)); exact rfl) | apply VBr.t | (apply VNew.mk; intro g hg)); (conv => whnf))); try (first | apply VStop.mk | apply VCall.stop))
  ((apply VRet.mk); refine ret1 (by first | exact .inl rfl | exact .inr rfl) rfl (by exact rv_tmp rfl) ?_; exact fun w h => ⟨rfl, h.base⟩)
 have hfi := fun w1 (h : TabR w1 RA CA XA R C X) => fine_yes RA rc CA cc XA xc R C X w1 h hV
 by_cases h20 : by_.length ≤ 20
 rotate_left
 ·unfold tabV at *
  refine fn_v tk (n := 175) (A := []) Try.func8 rfl rfl (Nat.le_of_ble_eq_true rfl) (St.nil (Below.refl _ _)) ?_
  ((try first | apply tr_v tk | apply ot_v tk); (conv => whnf); (repeat ((first | (apply VCall.q; kernel_rfl; (focus (intro w1 hs; first | with_reducible apply hfi w1 (hs.tab hT) | with_reducible apply works_any w1))) | (apply VLdN.mk; (focus ((repeat (first | (with_reducible apply ldn_blk) | (with_reducible apply ldn_skip))); done)); exact rfl) | apply VBr.t | apply VBr.f | (apply v_t; omega) | (apply VNew.mk; intro g hg)); (conv => whnf))); try (first | apply VStop.mk | apply VCall.stop))
  ((apply VRet.mk); refine ret1 (by first | exact .inl rfl | exact .inr rfl) rfl (by exact rv_tmp rfl) ?_; exact fun w h => ⟨rfl, h.base⟩)
 have hn := hV.r4
 have hm := hV.c4
 have hli := fun w1 => listed_any rb hrb R.length (by omega) w1
 have hlj := fun w1 => listed_any cb hcb C.length (by omega) w1
 have lP := listedL_le rb R.length
 have lQ := listedL_le cb C.length
 have hgi := fun w1 (h : TabR w1 RA CA XA R C X) hh => given_anyN RA rc CA cc XA xc R C X w1 h hV BA bc by_ hh (by omega) hb
 have hcg := fun {A1 w1} (hs : St w A1 w1) {x : NumX} (hx : x.xs.length = R.length) (h : ∀ {d}, d ∈ numCh R.length (givL C.length X by_ R.length) x → d ∈ A1) {z : Int} (hz : chkTru R C X (givL C.length X by_ R.length) = z) => check_numX RA rc CA cc XA xc R C X w1 (hs.tab hT) hV (givL_len _ _ _) givL_rows (nc := x.x.2) (hs.numX x (givL_len _ _ _) hx h) hz
 have hz4 := tru_in hV (givL_len C.length R.length by_) givL_rows (giv_in hV by_)
 have hcp := fun {A1 w1} (hs : St w A1 w1) {B1 B2 : Option Addr} {c1 c2 : Nat} {side : Int} (h1 : .own (.slice B1 (listedL rb R.length).length c1) 3 1 (listedL rb R.length).length (i64s (listedL rb R.length)) ∈ A1) (h2 : .own (.slice B2 (listedL cb C.length).length c2) 3 1 (listedL cb C.length).length (i64s (listedL cb C.length)) ∈ A1) => checkProof_any RA rc CA cc XA xc R C X w1 (hs.tab hT) hV.fit B1 c1 _ (hs.own_rd h1) (by omega) B2 c2 _ (hs.own_rd h2) (by omega) side
 have key : ∀ z3 : Int × Int, (∀ side, 0 ≤ side ∧ side ≤ 1 → True) → True := fun _ _ => trivial
 clear key
 have hpr : ∀ side : Int, 0 ≤ side ∧ side ≤ 1 → (HasT R C X → chkPr R C X (listedL rb R.length) (listedL cb C.length) side = (0, 14)) ∧ (chkPr R C X (listedL rb R.length) (listedL cb C.length) side = (0, 14) ∨ ∃ k, 0 < k ∧ chkPr R C X (listedL rb R.length) (listedL cb C.length) side = (k, 0)) := fun side hs => by
  refine ⟨fun hH => chkPr_has hV hH (listed_ok rb cb hs), ?_⟩
  rw [chkPr_ok hV (listed_ok rb cb hs)]
  by_cases h : shP R C X (listedL rb R.length) (listedL cb C.length) side ≤ 0
  ·rw [if_pos h]; exact .inl rfl
  ·rw [if_neg h]; exact .inr ⟨_, by omega, rfl⟩
 generalize hP : listedL rb R.length = P at *
 generalize hQ : listedL cb C.length = Q at *
 by_cases hH : HasT R C X
 ·have hpr0 := (hpr 0 (by omega)).1 hH
  have hpr1 := (hpr 1 (by omega)).1 hH
  have ha := fun w1 (h : TabR w1 RA CA XA R C X) => truth_okN RA rc CA cc XA xc R C X w1 h hV hH
  have h30 := fun w1 (h : TabR w1 RA CA XA R C X) => proof30_yes RA rc CA cc XA xc R C X w1 h hV hH
  have htr := truL_tru hV hH
  have hwd := fun {A1 w1} (hs : St w A1 w1) {x : NumX} (hx : x.xs.length = R.length) (h : ∀ {d}, d ∈ numCh R.length (truL R C X R.length) x → d ∈ A1) => wide_numX (nc := x.x.2) (truL_len R C X R.length) truL_rows hn hm (hs.numX x (truL_len ..) hx h)
  have hct := fun {A1 w1} (hs : St w A1 w1) {x : NumX} (hx : x.xs.length = R.length) (h : ∀ {d}, d ∈ numCh R.length (truL R C X R.length) x → d ∈ A1) => check_numX RA rc CA cc XA xc R C X w1 (hs.tab hT) hV (truL_len ..) truL_rows (nc := x.x.2) (hs.numX x (truL_len ..) hx h) htr
  have hrt := fun {A1 w1} (hs : St w A1 w1) {x : NumX} (hx : x.xs.length = R.length) (h : ∀ {d}, d ∈ numCh R.length (truL R C X R.length) x → d ∈ A1) => refCheck_numX RA rc CA cc XA xc R C X w1 (hs.tab hT) hV (truL_len ..) truL_rows (nc := x.x.2) (hs.numX x (truL_len ..) hx h) htr
  have hcp0 := fun {A1 w1} hs {B1 B2 c1 c2} h1 h2 => @hcp A1 w1 hs B1 B2 c1 c2 0 h1 h2
  have hcp1 := fun {A1 w1} hs {B1 B2 c1 c2} h1 h2 => @hcp A1 w1 hs B1 B2 c1 c2 1 h1 h2
  rw [hpr0] at hcp0
  rw [hpr1] at hcp1
  clear hcp hpr hpr0 hpr1
  unfold tabV proofV at *
  dsimp only at hcp0 hcp1
  refine fn_k (n := 175) (A := []) Try.func8 rfl rfl (Nat.le_of_ble_eq_true rfl) (St.nil (Below.refl _ _)) ?_
  refine tr_seqK ?_
  ((try first | apply tr_v tk | apply ot_v tk); (conv => whnf); (repeat ((first | (apply VNew.mk; intro g hg)); (conv => whnf))); try (first | apply VStop.mk | apply VCall.stop))
  refine tr_seqK ?_
  ((try first | apply tr_v tk | apply ot_v tk); (conv => whnf); (repeat ((first | (apply VCall.q; kernel_rfl; (focus (intro w1 hs; first | with_reducible apply hfi w1 (hs.tab hT)))) | (apply VLdN.mk; (focus ((repeat (first | (with_reducible apply ldn_blk) | (with_reducible apply ldn_skip))); done)); exact rfl) | apply VBr.f | (apply v_f; omega)); (conv => whnf))); try (first | apply VStop.mk | apply VCall.stop))
  revert g hg
  intro g5 hg5
  refine tr_seqK ?_
  ((try first | apply tr_v tk | apply ot_v tk); (conv => whnf); (repeat ((first | (apply VLdN.mk; (focus ((repeat (first | (with_reducible apply ldn_blk) | (with_reducible apply ldn_skip))); done)); exact rfl)); (conv => whnf))); try (first | apply VStop.mk | apply VCall.stop))
  refine ot_callT (X := NumX) (us := []) (vs := []) (fun x => .tuple #[.slice x.x.1 R.length x.x.2, .int .i64 0]) (fun x => []) (fun x => numCh R.length (truL R C X R.length) x) _ (fun x c hc => numCh_mut hc) (by decide) rfl rfl rfl rfl (by kernel_rfl) (evl_of rfl) rfl (fun w1 hs => ha w1 (hs.tab hT)) ?_
  intro x hxx
  (dsimp only [List.cons_append, List.nil_append]; apply ot_v tk)
  ((try first | apply tr_v tk | apply ot_v tk); (conv => whnf); try (first | apply VStop.mk | apply VCall.stop))
  refine tr_seqK ?_
  ((try first | apply tr_v tk | apply ot_v tk); (conv => whnf); (repeat ((first | (apply VCall.q; kernel_rfl; (focus (intro w1 hs; first | with_reducible apply h30 w1 (hs.tab hT)))) | (apply VLdN.mk; (focus ((repeat (first | (with_reducible apply ldn_blk) | (with_reducible apply ldn_skip))); done)); exact rfl) | (apply VNew.mk; intro g hg) | (apply VSt.mk; (focus ((repeat (first | (with_reducible exact At.here) | (with_reducible apply At.there))); done)); exact rfl)); (conv => whnf))); try (first | apply VStop.mk | apply VCall.stop))
  revert g hg
  intro g13 hg13
  refine tr_nameA2 ?_
  intro A1 hA1
  have c5 : .blk g5 25 [.slice RA R.length rc, .slice CA C.length cc, .slice XA X.length xc] ∈ A1 := by rw [hA1]; exact .tail _ (.head _)
  have hxA : ∀ {d}, d ∈ numCh R.length (truL R C X R.length) x → d ∈ A1 := fun {d} hd => by rw [hA1]; exact .tail _ (.tail _ hd)
  have c13 : .blk g13 44 [.slice none 0 0, .slice none 0 0, .int .i64 0] ∈ A1 := by rw [hA1]; exact .head _
  clear hA1
  refine tr_cut (fun y : Nat × SlX × SlX => ([(1, .slice BA by_.length bc), (4, .bool other), (5, .pointer (some ⟨g5, 0, none⟩)), (11, .slice x.x.1 R.length x.x.2), (12, .int .i64 0), (13, .pointer (some ⟨g13, 0, none⟩)), (14, .int .i64 5), (15, .pointer (some ⟨y.1, 0, none⟩))], .blk y.1 44 [.slice y.2.1.B P.length y.2.1.c, .slice y.2.2.B Q.length y.2.2.c, .int .i64 0] :: .own (.slice y.2.1.B P.length y.2.1.c) 3 1 P.length (i64s P) :: .own (.slice y.2.2.B Q.length y.2.2.c) 3 1 Q.length (i64s Q) :: A1)) ?_ ?_
  ·((try first | apply tr_v tk | apply ot_v tk); (conv => whnf); (repeat ((first | ((first | apply VStop.mk | apply VCall.stop); (first | refine tr_region_treeV (id := 5) (by kernel_rfl) A1 (by (repeat (first | exact sl0 _ | exact sl1 _ | refine sl2 _ ?_ | refine sl3 _ ?_))) [0, 1, 2, 3, 5, 6, 7, 8] [4, 9, 10, 11, 12] [.rd, .rd, .rd, .rd, .rd, .rd, .rd, .rd] (fun i => [.wr, .wr, .wr, .wr, .cr, .wr, .wr, .wr, .wr, .cr, .wr, .cr, .wr].getD i .wr) _ rfl rfl (by kernel_rfl) ?_); try first | apply ot_v tk | apply tr_v tk) | (apply VLd.mk; exact cell_blk c5 rfl)); (conv => whnf))); try (first | apply VStop.mk | apply VCall.stop))
   refine ox2 4 11 ?_ ?_
   ·(refine ot_callC (X := SlX) (us := []) (vs := []) (fun x => .slice x.B P.length x.c) (fun x => [.own (.slice x.B P.length x.c) 3 1 P.length (i64s P)]) (fun _ => True) (fun x => mut_one rfl) (by decide) rfl rfl rfl rfl (by kernel_rfl) (evl_of rfl) rfl (fun w1 hs => hli w1) (fun xp _ => ?_); refine ot_nil ?_; refine sla ?_)
    refine ox2 9 11 ?_ ?_
    ·(refine ot_callC (X := SlX) (us := []) (vs := []) (fun x => .slice x.B Q.length x.c) (fun x => [.own (.slice x.B Q.length x.c) 3 1 Q.length (i64s Q)]) (fun _ => True) (fun x => mut_one rfl) (by decide) rfl rfl rfl rfl (by kernel_rfl) (evl_of rfl) rfl (fun w1 hs => hlj w1) (fun xq _ => ?_); refine ot_nil ?_; refine sla ?_)
     refine ox2 10 11 ?_ ?_
     ·(apply ot_v tk; (conv => whnf); refine sla ?_)
      refine ox1 11 ?_
      (apply ot_v tk; (conv => whnf); (apply VNew.mk; intro g15 hg15; (conv => whnf)); refine sla ?_)
      refine ox1 12 ?_
      (apply ot_v tk; (conv => whnf); (apply VSt.mk; (focus (repeat (first | exact At.here | apply At.there)); done); exact rfl; (conv => whnf)); refine sla ?_)
      refine VT.mk (otx_end ?_)
      exact VJ.mk (g15, xp, xq) rfl ⟨rfl, rfl, rfl, rfl, rfl, rfl, rfl, rfl, trivial⟩ (by ((try dsimp only); (iterate 3 ((apply Pick.cons); (focus (repeat (first | exact Rem.here | apply Rem.there)); done))); exact Pick.of_sub (by (repeat (first | exact sl0 _ | exact sl1 _ | refine sl2 _ ?_ | refine sl3 _ ?_)))))
     ·(apply ot_v tk; (conv => whnf); (apply VNew.mk; intro g15 hg15; (conv => whnf)); refine sla ?_)
      refine ox1 10 ?_
      (apply ot_v tk; (conv => whnf); refine sla ?_)
      refine ox1 12 ?_
      (apply ot_v tk; (conv => whnf); (apply VSt.mk; (focus (repeat (first | exact At.here | apply At.there)); done); exact rfl; (conv => whnf)); refine sla ?_)
      refine VT.mk (otx_end ?_)
      exact VJ.mk (g15, xp, xq) rfl ⟨rfl, rfl, rfl, rfl, rfl, rfl, rfl, rfl, trivial⟩ (by ((try dsimp only); (iterate 3 ((apply Pick.cons); (focus (repeat (first | exact Rem.here | apply Rem.there)); done))); exact Pick.of_sub (by (repeat (first | exact sl0 _ | exact sl1 _ | refine sl2 _ ?_ | refine sl3 _ ?_)))))
    ·(apply ot_v tk; (conv => whnf); (apply VNew.mk; intro g15 hg15; (conv => whnf)); refine sla ?_)
     refine ox1 9 ?_
     (refine ot_callC (X := SlX) (us := []) (vs := []) (fun x => .slice x.B Q.length x.c) (fun x => [.own (.slice x.B Q.length x.c) 3 1 Q.length (i64s Q)]) (fun _ => True) (fun x => mut_one rfl) (by decide) rfl rfl rfl rfl (by kernel_rfl) (evl_of rfl) rfl (fun w1 hs => hlj w1) (fun xq _ => ?_); refine ot_nil ?_; refine sla ?_)
     refine ox1 10 ?_
     (apply ot_v tk; (conv => whnf); refine sla ?_)
     refine ox1 12 ?_
     (apply ot_v tk; (conv => whnf); (apply VSt.mk; (focus (repeat (first | exact At.here | apply At.there)); done); exact rfl; (conv => whnf)); refine sla ?_)
     refine VT.mk (otx_end ?_)
     exact VJ.mk (g15, xp, xq) rfl ⟨rfl, rfl, rfl, rfl, rfl, rfl, rfl, rfl, trivial⟩ (by ((try dsimp only); (iterate 3 ((apply Pick.cons); (focus (repeat (first | exact Rem.here | apply Rem.there)); done))); exact Pick.of_sub (by (repeat (first | exact sl0 _ | exact sl1 _ | refine sl2 _ ?_ | refine sl3 _ ?_)))))
   ·(apply ot_v tk; (conv => whnf); (apply VNew.mk; intro g15 hg15; (conv => whnf)); refine sla ?_)
    refine ox1 4 ?_
    (refine ot_callC (X := SlX) (us := []) (vs := []) (fun x => .slice x.B P.length x.c) (fun x => [.own (.slice x.B P.length x.c) 3 1 P.length (i64s P)]) (fun _ => True) (fun x => mut_one rfl) (by decide) rfl rfl rfl rfl (by kernel_rfl) (evl_of rfl) rfl (fun w1 hs => hli w1) (fun xp _ => ?_); refine ot_nil ?_; refine sla ?_)
    refine ox1 9 ?_
    (refine ot_callC (X := SlX) (us := []) (vs := []) (fun x => .slice x.B Q.length x.c) (fun x => [.own (.slice x.B Q.length x.c) 3 1 Q.length (i64s Q)]) (fun _ => True) (fun x => mut_one rfl) (by decide) rfl rfl rfl rfl (by kernel_rfl) (evl_of rfl) rfl (fun w1 hs => hlj w1) (fun xq _ => ?_); refine ot_nil ?_; refine sla ?_)
    refine ox1 10 ?_
    (apply ot_v tk; (conv => whnf); refine sla ?_)
    refine ox1 12 ?_
    (apply ot_v tk; (conv => whnf); (apply VSt.mk; (focus (repeat (first | exact At.here | apply At.there)); done); exact rfl; (conv => whnf)); refine sla ?_)
    refine VT.mk (otx_end ?_)
    exact VJ.mk (g15, xp, xq) rfl ⟨rfl, rfl, rfl, rfl, rfl, rfl, rfl, rfl, trivial⟩ (by ((try dsimp only); (iterate 3 ((apply Pick.cons); (focus (repeat (first | exact Rem.here | apply Rem.there)); done))); exact Pick.of_sub (by (repeat (first | exact sl0 _ | exact sl1 _ | refine sl2 _ ?_ | refine sl3 _ ?_)))))
  rintro ⟨g15, xp, xq⟩
  dsimp only
  have hwd' := fun {A' w1} (hs : St w A' w1) (h : A1.Sublist A') => hwd hs hxx fun {d} hd => h.subset (hxA hd)
  have hct' := fun {A' w1} (hs : St w A' w1) (h : A1.Sublist A') => hct hs hxx fun {d} hd => h.subset (hxA hd)
  have hrt' := fun {A' w1} (hs : St w A' w1) (h : A1.Sublist A') => hrt hs hxx fun {d} hd => h.subset (hxA hd)
  cases other
  all_goals
   ((try first | apply tr_v tk | apply ot_v tk); (conv => whnf); (repeat ((first | ((first | apply VStop.mk | apply VCall.stop); (first | refine tr_region_lex (id := 9) (by kernel_rfl) [.rd, .rd, .rd, .cr, .cr, .rd] rfl (by kernel_rfl) ?_); try first | apply ot_v tk | apply tr_v tk) | (apply VLdN.mk; exact cells_blk_all (List.Sublist.subset (by ((repeat refine List.Sublist.cons _ ?_); first | exact List.Sublist.refl _ | exact List.sublist_append_left _ _ | exact List.Sublist.trans (List.sublist_append_left _ _) (List.sublist_append_left _ _) | exact List.Sublist.trans (List.sublist_append_left _ _) (List.Sublist.trans (List.sublist_append_left _ _) (List.sublist_append_left _ _)))) c5); exact rfl) | (apply VCall.q; kernel_rfl; (focus (intro w1 hs; first | ((with_reducible apply hcp0 hs); (all_goals (repeat (first | exact List.mem_cons_self | refine List.mem_cons_of_mem _ ?_)))) | ((with_reducible apply hcp1 hs); (all_goals (repeat (first | exact List.mem_cons_self | refine List.mem_cons_of_mem _ ?_))))))) | (apply VLdN.mk; (focus ((repeat (first | (with_reducible apply ldn_blk) | (with_reducible apply ldn_skip))); done)); exact rfl) | apply VBr.t | apply VBr.f | (apply VSt.mk; (focus ((repeat (first | (with_reducible exact At.here) | (with_reducible apply At.there))); done)); exact rfl)); (conv => whnf))); try (first | apply VStop.mk | apply VCall.stop))
   refine ot_callT (X := NumX) (us := []) (vs := []) (fun x => .slice x.x.1 R.length x.x.2) (fun x => []) (fun x => numCh R.length (givL C.length X by_ R.length) x) _ (fun x c hc => numCh_mut hc) (by decide) rfl rfl rfl rfl (by kernel_rfl) (evl_of rfl) rfl (fun w1 hs => hgi w1 (hs.tab hT) (hs.reads hby)) ?_
   intro y hyy
   (dsimp only [List.cons_append, List.nil_append]; apply ot_v tk)
   rcases hz4 with e4 | e4
   all_goals
    ((try first | apply tr_v tk | apply ot_v tk); (conv => whnf); (repeat ((first | ((first | apply VStop.mk | apply VCall.stop); (first | (refine ot_neb Try.underlying4 rfl rfl rfl rfl rfl ?_)); try first | apply ot_v tk | apply tr_v tk) | (apply VLdN.mk; exact cells_blk_all (List.Sublist.subset (by ((repeat refine List.Sublist.cons _ ?_); first | exact List.Sublist.refl _ | exact List.sublist_append_left _ _ | exact List.Sublist.trans (List.sublist_append_left _ _) (List.sublist_append_left _ _) | exact List.Sublist.trans (List.sublist_append_left _ _) (List.Sublist.trans (List.sublist_append_left _ _) (List.sublist_append_left _ _)))) c5); exact rfl) | (apply VCall.q; kernel_rfl; (focus (intro w1 hs; first | with_reducible apply hcg hs hyy (fun {d} hd => by (with_reducible (repeat refine List.mem_cons_of_mem _ ?_); first | exact hd | exact List.mem_append_left _ hd | exact List.mem_append_right _ hd | exact List.mem_append_left _ (List.mem_append_left _ hd) | exact List.mem_append_left _ (List.mem_append_right _ hd) | exact List.mem_append_left _ (List.mem_append_left _ (List.mem_append_left _ hd)) | exact List.mem_append_left _ (List.mem_append_left _ (List.mem_append_right _ hd)))) e4 | with_reducible apply hwd' hs (by ((repeat refine List.Sublist.cons _ ?_); first | exact List.Sublist.refl _ | exact List.sublist_append_left _ _ | exact List.Sublist.trans (List.sublist_append_left _ _) (List.sublist_append_left _ _) | exact List.Sublist.trans (List.sublist_append_left _ _) (List.Sublist.trans (List.sublist_append_left _ _) (List.sublist_append_left _ _)))) | with_reducible apply hct' hs (by ((repeat refine List.Sublist.cons _ ?_); first | exact List.Sublist.refl _ | exact List.sublist_append_left _ _ | exact List.Sublist.trans (List.sublist_append_left _ _) (List.sublist_append_left _ _) | exact List.Sublist.trans (List.sublist_append_left _ _) (List.Sublist.trans (List.sublist_append_left _ _) (List.sublist_append_left _ _)))) | with_reducible apply hrt' hs (by ((repeat refine List.Sublist.cons _ ?_); first | exact List.Sublist.refl _ | exact List.sublist_append_left _ _ | exact List.Sublist.trans (List.sublist_append_left _ _) (List.sublist_append_left _ _) | exact List.Sublist.trans (List.sublist_append_left _ _) (List.Sublist.trans (List.sublist_append_left _ _) (List.sublist_append_left _ _)))) | with_reducible apply works_any w1))) | apply VBr.t | apply VBr.f | (apply v_t; omega) | (apply v_f; omega)); (conv => whnf))); try (first | apply VStop.mk | apply VCall.stop))
    ((apply VRet.mk); refine ret1 (by first | exact .inl rfl | exact .inr rfl) rfl (by exact rv_tmp rfl) ?_; exact fun w h => ⟨rfl, h.base⟩)
 ·have ha := fun w1 (h : TabR w1 RA CA XA R C X) => truth_err RA rc CA cc XA xc R C X w1 h hV.fit (by rw [errT_no hV hH]; decide)
  rw [errT_no hV hH] at ha
  have h30 := fun w1 (h : TabR w1 RA CA XA R C X) => proof30_no RA rc CA cc XA xc R C X w1 h hV hH
  have e4 : chkTru R C X (givL C.length X by_ R.length) = 20 := by
   rcases hz4 with h | h
   ·exact absurd h (tru_no hV hH (givL_len _ _ _) givL_rows)
   ·exact h
  have hq1 := fun {A1 w1} (hs : St w A1 w1) (q : PfQ) (hq : PfGood R C X q) h1 h2 => checkProof_any RA rc CA cc XA xc R C X w1 (hs.tab hT) hV.fit q.B1 q.c1 q.P (hs.own_rd (t := 3) (c := q.c1) h1) (by have := hq.p4; omega) q.B2 q.c2 q.Q (hs.own_rd (t := 3) (c := q.c2) h2) (by have := hq.q4; omega) q.side
  have hq2 := fun {A1 w1} (hs : St w A1 w1) (q : PfQ) (hq : PfGood R C X q) h1 h2 => refProof_any RA rc CA cc XA xc R C X w1 (hs.tab hT) hV.fit q.B1 q.c1 q.P (hs.own_rd (t := 3) (c := q.c1) h1) (by have := hq.p4; omega) q.B2 q.c2 q.Q (hs.own_rd (t := 3) (c := q.c2) h2) (by have := hq.q4; omega) q.side
  unfold tabV proofV at *
  refine fn_k (n := 175) (A := []) Try.func8 rfl rfl (Nat.le_of_ble_eq_true rfl) (St.nil (Below.refl _ _)) ?_
  refine tr_seqK ?_
  ((try first | apply tr_v tk | apply ot_v tk); (conv => whnf); (repeat ((first | (apply VNew.mk; intro g hg)); (conv => whnf))); try (first | apply VStop.mk | apply VCall.stop))
  refine tr_seqK ?_
  ((try first | apply tr_v tk | apply ot_v tk); (conv => whnf); (repeat ((first | (apply VCall.q; kernel_rfl; (focus (intro w1 hs; first | with_reducible apply hfi w1 (hs.tab hT)))) | (apply VLdN.mk; (focus ((repeat (first | (with_reducible apply ldn_blk) | (with_reducible apply ldn_skip))); done)); exact rfl) | apply VBr.f | (apply v_f; omega)); (conv => whnf))); try (first | apply VStop.mk | apply VCall.stop))
  revert g hg
  intro g5 hg5
  refine tr_seqK ?_
  ((try first | apply tr_v tk | apply ot_v tk); (conv => whnf); (repeat ((first | (apply VCall.q; kernel_rfl; (focus (intro w1 hs; first | with_reducible apply ha w1 (hs.tab hT)))) | (apply VLdN.mk; (focus ((repeat (first | (with_reducible apply ldn_blk) | (with_reducible apply ldn_skip))); done)); exact rfl)); (conv => whnf))); try (first | apply VStop.mk | apply VCall.stop))
  refine tr_seqK ?_
  ((try first | apply tr_v tk | apply ot_v tk); (conv => whnf); (repeat ((first | (apply VLdN.mk; (focus ((repeat (first | (with_reducible apply ldn_blk) | (with_reducible apply ldn_skip))); done)); exact rfl)); (conv => whnf))); try (first | apply VStop.mk | apply VCall.stop))
  refine ot_callC (X := PfQ) (us := []) (vs := []) (fun x => .tuple #[pfV x, .int .i64 0]) pfCh (PfGood R C X) (fun x => pfCh_mut) (by decide) rfl rfl rfl rfl (by kernel_rfl) (evl_of rfl) rfl (fun w1 hs => h30 w1 (hs.tab hT)) (fun q hq => ?_)
  have hr1 := fun {A1 w1} hs => hq1 (A1 := A1) (w1 := w1) hs q hq
  have hr2 := fun {A1 w1} hs => hq2 (A1 := A1) (w1 := w1) hs q hq
  have q4 := hq.p4
  have q5 := hq.q4
  have hk := hq.pos
  rw [chkPr_ok hV hq.ok, if_neg (by omega)] at hr1 hr2
  dsimp only [pfV, pfCh, proofV, List.cons_append, List.nil_append]
  dsimp only at hr1 hr2
  generalize shP R C X q.P q.Q q.side = kq at *
  apply ot_v tk
  ((try first | apply tr_v tk | apply ot_v tk); (conv => whnf); (repeat ((first | (apply VNew.mk; intro g hg) | (apply VSt.mk; (focus ((repeat (first | (with_reducible exact At.here) | (with_reducible apply At.there))); done)); exact rfl)); (conv => whnf))); try (first | apply VStop.mk | apply VCall.stop))
  revert g hg
  intro g13 hg13
  refine tr_nameA2 ?_
  intro A1 hA1
  have c5 : .blk g5 25 [.slice RA R.length rc, .slice CA C.length cc, .slice XA X.length xc] ∈ A1 := by rw [hA1]; (repeat (first | exact List.Mem.head _ | assumption | refine List.Mem.tail _ ?_))
  have c13 : .blk g13 44 [.slice q.B1 q.P.length q.c1, .slice q.B2 q.Q.length q.c2, .int .i64 q.side] ∈ A1 := by rw [hA1]; exact .head _
  have d1 : .own (.slice q.B1 q.P.length q.c1) 3 1 q.P.length (i64s q.P) ∈ A1 := by rw [hA1]; (repeat (first | exact List.Mem.head _ | assumption | refine List.Mem.tail _ ?_))
  have d2 : .own (.slice q.B2 q.Q.length q.c2) 3 1 q.Q.length (i64s q.Q) ∈ A1 := by rw [hA1]; (repeat (first | exact List.Mem.head _ | assumption | refine List.Mem.tail _ ?_))
  clear hA1
  have hr1' := fun {A' w1} (hs : St w A' w1) (h : A1.Sublist A') => hr1 hs (h.subset d1) (h.subset d2)
  have hr2' := fun {A' w1} (hs : St w A' w1) (h : A1.Sublist A') => hr2 hs (h.subset d1) (h.subset d2)
  clear hr1 hr2 hq1 hq2
  refine tr_cut (fun y : Nat × SlX × SlX => ([(1, .slice BA by_.length bc), (4, .bool other), (5, .pointer (some ⟨g5, 0, none⟩)), (11, .slice none 0 0), (12, .int .i64 20), (13, .pointer (some ⟨g13, 0, none⟩)), (14, .int .i64 0), (15, .pointer (some ⟨y.1, 0, none⟩))], .blk y.1 44 [.slice y.2.1.B P.length y.2.1.c, .slice y.2.2.B Q.length y.2.2.c, .int .i64 0] :: .own (.slice y.2.1.B P.length y.2.1.c) 3 1 P.length (i64s P) :: .own (.slice y.2.2.B Q.length y.2.2.c) 3 1 Q.length (i64s Q) :: A1)) ?_ ?_
  ·((try first | apply tr_v tk | apply ot_v tk); (conv => whnf); (repeat ((first | ((first | apply VStop.mk | apply VCall.stop); (first | refine tr_region_treeV (id := 5) (by kernel_rfl) A1 (by (repeat (first | exact sl0 _ | exact sl1 _ | refine sl2 _ ?_ | refine sl3 _ ?_))) [0, 1, 2, 3, 5, 6, 7, 8] [4, 9, 10, 11, 12] [.rd, .rd, .rd, .rd, .rd, .rd, .rd, .rd] (fun i => [.wr, .wr, .wr, .wr, .cr, .wr, .wr, .wr, .wr, .cr, .wr, .cr, .wr].getD i .wr) _ rfl rfl (by kernel_rfl) ?_); try first | apply ot_v tk | apply tr_v tk) | (apply VLd.mk; exact cell_blk c5 rfl)); (conv => whnf))); try (first | apply VStop.mk | apply VCall.stop))
   refine ox2 4 11 ?_ ?_
   ·(refine ot_callC (X := SlX) (us := []) (vs := []) (fun x => .slice x.B P.length x.c) (fun x => [.own (.slice x.B P.length x.c) 3 1 P.length (i64s P)]) (fun _ => True) (fun x => mut_one rfl) (by decide) rfl rfl rfl rfl (by kernel_rfl) (evl_of rfl) rfl (fun w1 hs => hli w1) (fun xp _ => ?_); refine ot_nil ?_; refine sla ?_)
    refine ox2 9 11 ?_ ?_
    ·(refine ot_callC (X := SlX) (us := []) (vs := []) (fun x => .slice x.B Q.length x.c) (fun x => [.own (.slice x.B Q.length x.c) 3 1 Q.length (i64s Q)]) (fun _ => True) (fun x => mut_one rfl) (by decide) rfl rfl rfl rfl (by kernel_rfl) (evl_of rfl) rfl (fun w1 hs => hlj w1) (fun xq _ => ?_); refine ot_nil ?_; refine sla ?_)
     refine ox2 10 11 ?_ ?_
     ·(apply ot_v tk; (conv => whnf); refine sla ?_)
      refine ox1 11 ?_
      (apply ot_v tk; (conv => whnf); (apply VNew.mk; intro g15 hg15; (conv => whnf)); refine sla ?_)
      refine ox1 12 ?_
      (apply ot_v tk; (conv => whnf); (apply VSt.mk; (focus (repeat (first | exact At.here | apply At.there)); done); exact rfl; (conv => whnf)); refine sla ?_)
      refine VT.mk (otx_end ?_)
      exact VJ.mk (g15, xp, xq) rfl ⟨rfl, rfl, rfl, rfl, rfl, rfl, rfl, rfl, trivial⟩ (by ((try dsimp only); (iterate 3 ((apply Pick.cons); (focus (repeat (first | exact Rem.here | apply Rem.there)); done))); exact Pick.of_sub (by (repeat (first | exact sl0 _ | exact sl1 _ | refine sl2 _ ?_ | refine sl3 _ ?_)))))
     ·(apply ot_v tk; (conv => whnf); (apply VNew.mk; intro g15 hg15; (conv => whnf)); refine sla ?_)
      refine ox1 10 ?_
      (apply ot_v tk; (conv => whnf); refine sla ?_)
      refine ox1 12 ?_
      (apply ot_v tk; (conv => whnf); (apply VSt.mk; (focus (repeat (first | exact At.here | apply At.there)); done); exact rfl; (conv => whnf)); refine sla ?_)
      refine VT.mk (otx_end ?_)
      exact VJ.mk (g15, xp, xq) rfl ⟨rfl, rfl, rfl, rfl, rfl, rfl, rfl, rfl, trivial⟩ (by ((try dsimp only); (iterate 3 ((apply Pick.cons); (focus (repeat (first | exact Rem.here | apply Rem.there)); done))); exact Pick.of_sub (by (repeat (first | exact sl0 _ | exact sl1 _ | refine sl2 _ ?_ | refine sl3 _ ?_)))))
    ·(apply ot_v tk; (conv => whnf); (apply VNew.mk; intro g15 hg15; (conv => whnf)); refine sla ?_)
     refine ox1 9 ?_
     (refine ot_callC (X := SlX) (us := []) (vs := []) (fun x => .slice x.B Q.length x.c) (fun x => [.own (.slice x.B Q.length x.c) 3 1 Q.length (i64s Q)]) (fun _ => True) (fun x => mut_one rfl) (by decide) rfl rfl rfl rfl (by kernel_rfl) (evl_of rfl) rfl (fun w1 hs => hlj w1) (fun xq _ => ?_); refine ot_nil ?_; refine sla ?_)
     refine ox1 10 ?_
     (apply ot_v tk; (conv => whnf); refine sla ?_)
     refine ox1 12 ?_
     (apply ot_v tk; (conv => whnf); (apply VSt.mk; (focus (repeat (first | exact At.here | apply At.there)); done); exact rfl; (conv => whnf)); refine sla ?_)
     refine VT.mk (otx_end ?_)
     exact VJ.mk (g15, xp, xq) rfl ⟨rfl, rfl, rfl, rfl, rfl, rfl, rfl, rfl, trivial⟩ (by ((try dsimp only); (iterate 3 ((apply Pick.cons); (focus (repeat (first | exact Rem.here | apply Rem.there)); done))); exact Pick.of_sub (by (repeat (first | exact sl0 _ | exact sl1 _ | refine sl2 _ ?_ | refine sl3 _ ?_)))))
   ·(apply ot_v tk; (conv => whnf); (apply VNew.mk; intro g15 hg15; (conv => whnf)); refine sla ?_)
    refine ox1 4 ?_
    (refine ot_callC (X := SlX) (us := []) (vs := []) (fun x => .slice x.B P.length x.c) (fun x => [.own (.slice x.B P.length x.c) 3 1 P.length (i64s P)]) (fun _ => True) (fun x => mut_one rfl) (by decide) rfl rfl rfl rfl (by kernel_rfl) (evl_of rfl) rfl (fun w1 hs => hli w1) (fun xp _ => ?_); refine ot_nil ?_; refine sla ?_)
    refine ox1 9 ?_
    (refine ot_callC (X := SlX) (us := []) (vs := []) (fun x => .slice x.B Q.length x.c) (fun x => [.own (.slice x.B Q.length x.c) 3 1 Q.length (i64s Q)]) (fun _ => True) (fun x => mut_one rfl) (by decide) rfl rfl rfl rfl (by kernel_rfl) (evl_of rfl) rfl (fun w1 hs => hlj w1) (fun xq _ => ?_); refine ot_nil ?_; refine sla ?_)
    refine ox1 10 ?_
    (apply ot_v tk; (conv => whnf); refine sla ?_)
    refine ox1 12 ?_
    (apply ot_v tk; (conv => whnf); (apply VSt.mk; (focus (repeat (first | exact At.here | apply At.there)); done); exact rfl; (conv => whnf)); refine sla ?_)
    refine VT.mk (otx_end ?_)
    exact VJ.mk (g15, xp, xq) rfl ⟨rfl, rfl, rfl, rfl, rfl, rfl, rfl, rfl, trivial⟩ (by ((try dsimp only); (iterate 3 ((apply Pick.cons); (focus (repeat (first | exact Rem.here | apply Rem.there)); done))); exact Pick.of_sub (by (repeat (first | exact sl0 _ | exact sl1 _ | refine sl2 _ ?_ | refine sl3 _ ?_)))))
  rintro ⟨g15, xp, xq⟩
  dsimp only
  cases other
  ·rcases (hpr 0 (by omega)).2 with e3 | ⟨k3, hk3, e3⟩
   all_goals
    have hcp0 := fun {A1 w1} hs {B1 B2 c1 c2} h1 h2 => @hcp A1 w1 hs B1 B2 c1 c2 0 h1 h2
    rw [e3] at hcp0
    dsimp only at hcp0
    ((try first | apply tr_v tk | apply ot_v tk); (conv => whnf); (repeat ((first | ((first | apply VStop.mk | apply VCall.stop); (first | refine tr_region_lex (id := 9) (by kernel_rfl) [.rd, .rd, .rd, .cr, .cr, .rd] rfl (by kernel_rfl) ?_); try first | apply ot_v tk | apply tr_v tk) | (apply VLdN.mk; exact cells_blk_all (List.Sublist.subset (by ((repeat refine List.Sublist.cons _ ?_); first | exact List.Sublist.refl _ | exact List.sublist_append_left _ _ | exact List.Sublist.trans (List.sublist_append_left _ _) (List.sublist_append_left _ _) | exact List.Sublist.trans (List.sublist_append_left _ _) (List.Sublist.trans (List.sublist_append_left _ _) (List.sublist_append_left _ _)))) c5); exact rfl) | (apply VCall.q; kernel_rfl; (focus (intro w1 hs; first | ((with_reducible apply hcp0 hs); (all_goals (repeat (first | exact List.mem_cons_self | refine List.mem_cons_of_mem _ ?_))))))) | (apply VLdN.mk; (focus ((repeat (first | (with_reducible apply ldn_blk) | (with_reducible apply ldn_skip))); done)); exact rfl) | apply VBr.f); (conv => whnf))); try (first | apply VStop.mk | apply VCall.stop))
    refine ot_callT (X := NumX) (us := []) (vs := []) (fun x => .slice x.x.1 R.length x.x.2) (fun x => []) (fun x => numCh R.length (givL C.length X by_ R.length) x) _ (fun x c hc => numCh_mut hc) (by decide) rfl rfl rfl rfl (by kernel_rfl) (evl_of rfl) rfl (fun w1 hs => hgi w1 (hs.tab hT) (hs.reads hby)) ?_
    intro y hyy
    (dsimp only [List.cons_append, List.nil_append]; apply ot_v tk)
    ((try first | apply tr_v tk | apply ot_v tk); (conv => whnf); (repeat ((first | ((first | apply VStop.mk | apply VCall.stop); (first | (refine ot_neb Try.underlying4 rfl rfl rfl rfl rfl ?_)); try first | apply ot_v tk | apply tr_v tk) | (apply VLdN.mk; exact cells_blk_all (List.Sublist.subset (by ((repeat refine List.Sublist.cons _ ?_); first | exact List.Sublist.refl _ | exact List.sublist_append_left _ _ | exact List.Sublist.trans (List.sublist_append_left _ _) (List.sublist_append_left _ _) | exact List.Sublist.trans (List.sublist_append_left _ _) (List.Sublist.trans (List.sublist_append_left _ _) (List.sublist_append_left _ _)))) c5); exact rfl) | (apply VLdN.mk; exact cells_blk_all (List.Sublist.subset (by ((repeat refine List.Sublist.cons _ ?_); first | exact List.Sublist.refl _ | exact List.sublist_append_left _ _ | exact List.Sublist.trans (List.sublist_append_left _ _) (List.sublist_append_left _ _) | exact List.Sublist.trans (List.sublist_append_left _ _) (List.Sublist.trans (List.sublist_append_left _ _) (List.sublist_append_left _ _)))) c13); exact rfl) | (apply VLd.mk; exact cell_blk (List.Sublist.subset (by ((repeat refine List.Sublist.cons _ ?_); first | exact List.Sublist.refl _ | exact List.sublist_append_left _ _ | exact List.Sublist.trans (List.sublist_append_left _ _) (List.sublist_append_left _ _) | exact List.Sublist.trans (List.sublist_append_left _ _) (List.Sublist.trans (List.sublist_append_left _ _) (List.sublist_append_left _ _)))) c13) rfl) | (apply VCall.q; kernel_rfl; (focus (intro w1 hs; first | with_reducible apply hcg hs hyy (fun {d} hd => by (with_reducible (repeat refine List.mem_cons_of_mem _ ?_); first | exact hd | exact List.mem_append_left _ hd | exact List.mem_append_right _ hd | exact List.mem_append_left _ (List.mem_append_left _ hd) | exact List.mem_append_left _ (List.mem_append_right _ hd) | exact List.mem_append_left _ (List.mem_append_left _ (List.mem_append_left _ hd)) | exact List.mem_append_left _ (List.mem_append_left _ (List.mem_append_right _ hd)))) e4 | with_reducible apply hr1' hs (by ((repeat refine List.Sublist.cons _ ?_); first | exact List.Sublist.refl _ | exact List.sublist_append_left _ _ | exact List.Sublist.trans (List.sublist_append_left _ _) (List.sublist_append_left _ _) | exact List.Sublist.trans (List.sublist_append_left _ _) (List.Sublist.trans (List.sublist_append_left _ _) (List.sublist_append_left _ _)))) | with_reducible apply hr2' hs (by ((repeat refine List.Sublist.cons _ ?_); first | exact List.Sublist.refl _ | exact List.sublist_append_left _ _ | exact List.Sublist.trans (List.sublist_append_left _ _) (List.sublist_append_left _ _) | exact List.Sublist.trans (List.sublist_append_left _ _) (List.Sublist.trans (List.sublist_append_left _ _) (List.sublist_append_left _ _)))) | with_reducible apply works_any w1))) | apply VBr.t | apply VBr.f | (apply v_t; omega) | (apply v_f; omega)); (conv => whnf))); try (first | apply VStop.mk | apply VCall.stop))
    ((apply VRet.mk); refine ret1 (by first | exact .inl rfl | exact .inr rfl) rfl (by exact rv_tmp rfl) ?_; exact fun w h => ⟨rfl, h.base⟩)
  ·rcases (hpr 1 (by omega)).2 with e3 | ⟨k3, hk3, e3⟩
   all_goals
    have hcp1 := fun {A1 w1} hs {B1 B2 c1 c2} h1 h2 => @hcp A1 w1 hs B1 B2 c1 c2 1 h1 h2
    rw [e3] at hcp1
    dsimp only at hcp1
    ((try first | apply tr_v tk | apply ot_v tk); (conv => whnf); (repeat ((first | ((first | apply VStop.mk | apply VCall.stop); (first | refine tr_region_lex (id := 9) (by kernel_rfl) [.rd, .rd, .rd, .cr, .cr, .rd] rfl (by kernel_rfl) ?_); try first | apply ot_v tk | apply tr_v tk) | (apply VLdN.mk; exact cells_blk_all (List.Sublist.subset (by ((repeat refine List.Sublist.cons _ ?_); first | exact List.Sublist.refl _ | exact List.sublist_append_left _ _ | exact List.Sublist.trans (List.sublist_append_left _ _) (List.sublist_append_left _ _) | exact List.Sublist.trans (List.sublist_append_left _ _) (List.Sublist.trans (List.sublist_append_left _ _) (List.sublist_append_left _ _)))) c5); exact rfl) | (apply VCall.q; kernel_rfl; (focus (intro w1 hs; first | ((with_reducible apply hcp1 hs); (all_goals (repeat (first | exact List.mem_cons_self | refine List.mem_cons_of_mem _ ?_))))))) | (apply VLdN.mk; (focus ((repeat (first | (with_reducible apply ldn_blk) | (with_reducible apply ldn_skip))); done)); exact rfl) | apply VBr.t | (apply VSt.mk; (focus ((repeat (first | (with_reducible exact At.here) | (with_reducible apply At.there))); done)); exact rfl)); (conv => whnf))); try (first | apply VStop.mk | apply VCall.stop))
    refine ot_callT (X := NumX) (us := []) (vs := []) (fun x => .slice x.x.1 R.length x.x.2) (fun x => []) (fun x => numCh R.length (givL C.length X by_ R.length) x) _ (fun x c hc => numCh_mut hc) (by decide) rfl rfl rfl rfl (by kernel_rfl) (evl_of rfl) rfl (fun w1 hs => hgi w1 (hs.tab hT) (hs.reads hby)) ?_
    intro y hyy
    (dsimp only [List.cons_append, List.nil_append]; apply ot_v tk)
    ((try first | apply tr_v tk | apply ot_v tk); (conv => whnf); (repeat ((first | ((first | apply VStop.mk | apply VCall.stop); (first | (refine ot_neb Try.underlying4 rfl rfl rfl rfl rfl ?_)); try first | apply ot_v tk | apply tr_v tk) | (apply VLdN.mk; exact cells_blk_all (List.Sublist.subset (by ((repeat refine List.Sublist.cons _ ?_); first | exact List.Sublist.refl _ | exact List.sublist_append_left _ _ | exact List.Sublist.trans (List.sublist_append_left _ _) (List.sublist_append_left _ _) | exact List.Sublist.trans (List.sublist_append_left _ _) (List.Sublist.trans (List.sublist_append_left _ _) (List.sublist_append_left _ _)))) c5); exact rfl) | (apply VLdN.mk; exact cells_blk_all (List.Sublist.subset (by ((repeat refine List.Sublist.cons _ ?_); first | exact List.Sublist.refl _ | exact List.sublist_append_left _ _ | exact List.Sublist.trans (List.sublist_append_left _ _) (List.sublist_append_left _ _) | exact List.Sublist.trans (List.sublist_append_left _ _) (List.Sublist.trans (List.sublist_append_left _ _) (List.sublist_append_left _ _)))) c13); exact rfl) | (apply VLd.mk; exact cell_blk (List.Sublist.subset (by ((repeat refine List.Sublist.cons _ ?_); first | exact List.Sublist.refl _ | exact List.sublist_append_left _ _ | exact List.Sublist.trans (List.sublist_append_left _ _) (List.sublist_append_left _ _) | exact List.Sublist.trans (List.sublist_append_left _ _) (List.Sublist.trans (List.sublist_append_left _ _) (List.sublist_append_left _ _)))) c13) rfl) | (apply VCall.q; kernel_rfl; (focus (intro w1 hs; first | with_reducible apply hcg hs hyy (fun {d} hd => by (with_reducible (repeat refine List.mem_cons_of_mem _ ?_); first | exact hd | exact List.mem_append_left _ hd | exact List.mem_append_right _ hd | exact List.mem_append_left _ (List.mem_append_left _ hd) | exact List.mem_append_left _ (List.mem_append_right _ hd) | exact List.mem_append_left _ (List.mem_append_left _ (List.mem_append_left _ hd)) | exact List.mem_append_left _ (List.mem_append_left _ (List.mem_append_right _ hd)))) e4 | with_reducible apply hr1' hs (by ((repeat refine List.Sublist.cons _ ?_); first | exact List.Sublist.refl _ | exact List.sublist_append_left _ _ | exact List.Sublist.trans (List.sublist_append_left _ _) (List.sublist_append_left _ _) | exact List.Sublist.trans (List.sublist_append_left _ _) (List.Sublist.trans (List.sublist_append_left _ _) (List.sublist_append_left _ _)))) | with_reducible apply hr2' hs (by ((repeat refine List.Sublist.cons _ ?_); first | exact List.Sublist.refl _ | exact List.sublist_append_left _ _ | exact List.Sublist.trans (List.sublist_append_left _ _) (List.sublist_append_left _ _) | exact List.Sublist.trans (List.sublist_append_left _ _) (List.Sublist.trans (List.sublist_append_left _ _) (List.sublist_append_left _ _)))) | with_reducible apply works_any w1))) | apply VBr.t | apply VBr.f | (apply v_t; omega) | (apply v_f; omega)); (conv => whnf))); try (first | apply VStop.mk | apply VCall.stop))
    ((apply VRet.mk); refine ret1 (by first | exact .inl rfl | exact .inr rfl) rfl (by exact rv_tmp rfl) ?_; exact fun w h => ⟨rfl, h.base⟩)
end
end Go.Proofs.Ytalcccgialpjgaa
