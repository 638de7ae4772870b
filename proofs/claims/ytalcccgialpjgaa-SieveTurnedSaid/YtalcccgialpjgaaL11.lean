/- SieveTurned: lemmas for the rows of this seat. No conditions. -/
import Derived.Test.YtalcccgialpjgaaN19
import Derived.Test.YtalcccgialpjgaaM27
import Derived.Test.YtalcccgialpjgaaQ3
import Derived.Test.YtalcccgialpjgaaN31
import Derived.Test.YtalcccgialpjgaaL1
set_option linter.all false
namespace Go.Proofs.Ytalcccgialpjgaa
open Go.RowKit
/-! ## SieveTurned -/
section
variable (RA : Option Addr) (rc : Nat) (CA : Option Addr) (cc : Nat) (XA : Option Addr) (xc : Nat) (R C : List R2) (X : List (List R2)) (w : World) (hT : TabR w RA CA XA R C X)
include hT
theorem turned_anyN (hV : Valid R C X) : Calls Try.prog 49 #[tabV RA rc CA cc XA xc R C X] w fun e w' => ∃ x : TabX, e = .returned (tabX x C R (turnX R.length C.length X)) ∧ x.xs.length = (turnX R.length C.length X).length ∧ St w ([] ++ tabCh C R (turnX R.length C.length X) x) w' := turned_any RA rc CA cc XA xc R C X w hT hV
set_option maxHeartbeats 40000000 in
set_option maxRecDepth 20000 in
theorem law11_any (hx : X.length ≤ maxLen) (b1 b2 b3 b4 : Nat) (hb1 : b1 < 256) (hb2 : b2 < 256) (hb3 : b3 < 256) (hb4 : b4 < 256) :
  Calls Try.prog 11 #[tabV RA rc CA cc XA xc R C X, .int .u8 (b1 : Int), .int .u8 (b2 : Int), .int .u8 (b3 : Int), .int .u8 (b4 : Int)] w fun e w' => e = .returned (.bool true) ∧ Below w.heap.size w w' := by
 by_cases hV : Valid R C X
 rotate_left
 ·have hfi := fun w1 (h : TabR w1 RA CA XA R C X) => fine_no RA rc CA cc XA xc R C X w1 h hx hV
  unfold tabV at *
  refine fn_v tk (n := 177) (A := []) Try.func11 rfl rfl (Nat.le_of_ble_eq_true rfl) (St.nil (Below.refl _ _)) ?_
  ((conv => whnf); (repeat ((first | (apply VCall.q; kernel_rfl; (focus (intro w1 hs; first | with_reducible apply hfi w1 (hs.tab hT) | with_reducible apply works_any w1))) | (apply VLdN.mk; (focus ((repeat (first | (with_reducible apply ldn_blk) | (with_reducible apply ldn_skip))); done)); exact rfl) | apply VBr.t | (apply VNew.mk; intro g hg)); (conv => whnf))))
  ((apply VRet.mk); refine ret1 (by first | exact .inl rfl | exact .inr rfl) rfl (by exact rv_tmp rfl) ?_; exact fun w h => ⟨rfl, h.base⟩)
 have hfi := fun w1 (h : TabR w1 RA CA XA R C X) => fine_yes RA rc CA cc XA xc R C X w1 h hV
 have hn := hV.r4
 have hm := hV.c4
 have hn1 := hV.r1
 have hm1 := hV.c1
 obtain ⟨i, hi, ei⟩ := byte_mod b3 R.length hn1
 obtain ⟨k, hk, ek⟩ := byte_mod b4 C.length hm1
 have hVt := hV.turn
 have htu := fun w1 (h : TabR w1 RA CA XA R C X) => turned_anyN RA rc CA cc XA xc R C X w1 h hV
 have hli := fun w1 => listed_any b1 hb1 R.length (by omega) w1
 have hlj := fun w1 => listed_any b2 hb2 C.length (by omega) w1
 have lP := listedL_le b1 R.length
 have lQ := listedL_le b2 C.length
 have hct := chkPr_turn hV (listedL b1 R.length) (listedL b2 C.length)
 generalize hP : listedL b1 R.length = P at *
 generalize hQ : listedL b2 C.length = Q at *
 have hcp := fun {A1 w1} (hs : St w A1 w1) {B1 B2 : Option Addr} {c1 c2 : Nat} (h1 : .own (.slice B1 P.length c1) 3 1 P.length (i64s P) ∈ A1) (h2 : .own (.slice B2 Q.length c2) 3 1 Q.length (i64s Q) ∈ A1) => checkProof_any RA rc CA cc XA xc R C X w1 (hs.tab hT) hV.fit B1 c1 _ (hs.own_rd h1) (by omega) B2 c2 _ (hs.own_rd h2) (by omega) 0
 have hcq := fun {A1 w1} (hs : St w A1 w1) {z : TabX} (hz : z.xs.length = (turnX R.length C.length X).length) (h : ∀ {d}, d ∈ tabCh C R (turnX R.length C.length X) z → d ∈ A1) {B1 B2 : Option Addr} {c1 c2 : Nat} (h1 : .own (.slice B1 P.length c1) 3 1 P.length (i64s P) ∈ A1) (h2 : .own (.slice B2 Q.length c2) 3 1 Q.length (i64s Q) ∈ A1) => checkProof_any z.r.1 z.r.2 z.c.1 z.c.2 z.x.1 z.x.2 C R (turnX R.length C.length X) w1 (hs.tabX' z hz h) hVt.fit B2 c2 _ (hs.own_rd h2) (by omega) B1 c1 _ (hs.own_rd h1) (by omega) 1
 rw [hct] at hcq
 have hce := fun w1 (h : TabR w1 RA CA XA R C X) => cell25_any RA rc CA cc XA xc R C X w1 h hV.fit i k
 have hcf := fun {A1 w1} (hs : St w A1 w1) {z : TabX} (hz : z.xs.length = (turnX R.length C.length X).length) (h : ∀ {d}, d ∈ tabCh C R (turnX R.length C.length X) z → d ∈ A1) => cell25_any z.r.1 z.r.2 z.c.1 z.c.2 z.x.1 z.x.2 C R (turnX R.length C.length X) w1 (hs.tabX' z hz h) hVt.fit k i
 have hal := fun w1 (h : TabR w1 RA CA XA R C X) => all_any RA rc CA cc XA xc R C X w1 h hV.fit
 have ham := fun {A1 w1} (hs : St w A1 w1) {z : TabX} (hz : z.xs.length = (turnX R.length C.length X).length) (h : ∀ {d}, d ∈ tabCh C R (turnX R.length C.length X) z → d ∈ A1) => all_any z.r.1 z.r.2 z.c.1 z.c.2 z.x.1 z.x.2 C R (turnX R.length C.length X) w1 (hs.tabX' z hz h) hVt.fit
 have hpr2 : ∃ p1 p2, chkPr R C X P Q 0 = (p1, p2) := ⟨_, _, rfl⟩
 obtain ⟨p1, p2, epr⟩ := hpr2
 rw [epr] at hcp hcq
 dsimp only at hcp hcq
 by_cases hH : HasT R C X
 ·have hHt := hasT_turn.2 hH
  rw [cellA_ok hV hH hi hk] at hce
  rw [cellA_ok hVt hHt hk hi, cellR_turn] at hcf
  rw [allA_ok hV hH] at hal
  rw [allA_ok hVt hHt, allR_turn] at ham
  have hna := fun w1 (h : TabR w1 RA CA XA R C X) => narrow_okN RA rc CA cc XA xc R C X w1 h hV hH
  have hnb := fun {A1 w1} (hs : St w A1 w1) {z : TabX} (hz : z.xs.length = (turnX R.length C.length X).length) (h : ∀ {d}, d ∈ tabCh C R (turnX R.length C.length X) z → d ∈ A1) => narrow_okN z.r.1 z.r.2 z.c.1 z.c.2 z.x.1 z.x.2 C R (turnX R.length C.length X) w1 (hs.tabX' z hz h) hVt hHt
  have hnt := nr_turn R C X
  rw [hnt.1, hnt.2.1, hnt.2.2] at hnb
  have hVn := nr_valid hV hH
  have hVm := nr_valid hVt hHt
  rw [hnt.1, hnt.2.1, hnt.2.2] at hVm
  have lr : (nrR R C X R.length).length = R.length := nrR_len _
  have lc : (nrC R C X C.length).length = C.length := nrC_len _
  clear hnt hct
  generalize nrR R C X R.length = NR at *
  generalize nrC R C X C.length = NC at *
  generalize nrX R C X R.length = NX at *
  have etn : turnX NR.length NC.length NX = turnX R.length C.length NX := by rw [lr, lc]
  have hfv := fun {A1 w1} (hs : St w A1 w1) {z : TabX} (hz : z.xs.length = NX.length) (h : ∀ {d}, d ∈ tabCh NR NC NX z → d ∈ A1) => fine_yes z.r.1 z.r.2 z.c.1 z.c.2 z.x.1 z.x.2 NR NC NX w1 (hs.tabX' z hz h) hVn
  have htv := fun {A1 w1} (hs : St w A1 w1) {z : TabX} (hz : z.xs.length = NX.length) (h : ∀ {d}, d ∈ tabCh NR NC NX z → d ∈ A1) => turned_anyN z.r.1 z.r.2 z.c.1 z.c.2 z.x.1 z.x.2 NR NC NX w1 (hs.tabX' z hz h) hVn
  rw [etn] at htv
  generalize turnX R.length C.length NX = MX at *
  have e1 := hVm.r4
  have e2 := hVm.c4
  have e3 := hVm.x
  have hfw := fun {A1 w1} (hs : St w A1 w1) {z : TabX} (hz : z.xs.length = MX.length) (h : ∀ {d}, d ∈ tabCh NC NR MX z → d ∈ A1) => fine_yes z.r.1 z.r.2 z.c.1 z.c.2 z.x.1 z.x.2 NC NR MX w1 (hs.tabX' z hz h) hVm
  have hsa : ∀ {A1 w1}, St w A1 w1 → ∀ {x y : TabX}, x.xs.length = MX.length → y.xs.length = MX.length → (∀ {d}, d ∈ tabCh NC NR MX x → d ∈ A1) → (∀ {d}, d ∈ tabCh NC NR MX y → d ∈ A1) → Calls Try.prog 41 #[tabX x NC NR MX, tabX y NC NR MX] w1 fun e w' => e = .returned (.bool true) ∧ Below w1.heap.size w1 w' := fun {A1 w1} hs {x y} hx hy h1 h2 => same_any _ _ _ _ _ _ _ _ _ _ _ _ NC NR MX w1 (hs.tabX' x hx h1) (hs.tabX' y hy h2) (by unfold maxLen; omega) (by unfold maxLen; omega) (by unfold maxLen; omega) (fun s hs' => by rw [hVm.xs s hs']; unfold maxLen; omega)
  generalize cellR R C X i k = cr at *
  obtain ⟨r1, r2⟩ := cr
  generalize allR R C X = ar at *
  obtain ⟨a1, a2⟩ := ar
  have hrs := fun w => rng_same r1 r2 w
  have hrs2 := fun w => rng_same a1 a2 w
  generalize turnX R.length C.length X = TX at *
  unfold tabX tabV proofV resV at *
  dsimp only at hce hcf hal ham
  refine fn_k (n := 177) (A := []) Try.func11 rfl rfl (Nat.le_of_ble_eq_true rfl) (St.nil (Below.refl _ _)) ?_
  refine tr_seqK ?_
  (apply tr_v tk; (conv => whnf); (repeat ((apply VNew.mk; intro g hg); (conv => whnf))); apply VStop.mk)
  refine tr_seqK ?_
  (apply tr_v tk; (conv => whnf); (repeat ((first | (apply VCall.q; kernel_rfl; (focus (intro w1 hs; first | with_reducible apply hfi w1 (hs.tab hT)))) | (apply VLdN.mk; (focus ((repeat (first | (with_reducible apply ldn_blk) | (with_reducible apply ldn_skip))); done)); exact rfl) | apply VBr.f); (conv => whnf))); apply VStop.mk)
  revert g hg
  intro g5 hg5
  refine tr_seqK ?_
  (apply tr_v tk; (conv => whnf); (repeat ((apply VLdN.mk; (focus ((repeat (first | (with_reducible apply ldn_blk) | (with_reducible apply ldn_skip))); done)); exact rfl); (conv => whnf))); apply VCall.stop)
  refine ot_callT (X := TabX) (us := []) (vs := []) (fun x => .agg #[.slice x.r.1 C.length x.r.2, .slice x.c.1 R.length x.c.2, .slice x.x.1 TX.length x.x.2]) (fun x => []) (fun x => tabCh C R TX x) _ (fun x c hc => tabCh_mut' hc) (by decide) rfl rfl rfl rfl (by kernel_rfl) (evl_of rfl) rfl (fun w1 hs => htu w1 (hs.tab hT)) ?_
  intro z hz
  (dsimp only [List.cons_append, List.nil_append]; apply ot_v tk)
  ((conv => whnf); (repeat ((first | (apply VNew.mk; intro g hg) | (apply VSt.mk; (focus ((repeat (first | (with_reducible exact At.here) | (with_reducible apply At.there))); done)); exact rfl)); (conv => whnf))); apply VStop.mk)
  revert g hg
  intro g11 hg11
  refine tr_nameA2 ?_
  intro A1 hA1
  have c5 : .blk g5 25 [.slice RA R.length rc, .slice CA C.length cc, .slice XA X.length xc] ∈ A1 := by rw [hA1]; exact .tail _ (.head _)
  have c11 : .blk g11 25 [.slice z.r.1 C.length z.r.2, .slice z.c.1 R.length z.c.2, .slice z.x.1 TX.length z.x.2] ∈ A1 := by rw [hA1]; exact .head _
  have hzA : ∀ {d}, d ∈ tabCh C R TX z → d ∈ A1 := fun {d} hd => by rw [hA1]; exact .tail _ (.tail _ hd)
  clear hA1
  refine tr_cut (fun y : Nat × SlX × SlX => ([(3, .int .u8 (b3 : Int)), (4, .int .u8 (b4 : Int)), (5, .pointer (some ⟨g5, 0, none⟩)), (11, .pointer (some ⟨g11, 0, none⟩)), (12, .pointer (some ⟨y.1, 0, none⟩))], .blk y.1 44 [.slice y.2.1.B P.length y.2.1.c, .slice y.2.2.B Q.length y.2.2.c, .int .i64 0] :: .own (.slice y.2.1.B P.length y.2.1.c) 3 1 P.length (i64s P) :: .own (.slice y.2.2.B Q.length y.2.2.c) 3 1 Q.length (i64s Q) :: A1)) ?_ ?_
  ·(apply tr_v tk; (conv => whnf); (repeat ((first | (apply VStop.mk; refine tr_region_treeV (id := 4) (by kernel_rfl) A1 (by (repeat (first | exact sl0 _ | exact sl1 _ | refine sl2 _ ?_ | refine sl3 _ ?_))) [0, 1, 2, 3, 5, 6, 7, 8] [4, 9, 10, 11, 12] [.rd, .rd, .rd, .rd, .rd, .rd, .rd, .rd] (fun i => [.wr, .wr, .wr, .wr, .cr, .wr, .wr, .wr, .wr, .cr, .wr, .cr, .wr].getD i .wr) _ rfl rfl (by kernel_rfl) ?_; apply ot_v tk) | (apply VLd.mk; exact cell_blk c5 rfl)); (conv => whnf))))
   refine ox2 4 11 ?_ ?_
   ·(refine ot_callC (X := SlX) (us := []) (vs := []) (fun x => .slice x.B P.length x.c) (fun x => [.own (.slice x.B P.length x.c) 3 1 P.length (i64s P)]) (fun _ => True) (fun x => mut_one rfl) (by decide) rfl rfl rfl rfl (by kernel_rfl) (evl_of rfl) rfl (fun w1 hs => hli w1) (fun xp _ => ?_); refine ot_nil ?_; refine sla ?_)
    refine ox2 9 11 ?_ ?_
    ·(refine ot_callC (X := SlX) (us := []) (vs := []) (fun x => .slice x.B Q.length x.c) (fun x => [.own (.slice x.B Q.length x.c) 3 1 Q.length (i64s Q)]) (fun _ => True) (fun x => mut_one rfl) (by decide) rfl rfl rfl rfl (by kernel_rfl) (evl_of rfl) rfl (fun w1 hs => hlj w1) (fun xq _ => ?_); refine ot_nil ?_; refine sla ?_)
     refine ox2 10 11 ?_ ?_
     ·(apply ot_v tk; (conv => whnf); refine sla ?_)
      refine ox1 11 ?_
      (apply ot_v tk; (conv => whnf); (apply VNew.mk; intro g15 hg15; (conv => whnf)); refine sla ?_)
      refine ox1 12 ?_
      (apply ot_v tk; (conv => whnf); (apply VSt.mk; (focus (repeat (first | exact At.here | apply At.there)); done); exact rfl; (conv => whnf)); refine sla ?_)
      refine VT.mk (otx_end ?_)
      exact VJ.mk (g15, xp, xq) rfl ⟨rfl, rfl, rfl, rfl, rfl, trivial⟩ (by ((try dsimp only); (iterate 3 ((apply Pick.cons); (focus (repeat (first | exact Rem.here | apply Rem.there)); done))); exact Pick.of_sub (by (repeat (first | exact sl0 _ | exact sl1 _ | refine sl2 _ ?_ | refine sl3 _ ?_)))))
     ·(apply ot_v tk; (conv => whnf); (apply VNew.mk; intro g15 hg15; (conv => whnf)); refine sla ?_)
      refine ox1 10 ?_
      (apply ot_v tk; (conv => whnf); refine sla ?_)
      refine ox1 12 ?_
      (apply ot_v tk; (conv => whnf); (apply VSt.mk; (focus (repeat (first | exact At.here | apply At.there)); done); exact rfl; (conv => whnf)); refine sla ?_)
      refine VT.mk (otx_end ?_)
      exact VJ.mk (g15, xp, xq) rfl ⟨rfl, rfl, rfl, rfl, rfl, trivial⟩ (by ((try dsimp only); (iterate 3 ((apply Pick.cons); (focus (repeat (first | exact Rem.here | apply Rem.there)); done))); exact Pick.of_sub (by (repeat (first | exact sl0 _ | exact sl1 _ | refine sl2 _ ?_ | refine sl3 _ ?_)))))
    ·(apply ot_v tk; (conv => whnf); (apply VNew.mk; intro g15 hg15; (conv => whnf)); refine sla ?_)
     refine ox1 9 ?_
     (refine ot_callC (X := SlX) (us := []) (vs := []) (fun x => .slice x.B Q.length x.c) (fun x => [.own (.slice x.B Q.length x.c) 3 1 Q.length (i64s Q)]) (fun _ => True) (fun x => mut_one rfl) (by decide) rfl rfl rfl rfl (by kernel_rfl) (evl_of rfl) rfl (fun w1 hs => hlj w1) (fun xq _ => ?_); refine ot_nil ?_; refine sla ?_)
     refine ox1 10 ?_
     (apply ot_v tk; (conv => whnf); refine sla ?_)
     refine ox1 12 ?_
     (apply ot_v tk; (conv => whnf); (apply VSt.mk; (focus (repeat (first | exact At.here | apply At.there)); done); exact rfl; (conv => whnf)); refine sla ?_)
     refine VT.mk (otx_end ?_)
     exact VJ.mk (g15, xp, xq) rfl ⟨rfl, rfl, rfl, rfl, rfl, trivial⟩ (by ((try dsimp only); (iterate 3 ((apply Pick.cons); (focus (repeat (first | exact Rem.here | apply Rem.there)); done))); exact Pick.of_sub (by (repeat (first | exact sl0 _ | exact sl1 _ | refine sl2 _ ?_ | refine sl3 _ ?_)))))
   ·(apply ot_v tk; (conv => whnf); (apply VNew.mk; intro g15 hg15; (conv => whnf)); refine sla ?_)
    refine ox1 4 ?_
    (refine ot_callC (X := SlX) (us := []) (vs := []) (fun x => .slice x.B P.length x.c) (fun x => [.own (.slice x.B P.length x.c) 3 1 P.length (i64s P)]) (fun _ => True) (fun x => mut_one rfl) (by decide) rfl rfl rfl rfl (by kernel_rfl) (evl_of rfl) rfl (fun w1 hs => hli w1) (fun xp _ => ?_); refine ot_nil ?_; refine sla ?_)
    refine ox1 9 ?_
    (refine ot_callC (X := SlX) (us := []) (vs := []) (fun x => .slice x.B Q.length x.c) (fun x => [.own (.slice x.B Q.length x.c) 3 1 Q.length (i64s Q)]) (fun _ => True) (fun x => mut_one rfl) (by decide) rfl rfl rfl rfl (by kernel_rfl) (evl_of rfl) rfl (fun w1 hs => hlj w1) (fun xq _ => ?_); refine ot_nil ?_; refine sla ?_)
    refine ox1 10 ?_
    (apply ot_v tk; (conv => whnf); refine sla ?_)
    refine ox1 12 ?_
    (apply ot_v tk; (conv => whnf); (apply VSt.mk; (focus (repeat (first | exact At.here | apply At.there)); done); exact rfl; (conv => whnf)); refine sla ?_)
    refine VT.mk (otx_end ?_)
    exact VJ.mk (g15, xp, xq) rfl ⟨rfl, rfl, rfl, rfl, rfl, trivial⟩ (by ((try dsimp only); (iterate 3 ((apply Pick.cons); (focus (repeat (first | exact Rem.here | apply Rem.there)); done))); exact Pick.of_sub (by (repeat (first | exact sl0 _ | exact sl1 _ | refine sl2 _ ?_ | refine sl3 _ ?_)))))
  rintro ⟨g12, xp, xq⟩
  dsimp only
  refine tr_nameA2 ?_
  intro A2 hA2
  have hsub : A1.Sublist A2 := by rw [hA2]; ((repeat refine List.Sublist.cons _ ?_); first | exact List.Sublist.refl _ | exact List.sublist_append_left _ _ | exact List.Sublist.trans (List.sublist_append_left _ _) (List.sublist_append_left _ _) | exact List.Sublist.trans (List.sublist_append_left _ _) (List.Sublist.trans (List.sublist_append_left _ _) (List.sublist_append_left _ _)))
  have c12 : .blk g12 44 [.slice xp.B P.length xp.c, .slice xq.B Q.length xq.c, .int .i64 0] ∈ A2 := by rw [hA2]; exact .head _
  have d1 : .own (.slice xp.B P.length xp.c) 3 1 P.length (i64s P) ∈ A2 := by rw [hA2]; exact .tail _ (.head _)
  have d2 : .own (.slice xq.B Q.length xq.c) 3 1 Q.length (i64s Q) ∈ A2 := by rw [hA2]; exact .tail _ (.tail _ (.head _))
  clear hA2
  replace c5 := hsub.subset c5
  replace c11 := hsub.subset c11
  have hzA : ∀ {d}, d ∈ tabCh C R TX z → d ∈ A2 := fun {d} hd => hsub.subset (hzA hd)
  have kcp := fun {A' w1} (hs : St w A' w1) (h : A2.Sublist A') => hcp hs (h.subset d1) (h.subset d2)
  have kcq := fun {A' w1} (hs : St w A' w1) (h : A2.Sublist A') => hcq hs hz (fun {d} hd => h.subset (hzA hd)) (h.subset d1) (h.subset d2)
  have kcf := fun {A' w1} (hs : St w A' w1) (h : A2.Sublist A') => hcf hs hz (fun {d} hd => h.subset (hzA hd))
  have kam := fun {A' w1} (hs : St w A' w1) (h : A2.Sublist A') => ham hs hz (fun {d} hd => h.subset (hzA hd))
  have knb := fun {A' w1} (hs : St w A' w1) (h : A2.Sublist A') => hnb hs hz (fun {d} hd => h.subset (hzA hd))
  clear hcp hcq hcf ham hnb htu hli hlj
  refine tr_seqK ?_
  (apply tr_v tk; (conv => whnf); (repeat ((first | (apply VLd.mk; first | exact cell_blk (List.Sublist.subset sb c12) rfl | exact cell_blk (List.Sublist.subset sb c5) rfl) | (apply VNew.mk; intro g hg) | (apply VSt.mk; (focus ((repeat (first | (with_reducible exact At.here) | (with_reducible apply At.there))); done)); exact rfl)); (conv => whnf))); apply VStop.mk)
  refine tr_seqK ?_
  (apply tr_v tk; (conv => whnf); (repeat ((first | (apply VStop.mk; refine tr_region_lex (id := 6) (by kernel_rfl) [.rd, .rd, .rd, .rd, .rd, .rd, .rd, .rd, .rd, .rd, .rd, .rd, .rd, .rd] rfl (by kernel_rfl) ?_; apply ot_v tk) | (apply VLd.mk; first | exact cell_blk (List.Sublist.subset sb c12) rfl | exact cell_blk (List.Sublist.subset sb c5) rfl) | (apply v_wr64; omega) | (apply VNz.mk; omega)); (conv => whnf))); apply VStop.mk)
  rw [ei, ek]
  refine tr_weak (l := [(5, _), (11, _), (12, _), (13, _), (14, _), (15, _)]) (B := _) ⟨rfl, rfl, rfl, rfl, rfl, rfl, trivial⟩ (List.Sublist.refl _) ?_
  revert g hg
  intro g13 hg13
  refine tr_seqK ?_
  (apply tr_v tk; (conv => whnf); (repeat ((first | (apply VLdN.mk; (first | exact cells_blk_all (List.Sublist.subset sb c12) | exact cells_blk_all (List.Sublist.subset sb c5) | exact cells_blk_all (List.Sublist.subset sb c11)); exact rfl) | (apply VCall.q; kernel_rfl; (focus (intro w1 hs; first | with_reducible apply kcp hs sb)))); (conv => whnf))); apply VStop.mk)
  refine tr_seqK ?_
  (apply tr_v tk; (conv => whnf); (repeat ((first | (apply VLdN.mk; (first | exact cells_blk_all (List.Sublist.subset sb c12) | exact cells_blk_all (List.Sublist.subset sb c5) | exact cells_blk_all (List.Sublist.subset sb c11)); exact rfl) | (apply VCall.q; kernel_rfl; (focus (intro w1 hs; first | with_reducible apply kcq hs sb))) | (apply VLdN.mk; (focus ((repeat (first | (with_reducible apply ldn_blk) | (with_reducible apply ldn_skip))); done)); exact rfl)); (conv => whnf))); apply VStop.mk)
  refine tr_seqK ?_
  (apply tr_v tk; (conv => whnf); (repeat ((first | (apply VLdN.mk; (first | exact cells_blk_all (List.Sublist.subset sb c12) | exact cells_blk_all (List.Sublist.subset sb c5) | exact cells_blk_all (List.Sublist.subset sb c11)); exact rfl) | (apply VCall.q; kernel_rfl; (focus (intro w1 hs; first | with_reducible apply hce w1 (hs.tab hT)))) | (apply VNew.mk; intro g hg) | (apply VSt.mk; (focus ((repeat (first | (with_reducible exact At.here) | (with_reducible apply At.there))); done)); exact rfl)); (conv => whnf))); apply VStop.mk)
  revert g hg
  intro g20 hg20
  refine tr_seqK ?_
  (apply tr_v tk; (conv => whnf); (repeat ((first | (apply VLdN.mk; (first | exact cells_blk_all (List.Sublist.subset sb c12) | exact cells_blk_all (List.Sublist.subset sb c5) | exact cells_blk_all (List.Sublist.subset sb c11)); exact rfl) | (apply VCall.q; kernel_rfl; (focus (intro w1 hs; first | with_reducible apply kcf hs sb))) | (apply VNew.mk; intro g hg) | (apply VSt.mk; (focus ((repeat (first | (with_reducible exact At.here) | (with_reducible apply At.there))); done)); exact rfl)); (conv => whnf))); apply VStop.mk)
  revert g hg
  intro g22 hg22
  refine tr_seqK ?_
  (apply tr_v tk; (conv => whnf); (repeat ((first | (apply VLdN.mk; (first | exact cells_blk_all (List.Sublist.subset sb c12) | exact cells_blk_all (List.Sublist.subset sb c5) | exact cells_blk_all (List.Sublist.subset sb c11)); exact rfl) | (apply VCall.q; kernel_rfl; (focus (intro w1 hs; first | with_reducible apply hal w1 (hs.tab hT)))) | (apply VNew.mk; intro g hg) | (apply VSt.mk; (focus ((repeat (first | (with_reducible exact At.here) | (with_reducible apply At.there))); done)); exact rfl)); (conv => whnf))); apply VStop.mk)
  revert g hg
  intro g24 hg24
  refine tr_seqK ?_
  (apply tr_v tk; (conv => whnf); (repeat ((first | (apply VLdN.mk; (first | exact cells_blk_all (List.Sublist.subset sb c12) | exact cells_blk_all (List.Sublist.subset sb c5) | exact cells_blk_all (List.Sublist.subset sb c11)); exact rfl) | (apply VCall.q; kernel_rfl; (focus (intro w1 hs; first | with_reducible apply kam hs sb))) | (apply VNew.mk; intro g hg) | (apply VSt.mk; (focus ((repeat (first | (with_reducible exact At.here) | (with_reducible apply At.there))); done)); exact rfl)); (conv => whnf))); apply VStop.mk)
  revert g hg
  intro g26 hg26
  refine tr_seqK ?_
  (apply tr_v tk; (conv => whnf); (repeat ((apply VLdN.mk; (first | exact cells_blk_all (List.Sublist.subset sb c12) | exact cells_blk_all (List.Sublist.subset sb c5) | exact cells_blk_all (List.Sublist.subset sb c11)); exact rfl); (conv => whnf))); apply VCall.stop)
  refine ot_callT (X := TabX) (us := []) (vs := []) (fun x => .tuple #[.agg #[.slice x.r.1 NR.length x.r.2, .slice x.c.1 NC.length x.c.2, .slice x.x.1 NX.length x.x.2], .int .i64 0]) (fun x => []) (fun x => tabCh NR NC NX x) _ (fun x c hc => tabCh_mut' hc) (by decide) rfl rfl rfl rfl (by kernel_rfl) (evl_of rfl) rfl (fun w1 hs => hna w1 (hs.tab hT)) ?_
  intro v hv
  (dsimp only [List.cons_append, List.nil_append]; apply ot_v tk)
  ((conv => whnf); (repeat ((first | (apply VNew.mk; intro g hg) | (apply VSt.mk; (focus ((repeat (first | (with_reducible exact At.here) | (with_reducible apply At.there))); done)); exact rfl)); (conv => whnf))); apply VStop.mk)
  revert g hg
  intro g28 hg28
  refine tr_seqK ?_
  (apply tr_v tk; (conv => whnf); (repeat ((apply VLdN.mk; (first | exact cells_blk_all (List.Sublist.subset sb c12) | exact cells_blk_all (List.Sublist.subset sb c5) | exact cells_blk_all (List.Sublist.subset sb c11)); exact rfl); (conv => whnf))); apply VCall.stop)
  refine ot_callT (X := TabX) (us := []) (vs := []) (fun x => .tuple #[.agg #[.slice x.r.1 NC.length x.r.2, .slice x.c.1 NR.length x.c.2, .slice x.x.1 MX.length x.x.2], .int .i64 0]) (fun x => []) (fun x => tabCh NC NR MX x) _ (fun x c hc => tabCh_mut' hc) (by decide) rfl rfl rfl rfl (by kernel_rfl) (evl_of rfl) rfl (fun w1 hs => knb hs sb) ?_
  intro u hu
  (dsimp only [List.cons_append, List.nil_append]; apply ot_v tk)
  ((conv => whnf); (repeat ((first | (apply VNew.mk; intro g hg) | (apply VSt.mk; (focus ((repeat (first | (with_reducible exact At.here) | (with_reducible apply At.there))); done)); exact rfl)); (conv => whnf))); apply VStop.mk)
  revert g hg
  intro g30 hg30
  refine tr_seqK ?_
  (apply tr_v tk; (conv => whnf); (repeat ((first | (apply VEq.mk true; kernel_rfl; first | exact hrs | exact hrs2) | (apply VLdN.mk; (focus ((repeat (first | (with_reducible apply ldn_blk) | (with_reducible apply ldn_skip))); done)); exact rfl) | apply VBr.f | (apply v_f; omega)); (conv => whnf))); apply VStop.mk)
  refine tr_seqK ?_
  (apply tr_v tk; (conv => whnf); (repeat ((first | apply VBr.f | (apply v_f; omega)); (conv => whnf))); apply VStop.mk)
  (apply tr_v tk; (conv => whnf); (repeat ((first | ((first | apply VStop.mk | apply VCall.stop); refine tr_region_draw (id := 19) (by kernel_rfl) [0, 1, 2, 3, 4, 5, 6, 7, 9, 8, 10, 11, 12, 13, 14, 15] [.rd, .cr, .rd, .rd, .cr, .rd, .rd, .rd, .rd, .cr, .cr, .rd, .rd, .cr, .rd, .rd] rfl (by kernel_rfl) ?_; apply ot_v tk) | (apply VCall.q; kernel_rfl; (focus (intro w1 hs; first | with_reducible apply hfv hs hv (fun {d} hd => by (with_reducible (repeat refine List.mem_cons_of_mem _ ?_); first | exact hd | exact List.mem_append_left _ hd | exact List.mem_append_right _ hd | exact List.mem_append_left _ (List.mem_append_left _ hd) | exact List.mem_append_left _ (List.mem_append_right _ hd) | exact List.mem_append_left _ (List.mem_append_left _ (List.mem_append_left _ hd)) | exact List.mem_append_left _ (List.mem_append_left _ (List.mem_append_right _ hd)))) | with_reducible apply hfw hs hu (fun {d} hd => by (with_reducible (repeat refine List.mem_cons_of_mem _ ?_); first | exact hd | exact List.mem_append_left _ hd | exact List.mem_append_right _ hd | exact List.mem_append_left _ (List.mem_append_left _ hd) | exact List.mem_append_left _ (List.mem_append_right _ hd) | exact List.mem_append_left _ (List.mem_append_left _ (List.mem_append_left _ hd)) | exact List.mem_append_left _ (List.mem_append_left _ (List.mem_append_right _ hd))))))) | (apply VLdN.mk; (focus ((repeat (first | (with_reducible apply ldn_blk) | (with_reducible apply ldn_skip))); done)); exact rfl) | apply VBr.t); (conv => whnf))); apply VCall.stop)
  refine ot_callT (X := TabX) (us := []) (vs := []) (fun x => .agg #[.slice x.r.1 NC.length x.r.2, .slice x.c.1 NR.length x.c.2, .slice x.x.1 MX.length x.x.2]) (fun x => []) (fun x => tabCh NC NR MX x) _ (fun x c hc => tabCh_mut' hc) (by decide) rfl rfl rfl rfl (by kernel_rfl) (evl_of rfl) rfl (fun w1 hs => htv hs hv (fun {d} hd => by (with_reducible (repeat refine List.mem_cons_of_mem _ ?_); first | exact hd | exact List.mem_append_left _ hd | exact List.mem_append_right _ hd | exact List.mem_append_left _ (List.mem_append_left _ hd) | exact List.mem_append_left _ (List.mem_append_right _ hd) | exact List.mem_append_left _ (List.mem_append_left _ (List.mem_append_left _ hd)) | exact List.mem_append_left _ (List.mem_append_left _ (List.mem_append_right _ hd))))) ?_
  intro tt ht
  (dsimp only [List.cons_append, List.nil_append]; apply ot_v tk)
  ((conv => whnf); (repeat ((first | (apply VCall.q; kernel_rfl; (focus (intro w1 hs; first | with_reducible apply hsa hs ht hu (fun {d} hd => by (with_reducible (repeat refine List.mem_cons_of_mem _ ?_); first | exact hd | exact List.mem_append_left _ hd | exact List.mem_append_right _ hd | exact List.mem_append_left _ (List.mem_append_left _ hd) | exact List.mem_append_left _ (List.mem_append_right _ hd) | exact List.mem_append_left _ (List.mem_append_left _ (List.mem_append_left _ hd)) | exact List.mem_append_left _ (List.mem_append_left _ (List.mem_append_right _ hd)))) (fun {d} hd => by (with_reducible (repeat refine List.mem_cons_of_mem _ ?_); first | exact hd | exact List.mem_append_left _ hd | exact List.mem_append_right _ hd | exact List.mem_append_left _ (List.mem_append_left _ hd) | exact List.mem_append_left _ (List.mem_append_right _ hd) | exact List.mem_append_left _ (List.mem_append_left _ (List.mem_append_left _ hd)) | exact List.mem_append_left _ (List.mem_append_left _ (List.mem_append_right _ hd)))) | with_reducible apply works_any w1))) | apply VBr.t); (conv => whnf))))
  ((apply VRet.mk); refine ret1 (by first | exact .inl rfl | exact .inr rfl) rfl (by exact rv_tmp rfl) ?_; exact fun w h => ⟨rfl, h.base⟩)
 ·have hHt : ¬HasT C R (turnX R.length C.length X) := fun h => hH (hasT_turn.1 h)
  rw [cellA_no hV hH hi hk] at hce
  rw [cellA_no hVt hHt hk hi] at hcf
  rw [allA_no hV hH] at hal
  rw [allA_no hVt hHt] at ham
  have hna := fun w1 (h : TabR w1 RA CA XA R C X) => narrow_err RA rc CA cc XA xc R C X w1 h hV.fit (by rw [errT_no hV hH]; decide)
  have hnb := fun {A1 w1} (hs : St w A1 w1) {z : TabX} (hz : z.xs.length = (turnX R.length C.length X).length) (h : ∀ {d}, d ∈ tabCh C R (turnX R.length C.length X) z → d ∈ A1) => narrow_err z.r.1 z.r.2 z.c.1 z.c.2 z.x.1 z.x.2 C R (turnX R.length C.length X) w1 (hs.tabX' z hz h) hVt.fit (by rw [errT_no hVt hHt]; decide)
  rw [errT_no hV hH] at hna
  rw [errT_no hVt hHt] at hnb
  have hrs := fun w => rng_same 0 0 w
  clear hct
  generalize turnX R.length C.length X = TX at *
  unfold tabX tabV proofV resV at *
  dsimp only at hce hcf hal ham
  simp only [List.length_nil] at hna hnb
  refine fn_k (n := 177) (A := []) Try.func11 rfl rfl (Nat.le_of_ble_eq_true rfl) (St.nil (Below.refl _ _)) ?_
  refine tr_seqK ?_
  (apply tr_v tk; (conv => whnf); (repeat ((apply VNew.mk; intro g hg); (conv => whnf))); apply VStop.mk)
  refine tr_seqK ?_
  (apply tr_v tk; (conv => whnf); (repeat ((first | (apply VCall.q; kernel_rfl; (focus (intro w1 hs; first | with_reducible apply hfi w1 (hs.tab hT)))) | (apply VLdN.mk; (focus ((repeat (first | (with_reducible apply ldn_blk) | (with_reducible apply ldn_skip))); done)); exact rfl) | apply VBr.f); (conv => whnf))); apply VStop.mk)
  revert g hg
  intro g5 hg5
  refine tr_seqK ?_
  (apply tr_v tk; (conv => whnf); (repeat ((apply VLdN.mk; (focus ((repeat (first | (with_reducible apply ldn_blk) | (with_reducible apply ldn_skip))); done)); exact rfl); (conv => whnf))); apply VCall.stop)
  refine ot_callT (X := TabX) (us := []) (vs := []) (fun x => .agg #[.slice x.r.1 C.length x.r.2, .slice x.c.1 R.length x.c.2, .slice x.x.1 TX.length x.x.2]) (fun x => []) (fun x => tabCh C R TX x) _ (fun x c hc => tabCh_mut' hc) (by decide) rfl rfl rfl rfl (by kernel_rfl) (evl_of rfl) rfl (fun w1 hs => htu w1 (hs.tab hT)) ?_
  intro z hz
  (dsimp only [List.cons_append, List.nil_append]; apply ot_v tk)
  ((conv => whnf); (repeat ((first | (apply VNew.mk; intro g hg) | (apply VSt.mk; (focus ((repeat (first | (with_reducible exact At.here) | (with_reducible apply At.there))); done)); exact rfl)); (conv => whnf))); apply VStop.mk)
  revert g hg
  intro g11 hg11
  refine tr_nameA2 ?_
  intro A1 hA1
  have c5 : .blk g5 25 [.slice RA R.length rc, .slice CA C.length cc, .slice XA X.length xc] ∈ A1 := by rw [hA1]; exact .tail _ (.head _)
  have c11 : .blk g11 25 [.slice z.r.1 C.length z.r.2, .slice z.c.1 R.length z.c.2, .slice z.x.1 TX.length z.x.2] ∈ A1 := by rw [hA1]; exact .head _
  have hzA : ∀ {d}, d ∈ tabCh C R TX z → d ∈ A1 := fun {d} hd => by rw [hA1]; exact .tail _ (.tail _ hd)
  clear hA1
  refine tr_cut (fun y : Nat × SlX × SlX => ([(3, .int .u8 (b3 : Int)), (4, .int .u8 (b4 : Int)), (5, .pointer (some ⟨g5, 0, none⟩)), (11, .pointer (some ⟨g11, 0, none⟩)), (12, .pointer (some ⟨y.1, 0, none⟩))], .blk y.1 44 [.slice y.2.1.B P.length y.2.1.c, .slice y.2.2.B Q.length y.2.2.c, .int .i64 0] :: .own (.slice y.2.1.B P.length y.2.1.c) 3 1 P.length (i64s P) :: .own (.slice y.2.2.B Q.length y.2.2.c) 3 1 Q.length (i64s Q) :: A1)) ?_ ?_
  ·(apply tr_v tk; (conv => whnf); (repeat ((first | (apply VStop.mk; refine tr_region_treeV (id := 4) (by kernel_rfl) A1 (by (repeat (first | exact sl0 _ | exact sl1 _ | refine sl2 _ ?_ | refine sl3 _ ?_))) [0, 1, 2, 3, 5, 6, 7, 8] [4, 9, 10, 11, 12] [.rd, .rd, .rd, .rd, .rd, .rd, .rd, .rd] (fun i => [.wr, .wr, .wr, .wr, .cr, .wr, .wr, .wr, .wr, .cr, .wr, .cr, .wr].getD i .wr) _ rfl rfl (by kernel_rfl) ?_; apply ot_v tk) | (apply VLd.mk; exact cell_blk c5 rfl)); (conv => whnf))))
   refine ox2 4 11 ?_ ?_
   ·(refine ot_callC (X := SlX) (us := []) (vs := []) (fun x => .slice x.B P.length x.c) (fun x => [.own (.slice x.B P.length x.c) 3 1 P.length (i64s P)]) (fun _ => True) (fun x => mut_one rfl) (by decide) rfl rfl rfl rfl (by kernel_rfl) (evl_of rfl) rfl (fun w1 hs => hli w1) (fun xp _ => ?_); refine ot_nil ?_; refine sla ?_)
    refine ox2 9 11 ?_ ?_
    ·(refine ot_callC (X := SlX) (us := []) (vs := []) (fun x => .slice x.B Q.length x.c) (fun x => [.own (.slice x.B Q.length x.c) 3 1 Q.length (i64s Q)]) (fun _ => True) (fun x => mut_one rfl) (by decide) rfl rfl rfl rfl (by kernel_rfl) (evl_of rfl) rfl (fun w1 hs => hlj w1) (fun xq _ => ?_); refine ot_nil ?_; refine sla ?_)
     refine ox2 10 11 ?_ ?_
     ·(apply ot_v tk; (conv => whnf); refine sla ?_)
      refine ox1 11 ?_
      (apply ot_v tk; (conv => whnf); (apply VNew.mk; intro g15 hg15; (conv => whnf)); refine sla ?_)
      refine ox1 12 ?_
      (apply ot_v tk; (conv => whnf); (apply VSt.mk; (focus (repeat (first | exact At.here | apply At.there)); done); exact rfl; (conv => whnf)); refine sla ?_)
      refine VT.mk (otx_end ?_)
      exact VJ.mk (g15, xp, xq) rfl ⟨rfl, rfl, rfl, rfl, rfl, trivial⟩ (by ((try dsimp only); (iterate 3 ((apply Pick.cons); (focus (repeat (first | exact Rem.here | apply Rem.there)); done))); exact Pick.of_sub (by (repeat (first | exact sl0 _ | exact sl1 _ | refine sl2 _ ?_ | refine sl3 _ ?_)))))
     ·(apply ot_v tk; (conv => whnf); (apply VNew.mk; intro g15 hg15; (conv => whnf)); refine sla ?_)
      refine ox1 10 ?_
      (apply ot_v tk; (conv => whnf); refine sla ?_)
      refine ox1 12 ?_
      (apply ot_v tk; (conv => whnf); (apply VSt.mk; (focus (repeat (first | exact At.here | apply At.there)); done); exact rfl; (conv => whnf)); refine sla ?_)
      refine VT.mk (otx_end ?_)
      exact VJ.mk (g15, xp, xq) rfl ⟨rfl, rfl, rfl, rfl, rfl, trivial⟩ (by ((try dsimp only); (iterate 3 ((apply Pick.cons); (focus (repeat (first | exact Rem.here | apply Rem.there)); done))); exact Pick.of_sub (by (repeat (first | exact sl0 _ | exact sl1 _ | refine sl2 _ ?_ | refine sl3 _ ?_)))))
    ·(apply ot_v tk; (conv => whnf); (apply VNew.mk; intro g15 hg15; (conv => whnf)); refine sla ?_)
     refine ox1 9 ?_
     (refine ot_callC (X := SlX) (us := []) (vs := []) (fun x => .slice x.B Q.length x.c) (fun x => [.own (.slice x.B Q.length x.c) 3 1 Q.length (i64s Q)]) (fun _ => True) (fun x => mut_one rfl) (by decide) rfl rfl rfl rfl (by kernel_rfl) (evl_of rfl) rfl (fun w1 hs => hlj w1) (fun xq _ => ?_); refine ot_nil ?_; refine sla ?_)
     refine ox1 10 ?_
     (apply ot_v tk; (conv => whnf); refine sla ?_)
     refine ox1 12 ?_
     (apply ot_v tk; (conv => whnf); (apply VSt.mk; (focus (repeat (first | exact At.here | apply At.there)); done); exact rfl; (conv => whnf)); refine sla ?_)
     refine VT.mk (otx_end ?_)
     exact VJ.mk (g15, xp, xq) rfl ⟨rfl, rfl, rfl, rfl, rfl, trivial⟩ (by ((try dsimp only); (iterate 3 ((apply Pick.cons); (focus (repeat (first | exact Rem.here | apply Rem.there)); done))); exact Pick.of_sub (by (repeat (first | exact sl0 _ | exact sl1 _ | refine sl2 _ ?_ | refine sl3 _ ?_)))))
   ·(apply ot_v tk; (conv => whnf); (apply VNew.mk; intro g15 hg15; (conv => whnf)); refine sla ?_)
    refine ox1 4 ?_
    (refine ot_callC (X := SlX) (us := []) (vs := []) (fun x => .slice x.B P.length x.c) (fun x => [.own (.slice x.B P.length x.c) 3 1 P.length (i64s P)]) (fun _ => True) (fun x => mut_one rfl) (by decide) rfl rfl rfl rfl (by kernel_rfl) (evl_of rfl) rfl (fun w1 hs => hli w1) (fun xp _ => ?_); refine ot_nil ?_; refine sla ?_)
    refine ox1 9 ?_
    (refine ot_callC (X := SlX) (us := []) (vs := []) (fun x => .slice x.B Q.length x.c) (fun x => [.own (.slice x.B Q.length x.c) 3 1 Q.length (i64s Q)]) (fun _ => True) (fun x => mut_one rfl) (by decide) rfl rfl rfl rfl (by kernel_rfl) (evl_of rfl) rfl (fun w1 hs => hlj w1) (fun xq _ => ?_); refine ot_nil ?_; refine sla ?_)
    refine ox1 10 ?_
    (apply ot_v tk; (conv => whnf); refine sla ?_)
    refine ox1 12 ?_
    (apply ot_v tk; (conv => whnf); (apply VSt.mk; (focus (repeat (first | exact At.here | apply At.there)); done); exact rfl; (conv => whnf)); refine sla ?_)
    refine VT.mk (otx_end ?_)
    exact VJ.mk (g15, xp, xq) rfl ⟨rfl, rfl, rfl, rfl, rfl, trivial⟩ (by ((try dsimp only); (iterate 3 ((apply Pick.cons); (focus (repeat (first | exact Rem.here | apply Rem.there)); done))); exact Pick.of_sub (by (repeat (first | exact sl0 _ | exact sl1 _ | refine sl2 _ ?_ | refine sl3 _ ?_)))))
  rintro ⟨g12, xp, xq⟩
  dsimp only
  refine tr_nameA2 ?_
  intro A2 hA2
  have hsub : A1.Sublist A2 := by rw [hA2]; ((repeat refine List.Sublist.cons _ ?_); first | exact List.Sublist.refl _ | exact List.sublist_append_left _ _ | exact List.Sublist.trans (List.sublist_append_left _ _) (List.sublist_append_left _ _) | exact List.Sublist.trans (List.sublist_append_left _ _) (List.Sublist.trans (List.sublist_append_left _ _) (List.sublist_append_left _ _)))
  have c12 : .blk g12 44 [.slice xp.B P.length xp.c, .slice xq.B Q.length xq.c, .int .i64 0] ∈ A2 := by rw [hA2]; exact .head _
  have d1 : .own (.slice xp.B P.length xp.c) 3 1 P.length (i64s P) ∈ A2 := by rw [hA2]; exact .tail _ (.head _)
  have d2 : .own (.slice xq.B Q.length xq.c) 3 1 Q.length (i64s Q) ∈ A2 := by rw [hA2]; exact .tail _ (.tail _ (.head _))
  clear hA2
  replace c5 := hsub.subset c5
  replace c11 := hsub.subset c11
  have hzA : ∀ {d}, d ∈ tabCh C R TX z → d ∈ A2 := fun {d} hd => hsub.subset (hzA hd)
  have kcp := fun {A' w1} (hs : St w A' w1) (h : A2.Sublist A') => hcp hs (h.subset d1) (h.subset d2)
  have kcq := fun {A' w1} (hs : St w A' w1) (h : A2.Sublist A') => hcq hs hz (fun {d} hd => h.subset (hzA hd)) (h.subset d1) (h.subset d2)
  have kcf := fun {A' w1} (hs : St w A' w1) (h : A2.Sublist A') => hcf hs hz (fun {d} hd => h.subset (hzA hd))
  have kam := fun {A' w1} (hs : St w A' w1) (h : A2.Sublist A') => ham hs hz (fun {d} hd => h.subset (hzA hd))
  have knb := fun {A' w1} (hs : St w A' w1) (h : A2.Sublist A') => hnb hs hz (fun {d} hd => h.subset (hzA hd))
  clear hcp hcq hcf ham hnb htu hli hlj
  refine tr_seqK ?_
  (apply tr_v tk; (conv => whnf); (repeat ((first | (apply VLd.mk; first | exact cell_blk (List.Sublist.subset sb c12) rfl | exact cell_blk (List.Sublist.subset sb c5) rfl) | (apply VNew.mk; intro g hg) | (apply VSt.mk; (focus ((repeat (first | (with_reducible exact At.here) | (with_reducible apply At.there))); done)); exact rfl)); (conv => whnf))); apply VStop.mk)
  refine tr_seqK ?_
  (apply tr_v tk; (conv => whnf); (repeat ((first | (apply VStop.mk; refine tr_region_lex (id := 6) (by kernel_rfl) [.rd, .rd, .rd, .rd, .rd, .rd, .rd, .rd, .rd, .rd, .rd, .rd, .rd, .rd] rfl (by kernel_rfl) ?_; apply ot_v tk) | (apply VLd.mk; first | exact cell_blk (List.Sublist.subset sb c12) rfl | exact cell_blk (List.Sublist.subset sb c5) rfl) | (apply v_wr64; omega) | (apply VNz.mk; omega)); (conv => whnf))); apply VStop.mk)
  rw [ei, ek]
  refine tr_weak (l := [(5, _), (11, _), (12, _), (13, _), (14, _), (15, _)]) (B := _) ⟨rfl, rfl, rfl, rfl, rfl, rfl, trivial⟩ (List.Sublist.refl _) ?_
  revert g hg
  intro g13 hg13
  refine tr_seqK ?_
  (apply tr_v tk; (conv => whnf); (repeat ((first | (apply VLdN.mk; (first | exact cells_blk_all (List.Sublist.subset sb c12) | exact cells_blk_all (List.Sublist.subset sb c5) | exact cells_blk_all (List.Sublist.subset sb c11)); exact rfl) | (apply VCall.q; kernel_rfl; (focus (intro w1 hs; first | with_reducible apply kcp hs sb)))); (conv => whnf))); apply VStop.mk)
  refine tr_seqK ?_
  (apply tr_v tk; (conv => whnf); (repeat ((first | (apply VLdN.mk; (first | exact cells_blk_all (List.Sublist.subset sb c12) | exact cells_blk_all (List.Sublist.subset sb c5) | exact cells_blk_all (List.Sublist.subset sb c11)); exact rfl) | (apply VCall.q; kernel_rfl; (focus (intro w1 hs; first | with_reducible apply kcq hs sb))) | (apply VLdN.mk; (focus ((repeat (first | (with_reducible apply ldn_blk) | (with_reducible apply ldn_skip))); done)); exact rfl)); (conv => whnf))); apply VStop.mk)
  refine tr_seqK ?_
  (apply tr_v tk; (conv => whnf); (repeat ((first | (apply VLdN.mk; (first | exact cells_blk_all (List.Sublist.subset sb c12) | exact cells_blk_all (List.Sublist.subset sb c5) | exact cells_blk_all (List.Sublist.subset sb c11)); exact rfl) | (apply VCall.q; kernel_rfl; (focus (intro w1 hs; first | with_reducible apply hce w1 (hs.tab hT)))) | (apply VNew.mk; intro g hg) | (apply VSt.mk; (focus ((repeat (first | (with_reducible exact At.here) | (with_reducible apply At.there))); done)); exact rfl)); (conv => whnf))); apply VStop.mk)
  revert g hg
  intro g20 hg20
  refine tr_seqK ?_
  (apply tr_v tk; (conv => whnf); (repeat ((first | (apply VLdN.mk; (first | exact cells_blk_all (List.Sublist.subset sb c12) | exact cells_blk_all (List.Sublist.subset sb c5) | exact cells_blk_all (List.Sublist.subset sb c11)); exact rfl) | (apply VCall.q; kernel_rfl; (focus (intro w1 hs; first | with_reducible apply kcf hs sb))) | (apply VNew.mk; intro g hg) | (apply VSt.mk; (focus ((repeat (first | (with_reducible exact At.here) | (with_reducible apply At.there))); done)); exact rfl)); (conv => whnf))); apply VStop.mk)
  revert g hg
  intro g22 hg22
  refine tr_seqK ?_
  (apply tr_v tk; (conv => whnf); (repeat ((first | (apply VLdN.mk; (first | exact cells_blk_all (List.Sublist.subset sb c12) | exact cells_blk_all (List.Sublist.subset sb c5) | exact cells_blk_all (List.Sublist.subset sb c11)); exact rfl) | (apply VCall.q; kernel_rfl; (focus (intro w1 hs; first | with_reducible apply hal w1 (hs.tab hT)))) | (apply VNew.mk; intro g hg) | (apply VSt.mk; (focus ((repeat (first | (with_reducible exact At.here) | (with_reducible apply At.there))); done)); exact rfl)); (conv => whnf))); apply VStop.mk)
  revert g hg
  intro g24 hg24
  refine tr_seqK ?_
  (apply tr_v tk; (conv => whnf); (repeat ((first | (apply VLdN.mk; (first | exact cells_blk_all (List.Sublist.subset sb c12) | exact cells_blk_all (List.Sublist.subset sb c5) | exact cells_blk_all (List.Sublist.subset sb c11)); exact rfl) | (apply VCall.q; kernel_rfl; (focus (intro w1 hs; first | with_reducible apply kam hs sb))) | (apply VNew.mk; intro g hg) | (apply VSt.mk; (focus ((repeat (first | (with_reducible exact At.here) | (with_reducible apply At.there))); done)); exact rfl)); (conv => whnf))); apply VStop.mk)
  revert g hg
  intro g26 hg26
  refine tr_seqK ?_
  (apply tr_v tk; (conv => whnf); (repeat ((first | (apply VLdN.mk; (first | exact cells_blk_all (List.Sublist.subset sb c12) | exact cells_blk_all (List.Sublist.subset sb c5) | exact cells_blk_all (List.Sublist.subset sb c11)); exact rfl) | (apply VCall.q; kernel_rfl; (focus (intro w1 hs; first | with_reducible apply hna w1 (hs.tab hT)))) | (apply VNew.mk; intro g hg) | (apply VSt.mk; (focus ((repeat (first | (with_reducible exact At.here) | (with_reducible apply At.there))); done)); exact rfl)); (conv => whnf))); apply VStop.mk)
  revert g hg
  intro g28 hg28
  refine tr_seqK ?_
  (apply tr_v tk; (conv => whnf); (repeat ((first | (apply VLdN.mk; (first | exact cells_blk_all (List.Sublist.subset sb c12) | exact cells_blk_all (List.Sublist.subset sb c5) | exact cells_blk_all (List.Sublist.subset sb c11)); exact rfl) | (apply VCall.q; kernel_rfl; (focus (intro w1 hs; first | with_reducible apply knb hs sb))) | (apply VNew.mk; intro g hg) | (apply VSt.mk; (focus ((repeat (first | (with_reducible exact At.here) | (with_reducible apply At.there))); done)); exact rfl)); (conv => whnf))); apply VStop.mk)
  revert g hg
  intro g30 hg30
  refine tr_seqK ?_
  (apply tr_v tk; (conv => whnf); (repeat ((first | (apply VEq.mk true; kernel_rfl; exact hrs) | (apply VLdN.mk; (focus ((repeat (first | (with_reducible apply ldn_blk) | (with_reducible apply ldn_skip))); done)); exact rfl) | apply VBr.f | (apply v_f; omega)); (conv => whnf))); apply VStop.mk)
  (apply tr_v tk; (conv => whnf); (repeat ((first | (apply VCall.q; kernel_rfl; (focus (intro w1 hs; first | with_reducible apply works_any w1))) | apply VBr.t | (apply v_t; omega)); (conv => whnf))))
  ((apply VRet.mk); refine ret1 (by first | exact .inl rfl | exact .inr rfl) rfl (by exact rv_tmp rfl) ?_; exact fun w h => ⟨rfl, h.base⟩)
end
end Go.Proofs.Ytalcccgialpjgaa
