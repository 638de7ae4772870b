/- BookKnown: lemmas for the rows of this seat. No conditions. -/
import Derived.Laws.StructEq
import Derived.Test.YtojeeindlijgkaaGreatDoorK46
set_option linter.all false
namespace Go.Proofs.YtojeeindlijgkaaGreatDoor
open Go.RowKit
/-! ## BookKnown -/
set_option maxHeartbeats 4000000 in
set_option maxRecDepth 20000 in
theorem law14_any (w : World) (hE : LayE w) (hM : MaxL w) : Calls Tryz.prog 14 #[] w fun e w' => e = .returned (.bool true) ∧ Below w.heap.size w w' := by
 refine fn_t (n := 108) (A := []) Tryz.func14 rfl rfl (Nat.le_of_ble_eq_true rfl) (St.nil (Below.refl _ _)) ?_
 refine tr_cut (fun x : Unit => ([(0, .bool false)], [])) ?_ ?_
 ·(apply tr_v tk; (conv => whnf))
  exact VJ.mk () rfl ⟨rfl, trivial⟩ (by ((try dsimp only); repeat (first | exact Pick.nil | ((apply Pick.cons); (focus (repeat (first | exact Rem.here | apply Rem.there)); done)))))
 rintro _
 refine tr_cut (fun x : SlX × Nat => ([(1, .pointer (some ⟨x.2, 0, none⟩)), (0, .bool false)], [.blk x.2 24 [.slice x.1.1 3 x.1.2], .own (.slice x.1.1 3 x.1.2) 61 5 3 (lnC threeL)])) ?_ ?_
 ·(apply tr_v tk; (conv => whnf); apply VCall.stop)
  refine ot_callT (X := SlX) (us := []) (vs := []) (fun x => .agg #[.slice x.1 3 x.2]) (fun x => []) (fun x => [.own (.slice x.1 3 x.2) 61 5 3 (lnC threeL)]) _ (fun x c hc => one_mut hc) (by decide) rfl rfl rfl rfl (by kernel_rfl) (evl_of rfl) rfl (fun w1 hs => three_any w1) ?_
  rintro ⟨Ba, ca⟩ _
  (dsimp only [List.cons_append, List.nil_append]; apply ot_v tk)
  ((conv => whnf); (repeat ((first | (apply VNew.mk; intro g hg) | (apply VSt.mk; (focus ((repeat (first | (with_reducible exact At.here) | (with_reducible apply At.there))); done)); exact rfl)); (conv => whnf))))
  revert g hg; intro g1 hg1
  exact VJ.mk ((Ba, ca), g1) rfl ⟨rfl, rfl, trivial⟩ (by ((try dsimp only); repeat (first | exact Pick.nil | ((apply Pick.cons); (focus (repeat (first | exact Rem.here | apply Rem.there)); done)))))
 rintro ⟨⟨Ba, ca⟩, g1⟩
 refine tr_cut (fun x : SlX => ([(2, .slice x.1 8 x.2), (3, .int .i64 0), (1, .pointer (some ⟨g1, 0, none⟩)), (0, .bool false)], [.own (.slice x.1 8 x.2) 2 1 8 (i64s [0, 0, 25, 0, 0, 0, 0, 0]), .blk g1 24 [.slice Ba 3 ca], .own (.slice Ba 3 ca) 61 5 3 (lnC threeL)])) ?_ ?_
 ·(apply tr_v tk; (conv => whnf); (repeat ((apply VLdN.mk; (focus ((repeat (first | (with_reducible apply ldn_blk) | (with_reducible apply ldn_skip))); done)); exact rfl); (conv => whnf))); apply VCall.stop)
  refine ot_callT (X := SlX) (us := []) (vs := []) (fun x => .tuple #[.slice x.1 8 x.2, .int .i64 0]) (fun x => []) (fun x => [.own (.slice x.1 8 x.2) 2 1 8 (i64s [0, 0, 25, 0, 0, 0, 0, 0])]) _ (fun x c hc => one_mut hc) (by decide) rfl rfl rfl rfl (by kernel_rfl) (evl_of rfl) rfl (fun w1 hs => y_at2 hs (by (repeat (first | exact List.Mem.head _ | assumption | refine List.Mem.tail _ ?_)))) ?_
  rintro ⟨Bs, cs⟩ _
  (dsimp only [List.cons_append, List.nil_append]; apply ot_v tk)
  ((conv => whnf))
  exact VJ.mk (Bs, cs) rfl ⟨rfl, rfl, rfl, rfl, trivial⟩ (by ((try dsimp only); repeat (first | exact Pick.nil | ((apply Pick.cons); (focus (repeat (first | exact Rem.here | apply Rem.there)); done)))))
 rintro ⟨Bs, cs⟩
 refine tr_cut (fun x : SlX => ([(4, .slice x.1 8 x.2), (5, .int .i64 0), (2, .slice Bs 8 cs), (3, .int .i64 0), (1, .pointer (some ⟨g1, 0, none⟩)), (0, .bool false)], [.own (.slice x.1 8 x.2) 2 1 8 (i64s [0, 0, 0, 0, 0, 0, 0, 0]), .own (.slice Bs 8 cs) 2 1 8 (i64s [0, 0, 25, 0, 0, 0, 0, 0]), .blk g1 24 [.slice Ba 3 ca], .own (.slice Ba 3 ca) 61 5 3 (lnC threeL)])) ?_ ?_
 ·(apply tr_v tk; (conv => whnf); (repeat ((apply VLdN.mk; (focus ((repeat (first | (with_reducible apply ldn_blk) | (with_reducible apply ldn_skip))); done)); exact rfl); (conv => whnf))); apply VCall.stop)
  refine ot_callT (X := SlX) (us := []) (vs := []) (fun x => .tuple #[.slice x.1 8 x.2, .int .i64 0]) (fun x => []) (fun x => [.own (.slice x.1 8 x.2) 2 1 8 (i64s [0, 0, 0, 0, 0, 0, 0, 0])]) _ (fun x c hc => one_mut hc) (by decide) rfl rfl rfl rfl (by kernel_rfl) (evl_of rfl) rfl (fun w1 hs => y_at0 hs (by (repeat (first | exact List.Mem.head _ | assumption | refine List.Mem.tail _ ?_)))) ?_
  rintro ⟨Bt, ct⟩ _
  (dsimp only [List.cons_append, List.nil_append]; apply ot_v tk)
  ((conv => whnf))
  exact VJ.mk (Bt, ct) rfl ⟨rfl, rfl, rfl, rfl, rfl, rfl, trivial⟩ (by ((try dsimp only); repeat (first | exact Pick.nil | ((apply Pick.cons); (focus (repeat (first | exact Rem.here | apply Rem.there)); done)))))
 rintro ⟨Bt, ct⟩
 refine tr_cut (fun x : SlX × SlX × Nat => ([(6, .pointer (some ⟨x.2.2, 0, none⟩)), (7, .int .i64 0), (4, .slice Bt 8 ct), (5, .int .i64 0), (2, .slice Bs 8 cs), (3, .int .i64 0), (1, .pointer (some ⟨g1, 0, none⟩)), (0, .bool false)], [.own (.slice x.2.1.1 3 x.2.1.2) 61 5 3 (lnC threeL), .blk x.2.2 24 [.slice x.2.1.1 3 x.2.1.2], .own (.slice Bt 8 ct) 2 1 8 (i64s [0, 0, 0, 0, 0, 0, 0, 0]), .own (.slice Bs 8 cs) 2 1 8 (i64s [0, 0, 25, 0, 0, 0, 0, 0]), .blk g1 24 [.slice Ba 3 ca], .own (.slice Ba 3 ca) 61 5 3 (lnC threeL)])) ?_ ?_
 ·(apply tr_v tk; (conv => whnf); (repeat ((first | (apply VStop.mk; refine tr_region_treeV (id := 4) (by kernel_rfl) [.blk g1 24 _] (by (repeat (first | exact sl0 _ | exact sl1 _ | refine sl2 _ ?_ | refine sl3 _ ?_))) [0] [1, 2, 3, 4, 5, 6, 7, 8] [.rd] (fun i => [.wr, .cr, .cr, .wr, .wr, .wr, .cr, .wr, .wr].getD i .wr) _ rfl rfl (by kernel_rfl) ?_; apply ot_v tk) | (apply VLdN.mk; (focus ((repeat (first | (with_reducible apply ldn_blk) | (with_reducible apply ldn_skip))); done)); exact rfl)); (conv => whnf))))
  refine ox2 1 6 ?_ ?_
  ·(refine ot_callT (X := SlX) (us := []) (vs := []) (fun x => .agg #[.slice x.1 1 x.2]) (fun x => []) (fun x => [.own (.slice x.1 1 x.2) 61 5 1 (lnC wrongL)]) _ (fun x c hc => one_mut hc) (by decide) rfl rfl rfl rfl (by kernel_rfl) (evl_of rfl) rfl (fun w1 hs => wrong_any w1) ?_; rintro ⟨Bw, cw⟩ _; dsimp only [List.cons_append, List.nil_append]; refine ot_nil ?_; refine sla ?_)
   refine ox2 2 6 ?_ ?_
   ·(refine ot_callT (X := SlX) (us := []) (vs := []) (fun x => .tuple #[.agg #[.slice x.1 3 x.2], .int .i64 0]) (fun x => []) (fun x => [.own (.slice x.1 3 x.2) 61 5 3 (lnC threeL)]) _ (fun x c hc => one_mut hc) (by decide) rfl rfl rfl rfl (by kernel_rfl) (evl_of rfl) rfl (fun w1 hs => y_only hs (by (repeat (first | exact List.Mem.head _ | assumption | refine List.Mem.tail _ ?_))) (by (repeat (first | exact List.Mem.head _ | assumption | refine List.Mem.tail _ ?_)))) ?_; rintro ⟨Bo, co⟩ _; dsimp only [List.cons_append, List.nil_append]; refine ot_nil ?_; refine sla ?_)
    refine ox2 3 6 ?_ ?_
    ·(apply ot_v tk; (conv => whnf); refine sla ?_)
     refine VT.mk (otx_anyV [4, 5, 6] (by kernel_rfl) (by decide) ?_)
     refine ⟨⟨by kernel_rfl, by decide, ?_⟩, ⟨by kernel_rfl, by decide, ?_⟩, ⟨by kernel_rfl, by decide, ?_⟩, trivial⟩
     ·(apply ot_v tk; (conv => whnf); refine sla ?_)
      refine ox2 5 6 ?_ ?_
      ·(apply ot_v tk; (conv => whnf); refine sla ?_)
       refine ox1 6 ?_
       (apply ot_v tk; (conv => whnf); (apply VNew.mk; intro g6 hg6; (conv => whnf)); refine sla ?_)
       refine ox1 7 ?_
       (apply ot_v tk; (conv => whnf); (apply VSt.mk; (focus (repeat (first | exact At.here | apply At.there)); done); exact rfl; (conv => whnf)); refine sla ?_)
       refine ox1 8 ?_
       (apply ot_v tk; (conv => whnf); refine sla ?_)
       refine VT.mk (otx_end ?_)
       (((conv => whnf)); exact VJ.mk ((Bw, cw), (Bo, co), g6) rfl ⟨rfl, rfl, rfl, rfl, rfl, rfl, rfl, rfl, trivial⟩ (by ((try dsimp only); repeat (first | exact Pick.nil | ((apply Pick.cons); (focus (repeat (first | exact Rem.here | apply Rem.there)); done))))))
      ·(apply ot_v tk; (conv => whnf); (apply VNew.mk; intro g6 hg6; (conv => whnf)); refine sla ?_)
       refine ox2 5 7 ?_ ?_
       ·(apply ot_v tk; (conv => whnf); refine sla ?_)
        refine ox1 7 ?_
        (apply ot_v tk; (conv => whnf); (apply VSt.mk; (focus (repeat (first | exact At.here | apply At.there)); done); exact rfl; (conv => whnf)); refine sla ?_)
        refine ox1 8 ?_
        (apply ot_v tk; (conv => whnf); refine sla ?_)
        refine VT.mk (otx_end ?_)
        (((conv => whnf)); exact VJ.mk ((Bw, cw), (Bo, co), g6) rfl ⟨rfl, rfl, rfl, rfl, rfl, rfl, rfl, rfl, trivial⟩ (by ((try dsimp only); repeat (first | exact Pick.nil | ((apply Pick.cons); (focus (repeat (first | exact Rem.here | apply Rem.there)); done))))))
       ·(apply ot_v tk; (conv => whnf); (apply VSt.mk; (focus (repeat (first | exact At.here | apply At.there)); done); exact rfl; (conv => whnf)); refine sla ?_)
        refine ox1 5 ?_
        (apply ot_v tk; (conv => whnf); refine sla ?_)
        refine ox1 8 ?_
        (apply ot_v tk; (conv => whnf); refine sla ?_)
        refine VT.mk (otx_end ?_)
        (((conv => whnf)); exact VJ.mk ((Bw, cw), (Bo, co), g6) rfl ⟨rfl, rfl, rfl, rfl, rfl, rfl, rfl, rfl, trivial⟩ (by ((try dsimp only); repeat (first | exact Pick.nil | ((apply Pick.cons); (focus (repeat (first | exact Rem.here | apply Rem.there)); done))))))
     ·(apply ot_v tk; (conv => whnf); refine sla ?_)
      refine ox2 4 6 ?_ ?_
      ·(apply ot_v tk; (conv => whnf); refine sla ?_)
       refine ox1 6 ?_
       (apply ot_v tk; (conv => whnf); (apply VNew.mk; intro g6 hg6; (conv => whnf)); refine sla ?_)
       refine ox1 7 ?_
       (apply ot_v tk; (conv => whnf); (apply VSt.mk; (focus (repeat (first | exact At.here | apply At.there)); done); exact rfl; (conv => whnf)); refine sla ?_)
       refine ox1 8 ?_
       (apply ot_v tk; (conv => whnf); refine sla ?_)
       refine VT.mk (otx_end ?_)
       (((conv => whnf)); exact VJ.mk ((Bw, cw), (Bo, co), g6) rfl ⟨rfl, rfl, rfl, rfl, rfl, rfl, rfl, rfl, trivial⟩ (by ((try dsimp only); repeat (first | exact Pick.nil | ((apply Pick.cons); (focus (repeat (first | exact Rem.here | apply Rem.there)); done))))))
      ·(apply ot_v tk; (conv => whnf); (apply VNew.mk; intro g6 hg6; (conv => whnf)); refine sla ?_)
       refine ox1 4 ?_
       (apply ot_v tk; (conv => whnf); refine sla ?_)
       refine ox1 7 ?_
       (apply ot_v tk; (conv => whnf); (apply VSt.mk; (focus (repeat (first | exact At.here | apply At.there)); done); exact rfl; (conv => whnf)); refine sla ?_)
       refine ox1 8 ?_
       (apply ot_v tk; (conv => whnf); refine sla ?_)
       refine VT.mk (otx_end ?_)
       (((conv => whnf)); exact VJ.mk ((Bw, cw), (Bo, co), g6) rfl ⟨rfl, rfl, rfl, rfl, rfl, rfl, rfl, rfl, trivial⟩ (by ((try dsimp only); repeat (first | exact Pick.nil | ((apply Pick.cons); (focus (repeat (first | exact Rem.here | apply Rem.there)); done))))))
     ·(apply ot_v tk; (conv => whnf); (apply VNew.mk; intro g6 hg6; (conv => whnf)); refine sla ?_)
      refine ox2 4 5 ?_ ?_
      ·(apply ot_v tk; (conv => whnf); refine sla ?_)
       refine ox2 5 7 ?_ ?_
       ·(apply ot_v tk; (conv => whnf); refine sla ?_)
        refine ox1 7 ?_
        (apply ot_v tk; (conv => whnf); (apply VSt.mk; (focus (repeat (first | exact At.here | apply At.there)); done); exact rfl; (conv => whnf)); refine sla ?_)
        refine ox1 8 ?_
        (apply ot_v tk; (conv => whnf); refine sla ?_)
        refine VT.mk (otx_end ?_)
        (((conv => whnf)); exact VJ.mk ((Bw, cw), (Bo, co), g6) rfl ⟨rfl, rfl, rfl, rfl, rfl, rfl, rfl, rfl, trivial⟩ (by ((try dsimp only); repeat (first | exact Pick.nil | ((apply Pick.cons); (focus (repeat (first | exact Rem.here | apply Rem.there)); done))))))
       ·(apply ot_v tk; (conv => whnf); (apply VSt.mk; (focus (repeat (first | exact At.here | apply At.there)); done); exact rfl; (conv => whnf)); refine sla ?_)
        refine ox1 5 ?_
        (apply ot_v tk; (conv => whnf); refine sla ?_)
        refine ox1 8 ?_
        (apply ot_v tk; (conv => whnf); refine sla ?_)
        refine VT.mk (otx_end ?_)
        (((conv => whnf)); exact VJ.mk ((Bw, cw), (Bo, co), g6) rfl ⟨rfl, rfl, rfl, rfl, rfl, rfl, rfl, rfl, trivial⟩ (by ((try dsimp only); repeat (first | exact Pick.nil | ((apply Pick.cons); (focus (repeat (first | exact Rem.here | apply Rem.there)); done))))))
      ·(apply ot_v tk; (conv => whnf); refine sla ?_)
       refine ox1 4 ?_
       (apply ot_v tk; (conv => whnf); refine sla ?_)
       refine ox1 7 ?_
       (apply ot_v tk; (conv => whnf); (apply VSt.mk; (focus (repeat (first | exact At.here | apply At.there)); done); exact rfl; (conv => whnf)); refine sla ?_)
       refine ox1 8 ?_
       (apply ot_v tk; (conv => whnf); refine sla ?_)
       refine VT.mk (otx_end ?_)
       (((conv => whnf)); exact VJ.mk ((Bw, cw), (Bo, co), g6) rfl ⟨rfl, rfl, rfl, rfl, rfl, rfl, rfl, rfl, trivial⟩ (by ((try dsimp only); repeat (first | exact Pick.nil | ((apply Pick.cons); (focus (repeat (first | exact Rem.here | apply Rem.there)); done))))))
    ·(apply ot_v tk; (conv => whnf); (apply VNew.mk; intro g6 hg6; (conv => whnf)); refine sla ?_)
     refine ox1 3 ?_
     (apply ot_v tk; (conv => whnf); refine sla ?_)
     refine ox2 4 5 ?_ ?_
     ·(apply ot_v tk; (conv => whnf); refine sla ?_)
      refine ox2 5 7 ?_ ?_
      ·(apply ot_v tk; (conv => whnf); refine sla ?_)
       refine ox1 7 ?_
       (apply ot_v tk; (conv => whnf); (apply VSt.mk; (focus (repeat (first | exact At.here | apply At.there)); done); exact rfl; (conv => whnf)); refine sla ?_)
       refine ox1 8 ?_
       (apply ot_v tk; (conv => whnf); refine sla ?_)
       refine VT.mk (otx_end ?_)
       (((conv => whnf)); exact VJ.mk ((Bw, cw), (Bo, co), g6) rfl ⟨rfl, rfl, rfl, rfl, rfl, rfl, rfl, rfl, trivial⟩ (by ((try dsimp only); repeat (first | exact Pick.nil | ((apply Pick.cons); (focus (repeat (first | exact Rem.here | apply Rem.there)); done))))))
      ·(apply ot_v tk; (conv => whnf); (apply VSt.mk; (focus (repeat (first | exact At.here | apply At.there)); done); exact rfl; (conv => whnf)); refine sla ?_)
       refine ox1 5 ?_
       (apply ot_v tk; (conv => whnf); refine sla ?_)
       refine ox1 8 ?_
       (apply ot_v tk; (conv => whnf); refine sla ?_)
       refine VT.mk (otx_end ?_)
       (((conv => whnf)); exact VJ.mk ((Bw, cw), (Bo, co), g6) rfl ⟨rfl, rfl, rfl, rfl, rfl, rfl, rfl, rfl, trivial⟩ (by ((try dsimp only); repeat (first | exact Pick.nil | ((apply Pick.cons); (focus (repeat (first | exact Rem.here | apply Rem.there)); done))))))
     ·(apply ot_v tk; (conv => whnf); refine sla ?_)
      refine ox1 4 ?_
      (apply ot_v tk; (conv => whnf); refine sla ?_)
      refine ox1 7 ?_
      (apply ot_v tk; (conv => whnf); (apply VSt.mk; (focus (repeat (first | exact At.here | apply At.there)); done); exact rfl; (conv => whnf)); refine sla ?_)
      refine ox1 8 ?_
      (apply ot_v tk; (conv => whnf); refine sla ?_)
      refine VT.mk (otx_end ?_)
      (((conv => whnf)); exact VJ.mk ((Bw, cw), (Bo, co), g6) rfl ⟨rfl, rfl, rfl, rfl, rfl, rfl, rfl, rfl, trivial⟩ (by ((try dsimp only); repeat (first | exact Pick.nil | ((apply Pick.cons); (focus (repeat (first | exact Rem.here | apply Rem.there)); done))))))
   ·(apply ot_v tk; (conv => whnf); (apply VNew.mk; intro g6 hg6; (conv => whnf)); refine sla ?_)
    refine ox1 2 ?_
    (refine ot_callT (X := SlX) (us := []) (vs := []) (fun x => .tuple #[.agg #[.slice x.1 3 x.2], .int .i64 0]) (fun x => []) (fun x => [.own (.slice x.1 3 x.2) 61 5 3 (lnC threeL)]) _ (fun x c hc => one_mut hc) (by decide) rfl rfl rfl rfl (by kernel_rfl) (evl_of rfl) rfl (fun w1 hs => y_only hs (by (repeat (first | exact List.Mem.head _ | assumption | refine List.Mem.tail _ ?_))) (by (repeat (first | exact List.Mem.head _ | assumption | refine List.Mem.tail _ ?_)))) ?_; rintro ⟨Bo, co⟩ _; dsimp only [List.cons_append, List.nil_append]; refine ot_nil ?_; refine sla ?_)
    refine ox1 3 ?_
    (apply ot_v tk; (conv => whnf); refine sla ?_)
    refine ox2 4 5 ?_ ?_
    ·(apply ot_v tk; (conv => whnf); refine sla ?_)
     refine ox2 5 7 ?_ ?_
     ·(apply ot_v tk; (conv => whnf); refine sla ?_)
      refine ox1 7 ?_
      (apply ot_v tk; (conv => whnf); (apply VSt.mk; (focus (repeat (first | exact At.here | apply At.there)); done); exact rfl; (conv => whnf)); refine sla ?_)
      refine ox1 8 ?_
      (apply ot_v tk; (conv => whnf); refine sla ?_)
      refine VT.mk (otx_end ?_)
      (((conv => whnf)); exact VJ.mk ((Bw, cw), (Bo, co), g6) rfl ⟨rfl, rfl, rfl, rfl, rfl, rfl, rfl, rfl, trivial⟩ (by ((try dsimp only); repeat (first | exact Pick.nil | ((apply Pick.cons); (focus (repeat (first | exact Rem.here | apply Rem.there)); done))))))
     ·(apply ot_v tk; (conv => whnf); (apply VSt.mk; (focus (repeat (first | exact At.here | apply At.there)); done); exact rfl; (conv => whnf)); refine sla ?_)
      refine ox1 5 ?_
      (apply ot_v tk; (conv => whnf); refine sla ?_)
      refine ox1 8 ?_
      (apply ot_v tk; (conv => whnf); refine sla ?_)
      refine VT.mk (otx_end ?_)
      (((conv => whnf)); exact VJ.mk ((Bw, cw), (Bo, co), g6) rfl ⟨rfl, rfl, rfl, rfl, rfl, rfl, rfl, rfl, trivial⟩ (by ((try dsimp only); repeat (first | exact Pick.nil | ((apply Pick.cons); (focus (repeat (first | exact Rem.here | apply Rem.there)); done))))))
    ·(apply ot_v tk; (conv => whnf); refine sla ?_)
     refine ox1 4 ?_
     (apply ot_v tk; (conv => whnf); refine sla ?_)
     refine ox1 7 ?_
     (apply ot_v tk; (conv => whnf); (apply VSt.mk; (focus (repeat (first | exact At.here | apply At.there)); done); exact rfl; (conv => whnf)); refine sla ?_)
     refine ox1 8 ?_
     (apply ot_v tk; (conv => whnf); refine sla ?_)
     refine VT.mk (otx_end ?_)
     (((conv => whnf)); exact VJ.mk ((Bw, cw), (Bo, co), g6) rfl ⟨rfl, rfl, rfl, rfl, rfl, rfl, rfl, rfl, trivial⟩ (by ((try dsimp only); repeat (first | exact Pick.nil | ((apply Pick.cons); (focus (repeat (first | exact Rem.here | apply Rem.there)); done))))))
  ·(apply ot_v tk; (conv => whnf); (apply VNew.mk; intro g6 hg6; (conv => whnf)); refine sla ?_)
   refine ox1 1 ?_
   (refine ot_callT (X := SlX) (us := []) (vs := []) (fun x => .agg #[.slice x.1 1 x.2]) (fun x => []) (fun x => [.own (.slice x.1 1 x.2) 61 5 1 (lnC wrongL)]) _ (fun x c hc => one_mut hc) (by decide) rfl rfl rfl rfl (by kernel_rfl) (evl_of rfl) rfl (fun w1 hs => wrong_any w1) ?_; rintro ⟨Bw, cw⟩ _; dsimp only [List.cons_append, List.nil_append]; refine ot_nil ?_; refine sla ?_)
   refine ox1 2 ?_
   (refine ot_callT (X := SlX) (us := []) (vs := []) (fun x => .tuple #[.agg #[.slice x.1 3 x.2], .int .i64 0]) (fun x => []) (fun x => [.own (.slice x.1 3 x.2) 61 5 3 (lnC threeL)]) _ (fun x c hc => one_mut hc) (by decide) rfl rfl rfl rfl (by kernel_rfl) (evl_of rfl) rfl (fun w1 hs => y_only hs (by (repeat (first | exact List.Mem.head _ | assumption | refine List.Mem.tail _ ?_))) (by (repeat (first | exact List.Mem.head _ | assumption | refine List.Mem.tail _ ?_)))) ?_; rintro ⟨Bo, co⟩ _; dsimp only [List.cons_append, List.nil_append]; refine ot_nil ?_; refine sla ?_)
   refine ox1 3 ?_
   (apply ot_v tk; (conv => whnf); refine sla ?_)
   refine ox2 4 5 ?_ ?_
   ·(apply ot_v tk; (conv => whnf); refine sla ?_)
    refine ox2 5 7 ?_ ?_
    ·(apply ot_v tk; (conv => whnf); refine sla ?_)
     refine ox1 7 ?_
     (apply ot_v tk; (conv => whnf); (apply VSt.mk; (focus (repeat (first | exact At.here | apply At.there)); done); exact rfl; (conv => whnf)); refine sla ?_)
     refine ox1 8 ?_
     (apply ot_v tk; (conv => whnf); refine sla ?_)
     refine VT.mk (otx_end ?_)
     (((conv => whnf)); exact VJ.mk ((Bw, cw), (Bo, co), g6) rfl ⟨rfl, rfl, rfl, rfl, rfl, rfl, rfl, rfl, trivial⟩ (by ((try dsimp only); repeat (first | exact Pick.nil | ((apply Pick.cons); (focus (repeat (first | exact Rem.here | apply Rem.there)); done))))))
    ·(apply ot_v tk; (conv => whnf); (apply VSt.mk; (focus (repeat (first | exact At.here | apply At.there)); done); exact rfl; (conv => whnf)); refine sla ?_)
     refine ox1 5 ?_
     (apply ot_v tk; (conv => whnf); refine sla ?_)
     refine ox1 8 ?_
     (apply ot_v tk; (conv => whnf); refine sla ?_)
     refine VT.mk (otx_end ?_)
     (((conv => whnf)); exact VJ.mk ((Bw, cw), (Bo, co), g6) rfl ⟨rfl, rfl, rfl, rfl, rfl, rfl, rfl, rfl, trivial⟩ (by ((try dsimp only); repeat (first | exact Pick.nil | ((apply Pick.cons); (focus (repeat (first | exact Rem.here | apply Rem.there)); done))))))
   ·(apply ot_v tk; (conv => whnf); refine sla ?_)
    refine ox1 4 ?_
    (apply ot_v tk; (conv => whnf); refine sla ?_)
    refine ox1 7 ?_
    (apply ot_v tk; (conv => whnf); (apply VSt.mk; (focus (repeat (first | exact At.here | apply At.there)); done); exact rfl; (conv => whnf)); refine sla ?_)
    refine ox1 8 ?_
    (apply ot_v tk; (conv => whnf); refine sla ?_)
    refine VT.mk (otx_end ?_)
    (((conv => whnf)); exact VJ.mk ((Bw, cw), (Bo, co), g6) rfl ⟨rfl, rfl, rfl, rfl, rfl, rfl, rfl, rfl, trivial⟩ (by ((try dsimp only); repeat (first | exact Pick.nil | ((apply Pick.cons); (focus (repeat (first | exact Rem.here | apply Rem.there)); done))))))
 rintro ⟨⟨Bw, cw⟩, ⟨Bo, co⟩, g6⟩
 refine tr_cut (fun x : SlX => ([(8, .slice x.1 3 x.2), (9, .int .i64 0), (6, .pointer (some ⟨g6, 0, none⟩)), (7, .int .i64 0), (4, .slice Bt 8 ct), (5, .int .i64 0), (2, .slice Bs 8 cs), (3, .int .i64 0), (1, .pointer (some ⟨g1, 0, none⟩)), (0, .bool false)], [.own (.slice x.1 3 x.2) 3 1 3 (i64s [4, 2, 0]), .own (.slice Bo 3 co) 61 5 3 (lnC threeL), .blk g6 24 [.slice Bo 3 co], .own (.slice Bt 8 ct) 2 1 8 (i64s [0, 0, 0, 0, 0, 0, 0, 0]), .own (.slice Bs 8 cs) 2 1 8 (i64s [0, 0, 25, 0, 0, 0, 0, 0]), .blk g1 24 [.slice Ba 3 ca], .own (.slice Ba 3 ca) 61 5 3 (lnC threeL)])) ?_ ?_
 ·(apply tr_v tk; (conv => whnf); (repeat ((apply VLdN.mk; (focus ((repeat (first | (with_reducible apply ldn_blk) | (with_reducible apply ldn_skip))); done)); exact rfl); (conv => whnf))); apply VCall.stop)
  refine ot_callT (X := SlX) (us := []) (vs := []) (fun x => .tuple #[.slice x.1 3 x.2, .int .i64 0]) (fun x => []) (fun x => [.own (.slice x.1 3 x.2) 3 1 3 (i64s [4, 2, 0])]) _ (fun x c hc => one_mut hc) (by decide) rfl rfl rfl rfl (by kernel_rfl) (evl_of rfl) rfl (fun w1 hs => y_seen hs (by (repeat (first | exact List.Mem.head _ | assumption | refine List.Mem.tail _ ?_)))) ?_
  rintro ⟨Bu, cu⟩ _
  (dsimp only [List.cons_append, List.nil_append]; apply ot_v tk)
  ((conv => whnf))
  exact VJ.mk (Bu, cu) rfl ⟨rfl, rfl, rfl, rfl, rfl, rfl, rfl, rfl, rfl, rfl, trivial⟩ (by ((try dsimp only); repeat (first | exact Pick.nil | ((apply Pick.cons); (focus (repeat (first | exact Rem.here | apply Rem.there)); done)))))
 rintro ⟨Bu, cu⟩
 refine tr_cut (fun x : Unit => ([(10, .string (bs [])), (11, .int .i64 0), (8, .slice Bu 3 cu), (9, .int .i64 0), (6, .pointer (some ⟨g6, 0, none⟩)), (7, .int .i64 0), (4, .slice Bt 8 ct), (5, .int .i64 0), (2, .slice Bs 8 cs), (3, .int .i64 0), (1, .pointer (some ⟨g1, 0, none⟩)), (0, .bool false)], [.own (.slice Bu 3 cu) 3 1 3 (i64s [4, 2, 0]), .own (.slice Bo 3 co) 61 5 3 (lnC threeL), .blk g6 24 [.slice Bo 3 co], .own (.slice Bt 8 ct) 2 1 8 (i64s [0, 0, 0, 0, 0, 0, 0, 0]), .own (.slice Bs 8 cs) 2 1 8 (i64s [0, 0, 25, 0, 0, 0, 0, 0]), .blk g1 24 [.slice Ba 3 ca], .own (.slice Ba 3 ca) 61 5 3 (lnC threeL)])) ?_ ?_
 ·(apply tr_v tk; (conv => whnf); (repeat ((apply VCall.q; kernel_rfl; (focus (intro w1 hs; first | with_reducible apply y_file w1 (hE.st hs)))); (conv => whnf))))
  exact VJ.mk () rfl ⟨rfl, rfl, rfl, rfl, rfl, rfl, rfl, rfl, rfl, rfl, rfl, rfl, trivial⟩ (by ((try dsimp only); repeat (first | exact Pick.nil | ((apply Pick.cons); (focus (repeat (first | exact Rem.here | apply Rem.there)); done)))))
 rintro _
 refine tr_cut (fun x : SlX × Nat => ([(12, .pointer (some ⟨x.2, 0, none⟩)), (13, .int .i64 0), (10, .string (bs [])), (11, .int .i64 0), (8, .slice Bu 3 cu), (9, .int .i64 0), (6, .pointer (some ⟨g6, 0, none⟩)), (7, .int .i64 0), (4, .slice Bt 8 ct), (5, .int .i64 0), (2, .slice Bs 8 cs), (3, .int .i64 0), (1, .pointer (some ⟨g1, 0, none⟩)), (0, .bool false)], [.own (.slice x.1.1 1 x.1.2) 61 5 1 (lnC nineL), .blk x.2 24 [.slice x.1.1 1 x.1.2], .own (.slice Bu 3 cu) 3 1 3 (i64s [4, 2, 0]), .own (.slice Bo 3 co) 61 5 3 (lnC threeL), .blk g6 24 [.slice Bo 3 co], .own (.slice Bt 8 ct) 2 1 8 (i64s [0, 0, 0, 0, 0, 0, 0, 0]), .own (.slice Bs 8 cs) 2 1 8 (i64s [0, 0, 25, 0, 0, 0, 0, 0]), .blk g1 24 [.slice Ba 3 ca], .own (.slice Ba 3 ca) 61 5 3 (lnC threeL)])) ?_ ?_
 ·(apply tr_v tk; (conv => whnf); apply VCall.stop)
  refine ot_callT (X := SlX) (us := []) (vs := []) (fun x => .tuple #[.agg #[.slice x.1 1 x.2], .int .i64 0]) (fun x => []) (fun x => [.own (.slice x.1 1 x.2) 61 5 1 (lnC nineL)]) _ (fun x c hc => one_mut hc) (by decide) rfl rfl rfl rfl (by kernel_rfl) (evl_of rfl) rfl (fun w1 hs => y_load w1 (hE.st hs) (hM.st hs)) ?_
  rintro ⟨Bl, cl⟩ _
  (dsimp only [List.cons_append, List.nil_append]; apply ot_v tk)
  ((conv => whnf); (repeat ((first | (apply VNew.mk; intro g hg) | (apply VSt.mk; (focus ((repeat (first | (with_reducible exact At.here) | (with_reducible apply At.there))); done)); exact rfl)); (conv => whnf))))
  revert g hg; intro g12 hg12
  exact VJ.mk ((Bl, cl), g12) rfl ⟨rfl, rfl, rfl, rfl, rfl, rfl, rfl, rfl, rfl, rfl, rfl, rfl, rfl, rfl, trivial⟩ (by ((try dsimp only); repeat (first | exact Pick.nil | ((apply Pick.cons); (focus (repeat (first | exact Rem.here | apply Rem.there)); done)))))
 rintro ⟨⟨Bl, cl⟩, g12⟩
 dsimp only
 (apply tr_v tk; (conv => whnf); (repeat ((first | ((first | apply VStop.mk | apply VCall.stop); refine tr_region_lex (id := 8) (by kernel_rfl) [.rd, .rd, .rd, .rd, .cr, .cr, .cr, .rd, .rd, .rd, .rd, .rd, .rd, .rd, .cr, .cr, .cr, .rd, .rd, .rd, .rd, .rd, .rd, .rd, .rd, .cr, .rd, .rd, .rd, .rd, .rd, .rd, .rd, .cr, .cr, .cr, .rd, .rd, .rd, .rd, .rd, .rd, .rd, .rd, .rd, .rd, .rd, .rd, .rd, .rd, .rd, .cr, .cr, .cr, .rd, .rd, .rd, .cr, .rd, .rd, .rd, .cr, .rd, .rd] rfl (by kernel_rfl) ?_; apply ot_v tk) | apply VBr.t | (apply v_t; omega) | (apply VNew.mk; intro g hg)); (conv => whnf))); apply VCall.stop)
 refine ot_callT (X := SlX) (us := []) (vs := []) (fun x => .slice x.1 8 x.2) (fun x => []) (fun x => [.own (.slice x.1 8 x.2) 2 1 8 (i64s [0, 0, 25, 0, 0, 0, 0, 0])]) _ (fun x c hc => one_mut hc) (by decide) rfl rfl rfl rfl (by kernel_rfl) (evl_of rfl) rfl (fun w1 hs => z_yt hs (by (repeat (first | exact List.Mem.head _ | assumption | refine List.Mem.tail _ ?_)))) ?_
 rintro ⟨Byt, cyt⟩ _
 (dsimp only [List.cons_append, List.nil_append]; apply ot_v tk)
 ((conv => whnf); (repeat (apply VBr.t; (conv => whnf))); apply VCall.stop)
 refine ot_call_q rfl rfl rfl (by kernel_rfl) (evl_of rfl) (fun w1 hs => longsN (l := [0, 0, 25, 0, 0, 0, 0, 0]) (A1 := Bs) (c1 := cs) (A2 := Byt) (c2 := cyt) hs (by (repeat (first | exact List.Mem.head _ | assumption | refine List.Mem.tail _ ?_))) (by (repeat (first | exact List.Mem.head _ | assumption | refine List.Mem.tail _ ?_))) rfl (by decide)) ?_
 apply ot_v tk
 ((conv => whnf); (repeat ((first | apply VBr.t | (apply v_t; omega) | (apply VNew.mk; intro g hg)); (conv => whnf))); apply VCall.stop)
 refine ot_callT (X := SlX) (us := []) (vs := []) (fun x => .slice x.1 8 x.2) (fun x => []) (fun x => [.own (.slice x.1 8 x.2) 2 1 8 (i64s [0, 0, 0, 0, 0, 0, 0, 0])]) _ (fun x c hc => one_mut hc) (by decide) rfl rfl rfl rfl (by kernel_rfl) (evl_of rfl) rfl (fun w1 hs => z_y0 hs (by (repeat (first | exact List.Mem.head _ | assumption | refine List.Mem.tail _ ?_)))) ?_
 rintro ⟨By0, cy0⟩ _
 (dsimp only [List.cons_append, List.nil_append]; apply ot_v tk)
 ((conv => whnf); (repeat (apply VBr.t; (conv => whnf))); apply VCall.stop)
 refine ot_call_q rfl rfl rfl (by kernel_rfl) (evl_of rfl) (fun w1 hs => longsN (l := [0, 0, 0, 0, 0, 0, 0, 0]) (A1 := Bt) (c1 := ct) (A2 := By0) (c2 := cy0) hs (by (repeat (first | exact List.Mem.head _ | assumption | refine List.Mem.tail _ ?_))) (by (repeat (first | exact List.Mem.head _ | assumption | refine List.Mem.tail _ ?_))) rfl (by decide)) ?_
 apply ot_v tk
 ((conv => whnf); (repeat ((first | (apply VLdN.mk; (focus ((repeat (first | (with_reducible apply ldn_blk) | (with_reducible apply ldn_skip))); done)); exact rfl) | apply VBr.t | (apply v_t; omega)); (conv => whnf))); apply VCall.stop)
 refine ot_call_q rfl rfl rfl (by kernel_rfl) (evl_of rfl) (fun w1 hs => sameN (l := threeL) (A1 := Bo) (c1 := co) (A2 := Ba) (c2 := ca) hs (by (repeat (first | exact List.Mem.head _ | assumption | refine List.Mem.tail _ ?_))) (by (repeat (first | exact List.Mem.head _ | assumption | refine List.Mem.tail _ ?_))) rfl (by decide)) ?_
 apply ot_v tk
 ((conv => whnf); (repeat ((first | (apply VCall.q; kernel_rfl; (focus (intro w1 hs; first | with_reducible apply of_any _ _ _ w1))) | apply VBr.t | (apply v_t; omega) | (apply VNew.mk; intro g hg)); (conv => whnf))); apply VCall.stop)
 refine ot_call_q rfl rfl rfl (by kernel_rfl) (evl_of rfl) (fun w1 hs => intsN (l := [4, 2, 0]) (A1 := Bu) (c1 := cu) (g := g) (t := 3) hs (by (repeat (first | exact List.Mem.head _ | assumption | refine List.Mem.tail _ ?_))) (by (repeat (first | exact List.Mem.head _ | assumption | refine List.Mem.tail _ ?_))) rfl (by decide)) ?_
 apply ot_v tk
 ((conv => whnf); (repeat ((first | ((first | apply VStop.mk | apply VCall.stop); (refine ot_strq true (decide_eq_true rfl) rfl rfl rfl rfl rfl ?_); apply ot_v tk) | (apply VLdN.mk; (focus ((repeat (first | (with_reducible apply ldn_blk) | (with_reducible apply ldn_skip))); done)); exact rfl) | apply VBr.t | (apply v_t; omega) | (apply VNew.mk; intro g hg)); (conv => whnf))); apply VCall.stop)
 refine ot_callT (X := SlX) (us := []) (vs := []) (fun x => .agg #[.slice x.1 1 x.2]) (fun x => []) (fun x => [.own (.slice x.1 1 x.2) 61 5 1 (lnC nineL)]) _ (fun x c hc => one_mut hc) (by decide) rfl rfl rfl rfl (by kernel_rfl) (evl_of rfl) rfl (fun w1 hs => z_yn hs (by (repeat (first | exact List.Mem.head _ | assumption | refine List.Mem.tail _ ?_)))) ?_
 rintro ⟨Byn, cyn⟩ _
 (dsimp only [List.cons_append, List.nil_append]; apply ot_v tk)
 ((conv => whnf); (repeat (apply VBr.t; (conv => whnf))); apply VCall.stop)
 refine ot_call_q rfl rfl rfl (by kernel_rfl) (evl_of rfl) (fun w1 hs => sameN (l := nineL) (A1 := Bl) (c1 := cl) (A2 := Byn) (c2 := cyn) hs (by (repeat (first | exact List.Mem.head _ | assumption | refine List.Mem.tail _ ?_))) (by (repeat (first | exact List.Mem.head _ | assumption | refine List.Mem.tail _ ?_))) rfl (by decide)) ?_
 apply ot_v tk
 ((conv => whnf); (repeat ((first | (apply VLdN.mk; (focus ((repeat (first | (with_reducible apply ldn_blk) | (with_reducible apply ldn_skip))); done)); exact rfl) | apply VBr.t); (conv => whnf))); apply VCall.stop)
 refine ot_call_q rfl rfl rfl (by kernel_rfl) (evl_of rfl) (fun w1 hs => y_check (A1 := Ba) (c1 := ca) hs (by (repeat (first | exact List.Mem.head _ | assumption | refine List.Mem.tail _ ?_)))) ?_
 apply ot_v tk
 ((conv => whnf); (repeat ((first | apply VBr.t | (apply v_t; omega)); (conv => whnf))); apply VCall.stop)
 refine ot_call_q rfl rfl rfl (by kernel_rfl) (evl_of rfl) (fun w1 hs => works_any w1 (hE.st hs) (hM.st hs)) ?_
 apply ot_v tk
 ((conv => whnf); (repeat (apply VBr.t; (conv => whnf))))
 ((apply VRet.mk); refine ret1 (by first | exact .inl rfl | exact .inr rfl) rfl (by exact rv_tmp rfl) ?_; exact fun w h => ⟨rfl, h.base⟩)
end Go.Proofs.YtojeeindlijgkaaGreatDoor
