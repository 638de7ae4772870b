/- With: lemmas for the rows of this seat. No conditions. -/
import Derived.Test.YtalcccgialpjgaaN18
set_option linter.all false
namespace Go.Proofs.Ytalcccgialpjgaa
open Go.RowKit
/-! ## With -/
theorem setX_self {X : List (List R2)} {i k m : Nat} (h : ∀ s ∈ X, s.length = m) (hi : i < X.length) (hk : k < m) : setX X i k (xAt X i k) = X := by
 have hx := h _ (List.getElem_mem hi)
 unfold setX xAt rAt
 rw [List.getElem?_eq_getElem hi, Option.getD_some, List.getElem?_eq_getElem (by omega), Option.getD_some]
 rw [List.set_getElem_self, List.set_getElem_self]
section
variable (RA : Option Addr) (rc : Nat) (CA : Option Addr) (cc : Nat) (XA : Option Addr) (xc : Nat) (R C : List R2) (X : List (List R2)) (w : World) (hT : TabR w RA CA XA R C X)
include hT
set_option maxHeartbeats 2000000 in
set_option maxRecDepth 20000 in
theorem with_any (hV : Valid R C X) (i k : Nat) (hi : i < R.length) (hk : k < C.length) (r : R2) : Calls Try.prog 47 #[tabV RA rc CA cc XA xc R C X, .int .i64 (i : Int), .int .i64 (k : Int), .agg #[.int .i64 r.1, .int .i64 r.2]] w fun e w' => ∃ x : TabX, e = .returned (tabX x R C (setX X i k r)) ∧ x.xs.length = (setX X i k r).length ∧ St w (tabCh R C (setX X i k r) x) w' := by
 have hn := hV.r1
 have hn4 := hV.r4
 have hm := hV.c1
 have hm4 := hV.c4
 have hxl := hV.x
 unfold tabV at *
 refine fn_k Try.func47 rfl rfl (Nat.le_of_ble_eq_true rfl) (n := 48) (A := []) (St.nil (Below.refl _ _)) ?_
 refine tr_seqK ?_
 (apply tr_v tk; (conv => whnf); (repeat ((first | (apply VNew.mk; intro g hg) | (refine sla ?_; first | refine otl_nil ?_ | (refine otl_cons ?_; apply ot_v tk) | skip) | (apply VK.mk; first | (refine otl_cons ?_; apply ot_v tk) | apply ot_v tk)); (conv => whnf))); apply VStop.mk)
 revert g hg
 intro g8 hg8
 revert g hg
 intro g7 hg7
 revert g hg
 intro g4 hg4
 refine tr_cut (fun x : CpX => ([(1, .int .i64 (i : Int)), (2, .int .i64 (k : Int)), (4, .pointer (some ⟨g4, 0, none⟩)), (7, .pointer (some ⟨g7, 0, none⟩)), (8, .pointer (some ⟨g8, 0, none⟩)), (9, .pointer (some ⟨x.g, 0, none⟩))], [.own (.slice x.r.1 R.length x.r.2) 37 2 R.length (rgC R), .own (.slice x.c.1 C.length x.c.2) 37 2 C.length (rgC C), .blk x.g 25 [.slice x.r.1 R.length x.r.2, .slice x.c.1 C.length x.c.2, .slice none 0 0], .blk g8 25 [.slice none 0 0, .slice none 0 0, .slice none 0 0], .blk g7 37 [.int .i64 r.1, .int .i64 r.2], .blk g4 25 [.slice RA R.length rc, .slice CA C.length cc, .slice XA X.length xc]])) ?_ ?_
 ·(apply tr_v tk; (conv => whnf); (repeat ((first | (apply VStop.mk; refine tr_region_treeV (id := 1) (by kernel_rfl) [.blk g4 25 _] (by (repeat (first | exact sl0 _ | exact sl1 _ | refine sl2 _ ?_ | refine sl3 _ ?_))) [1, 2, 5, 6] [0, 3, 4, 7, 8, 9, 10] [.rd, .rd, .rd, .rd] (fun i => [.cr, .wr, .wr, .wr, .cr, .wr, .wr, .wr, .wr, .cr, .wr].getD i .wr) _ rfl rfl (by kernel_rfl) ?_; apply ot_v tk) | (apply VLd.mk; (focus ((repeat (first | ((with_reducible apply ld_blk); exact rfl) | (with_reducible apply ld_skip))); done))) | (refine sla ?_; first | refine otl_nil ?_ | (refine otl_cons ?_; apply ot_v tk) | skip) | (apply VK.mk; first | (refine otl_cons ?_; apply ot_v tk) | apply ot_v tk)); (conv => whnf))))
  refine VT.mk (otx_anyV [0, 4, 9] (by kernel_rfl) (by decide) ?_)
  refine ⟨⟨by kernel_rfl, by decide, ?_⟩, ⟨by kernel_rfl, by decide, ?_⟩, ⟨by kernel_rfl, by decide, ?_⟩, trivial⟩
  ·(apply ot_v tk; (conv => whnf); (apply VNew.mk; intro gp hgp; (conv => whnf)); refine sla ?_)
   refine VT.mk (otx_anyV [3, 4, 9] (by kernel_rfl) (by decide) ?_)
   refine ⟨⟨by kernel_rfl, by decide, ?_⟩, ⟨by kernel_rfl, by decide, ?_⟩, ⟨by kernel_rfl, by decide, ?_⟩, trivial⟩
   ·(refine ot_appendE (sz := 2) (news := rgC R) tk (by decide) rfl rfl rfl rfl rfl rfl rfl rfl rfl rfl (by omega) (fun w1 hs => hs.reads hT.r) (by omega) (by decide) (fun gr cr hgr => ?_); refine ot_nil ?_; refine sla ?_)
    refine ox2 4 9 ?_ ?_
    ·(apply ot_v tk; (conv => whnf); (apply VNew.mk; intro gq hgq; (conv => whnf)); refine sla ?_)
     refine ox2 7 9 ?_ ?_
     ·(refine ot_appendE (sz := 2) (news := rgC C) tk (by decide) rfl rfl rfl rfl rfl rfl rfl rfl rfl rfl (by omega) (fun w1 hs => hs.reads hT.c) (by omega) (by decide) (fun gc cc2 hgc => ?_); refine ot_nil ?_; refine sla ?_)
      refine ox2 8 9 ?_ ?_
      ·(apply ot_v tk; (conv => whnf); refine sla ?_)
       refine ox1 9 ?_
       (apply ot_v tk; (conv => whnf); (apply VNew.mk; intro g9 hg9; (conv => whnf)); refine sla ?_)
       refine ox1 10 ?_
       (apply ot_v tk; (conv => whnf); (apply VSt.mk; (focus (repeat (first | exact At.here | apply At.there)); done); exact rfl; (conv => whnf)); refine sla ?_)
       refine VT.mk (otx_end ?_)
       exact VJ.mk ⟨g9, (some ⟨gr, 0, none⟩, cr), (some ⟨gc, 0, none⟩, cc2)⟩ rfl ⟨rfl, rfl, rfl, rfl, rfl, rfl, trivial⟩ (by ((try dsimp only); repeat (first | exact Pick.nil | ((apply Pick.cons); (focus (repeat (first | exact Rem.here | apply Rem.there)); done)))))
      ·(apply ot_v tk; (conv => whnf); (apply VNew.mk; intro g9 hg9; (conv => whnf)); refine sla ?_)
       refine ox1 8 ?_
       (apply ot_v tk; (conv => whnf); refine sla ?_)
       refine ox1 10 ?_
       (apply ot_v tk; (conv => whnf); (apply VSt.mk; (focus (repeat (first | exact At.here | apply At.there)); done); exact rfl; (conv => whnf)); refine sla ?_)
       refine VT.mk (otx_end ?_)
       exact VJ.mk ⟨g9, (some ⟨gr, 0, none⟩, cr), (some ⟨gc, 0, none⟩, cc2)⟩ rfl ⟨rfl, rfl, rfl, rfl, rfl, rfl, trivial⟩ (by ((try dsimp only); repeat (first | exact Pick.nil | ((apply Pick.cons); (focus (repeat (first | exact Rem.here | apply Rem.there)); done)))))
     ·(apply ot_v tk; (conv => whnf); (apply VNew.mk; intro g9 hg9; (conv => whnf)); refine sla ?_)
      refine ox1 7 ?_
      (refine ot_appendE (sz := 2) (news := rgC C) tk (by decide) rfl rfl rfl rfl rfl rfl rfl rfl rfl rfl (by omega) (fun w1 hs => hs.reads hT.c) (by omega) (by decide) (fun gc cc2 hgc => ?_); refine ot_nil ?_; refine sla ?_)
      refine ox1 8 ?_
      (apply ot_v tk; (conv => whnf); refine sla ?_)
      refine ox1 10 ?_
      (apply ot_v tk; (conv => whnf); (apply VSt.mk; (focus (repeat (first | exact At.here | apply At.there)); done); exact rfl; (conv => whnf)); refine sla ?_)
      refine VT.mk (otx_end ?_)
      exact VJ.mk ⟨g9, (some ⟨gr, 0, none⟩, cr), (some ⟨gc, 0, none⟩, cc2)⟩ rfl ⟨rfl, rfl, rfl, rfl, rfl, rfl, trivial⟩ (by ((try dsimp only); repeat (first | exact Pick.nil | ((apply Pick.cons); (focus (repeat (first | exact Rem.here | apply Rem.there)); done)))))
    ·(apply ot_v tk; (conv => whnf); (apply VNew.mk; intro g9 hg9; (conv => whnf)); refine sla ?_)
     refine ox1 4 ?_
     (apply ot_v tk; (conv => whnf); (apply VNew.mk; intro gq hgq; (conv => whnf)); refine sla ?_)
     refine ox1 7 ?_
     (refine ot_appendE (sz := 2) (news := rgC C) tk (by decide) rfl rfl rfl rfl rfl rfl rfl rfl rfl rfl (by omega) (fun w1 hs => hs.reads hT.c) (by omega) (by decide) (fun gc cc2 hgc => ?_); refine ot_nil ?_; refine sla ?_)
     refine ox1 8 ?_
     (apply ot_v tk; (conv => whnf); refine sla ?_)
     refine ox1 10 ?_
     (apply ot_v tk; (conv => whnf); (apply VSt.mk; (focus (repeat (first | exact At.here | apply At.there)); done); exact rfl; (conv => whnf)); refine sla ?_)
     refine VT.mk (otx_end ?_)
     exact VJ.mk ⟨g9, (some ⟨gr, 0, none⟩, cr), (some ⟨gc, 0, none⟩, cc2)⟩ rfl ⟨rfl, rfl, rfl, rfl, rfl, rfl, trivial⟩ (by ((try dsimp only); repeat (first | exact Pick.nil | ((apply Pick.cons); (focus (repeat (first | exact Rem.here | apply Rem.there)); done)))))
   ·(apply ot_v tk; (conv => whnf); (apply VNew.mk; intro gq hgq; (conv => whnf)); refine sla ?_)
    refine ox2 3 9 ?_ ?_
    ·(refine ot_appendE (sz := 2) (news := rgC R) tk (by decide) rfl rfl rfl rfl rfl rfl rfl rfl rfl rfl (by omega) (fun w1 hs => hs.reads hT.r) (by omega) (by decide) (fun gr cr hgr => ?_); refine ot_nil ?_; refine sla ?_)
     refine ox2 7 9 ?_ ?_
     ·(refine ot_appendE (sz := 2) (news := rgC C) tk (by decide) rfl rfl rfl rfl rfl rfl rfl rfl rfl rfl (by omega) (fun w1 hs => hs.reads hT.c) (by omega) (by decide) (fun gc cc2 hgc => ?_); refine ot_nil ?_; refine sla ?_)
      refine ox2 8 9 ?_ ?_
      ·(apply ot_v tk; (conv => whnf); refine sla ?_)
       refine ox1 9 ?_
       (apply ot_v tk; (conv => whnf); (apply VNew.mk; intro g9 hg9; (conv => whnf)); refine sla ?_)
       refine ox1 10 ?_
       (apply ot_v tk; (conv => whnf); (apply VSt.mk; (focus (repeat (first | exact At.here | apply At.there)); done); exact rfl; (conv => whnf)); refine sla ?_)
       refine VT.mk (otx_end ?_)
       exact VJ.mk ⟨g9, (some ⟨gr, 0, none⟩, cr), (some ⟨gc, 0, none⟩, cc2)⟩ rfl ⟨rfl, rfl, rfl, rfl, rfl, rfl, trivial⟩ (by ((try dsimp only); repeat (first | exact Pick.nil | ((apply Pick.cons); (focus (repeat (first | exact Rem.here | apply Rem.there)); done)))))
      ·(apply ot_v tk; (conv => whnf); (apply VNew.mk; intro g9 hg9; (conv => whnf)); refine sla ?_)
       refine ox1 8 ?_
       (apply ot_v tk; (conv => whnf); refine sla ?_)
       refine ox1 10 ?_
       (apply ot_v tk; (conv => whnf); (apply VSt.mk; (focus (repeat (first | exact At.here | apply At.there)); done); exact rfl; (conv => whnf)); refine sla ?_)
       refine VT.mk (otx_end ?_)
       exact VJ.mk ⟨g9, (some ⟨gr, 0, none⟩, cr), (some ⟨gc, 0, none⟩, cc2)⟩ rfl ⟨rfl, rfl, rfl, rfl, rfl, rfl, trivial⟩ (by ((try dsimp only); repeat (first | exact Pick.nil | ((apply Pick.cons); (focus (repeat (first | exact Rem.here | apply Rem.there)); done)))))
     ·(apply ot_v tk; (conv => whnf); (apply VNew.mk; intro g9 hg9; (conv => whnf)); refine sla ?_)
      refine ox1 7 ?_
      (refine ot_appendE (sz := 2) (news := rgC C) tk (by decide) rfl rfl rfl rfl rfl rfl rfl rfl rfl rfl (by omega) (fun w1 hs => hs.reads hT.c) (by omega) (by decide) (fun gc cc2 hgc => ?_); refine ot_nil ?_; refine sla ?_)
      refine ox1 8 ?_
      (apply ot_v tk; (conv => whnf); refine sla ?_)
      refine ox1 10 ?_
      (apply ot_v tk; (conv => whnf); (apply VSt.mk; (focus (repeat (first | exact At.here | apply At.there)); done); exact rfl; (conv => whnf)); refine sla ?_)
      refine VT.mk (otx_end ?_)
      exact VJ.mk ⟨g9, (some ⟨gr, 0, none⟩, cr), (some ⟨gc, 0, none⟩, cc2)⟩ rfl ⟨rfl, rfl, rfl, rfl, rfl, rfl, trivial⟩ (by ((try dsimp only); repeat (first | exact Pick.nil | ((apply Pick.cons); (focus (repeat (first | exact Rem.here | apply Rem.there)); done)))))
    ·(apply ot_v tk; (conv => whnf); (apply VNew.mk; intro g9 hg9; (conv => whnf)); refine sla ?_)
     refine ox1 3 ?_
     (refine ot_appendE (sz := 2) (news := rgC R) tk (by decide) rfl rfl rfl rfl rfl rfl rfl rfl rfl rfl (by omega) (fun w1 hs => hs.reads hT.r) (by omega) (by decide) (fun gr cr hgr => ?_); refine ot_nil ?_; refine sla ?_)
     refine ox1 7 ?_
     (refine ot_appendE (sz := 2) (news := rgC C) tk (by decide) rfl rfl rfl rfl rfl rfl rfl rfl rfl rfl (by omega) (fun w1 hs => hs.reads hT.c) (by omega) (by decide) (fun gc cc2 hgc => ?_); refine ot_nil ?_; refine sla ?_)
     refine ox1 8 ?_
     (apply ot_v tk; (conv => whnf); refine sla ?_)
     refine ox1 10 ?_
     (apply ot_v tk; (conv => whnf); (apply VSt.mk; (focus (repeat (first | exact At.here | apply At.there)); done); exact rfl; (conv => whnf)); refine sla ?_)
     refine VT.mk (otx_end ?_)
     exact VJ.mk ⟨g9, (some ⟨gr, 0, none⟩, cr), (some ⟨gc, 0, none⟩, cc2)⟩ rfl ⟨rfl, rfl, rfl, rfl, rfl, rfl, trivial⟩ (by ((try dsimp only); repeat (first | exact Pick.nil | ((apply Pick.cons); (focus (repeat (first | exact Rem.here | apply Rem.there)); done)))))
   ·(apply ot_v tk; (conv => whnf); (apply VNew.mk; intro g9 hg9; (conv => whnf)); refine sla ?_)
    refine ox2 3 4 ?_ ?_
    ·(refine ot_appendE (sz := 2) (news := rgC R) tk (by decide) rfl rfl rfl rfl rfl rfl rfl rfl rfl rfl (by omega) (fun w1 hs => hs.reads hT.r) (by omega) (by decide) (fun gr cr hgr => ?_); refine ot_nil ?_; refine sla ?_)
     refine ox1 4 ?_
     (apply ot_v tk; (conv => whnf); (apply VNew.mk; intro gq hgq; (conv => whnf)); refine sla ?_)
     refine ox1 7 ?_
     (refine ot_appendE (sz := 2) (news := rgC C) tk (by decide) rfl rfl rfl rfl rfl rfl rfl rfl rfl rfl (by omega) (fun w1 hs => hs.reads hT.c) (by omega) (by decide) (fun gc cc2 hgc => ?_); refine ot_nil ?_; refine sla ?_)
     refine ox1 8 ?_
     (apply ot_v tk; (conv => whnf); refine sla ?_)
     refine ox1 10 ?_
     (apply ot_v tk; (conv => whnf); (apply VSt.mk; (focus (repeat (first | exact At.here | apply At.there)); done); exact rfl; (conv => whnf)); refine sla ?_)
     refine VT.mk (otx_end ?_)
     exact VJ.mk ⟨g9, (some ⟨gr, 0, none⟩, cr), (some ⟨gc, 0, none⟩, cc2)⟩ rfl ⟨rfl, rfl, rfl, rfl, rfl, rfl, trivial⟩ (by ((try dsimp only); repeat (first | exact Pick.nil | ((apply Pick.cons); (focus (repeat (first | exact Rem.here | apply Rem.there)); done)))))
    ·(apply ot_v tk; (conv => whnf); (apply VNew.mk; intro gq hgq; (conv => whnf)); refine sla ?_)
     refine ox1 3 ?_
     (refine ot_appendE (sz := 2) (news := rgC R) tk (by decide) rfl rfl rfl rfl rfl rfl rfl rfl rfl rfl (by omega) (fun w1 hs => hs.reads hT.r) (by omega) (by decide) (fun gr cr hgr => ?_); refine ot_nil ?_; refine sla ?_)
     refine ox1 7 ?_
     (refine ot_appendE (sz := 2) (news := rgC C) tk (by decide) rfl rfl rfl rfl rfl rfl rfl rfl rfl rfl (by omega) (fun w1 hs => hs.reads hT.c) (by omega) (by decide) (fun gc cc2 hgc => ?_); refine ot_nil ?_; refine sla ?_)
     refine ox1 8 ?_
     (apply ot_v tk; (conv => whnf); refine sla ?_)
     refine ox1 10 ?_
     (apply ot_v tk; (conv => whnf); (apply VSt.mk; (focus (repeat (first | exact At.here | apply At.there)); done); exact rfl; (conv => whnf)); refine sla ?_)
     refine VT.mk (otx_end ?_)
     exact VJ.mk ⟨g9, (some ⟨gr, 0, none⟩, cr), (some ⟨gc, 0, none⟩, cc2)⟩ rfl ⟨rfl, rfl, rfl, rfl, rfl, rfl, trivial⟩ (by ((try dsimp only); repeat (first | exact Pick.nil | ((apply Pick.cons); (focus (repeat (first | exact Rem.here | apply Rem.there)); done)))))
  ·(apply ot_v tk; (conv => whnf); (apply VNew.mk; intro gq hgq; (conv => whnf)); refine sla ?_)
   refine ox2 0 9 ?_ ?_
   ·(apply ot_v tk; (conv => whnf); (apply VNew.mk; intro gp hgp; (conv => whnf)); refine sla ?_)
    refine ox2 3 9 ?_ ?_
    ·(refine ot_appendE (sz := 2) (news := rgC R) tk (by decide) rfl rfl rfl rfl rfl rfl rfl rfl rfl rfl (by omega) (fun w1 hs => hs.reads hT.r) (by omega) (by decide) (fun gr cr hgr => ?_); refine ot_nil ?_; refine sla ?_)
     refine ox2 7 9 ?_ ?_
     ·(refine ot_appendE (sz := 2) (news := rgC C) tk (by decide) rfl rfl rfl rfl rfl rfl rfl rfl rfl rfl (by omega) (fun w1 hs => hs.reads hT.c) (by omega) (by decide) (fun gc cc2 hgc => ?_); refine ot_nil ?_; refine sla ?_)
      refine ox2 8 9 ?_ ?_
      ·(apply ot_v tk; (conv => whnf); refine sla ?_)
       refine ox1 9 ?_
       (apply ot_v tk; (conv => whnf); (apply VNew.mk; intro g9 hg9; (conv => whnf)); refine sla ?_)
       refine ox1 10 ?_
       (apply ot_v tk; (conv => whnf); (apply VSt.mk; (focus (repeat (first | exact At.here | apply At.there)); done); exact rfl; (conv => whnf)); refine sla ?_)
       refine VT.mk (otx_end ?_)
       exact VJ.mk ⟨g9, (some ⟨gr, 0, none⟩, cr), (some ⟨gc, 0, none⟩, cc2)⟩ rfl ⟨rfl, rfl, rfl, rfl, rfl, rfl, trivial⟩ (by ((try dsimp only); repeat (first | exact Pick.nil | ((apply Pick.cons); (focus (repeat (first | exact Rem.here | apply Rem.there)); done)))))
      ·(apply ot_v tk; (conv => whnf); (apply VNew.mk; intro g9 hg9; (conv => whnf)); refine sla ?_)
       refine ox1 8 ?_
       (apply ot_v tk; (conv => whnf); refine sla ?_)
       refine ox1 10 ?_
       (apply ot_v tk; (conv => whnf); (apply VSt.mk; (focus (repeat (first | exact At.here | apply At.there)); done); exact rfl; (conv => whnf)); refine sla ?_)
       refine VT.mk (otx_end ?_)
       exact VJ.mk ⟨g9, (some ⟨gr, 0, none⟩, cr), (some ⟨gc, 0, none⟩, cc2)⟩ rfl ⟨rfl, rfl, rfl, rfl, rfl, rfl, trivial⟩ (by ((try dsimp only); repeat (first | exact Pick.nil | ((apply Pick.cons); (focus (repeat (first | exact Rem.here | apply Rem.there)); done)))))
     ·(apply ot_v tk; (conv => whnf); (apply VNew.mk; intro g9 hg9; (conv => whnf)); refine sla ?_)
      refine ox1 7 ?_
      (refine ot_appendE (sz := 2) (news := rgC C) tk (by decide) rfl rfl rfl rfl rfl rfl rfl rfl rfl rfl (by omega) (fun w1 hs => hs.reads hT.c) (by omega) (by decide) (fun gc cc2 hgc => ?_); refine ot_nil ?_; refine sla ?_)
      refine ox1 8 ?_
      (apply ot_v tk; (conv => whnf); refine sla ?_)
      refine ox1 10 ?_
      (apply ot_v tk; (conv => whnf); (apply VSt.mk; (focus (repeat (first | exact At.here | apply At.there)); done); exact rfl; (conv => whnf)); refine sla ?_)
      refine VT.mk (otx_end ?_)
      exact VJ.mk ⟨g9, (some ⟨gr, 0, none⟩, cr), (some ⟨gc, 0, none⟩, cc2)⟩ rfl ⟨rfl, rfl, rfl, rfl, rfl, rfl, trivial⟩ (by ((try dsimp only); repeat (first | exact Pick.nil | ((apply Pick.cons); (focus (repeat (first | exact Rem.here | apply Rem.there)); done)))))
    ·(apply ot_v tk; (conv => whnf); (apply VNew.mk; intro g9 hg9; (conv => whnf)); refine sla ?_)
     refine ox1 3 ?_
     (refine ot_appendE (sz := 2) (news := rgC R) tk (by decide) rfl rfl rfl rfl rfl rfl rfl rfl rfl rfl (by omega) (fun w1 hs => hs.reads hT.r) (by omega) (by decide) (fun gr cr hgr => ?_); refine ot_nil ?_; refine sla ?_)
     refine ox1 7 ?_
     (refine ot_appendE (sz := 2) (news := rgC C) tk (by decide) rfl rfl rfl rfl rfl rfl rfl rfl rfl rfl (by omega) (fun w1 hs => hs.reads hT.c) (by omega) (by decide) (fun gc cc2 hgc => ?_); refine ot_nil ?_; refine sla ?_)
     refine ox1 8 ?_
     (apply ot_v tk; (conv => whnf); refine sla ?_)
     refine ox1 10 ?_
     (apply ot_v tk; (conv => whnf); (apply VSt.mk; (focus (repeat (first | exact At.here | apply At.there)); done); exact rfl; (conv => whnf)); refine sla ?_)
     refine VT.mk (otx_end ?_)
     exact VJ.mk ⟨g9, (some ⟨gr, 0, none⟩, cr), (some ⟨gc, 0, none⟩, cc2)⟩ rfl ⟨rfl, rfl, rfl, rfl, rfl, rfl, trivial⟩ (by ((try dsimp only); repeat (first | exact Pick.nil | ((apply Pick.cons); (focus (repeat (first | exact Rem.here | apply Rem.there)); done)))))
   ·(apply ot_v tk; (conv => whnf); (apply VNew.mk; intro g9 hg9; (conv => whnf)); refine sla ?_)
    refine ox1 0 ?_
    (apply ot_v tk; (conv => whnf); (apply VNew.mk; intro gp hgp; (conv => whnf)); refine sla ?_)
    refine ox1 3 ?_
    (refine ot_appendE (sz := 2) (news := rgC R) tk (by decide) rfl rfl rfl rfl rfl rfl rfl rfl rfl rfl (by omega) (fun w1 hs => hs.reads hT.r) (by omega) (by decide) (fun gr cr hgr => ?_); refine ot_nil ?_; refine sla ?_)
    refine ox1 7 ?_
    (refine ot_appendE (sz := 2) (news := rgC C) tk (by decide) rfl rfl rfl rfl rfl rfl rfl rfl rfl rfl (by omega) (fun w1 hs => hs.reads hT.c) (by omega) (by decide) (fun gc cc2 hgc => ?_); refine ot_nil ?_; refine sla ?_)
    refine ox1 8 ?_
    (apply ot_v tk; (conv => whnf); refine sla ?_)
    refine ox1 10 ?_
    (apply ot_v tk; (conv => whnf); (apply VSt.mk; (focus (repeat (first | exact At.here | apply At.there)); done); exact rfl; (conv => whnf)); refine sla ?_)
    refine VT.mk (otx_end ?_)
    exact VJ.mk ⟨g9, (some ⟨gr, 0, none⟩, cr), (some ⟨gc, 0, none⟩, cc2)⟩ rfl ⟨rfl, rfl, rfl, rfl, rfl, rfl, trivial⟩ (by ((try dsimp only); repeat (first | exact Pick.nil | ((apply Pick.cons); (focus (repeat (first | exact Rem.here | apply Rem.there)); done)))))
  ·(apply ot_v tk; (conv => whnf); (apply VNew.mk; intro g9 hg9; (conv => whnf)); refine sla ?_)
   refine ox2 0 4 ?_ ?_
   ·(apply ot_v tk; (conv => whnf); (apply VNew.mk; intro gp hgp; (conv => whnf)); refine sla ?_)
    refine ox2 3 4 ?_ ?_
    ·(refine ot_appendE (sz := 2) (news := rgC R) tk (by decide) rfl rfl rfl rfl rfl rfl rfl rfl rfl rfl (by omega) (fun w1 hs => hs.reads hT.r) (by omega) (by decide) (fun gr cr hgr => ?_); refine ot_nil ?_; refine sla ?_)
     refine ox1 4 ?_
     (apply ot_v tk; (conv => whnf); (apply VNew.mk; intro gq hgq; (conv => whnf)); refine sla ?_)
     refine ox1 7 ?_
     (refine ot_appendE (sz := 2) (news := rgC C) tk (by decide) rfl rfl rfl rfl rfl rfl rfl rfl rfl rfl (by omega) (fun w1 hs => hs.reads hT.c) (by omega) (by decide) (fun gc cc2 hgc => ?_); refine ot_nil ?_; refine sla ?_)
     refine ox1 8 ?_
     (apply ot_v tk; (conv => whnf); refine sla ?_)
     refine ox1 10 ?_
     (apply ot_v tk; (conv => whnf); (apply VSt.mk; (focus (repeat (first | exact At.here | apply At.there)); done); exact rfl; (conv => whnf)); refine sla ?_)
     refine VT.mk (otx_end ?_)
     exact VJ.mk ⟨g9, (some ⟨gr, 0, none⟩, cr), (some ⟨gc, 0, none⟩, cc2)⟩ rfl ⟨rfl, rfl, rfl, rfl, rfl, rfl, trivial⟩ (by ((try dsimp only); repeat (first | exact Pick.nil | ((apply Pick.cons); (focus (repeat (first | exact Rem.here | apply Rem.there)); done)))))
    ·(apply ot_v tk; (conv => whnf); (apply VNew.mk; intro gq hgq; (conv => whnf)); refine sla ?_)
     refine ox1 3 ?_
     (refine ot_appendE (sz := 2) (news := rgC R) tk (by decide) rfl rfl rfl rfl rfl rfl rfl rfl rfl rfl (by omega) (fun w1 hs => hs.reads hT.r) (by omega) (by decide) (fun gr cr hgr => ?_); refine ot_nil ?_; refine sla ?_)
     refine ox1 7 ?_
     (refine ot_appendE (sz := 2) (news := rgC C) tk (by decide) rfl rfl rfl rfl rfl rfl rfl rfl rfl rfl (by omega) (fun w1 hs => hs.reads hT.c) (by omega) (by decide) (fun gc cc2 hgc => ?_); refine ot_nil ?_; refine sla ?_)
     refine ox1 8 ?_
     (apply ot_v tk; (conv => whnf); refine sla ?_)
     refine ox1 10 ?_
     (apply ot_v tk; (conv => whnf); (apply VSt.mk; (focus (repeat (first | exact At.here | apply At.there)); done); exact rfl; (conv => whnf)); refine sla ?_)
     refine VT.mk (otx_end ?_)
     exact VJ.mk ⟨g9, (some ⟨gr, 0, none⟩, cr), (some ⟨gc, 0, none⟩, cc2)⟩ rfl ⟨rfl, rfl, rfl, rfl, rfl, rfl, trivial⟩ (by ((try dsimp only); repeat (first | exact Pick.nil | ((apply Pick.cons); (focus (repeat (first | exact Rem.here | apply Rem.there)); done)))))
   ·(apply ot_v tk; (conv => whnf); (apply VNew.mk; intro gq hgq; (conv => whnf)); refine sla ?_)
    refine ox1 0 ?_
    (apply ot_v tk; (conv => whnf); (apply VNew.mk; intro gp hgp; (conv => whnf)); refine sla ?_)
    refine ox1 3 ?_
    (refine ot_appendE (sz := 2) (news := rgC R) tk (by decide) rfl rfl rfl rfl rfl rfl rfl rfl rfl rfl (by omega) (fun w1 hs => hs.reads hT.r) (by omega) (by decide) (fun gr cr hgr => ?_); refine ot_nil ?_; refine sla ?_)
    refine ox1 7 ?_
    (refine ot_appendE (sz := 2) (news := rgC C) tk (by decide) rfl rfl rfl rfl rfl rfl rfl rfl rfl rfl (by omega) (fun w1 hs => hs.reads hT.c) (by omega) (by decide) (fun gc cc2 hgc => ?_); refine ot_nil ?_; refine sla ?_)
    refine ox1 8 ?_
    (apply ot_v tk; (conv => whnf); refine sla ?_)
    refine ox1 10 ?_
    (apply ot_v tk; (conv => whnf); (apply VSt.mk; (focus (repeat (first | exact At.here | apply At.there)); done); exact rfl; (conv => whnf)); refine sla ?_)
    refine VT.mk (otx_end ?_)
    exact VJ.mk ⟨g9, (some ⟨gr, 0, none⟩, cr), (some ⟨gc, 0, none⟩, cc2)⟩ rfl ⟨rfl, rfl, rfl, rfl, rfl, rfl, trivial⟩ (by ((try dsimp only); repeat (first | exact Pick.nil | ((apply Pick.cons); (focus (repeat (first | exact Rem.here | apply Rem.there)); done)))))
 rintro ⟨g9, ⟨Br, cr⟩, ⟨Bc, cc2⟩⟩
 dsimp only
 (apply tr_v tk; (conv => whnf); (repeat ((first | (refine sla ?_; first | refine otl_nil ?_ | (refine otl_cons ?_; apply ot_v tk) | skip) | (apply VK.mk; first | (refine otl_cons ?_; apply ot_v tk) | apply ot_v tk)); (conv => whnf))); apply VStop.mk)
 refine tr_own_nil 22 1 ?_
 refine v_loop (fun gm ds ts A => ds = [] ∧ ∃ (j : Nat) (Bx : Option Addr) (cx : Nat) (xs : List NsX), j + gm = X.length ∧ xs.length = j ∧ A.Perm (.own (.slice Bx j cx) 22 1 j (nsVs xs (nestR (X.take j))) :: .blk g9 25 [.slice Br R.length cr, .slice Bc C.length cc2, .slice Bx j cx] :: .own (.slice Br R.length cr) 37 2 R.length (rgC R) :: .own (.slice Bc C.length cc2) 37 2 C.length (rgC C) :: .blk g8 25 [.slice none 0 0, .slice none 0 0, .slice none 0 0] :: .blk g7 37 [.int .i64 r.1, .int .i64 r.2] :: .blk g4 25 [.slice RA R.length rc, .slice CA C.length cc, .slice XA X.length xc] :: nsCh 37 2 xs (nestR (X.take j))) ∧
   ts = [(1, .int .i64 (i : Int)), (2, .int .i64 (k : Int)), (4, .pointer (some ⟨g4, 0, none⟩)), (7, .pointer (some ⟨g7, 0, none⟩)), (8, .pointer (some ⟨g8, 0, none⟩)), (9, .pointer (some ⟨g9, 0, none⟩)), (10, .int .i64 (j : Int))]) X.length
   (l := [(1, _), (2, _), (4, _), (7, _), (8, _), (9, _), (10, _)]) (B := _) ?_ (List.Sublist.refl _) ⟨rfl, 0, none, 0, [], by omega, rfl, ?_, rfl⟩ ?_
 ·exact ⟨rfl, rfl, rfl, rfl, rfl, rfl, rfl, trivial⟩
 ·refine .cons _ ?_
  exact (List.perm_append_comm (l₁ := [_, _]) (l₂ := [_])).append_right _
 rintro gm ds ts A ⟨rfl, j, Bx, cx, xs, hj, hxs, hA, rfl⟩
 refine tr_perm hA ?_
 clear hA A
 by_cases hlt : j < X.length
 ·obtain ⟨xb, xo, rfl, B, c, hce, hrd⟩ := nest_gen hT.x hlt
  have hxk := hV.xs _ (List.getElem_mem hlt)
  have e2 := nestR_take hlt
  have hxn : xs.length = (nestR (X.take j)).length := by rw [nestR_length, List.length_take]; omega
  have e3 := fun x => nsVs_snoc (xs := xs) (S := nestR (X.take j)) (x := x) (s := (X[j].length, rgC X[j])) hxn
  have e4 := fun x => nsCh_snoc (e := 37) (sz := 2) (xs := xs) (S := nestR (X.take j)) (x := x) (s := (X[j].length, rgC X[j])) hxn
  rw [← e2] at e3 e4
  (apply tr_v tk; (conv => whnf); (repeat ((first | (apply VStop.mk; (first | refine tr_region_late3 (id := 5) (by kernel_rfl) [.blk g9 25 _, .blk g4 25 _] (by (repeat (first | exact sl0 _ | exact sl1 _ | refine sl2 _ ?_ | refine sl3 _ ?_))) [0, 1, 3, 4, 5, 6, 7] [2, 8, 9] 10 [11, 12] [.rd, .rd, .rd, .rd, .rd, .rd, .rd] rfl (by kernel_rfl) ?_ | (refine ot_appendE (sz := 2) (news := rgC X[j]) tk (by decide) rfl rfl rfl rfl rfl rfl rfl rfl rfl rfl (by omega) (fun w1 hs => hs.reads hrd) (by omega) (by decide) (fun gr2 cr2 hgr2 => ?_)) | (refine ot_appendS (sz := 1) (sl := j) (A'v := fun v' => _ :: _ :: _ :: .own v' 22 1 (j + 1) _ :: _) tk rfl rfl rfl rfl rfl rfl rfl rfl rfl rfl (by decide) rfl (cells_blk_all (.head _)) rfl rfl (fun v' => .there (.there (.there .here))) (by omega) (by decide) (fun Bm cm => ?_))); apply ot_v tk) | (apply VIx.mk (j := j); exact rfl; omega) | (apply VLd.mk; first | exact hce _) | (apply VLd.mk; (focus ((repeat (first | ((with_reducible apply ld_blk); exact rfl) | (with_reducible apply ld_skip))); done))) | (apply VRng.mk; omega) | apply VBr.t | (apply v_t; omega) | (apply VNew.mk; intro g hg) | (apply VSt.mk; (focus ((repeat (first | (with_reducible exact At.here) | (with_reducible apply At.there))); done)); exact rfl) | (refine sla ?_; first | refine otl_nil ?_ | (refine otl_cons ?_; apply ot_v tk) | skip) | (apply VK.mk; first | (refine otl_cons ?_; apply ot_v tk) | apply ot_v tk)); (conv => whnf))))
  exact v_rnd (gm - 1) (by omega) (l := [(1, _), (2, _), (4, _), (7, _), (8, _), (9, _), (10, _)]) (B := _) ⟨rfl, rfl, rfl, rfl, rfl, rfl, rfl, trivial⟩ (.cons _ (.cons_cons _ (.cons _ (List.Sublist.refl _)))) ⟨rfl, j + 1, Bm, cm, xs ++ [(some ⟨gr2, 0, none⟩, cr2)], by omega, by rw [List.length_append, hxs]; rfl, by rw [e4, e3]; exact (List.perm_append_singleton _ (_ :: _ :: _ :: _ :: _ :: _ :: _ :: _)).symm, rfl⟩
 obtain rfl : j = X.length := by omega
 rw [List.take_length]
 have hiX : i < X.length := by omega
 have hxi := hV.xs _ (List.getElem_mem hiX)
 have hkX : k < X[i].length := by omega
 have hva := nsVs_at hxs hiX
 refine tr_fact (p := (∃ b, Bx = some ⟨b, 0, none⟩) ∧ ∃ b c, xs[i]'(by omega) = (some ⟨b, 0, none⟩, c)) (fun w' hs => ⟨own_some hs (.head _) (by omega), ?_⟩) ?_
 ·have hmem : _ ∈ nsCh 37 2 xs (nestR X) := nsCh_at hxs hiX
  obtain ⟨b, hb⟩ := own_some hs (.tail _ (.tail _ (.tail _ (.tail _ (.tail _ (.tail _ (.tail _ hmem))))))) (by omega)
  exact ⟨b, (xs[i]'(by omega)).2, Prod.ext hb rfl⟩
 rintro ⟨⟨bx, rfl⟩, b2, c2, hx⟩
 rw [hx] at hva
 dsimp only at hva
 have hup := ns_upd (R := []) hxs hiX hkX hx r
 rw [List.append_nil, List.append_nil] at hup
 have hcx : ∀ {A1}, .own (.slice (some ⟨bx, 0, none⟩) X.length cx) 22 1 X.length (nsVs xs (nestR X)) ∈ A1 → CellAt w A1 bx (0 + i * 1) (.slice (some ⟨b2, 0, none⟩) X[i].length c2) := fun h => by
  rw [Nat.zero_add, Nat.mul_one]
  exact cell_own h hva
 have hsl := setX_len X i k r
 have hvs := nsVs_setX (xs := xs) (k := k) hiX r
 (apply tr_v tk; (conv => whnf); (repeat ((first | (apply VStop.mk; refine tr_region_draw (id := 6) (by kernel_rfl) [0, 1, 2, 3, 4, 5, 6, 7, 8] [.rd, .rd, .rd, .rd, .rd, .rd, .rd, .rd, .wr] rfl (by kernel_rfl) ?_; apply ot_v tk) | (apply VIx.mk (j := i); exact rfl; omega) | (apply VIx.mk (j := k); exact rfl; omega) | (apply VLd.mk; first | exact hcx (by (repeat (first | with_unfolding_all exact List.Mem.head _ | assumption | with_unfolding_all refine List.Mem.tail _ ?_)))) | (apply VLd.mk; (focus ((repeat (first | ((with_reducible apply ld_blk); exact rfl) | (with_reducible apply ld_skip))); done))) | (apply VLdN.mk; (focus ((repeat (first | (with_reducible apply ldn_blk) | (with_reducible apply ldn_skip))); done)); exact rfl) | apply VBr.f | (apply v_f; omega) | (refine sla ?_; first | refine otl_nil ?_ | (refine otl_cons ?_; apply ot_v tk) | skip) | (apply VK.mk; first | (refine otl_cons ?_; apply ot_v tk) | apply ot_v tk)); (conv => whnf))))
 apply VSt.stop
 refine ot_storeN_own (sz := 2) (vs := [.int .i64 r.1, .int .i64 r.2]) tk rfl rfl rfl rfl rfl rfl rfl rfl rfl rfl (.there (.there (.there (.there (.there (.there (.there hup))))))) (by simp only [List.length_cons, List.length_nil]; omega) (Nat.succ_pos _) ?_
 apply ot_v tk
 ((conv => whnf); (repeat ((first | (apply VLdN.mk; (focus ((repeat (first | (with_reducible apply ldn_blk) | (with_reducible apply ldn_skip))); done)); exact rfl) | (apply VSt.mk; (focus ((repeat (first | (with_reducible exact At.here) | (with_reducible apply At.there))); done)); exact rfl) | (refine sla ?_; first | refine otl_nil ?_ | (refine otl_cons ?_; apply ot_v tk) | skip) | (apply VK.mk; first | (refine otl_cons ?_; apply ot_v tk) | apply ot_v tk)); (conv => whnf))))
 (apply VRet.mk)
 refine ret1 (by first | exact .inl rfl | exact .inr rfl) rfl (by exact rv_row tk rfl rfl rfl (by first | exact cells_blk_all (by (repeat (first | exact List.Mem.head _ | assumption | refine List.Mem.tail _ ?_))) | exact cells_row0 (by (repeat (first | exact List.Mem.head _ | assumption | refine List.Mem.tail _ ?_)))) rfl) ?_
 refine fun w hs => ⟨⟨(Br, cr), (Bc, cc2), (some ⟨bx, 0, none⟩, cx), xs⟩, ?_, by rw [hsl]; exact hxs, ?_⟩
 ·unfold tabX tabV
  rw [hsl]
 ·unfold tabCh
  dsimp only
  rw [hsl, hvs]
  exact (hs.perm ((List.perm_append_comm (l₁ := [_, _]) (l₂ := [_, _])).append_right _)).sub (.cons_cons _ (.cons_cons _ (.cons_cons _ (.cons _ (.cons _ (.cons _ (.cons _ (List.Sublist.refl _))))))))
/-- A table copied. -/
theorem with_same (hV : Valid R C X) : Calls Try.prog 47 #[tabV RA rc CA cc XA xc R C X, .int .i64 0, .int .i64 0, .agg #[.int .i64 (xAt X 0 0).1, .int .i64 (xAt X 0 0).2]] w fun e w' => ∃ x : TabX, e = .returned (tabX x R C X) ∧ x.xs.length = X.length ∧ St w (tabCh R C X x) w' := by
 have hn := hV.r1
 have hm := hV.c1
 have hx := hV.x
 have := with_any RA rc CA cc XA xc R C X w hT hV 0 0 (by omega) (by omega) (xAt X 0 0)
 rw [setX_self hV.xs (by omega) (by omega)] at this
 exact this
end
end Go.Proofs.Ytalcccgialpjgaa
