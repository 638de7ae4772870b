/- With, Turned, summed: lemmas for the rows of this seat. No conditions. -/
import Derived.Test.YtalcccgialpjgaaN15
set_option linter.all false
namespace Go.Proofs.Ytalcccgialpjgaa
open Go.RowKit
/-! ## With, Turned, summed -/
theorem own_some {w0 w : World} {A : List Chunk} (hs : St w0 A w) {B : Option Addr} {n cap sz : Nat} {t : TypeId} {xs : List Value} (h : Chunk.own (.slice B n cap) t sz n xs ∈ A) (hn : 0 < n) : ∃ b, B = some ⟨b, 0, none⟩ := by
 obtain ⟨_, _, q1, p1⟩ := own_form (hs.all _ h)
 cases q1
 exact p1 hn
theorem nestR_at {X : List (List R2)} {j : Nat} (h : j < X.length) : (nestR X)[j]'(by rw [nestR_length]; exact h) = (X[j].length, rgC X[j]) := by unfold nestR; rw [List.getElem_map]
theorem nestR_take {X : List (List R2)} {j : Nat} (h : j < X.length) : nestR (X.take (j + 1)) = nestR (X.take j) ++ [(X[j].length, rgC X[j])] := by rw [take_snoc X j h, nestR_snoc]
theorem nestR_set (X : List (List R2)) (j : Nat) (s : List R2) : nestR (X.set j s) = (nestR X).set j (s.length, rgC s) := by unfold nestR; rw [List.map_set]
/-- One cell of a table of the call's own. -/
theorem ns_upd {xs : List NsX} {X : List (List R2)} {i k b2 c2 : Nat} (hl : xs.length = X.length) (hi : i < X.length) (hk : k < X[i].length) (hx : xs[i]'(by omega) = (some ⟨b2, 0, none⟩, c2)) (r : R2) {R : List Chunk} :
  Upd (.own (.slice (some ⟨b2, 0, none⟩) X[i].length c2) 37 2 X[i].length (rgC X[i])) (.own (.slice (some ⟨b2, 0, none⟩) X[i].length c2) 37 2 X[i].length (setMany (rgC X[i]) (0 + k * 2) [.int .i64 r.1, .int .i64 r.2])) (nsCh 37 2 xs (nestR X) ++ R) (nsCh 37 2 xs (nestR (setX X i k r)) ++ R) := by
 have e0 : (nestR X).length = X.length := nestR_length X
 have e1 := nestR_at hi
 have e2 : nestR (setX X i k r) = (nestR X).set i (X[i].length, rgC (X[i].set k r)) := by
  unfold setX
  rw [nestR_set, List.getElem?_eq_getElem hi, Option.getD_some, List.length_set]
 have := nsCh_upd (e := 37) (sz := 2) (R := R) (xs := xs) (S := nestR X) (i := i) (s' := (X[i].length, rgC (X[i].set k r))) (by omega) (by omega) (by rw [e1])
 rw [← e2] at this
 unfold nsC at this
 rw [e1, hx] at this
 rw [Nat.zero_add, rgC_set _ _ _ hk]
 exact this
theorem nsVs_setX {xs : List NsX} {X : List (List R2)} {i k : Nat} (hi : i < X.length) (r : R2) : nsVs xs (nestR (setX X i k r)) = nsVs xs (nestR X) := by
 unfold setX
 rw [nestR_set]
 refine nsVs_set (by rw [nestR_length]; exact hi) ?_
 rw [nestR_at hi, List.getElem?_eq_getElem hi, Option.getD_some, List.length_set]
theorem nsVs_at {xs : List NsX} {X : List (List R2)} {i : Nat} (hl : xs.length = X.length) (hi : i < X.length) : (nsVs xs (nestR X))[i]? = some (.slice (xs[i]'(by omega)).1 X[i].length (xs[i]'(by omega)).2) := by
 have := nsVs_get (xs := xs) (S := nestR X) (i := i) (by rw [nestR_length]; exact hl) (by rw [nestR_length]; exact hi)
 rw [this]
 unfold nsV
 rw [nestR_at hi]
theorem nsCh_at {xs : List NsX} {X : List (List R2)} {i : Nat} (hl : xs.length = X.length) (hi : i < X.length) : Chunk.own (.slice (xs[i]'(by omega)).1 X[i].length (xs[i]'(by omega)).2) 37 2 X[i].length (rgC X[i]) ∈ nsCh 37 2 xs (nestR X) := by
 have := nsCh_mem (e := 37) (sz := 2) (xs := xs) (S := nestR X) (i := i) (by rw [nestR_length]; exact hl) (by rw [nestR_length]; exact hi)
 unfold nsC at this
 rwa [nestR_at hi] at this
/-- Rows become columns. -/
def turnL (n : Nat) (X : List (List R2)) (k : Nat) : List R2 := (List.range n).map fun i => xAt X i k
def turnX (n m : Nat) (X : List (List R2)) : List (List R2) := (List.range m).map fun k => turnL n X k
theorem turnL_step (n : Nat) (X : List (List R2)) (k : Nat) : turnL (n + 1) X k = turnL n X k ++ [xAt X n k] := map_range_step _ n
theorem turnX_step (n m : Nat) (X : List (List R2)) : turnX n (m + 1) X = turnX n m X ++ [turnL n X m] := map_range_step _ m
theorem turnL_len (n : Nat) (X : List (List R2)) (k : Nat) : (turnL n X k).length = n := map_range_len _ n
theorem turnX_len (n m : Nat) (X : List (List R2)) : (turnX n m X).length = m := map_range_len _ m
structure CpX where
 g : Nat
 r : NsX
 c : NsX
section
variable (RA : Option Addr) (rc : Nat) (CA : Option Addr) (cc : Nat) (XA : Option Addr) (xc : Nat) (R C : List R2) (X : List (List R2)) (w : World) (hT : TabR w RA CA XA R C X)
include hT
set_option maxHeartbeats 2000000 in
set_option maxRecDepth 20000 in
theorem turned_any (hV : Valid R C X) : Calls Try.prog 49 #[tabV RA rc CA cc XA xc R C X] w fun e w' => ∃ x : TabX, e = .returned (tabX x C R (turnX R.length C.length X)) ∧ x.xs.length = (turnX R.length C.length X).length ∧ St w (tabCh C R (turnX R.length C.length X) x) w' := by
 have hn := hV.r1
 have hn4 := hV.r4
 have hm := hV.c1
 have hm4 := hV.c4
 have hxl := hV.x
 have key : ∀ a b, a < R.length → b < C.length → ∃ xb xo B o c, XA = some ⟨xb, xo, none⟩ ∧ (∀ Ch, CellAt w Ch xb (xo + a * 1) (.slice (some ⟨B, o, none⟩) C.length c)) ∧ ∀ Ch, CellsAt w Ch B (o + b * 2) [.int .i64 (xAt X a b).1, .int .i64 (xAt X a b).2] := fun a b ha hb => by
  have hxk := hV.xs _ (List.getElem_mem (show a < X.length by omega))
  obtain ⟨xb, xo, rfl, B, c, hce, hrd⟩ := nest_gen hT.x (show a < X.length by omega)
  obtain ⟨b2, o2, rfl, _⟩ := hrd.2 (by omega)
  refine ⟨xb, xo, b2, o2, c, rfl, by rw [← hxk]; exact hce, ?_⟩
  have := rg_cells hrd (k := b) (by omega) (by omega)
  unfold xAt
  rw [List.getElem?_eq_getElem (by omega), Option.getD_some]
  exact this
 unfold tabV at *
 refine fn_k Try.func49 rfl rfl (Nat.le_of_ble_eq_true rfl) (n := 48) (A := []) (St.nil (Below.refl _ _)) ?_
 refine tr_seqK ?_
 (apply tr_v tk; (conv => whnf); (repeat ((apply VNew.mk; intro g hg); (conv => whnf))); apply VStop.mk)
 revert g hg
 intro g8 hg8
 revert g hg
 intro g4 hg4
 refine tr_cut (fun x : CpX => ([(1, .pointer (some ⟨g4, 0, none⟩)), (2, .pointer (some ⟨g8, 0, none⟩)), (3, .pointer (some ⟨x.g, 0, none⟩))], [.own (.slice x.r.1 C.length x.r.2) 37 2 C.length (rgC C), .own (.slice x.c.1 R.length x.c.2) 37 2 R.length (rgC R), .blk x.g 25 [.slice x.r.1 C.length x.r.2, .slice x.c.1 R.length x.c.2, .slice none 0 0], .blk g8 25 [.slice none 0 0, .slice none 0 0, .slice none 0 0], .blk g4 25 [.slice RA R.length rc, .slice CA C.length cc, .slice XA X.length xc]])) ?_ ?_
 ·(apply tr_v tk; (conv => whnf); (repeat ((first | (apply VStop.mk; refine tr_region_treeV (id := 1) (by kernel_rfl) [.blk g4 25 _] (by (repeat (first | exact sl0 _ | exact sl1 _ | refine sl2 _ ?_ | refine sl3 _ ?_))) [1, 2, 5, 6] [0, 3, 4, 7, 8, 9, 10] [.rd, .rd, .rd, .rd] (fun i => [.cr, .wr, .wr, .wr, .cr, .wr, .wr, .wr, .wr, .cr, .wr].getD i .wr) _ rfl rfl (by kernel_rfl) ?_; apply ot_v tk) | (apply VLd.mk; (focus ((repeat (first | ((with_reducible apply ld_blk); exact rfl) | (with_reducible apply ld_skip))); done)))); (conv => whnf))))
  refine VT.mk (otx_anyV [0, 4, 9] (by kernel_rfl) (by decide) ?_)
  refine ⟨⟨by kernel_rfl, by decide, ?_⟩, ⟨by kernel_rfl, by decide, ?_⟩, ⟨by kernel_rfl, by decide, ?_⟩, trivial⟩
  ·(apply ot_v tk; (conv => whnf); (apply VNew.mk; intro gp hgp; (conv => whnf)); refine sla ?_)
   refine VT.mk (otx_anyV [3, 4, 9] (by kernel_rfl) (by decide) ?_)
   refine ⟨⟨by kernel_rfl, by decide, ?_⟩, ⟨by kernel_rfl, by decide, ?_⟩, ⟨by kernel_rfl, by decide, ?_⟩, trivial⟩
   ·(refine ot_appendE (sz := 2) (news := rgC C) tk (by decide) rfl rfl rfl rfl rfl rfl rfl rfl rfl rfl (by omega) (fun w1 hs => hs.reads hT.c) (by omega) (by decide) (fun gr cr hgr => ?_); refine ot_nil ?_; refine sla ?_)
    refine ox2 4 9 ?_ ?_
    ·(apply ot_v tk; (conv => whnf); (apply VNew.mk; intro gq hgq; (conv => whnf)); refine sla ?_)
     refine ox2 7 9 ?_ ?_
     ·(refine ot_appendE (sz := 2) (news := rgC R) tk (by decide) rfl rfl rfl rfl rfl rfl rfl rfl rfl rfl (by omega) (fun w1 hs => hs.reads hT.r) (by omega) (by decide) (fun gc cc2 hgc => ?_); refine ot_nil ?_; refine sla ?_)
      refine ox2 8 9 ?_ ?_
      ·(apply ot_v tk; (conv => whnf); refine sla ?_)
       refine ox1 9 ?_
       (apply ot_v tk; (conv => whnf); (apply VNew.mk; intro g9 hg9; (conv => whnf)); refine sla ?_)
       refine ox1 10 ?_
       (apply ot_v tk; (conv => whnf); (apply VSt.mk; (focus (repeat (first | exact At.here | apply At.there)); done); exact rfl; (conv => whnf)); refine sla ?_)
       refine VT.mk (otx_end ?_)
       exact VJ.mk ⟨g9, (some ⟨gr, 0, none⟩, cr), (some ⟨gc, 0, none⟩, cc2)⟩ rfl ⟨rfl, rfl, rfl, trivial⟩ (by ((try dsimp only); repeat (first | exact Pick.nil | ((apply Pick.cons); (focus (repeat (first | exact Rem.here | apply Rem.there)); done)))))
      ·(apply ot_v tk; (conv => whnf); (apply VNew.mk; intro g9 hg9; (conv => whnf)); refine sla ?_)
       refine ox1 8 ?_
       (apply ot_v tk; (conv => whnf); refine sla ?_)
       refine ox1 10 ?_
       (apply ot_v tk; (conv => whnf); (apply VSt.mk; (focus (repeat (first | exact At.here | apply At.there)); done); exact rfl; (conv => whnf)); refine sla ?_)
       refine VT.mk (otx_end ?_)
       exact VJ.mk ⟨g9, (some ⟨gr, 0, none⟩, cr), (some ⟨gc, 0, none⟩, cc2)⟩ rfl ⟨rfl, rfl, rfl, trivial⟩ (by ((try dsimp only); repeat (first | exact Pick.nil | ((apply Pick.cons); (focus (repeat (first | exact Rem.here | apply Rem.there)); done)))))
     ·(apply ot_v tk; (conv => whnf); (apply VNew.mk; intro g9 hg9; (conv => whnf)); refine sla ?_)
      refine ox1 7 ?_
      (refine ot_appendE (sz := 2) (news := rgC R) tk (by decide) rfl rfl rfl rfl rfl rfl rfl rfl rfl rfl (by omega) (fun w1 hs => hs.reads hT.r) (by omega) (by decide) (fun gc cc2 hgc => ?_); refine ot_nil ?_; refine sla ?_)
      refine ox1 8 ?_
      (apply ot_v tk; (conv => whnf); refine sla ?_)
      refine ox1 10 ?_
      (apply ot_v tk; (conv => whnf); (apply VSt.mk; (focus (repeat (first | exact At.here | apply At.there)); done); exact rfl; (conv => whnf)); refine sla ?_)
      refine VT.mk (otx_end ?_)
      exact VJ.mk ⟨g9, (some ⟨gr, 0, none⟩, cr), (some ⟨gc, 0, none⟩, cc2)⟩ rfl ⟨rfl, rfl, rfl, trivial⟩ (by ((try dsimp only); repeat (first | exact Pick.nil | ((apply Pick.cons); (focus (repeat (first | exact Rem.here | apply Rem.there)); done)))))
    ·(apply ot_v tk; (conv => whnf); (apply VNew.mk; intro g9 hg9; (conv => whnf)); refine sla ?_)
     refine ox1 4 ?_
     (apply ot_v tk; (conv => whnf); (apply VNew.mk; intro gq hgq; (conv => whnf)); refine sla ?_)
     refine ox1 7 ?_
     (refine ot_appendE (sz := 2) (news := rgC R) tk (by decide) rfl rfl rfl rfl rfl rfl rfl rfl rfl rfl (by omega) (fun w1 hs => hs.reads hT.r) (by omega) (by decide) (fun gc cc2 hgc => ?_); refine ot_nil ?_; refine sla ?_)
     refine ox1 8 ?_
     (apply ot_v tk; (conv => whnf); refine sla ?_)
     refine ox1 10 ?_
     (apply ot_v tk; (conv => whnf); (apply VSt.mk; (focus (repeat (first | exact At.here | apply At.there)); done); exact rfl; (conv => whnf)); refine sla ?_)
     refine VT.mk (otx_end ?_)
     exact VJ.mk ⟨g9, (some ⟨gr, 0, none⟩, cr), (some ⟨gc, 0, none⟩, cc2)⟩ rfl ⟨rfl, rfl, rfl, trivial⟩ (by ((try dsimp only); repeat (first | exact Pick.nil | ((apply Pick.cons); (focus (repeat (first | exact Rem.here | apply Rem.there)); done)))))
   ·(apply ot_v tk; (conv => whnf); (apply VNew.mk; intro gq hgq; (conv => whnf)); refine sla ?_)
    refine ox2 3 9 ?_ ?_
    ·(refine ot_appendE (sz := 2) (news := rgC C) tk (by decide) rfl rfl rfl rfl rfl rfl rfl rfl rfl rfl (by omega) (fun w1 hs => hs.reads hT.c) (by omega) (by decide) (fun gr cr hgr => ?_); refine ot_nil ?_; refine sla ?_)
     refine ox2 7 9 ?_ ?_
     ·(refine ot_appendE (sz := 2) (news := rgC R) tk (by decide) rfl rfl rfl rfl rfl rfl rfl rfl rfl rfl (by omega) (fun w1 hs => hs.reads hT.r) (by omega) (by decide) (fun gc cc2 hgc => ?_); refine ot_nil ?_; refine sla ?_)
      refine ox2 8 9 ?_ ?_
      ·(apply ot_v tk; (conv => whnf); refine sla ?_)
       refine ox1 9 ?_
       (apply ot_v tk; (conv => whnf); (apply VNew.mk; intro g9 hg9; (conv => whnf)); refine sla ?_)
       refine ox1 10 ?_
       (apply ot_v tk; (conv => whnf); (apply VSt.mk; (focus (repeat (first | exact At.here | apply At.there)); done); exact rfl; (conv => whnf)); refine sla ?_)
       refine VT.mk (otx_end ?_)
       exact VJ.mk ⟨g9, (some ⟨gr, 0, none⟩, cr), (some ⟨gc, 0, none⟩, cc2)⟩ rfl ⟨rfl, rfl, rfl, trivial⟩ (by ((try dsimp only); repeat (first | exact Pick.nil | ((apply Pick.cons); (focus (repeat (first | exact Rem.here | apply Rem.there)); done)))))
      ·(apply ot_v tk; (conv => whnf); (apply VNew.mk; intro g9 hg9; (conv => whnf)); refine sla ?_)
       refine ox1 8 ?_
       (apply ot_v tk; (conv => whnf); refine sla ?_)
       refine ox1 10 ?_
       (apply ot_v tk; (conv => whnf); (apply VSt.mk; (focus (repeat (first | exact At.here | apply At.there)); done); exact rfl; (conv => whnf)); refine sla ?_)
       refine VT.mk (otx_end ?_)
       exact VJ.mk ⟨g9, (some ⟨gr, 0, none⟩, cr), (some ⟨gc, 0, none⟩, cc2)⟩ rfl ⟨rfl, rfl, rfl, trivial⟩ (by ((try dsimp only); repeat (first | exact Pick.nil | ((apply Pick.cons); (focus (repeat (first | exact Rem.here | apply Rem.there)); done)))))
     ·(apply ot_v tk; (conv => whnf); (apply VNew.mk; intro g9 hg9; (conv => whnf)); refine sla ?_)
      refine ox1 7 ?_
      (refine ot_appendE (sz := 2) (news := rgC R) tk (by decide) rfl rfl rfl rfl rfl rfl rfl rfl rfl rfl (by omega) (fun w1 hs => hs.reads hT.r) (by omega) (by decide) (fun gc cc2 hgc => ?_); refine ot_nil ?_; refine sla ?_)
      refine ox1 8 ?_
      (apply ot_v tk; (conv => whnf); refine sla ?_)
      refine ox1 10 ?_
      (apply ot_v tk; (conv => whnf); (apply VSt.mk; (focus (repeat (first | exact At.here | apply At.there)); done); exact rfl; (conv => whnf)); refine sla ?_)
      refine VT.mk (otx_end ?_)
      exact VJ.mk ⟨g9, (some ⟨gr, 0, none⟩, cr), (some ⟨gc, 0, none⟩, cc2)⟩ rfl ⟨rfl, rfl, rfl, trivial⟩ (by ((try dsimp only); repeat (first | exact Pick.nil | ((apply Pick.cons); (focus (repeat (first | exact Rem.here | apply Rem.there)); done)))))
    ·(apply ot_v tk; (conv => whnf); (apply VNew.mk; intro g9 hg9; (conv => whnf)); refine sla ?_)
     refine ox1 3 ?_
     (refine ot_appendE (sz := 2) (news := rgC C) tk (by decide) rfl rfl rfl rfl rfl rfl rfl rfl rfl rfl (by omega) (fun w1 hs => hs.reads hT.c) (by omega) (by decide) (fun gr cr hgr => ?_); refine ot_nil ?_; refine sla ?_)
     refine ox1 7 ?_
     (refine ot_appendE (sz := 2) (news := rgC R) tk (by decide) rfl rfl rfl rfl rfl rfl rfl rfl rfl rfl (by omega) (fun w1 hs => hs.reads hT.r) (by omega) (by decide) (fun gc cc2 hgc => ?_); refine ot_nil ?_; refine sla ?_)
     refine ox1 8 ?_
     (apply ot_v tk; (conv => whnf); refine sla ?_)
     refine ox1 10 ?_
     (apply ot_v tk; (conv => whnf); (apply VSt.mk; (focus (repeat (first | exact At.here | apply At.there)); done); exact rfl; (conv => whnf)); refine sla ?_)
     refine VT.mk (otx_end ?_)
     exact VJ.mk ⟨g9, (some ⟨gr, 0, none⟩, cr), (some ⟨gc, 0, none⟩, cc2)⟩ rfl ⟨rfl, rfl, rfl, trivial⟩ (by ((try dsimp only); repeat (first | exact Pick.nil | ((apply Pick.cons); (focus (repeat (first | exact Rem.here | apply Rem.there)); done)))))
   ·(apply ot_v tk; (conv => whnf); (apply VNew.mk; intro g9 hg9; (conv => whnf)); refine sla ?_)
    refine ox2 3 4 ?_ ?_
    ·(refine ot_appendE (sz := 2) (news := rgC C) tk (by decide) rfl rfl rfl rfl rfl rfl rfl rfl rfl rfl (by omega) (fun w1 hs => hs.reads hT.c) (by omega) (by decide) (fun gr cr hgr => ?_); refine ot_nil ?_; refine sla ?_)
     refine ox1 4 ?_
     (apply ot_v tk; (conv => whnf); (apply VNew.mk; intro gq hgq; (conv => whnf)); refine sla ?_)
     refine ox1 7 ?_
     (refine ot_appendE (sz := 2) (news := rgC R) tk (by decide) rfl rfl rfl rfl rfl rfl rfl rfl rfl rfl (by omega) (fun w1 hs => hs.reads hT.r) (by omega) (by decide) (fun gc cc2 hgc => ?_); refine ot_nil ?_; refine sla ?_)
     refine ox1 8 ?_
     (apply ot_v tk; (conv => whnf); refine sla ?_)
     refine ox1 10 ?_
     (apply ot_v tk; (conv => whnf); (apply VSt.mk; (focus (repeat (first | exact At.here | apply At.there)); done); exact rfl; (conv => whnf)); refine sla ?_)
     refine VT.mk (otx_end ?_)
     exact VJ.mk ⟨g9, (some ⟨gr, 0, none⟩, cr), (some ⟨gc, 0, none⟩, cc2)⟩ rfl ⟨rfl, rfl, rfl, trivial⟩ (by ((try dsimp only); repeat (first | exact Pick.nil | ((apply Pick.cons); (focus (repeat (first | exact Rem.here | apply Rem.there)); done)))))
    ·(apply ot_v tk; (conv => whnf); (apply VNew.mk; intro gq hgq; (conv => whnf)); refine sla ?_)
     refine ox1 3 ?_
     (refine ot_appendE (sz := 2) (news := rgC C) tk (by decide) rfl rfl rfl rfl rfl rfl rfl rfl rfl rfl (by omega) (fun w1 hs => hs.reads hT.c) (by omega) (by decide) (fun gr cr hgr => ?_); refine ot_nil ?_; refine sla ?_)
     refine ox1 7 ?_
     (refine ot_appendE (sz := 2) (news := rgC R) tk (by decide) rfl rfl rfl rfl rfl rfl rfl rfl rfl rfl (by omega) (fun w1 hs => hs.reads hT.r) (by omega) (by decide) (fun gc cc2 hgc => ?_); refine ot_nil ?_; refine sla ?_)
     refine ox1 8 ?_
     (apply ot_v tk; (conv => whnf); refine sla ?_)
     refine ox1 10 ?_
     (apply ot_v tk; (conv => whnf); (apply VSt.mk; (focus (repeat (first | exact At.here | apply At.there)); done); exact rfl; (conv => whnf)); refine sla ?_)
     refine VT.mk (otx_end ?_)
     exact VJ.mk ⟨g9, (some ⟨gr, 0, none⟩, cr), (some ⟨gc, 0, none⟩, cc2)⟩ rfl ⟨rfl, rfl, rfl, trivial⟩ (by ((try dsimp only); repeat (first | exact Pick.nil | ((apply Pick.cons); (focus (repeat (first | exact Rem.here | apply Rem.there)); done)))))
  ·(apply ot_v tk; (conv => whnf); (apply VNew.mk; intro gq hgq; (conv => whnf)); refine sla ?_)
   refine ox2 0 9 ?_ ?_
   ·(apply ot_v tk; (conv => whnf); (apply VNew.mk; intro gp hgp; (conv => whnf)); refine sla ?_)
    refine ox2 3 9 ?_ ?_
    ·(refine ot_appendE (sz := 2) (news := rgC C) tk (by decide) rfl rfl rfl rfl rfl rfl rfl rfl rfl rfl (by omega) (fun w1 hs => hs.reads hT.c) (by omega) (by decide) (fun gr cr hgr => ?_); refine ot_nil ?_; refine sla ?_)
     refine ox2 7 9 ?_ ?_
     ·(refine ot_appendE (sz := 2) (news := rgC R) tk (by decide) rfl rfl rfl rfl rfl rfl rfl rfl rfl rfl (by omega) (fun w1 hs => hs.reads hT.r) (by omega) (by decide) (fun gc cc2 hgc => ?_); refine ot_nil ?_; refine sla ?_)
      refine ox2 8 9 ?_ ?_
      ·(apply ot_v tk; (conv => whnf); refine sla ?_)
       refine ox1 9 ?_
       (apply ot_v tk; (conv => whnf); (apply VNew.mk; intro g9 hg9; (conv => whnf)); refine sla ?_)
       refine ox1 10 ?_
       (apply ot_v tk; (conv => whnf); (apply VSt.mk; (focus (repeat (first | exact At.here | apply At.there)); done); exact rfl; (conv => whnf)); refine sla ?_)
       refine VT.mk (otx_end ?_)
       exact VJ.mk ⟨g9, (some ⟨gr, 0, none⟩, cr), (some ⟨gc, 0, none⟩, cc2)⟩ rfl ⟨rfl, rfl, rfl, trivial⟩ (by ((try dsimp only); repeat (first | exact Pick.nil | ((apply Pick.cons); (focus (repeat (first | exact Rem.here | apply Rem.there)); done)))))
      ·(apply ot_v tk; (conv => whnf); (apply VNew.mk; intro g9 hg9; (conv => whnf)); refine sla ?_)
       refine ox1 8 ?_
       (apply ot_v tk; (conv => whnf); refine sla ?_)
       refine ox1 10 ?_
       (apply ot_v tk; (conv => whnf); (apply VSt.mk; (focus (repeat (first | exact At.here | apply At.there)); done); exact rfl; (conv => whnf)); refine sla ?_)
       refine VT.mk (otx_end ?_)
       exact VJ.mk ⟨g9, (some ⟨gr, 0, none⟩, cr), (some ⟨gc, 0, none⟩, cc2)⟩ rfl ⟨rfl, rfl, rfl, trivial⟩ (by ((try dsimp only); repeat (first | exact Pick.nil | ((apply Pick.cons); (focus (repeat (first | exact Rem.here | apply Rem.there)); done)))))
     ·(apply ot_v tk; (conv => whnf); (apply VNew.mk; intro g9 hg9; (conv => whnf)); refine sla ?_)
      refine ox1 7 ?_
      (refine ot_appendE (sz := 2) (news := rgC R) tk (by decide) rfl rfl rfl rfl rfl rfl rfl rfl rfl rfl (by omega) (fun w1 hs => hs.reads hT.r) (by omega) (by decide) (fun gc cc2 hgc => ?_); refine ot_nil ?_; refine sla ?_)
      refine ox1 8 ?_
      (apply ot_v tk; (conv => whnf); refine sla ?_)
      refine ox1 10 ?_
      (apply ot_v tk; (conv => whnf); (apply VSt.mk; (focus (repeat (first | exact At.here | apply At.there)); done); exact rfl; (conv => whnf)); refine sla ?_)
      refine VT.mk (otx_end ?_)
      exact VJ.mk ⟨g9, (some ⟨gr, 0, none⟩, cr), (some ⟨gc, 0, none⟩, cc2)⟩ rfl ⟨rfl, rfl, rfl, trivial⟩ (by ((try dsimp only); repeat (first | exact Pick.nil | ((apply Pick.cons); (focus (repeat (first | exact Rem.here | apply Rem.there)); done)))))
    ·(apply ot_v tk; (conv => whnf); (apply VNew.mk; intro g9 hg9; (conv => whnf)); refine sla ?_)
     refine ox1 3 ?_
     (refine ot_appendE (sz := 2) (news := rgC C) tk (by decide) rfl rfl rfl rfl rfl rfl rfl rfl rfl rfl (by omega) (fun w1 hs => hs.reads hT.c) (by omega) (by decide) (fun gr cr hgr => ?_); refine ot_nil ?_; refine sla ?_)
     refine ox1 7 ?_
     (refine ot_appendE (sz := 2) (news := rgC R) tk (by decide) rfl rfl rfl rfl rfl rfl rfl rfl rfl rfl (by omega) (fun w1 hs => hs.reads hT.r) (by omega) (by decide) (fun gc cc2 hgc => ?_); refine ot_nil ?_; refine sla ?_)
     refine ox1 8 ?_
     (apply ot_v tk; (conv => whnf); refine sla ?_)
     refine ox1 10 ?_
     (apply ot_v tk; (conv => whnf); (apply VSt.mk; (focus (repeat (first | exact At.here | apply At.there)); done); exact rfl; (conv => whnf)); refine sla ?_)
     refine VT.mk (otx_end ?_)
     exact VJ.mk ⟨g9, (some ⟨gr, 0, none⟩, cr), (some ⟨gc, 0, none⟩, cc2)⟩ rfl ⟨rfl, rfl, rfl, trivial⟩ (by ((try dsimp only); repeat (first | exact Pick.nil | ((apply Pick.cons); (focus (repeat (first | exact Rem.here | apply Rem.there)); done)))))
   ·(apply ot_v tk; (conv => whnf); (apply VNew.mk; intro g9 hg9; (conv => whnf)); refine sla ?_)
    refine ox1 0 ?_
    (apply ot_v tk; (conv => whnf); (apply VNew.mk; intro gp hgp; (conv => whnf)); refine sla ?_)
    refine ox1 3 ?_
    (refine ot_appendE (sz := 2) (news := rgC C) tk (by decide) rfl rfl rfl rfl rfl rfl rfl rfl rfl rfl (by omega) (fun w1 hs => hs.reads hT.c) (by omega) (by decide) (fun gr cr hgr => ?_); refine ot_nil ?_; refine sla ?_)
    refine ox1 7 ?_
    (refine ot_appendE (sz := 2) (news := rgC R) tk (by decide) rfl rfl rfl rfl rfl rfl rfl rfl rfl rfl (by omega) (fun w1 hs => hs.reads hT.r) (by omega) (by decide) (fun gc cc2 hgc => ?_); refine ot_nil ?_; refine sla ?_)
    refine ox1 8 ?_
    (apply ot_v tk; (conv => whnf); refine sla ?_)
    refine ox1 10 ?_
    (apply ot_v tk; (conv => whnf); (apply VSt.mk; (focus (repeat (first | exact At.here | apply At.there)); done); exact rfl; (conv => whnf)); refine sla ?_)
    refine VT.mk (otx_end ?_)
    exact VJ.mk ⟨g9, (some ⟨gr, 0, none⟩, cr), (some ⟨gc, 0, none⟩, cc2)⟩ rfl ⟨rfl, rfl, rfl, trivial⟩ (by ((try dsimp only); repeat (first | exact Pick.nil | ((apply Pick.cons); (focus (repeat (first | exact Rem.here | apply Rem.there)); done)))))
  ·(apply ot_v tk; (conv => whnf); (apply VNew.mk; intro g9 hg9; (conv => whnf)); refine sla ?_)
   refine ox2 0 4 ?_ ?_
   ·(apply ot_v tk; (conv => whnf); (apply VNew.mk; intro gp hgp; (conv => whnf)); refine sla ?_)
    refine ox2 3 4 ?_ ?_
    ·(refine ot_appendE (sz := 2) (news := rgC C) tk (by decide) rfl rfl rfl rfl rfl rfl rfl rfl rfl rfl (by omega) (fun w1 hs => hs.reads hT.c) (by omega) (by decide) (fun gr cr hgr => ?_); refine ot_nil ?_; refine sla ?_)
     refine ox1 4 ?_
     (apply ot_v tk; (conv => whnf); (apply VNew.mk; intro gq hgq; (conv => whnf)); refine sla ?_)
     refine ox1 7 ?_
     (refine ot_appendE (sz := 2) (news := rgC R) tk (by decide) rfl rfl rfl rfl rfl rfl rfl rfl rfl rfl (by omega) (fun w1 hs => hs.reads hT.r) (by omega) (by decide) (fun gc cc2 hgc => ?_); refine ot_nil ?_; refine sla ?_)
     refine ox1 8 ?_
     (apply ot_v tk; (conv => whnf); refine sla ?_)
     refine ox1 10 ?_
     (apply ot_v tk; (conv => whnf); (apply VSt.mk; (focus (repeat (first | exact At.here | apply At.there)); done); exact rfl; (conv => whnf)); refine sla ?_)
     refine VT.mk (otx_end ?_)
     exact VJ.mk ⟨g9, (some ⟨gr, 0, none⟩, cr), (some ⟨gc, 0, none⟩, cc2)⟩ rfl ⟨rfl, rfl, rfl, trivial⟩ (by ((try dsimp only); repeat (first | exact Pick.nil | ((apply Pick.cons); (focus (repeat (first | exact Rem.here | apply Rem.there)); done)))))
    ·(apply ot_v tk; (conv => whnf); (apply VNew.mk; intro gq hgq; (conv => whnf)); refine sla ?_)
     refine ox1 3 ?_
     (refine ot_appendE (sz := 2) (news := rgC C) tk (by decide) rfl rfl rfl rfl rfl rfl rfl rfl rfl rfl (by omega) (fun w1 hs => hs.reads hT.c) (by omega) (by decide) (fun gr cr hgr => ?_); refine ot_nil ?_; refine sla ?_)
     refine ox1 7 ?_
     (refine ot_appendE (sz := 2) (news := rgC R) tk (by decide) rfl rfl rfl rfl rfl rfl rfl rfl rfl rfl (by omega) (fun w1 hs => hs.reads hT.r) (by omega) (by decide) (fun gc cc2 hgc => ?_); refine ot_nil ?_; refine sla ?_)
     refine ox1 8 ?_
     (apply ot_v tk; (conv => whnf); refine sla ?_)
     refine ox1 10 ?_
     (apply ot_v tk; (conv => whnf); (apply VSt.mk; (focus (repeat (first | exact At.here | apply At.there)); done); exact rfl; (conv => whnf)); refine sla ?_)
     refine VT.mk (otx_end ?_)
     exact VJ.mk ⟨g9, (some ⟨gr, 0, none⟩, cr), (some ⟨gc, 0, none⟩, cc2)⟩ rfl ⟨rfl, rfl, rfl, trivial⟩ (by ((try dsimp only); repeat (first | exact Pick.nil | ((apply Pick.cons); (focus (repeat (first | exact Rem.here | apply Rem.there)); done)))))
   ·(apply ot_v tk; (conv => whnf); (apply VNew.mk; intro gq hgq; (conv => whnf)); refine sla ?_)
    refine ox1 0 ?_
    (apply ot_v tk; (conv => whnf); (apply VNew.mk; intro gp hgp; (conv => whnf)); refine sla ?_)
    refine ox1 3 ?_
    (refine ot_appendE (sz := 2) (news := rgC C) tk (by decide) rfl rfl rfl rfl rfl rfl rfl rfl rfl rfl (by omega) (fun w1 hs => hs.reads hT.c) (by omega) (by decide) (fun gr cr hgr => ?_); refine ot_nil ?_; refine sla ?_)
    refine ox1 7 ?_
    (refine ot_appendE (sz := 2) (news := rgC R) tk (by decide) rfl rfl rfl rfl rfl rfl rfl rfl rfl rfl (by omega) (fun w1 hs => hs.reads hT.r) (by omega) (by decide) (fun gc cc2 hgc => ?_); refine ot_nil ?_; refine sla ?_)
    refine ox1 8 ?_
    (apply ot_v tk; (conv => whnf); refine sla ?_)
    refine ox1 10 ?_
    (apply ot_v tk; (conv => whnf); (apply VSt.mk; (focus (repeat (first | exact At.here | apply At.there)); done); exact rfl; (conv => whnf)); refine sla ?_)
    refine VT.mk (otx_end ?_)
    exact VJ.mk ⟨g9, (some ⟨gr, 0, none⟩, cr), (some ⟨gc, 0, none⟩, cc2)⟩ rfl ⟨rfl, rfl, rfl, trivial⟩ (by ((try dsimp only); repeat (first | exact Pick.nil | ((apply Pick.cons); (focus (repeat (first | exact Rem.here | apply Rem.there)); done)))))
 rintro ⟨g9, ⟨Br, cr⟩, ⟨Bc, cc2⟩⟩
 dsimp only
 (apply tr_v tk; (conv => whnf); apply VStop.mk)
 refine tr_own_nil 22 1 ?_
 refine v_loop (fun gm ds ts A => ds = [] ∧ ∃ (j : Nat) (Bx : Option Addr) (cx : Nat) (xs : List NsX), j + gm = C.length ∧ xs.length = j ∧ A.Perm (.own (.slice Bx j cx) 22 1 j (nsVs xs (nestR (turnX R.length j X))) :: .blk g9 25 [.slice Br C.length cr, .slice Bc R.length cc2, .slice Bx j cx] :: .own (.slice Br C.length cr) 37 2 C.length (rgC C) :: .own (.slice Bc R.length cc2) 37 2 R.length (rgC R) :: .blk g8 25 [.slice none 0 0, .slice none 0 0, .slice none 0 0] :: .blk g4 25 [.slice RA R.length rc, .slice CA C.length cc, .slice XA X.length xc] :: nsCh 37 2 xs (nestR (turnX R.length j X))) ∧
   ts = [(1, .pointer (some ⟨g4, 0, none⟩)), (2, .pointer (some ⟨g8, 0, none⟩)), (3, .pointer (some ⟨g9, 0, none⟩)), (4, .int .i64 (j : Int))]) C.length
   (l := [(1, _), (2, _), (3, _), (4, _)]) (B := _) ?_ (List.Sublist.refl _) ⟨rfl, 0, none, 0, [], by omega, rfl, ?_, rfl⟩ ?_
 ·exact ⟨rfl, rfl, rfl, rfl, trivial⟩
 ·refine .cons _ ?_
  exact (List.perm_append_comm (l₁ := [_, _]) (l₂ := [_])).append_right _
 rintro gm ds ts A ⟨rfl, j, Bx, cx, xs, hj, hxs, hA, rfl⟩
 refine tr_perm hA ?_
 clear hA A
 by_cases hlt : j < C.length
 ·have e1 := turnX_step R.length j X
  have e2 := congrArg nestR e1
  rw [nestR_snoc, turnL_len] at e2
  have hxn : xs.length = (nestR (turnX R.length j X)).length := by rw [nestR_length, turnX_len]; omega
  have e3 := fun x => nsVs_snoc (xs := xs) (S := nestR (turnX R.length j X)) (x := x) (s := (R.length, rgC (turnL R.length X j))) hxn
  have e4 := fun x => nsCh_snoc (e := 37) (sz := 2) (xs := xs) (S := nestR (turnX R.length j X)) (x := x) (s := (R.length, rgC (turnL R.length X j))) hxn
  rw [← e2] at e3 e4
  (apply tr_v tk; (conv => whnf); (repeat ((first | (apply VLd.mk; (focus ((repeat (first | ((with_reducible apply ld_blk); exact rfl) | (with_reducible apply ld_skip))); done))) | apply VBr.t | (apply v_t; omega)); (conv => whnf))); apply VStop.mk)
  refine tr_own_nil 37 2 ?_
  refine v_loop (fun gm2 ds ts A => ds = [] ∧ ∃ (a : Nat) (Bl : Option Addr) (cl : Nat), a + gm2 = R.length ∧ A = .own (.slice Bl a cl) 37 2 a (rgC (turnL a X j)) :: .own (.slice Bx j cx) 22 1 j (nsVs xs (nestR (turnX R.length j X))) :: .blk g9 25 [.slice Br C.length cr, .slice Bc R.length cc2, .slice Bx j cx] :: .own (.slice Br C.length cr) 37 2 C.length (rgC C) :: .own (.slice Bc R.length cc2) 37 2 R.length (rgC R) :: .blk g8 25 [.slice none 0 0, .slice none 0 0, .slice none 0 0] :: .blk g4 25 [.slice RA R.length rc, .slice CA C.length cc, .slice XA X.length xc] :: nsCh 37 2 xs (nestR (turnX R.length j X)) ∧
   ts = [(1, .pointer (some ⟨g4, 0, none⟩)), (2, .pointer (some ⟨g8, 0, none⟩)), (3, .pointer (some ⟨g9, 0, none⟩)), (4, .int .i64 (j : Int)), (5, .slice Bl a cl), (6, .int .i64 (a : Int))]) R.length
   (l := [(1, _), (2, _), (3, _), (4, _), (5, _), (6, _)]) (B := _) ?_ (List.Sublist.refl _) ⟨rfl, 0, none, 0, by omega, rfl, rfl⟩ ?_
  ·exact ⟨rfl, rfl, rfl, rfl, rfl, rfl, trivial⟩
  rintro gm2 ds ts A ⟨rfl, a, Bl, cl, ha, rfl, rfl⟩
  by_cases hlt2 : a < R.length
  ·obtain ⟨xb, xo, B, o, c, rfl, k1, k2⟩ := key a j hlt2 hlt
   have hst := congrArg rgC (turnL_step a X j)
   rw [rgC_append] at hst
   change rgC (turnL (a + 1) X j) = rgC (turnL a X j) ++ [.int .i64 (xAt X a j).1, .int .i64 (xAt X a j).2] at hst
   (apply tr_v tk; (conv => whnf); (repeat ((first | (apply VStop.mk; (refine ot_appendS (sz := 2) (sl := a) (A'v := fun v' => _ :: .own v' 37 2 (a + 1) _ :: _) tk rfl rfl rfl rfl rfl rfl rfl rfl rfl rfl (by decide) rfl (cells_blk_all (.head _)) rfl rfl (fun v' => .there .here) (by omega) (by decide) (fun Bm cm => ?_)); apply ot_v tk) | (apply VIx.mk (j := a); exact rfl; omega) | (apply VIx.mk (j := j); exact rfl; omega) | (apply VLd.mk; first | exact k1 _) | (apply VLdN.mk; (first | exact k2 _); exact rfl) | (apply VLd.mk; (focus ((repeat (first | ((with_reducible apply ld_blk); exact rfl) | (with_reducible apply ld_skip))); done))) | (apply VRng.mk; omega) | apply VBr.t | (apply v_t; omega) | (apply VNew.mk; intro g hg)); (conv => whnf))))
   rw [← hst]
   exact v_rnd (gm2 - 1) (by omega) (l := [(1, _), (2, _), (3, _), (4, _), (5, _), (6, _)]) (B := _) ⟨rfl, rfl, rfl, rfl, rfl, rfl, trivial⟩ (.cons _ (List.Sublist.refl _)) ⟨rfl, a + 1, Bm, cm, by omega, rfl, rfl⟩
  obtain rfl : a = R.length := by omega
  (apply tr_v tk; (conv => whnf); (repeat ((first | (apply VStop.mk; (refine ot_appendS (sz := 1) (sl := j) (A'v := fun v' => _ :: _ :: .own v' 22 1 (j + 1) _ :: _) tk rfl rfl rfl rfl rfl rfl rfl rfl rfl rfl (by decide) rfl (cells_blk_all (.head _)) rfl rfl (fun v' => .there (.there .here)) (by omega) (by decide) (fun Bm cm => ?_)); apply ot_v tk) | (apply VLd.mk; (focus ((repeat (first | ((with_reducible apply ld_blk); exact rfl) | (with_reducible apply ld_skip))); done))) | (apply VRng.mk; omega) | apply VBr.f | (apply v_f; omega) | (apply VNew.mk; intro g hg) | (apply VSt.mk; (focus ((repeat (first | (with_reducible exact At.here) | (with_reducible apply At.there))); done)); exact rfl)); (conv => whnf))))
  exact v_rnd (gm - 1) (by omega) (l := [(1, _), (2, _), (3, _), (4, _)]) (B := _) ⟨rfl, rfl, rfl, rfl, trivial⟩ (.cons _ (List.Sublist.refl _)) ⟨rfl, j + 1, Bm, cm, xs ++ [(Bl, cl)], by omega, by rw [List.length_append, hxs]; rfl, by rw [e4, e3]; exact (List.perm_append_singleton _ (_ :: _ :: _ :: _ :: _ :: _ :: _)).symm, rfl⟩
 obtain rfl : j = C.length := by omega
 have hsl := turnX_len R.length C.length X
 (apply tr_v tk; (conv => whnf); (repeat ((first | (apply VLd.mk; (focus ((repeat (first | ((with_reducible apply ld_blk); exact rfl) | (with_reducible apply ld_skip))); done))) | (apply VLdN.mk; (focus ((repeat (first | (with_reducible apply ldn_blk) | (with_reducible apply ldn_skip))); done)); exact rfl) | apply VBr.f | (apply v_f; omega) | (apply VSt.mk; (focus ((repeat (first | (with_reducible exact At.here) | (with_reducible apply At.there))); done)); exact rfl)); (conv => whnf))))
 (apply VRet.mk)
 refine ret1 (by first | exact .inl rfl | exact .inr rfl) rfl (by exact rv_row tk rfl rfl rfl (by first | exact cells_blk_all (by (repeat (first | exact List.Mem.head _ | assumption | refine List.Mem.tail _ ?_))) | exact cells_row0 (by (repeat (first | exact List.Mem.head _ | assumption | refine List.Mem.tail _ ?_)))) rfl) ?_
 refine fun w hs => ⟨⟨(Br, cr), (Bc, cc2), (Bx, cx), xs⟩, ?_, by rw [hsl]; exact hxs, ?_⟩
 ·unfold tabX tabV
  rw [hsl]
 ·unfold tabCh
  dsimp only
  rw [hsl]
  exact (hs.perm ((List.perm_append_comm (l₁ := [_, _]) (l₂ := [_, _])).append_right _)).sub (.cons_cons _ (.cons_cons _ (.cons_cons _ (.cons _ (.cons _ (.cons _ (List.Sublist.refl _)))))))
end
end Go.Proofs.Ytalcccgialpjgaa
