/- Clash, as the definition says: lemmas for the rows of this seat. No conditions. -/
import Derived.Laws.StructEq
import Derived.Test.YtojeeindlijgkaaGreatDoorK3
set_option linter.all false
namespace Go.Proofs.YtojeeindlijgkaaGreatDoor
open Go.RowKit
/-! ## Clash, as the definition says -/
def sameAt (x y : Ln) : Prop := x.st = y.st ∧ x.ck = y.ck
def clB (x y : Ln) : Bool := decide (x.st = y.st) && decide (x.ck = y.ck) && !decide (x = y)
def clashB (l2 : List Ln) (x : Ln) : Bool := l2.any (clB x)
def clashV : Option Ln → Value
 | some x => .tuple #[.int .i64 x.st, .int .i64 x.ck, .int .i64 0]
 | none => .tuple #[.int .i64 0, .int .i64 0, .int .i64 5]
theorem find_step {α : Type} (p : α → Bool) {l : List α} {j : Nat} (h : j < l.length) : (l.drop j).find? p = if p l[j] then some l[j] else (l.drop (j + 1)).find? p := by
 rw [List.drop_eq_getElem_cons h, List.find?_cons]
 cases p l[j] <;> rfl
theorem any_step {α : Type} (p : α → Bool) {l : List α} {j : Nat} (h : j < l.length) : (l.drop j).any p = (p l[j] || (l.drop (j + 1)).any p) := by
 rw [List.drop_eq_getElem_cons h, List.any_cons]
set_option maxHeartbeats 4000000 in
set_option maxRecDepth 20000 in
theorem refClash_any (A1 : Option Addr) (c1 : Nat) (l1 : List Ln) (A2 : Option Addr) (c2 : Nat) (l2 : List Ln) (w : World) (h1 : BookR w A1 l1) (h2 : BookR w A2 l2) (hm1 : l1.length ≤ 1000) (hm2 : l2.length ≤ 1000) (hE : errTwo l1 l2 = 0) :
  Calls Tryz.prog 25 #[.agg #[.slice A1 l1.length c1], .agg #[.slice A2 l2.length c2]] w fun e w' => e = .returned (clashV (l1.find? (clashB l2))) ∧ Below w.heap.size w w' := by
 have k1 := fun w1 h h' => both_any A1 c1 l1 A2 c2 l2 w1 h h' (by unfold maxLen; omega) (by unfold maxLen; omega)
 unfold errTwo at hE
 rw [hE] at k1
 obtain ⟨r, hr⟩ : ∃ r, r = (l1.drop 0).find? (clashB l2) := ⟨_, rfl⟩
 rw [show l1.find? (clashB l2) = r from hr.symm]
 refine fn_v tk (n := 63) (A := []) Tryz.func25 rfl rfl (Nat.le_of_ble_eq_true rfl) (St.nil (Below.refl _ _)) ?_
 ((conv => whnf); (repeat ((first | (apply VCall.q; kernel_rfl; (focus (intro w1 hs; first | with_reducible apply k1 w1 (hs.book h1) (hs.book h2)))) | (apply VLdN.mk; (focus ((repeat (first | (with_reducible apply ldn_blk) | (with_reducible apply ldn_skip))); done)); exact rfl) | apply VBr.f | (apply v_f; omega) | (apply VNew.mk; intro g hg)); (conv => whnf))); apply VStop.mk)
 revert g hg
 intro g3 hg3
 revert g hg
 intro g2 hg2
 refine v_loop (fun gm ds ts A => ds = [] ∧ ∃ j : Nat, j + gm = l1.length ∧ r = (l1.drop j).find? (clashB l2) ∧ A = [.blk g3 24 [.slice A2 l2.length c2], .blk g2 24 [.slice A1 l1.length c1]] ∧ ts = [(2, .pointer (some ⟨g2, 0, none⟩)), (3, .pointer (some ⟨g3, 0, none⟩)), (7, .int .i64 (j : Int))]) l1.length (l := [(2, _), (3, _), (7, _)]) (B := _) ?_ (List.Sublist.refl _) ⟨rfl, 0, by omega, hr, rfl, rfl⟩ ?_
 ·exact ⟨rfl, rfl, rfl, trivial⟩
 clear hr
 rintro gm ds ts A ⟨rfl, j, hj, hr, rfl, rfl⟩
 by_cases hlt : j < l1.length
 ·obtain ⟨b1, o1, rfl⟩ := book_addr h1 hlt
  have cA := fun A => ln_cells h1 hlt A
  rw [find_step _ hlt, ← lnAt_get hlt] at hr
  have hq : clashB l2 (lnAt l1 j) = (l2.drop 0).any (clB (lnAt l1 j)) := rfl
  generalize clashB l2 (lnAt l1 j) = q at *
  unfold lnL at cA
  generalize lnAt l1 j = x at *
  (apply tr_v tk; (conv => whnf); (repeat ((first | (apply VLd.mk; (focus ((repeat (first | ((with_reducible apply ld_blk); exact rfl) | (with_reducible apply ld_skip))); done))) | apply VBr.t | (apply v_t; omega)); (conv => whnf))); apply VStop.mk)
  refine v_loop (fun gm2 ds ts A => ds = [] ∧ ∃ k : Nat, k + gm2 = l2.length ∧ q = (l2.drop k).any (clB x) ∧ A = [.blk g3 24 [.slice A2 l2.length c2], .blk g2 24 [.slice (some ⟨b1, o1, none⟩) l1.length c1]] ∧ ts = [(2, .pointer (some ⟨g2, 0, none⟩)), (3, .pointer (some ⟨g3, 0, none⟩)), (7, .int .i64 (j : Int)), (8, .int .i64 (k : Int))]) l2.length (l := [(2, _), (3, _), (7, _), (8, _)]) (B := _) ?_ (List.Sublist.refl _) ⟨rfl, 0, by omega, hq, rfl, rfl⟩ ?_
  ·exact ⟨rfl, rfl, rfl, rfl, trivial⟩
  clear hq
  rintro gm2 ds ts A ⟨rfl, k, hk, hq, rfl, rfl⟩
  by_cases hlt2 : k < l2.length
  ·obtain ⟨b2, o2, rfl⟩ := book_addr h2 hlt2
   have cB := fun A => ln_cells h2 hlt2 A
   rw [any_step _ hlt2, ← lnAt_get hlt2] at hq
   unfold lnL at cB
   generalize lnAt l2 k = y at *
   have hc : clB x y = (decide (x.st = y.st) && decide (x.ck = y.ck) && !decide (x = y)) := rfl
   by_cases e1 : x.st = y.st
   rotate_left
   ·rw [decide_eq_false e1, Bool.false_and, Bool.false_and] at hc
    rw [hc, Bool.false_or] at hq
    (apply tr_v tk; (conv => whnf); (repeat ((first | (apply VStop.mk; refine tr_region_treeV (id := 9) (by kernel_rfl) [.blk g3 24 _, .blk g2 24 _] (by (repeat (first | exact sl0 _ | exact sl1 _ | refine sl2 _ ?_ | refine sl3 _ ?_))) [0, 1, 2, 3, 4, 5, 6, 7, 8, 9] [10, 11, 12, 13] [.rd, .rd, .rd, .rd, .rd, .rd, .rd, .rd, .rd, .rd] (fun i => [.wr, .wr, .wr, .wr, .wr, .wr, .wr, .wr, .wr, .wr, .cr, .cr, .wr, .wr].getD i .wr) _ rfl rfl (by kernel_rfl) ?_; apply ot_v tk) | (apply VLdN.mk; (first | exact cA _ | exact cB _); exact rfl) | (apply VIx.mk (j := j); exact rfl; omega) | (apply VIx.mk (j := k); exact rfl; omega) | (apply VLd.mk; (focus ((repeat (first | ((with_reducible apply ld_blk); exact rfl) | (with_reducible apply ld_skip))); done))) | apply VBr.t | (apply v_t; omega)); (conv => whnf))))
    refine ox2 10 11 ?_ ?_
    ·(apply ot_v tk; (conv => whnf); (apply VNew.mk; intro ga hga; (conv => whnf)); refine sla ?_)
     refine ox1 11 ?_
     (apply ot_v tk; (conv => whnf); (apply VNew.mk; intro gb hgb; (conv => whnf)); refine sla ?_)
     refine ox1 12 ?_
     (apply ot_v tk; (conv => whnf); (apply VSt.mk; (focus (repeat (first | exact At.here | apply At.there)); done); exact rfl; (conv => whnf)); refine sla ?_)
     refine ox1 13 ?_
     (apply ot_v tk; (conv => whnf); (apply VSt.mk; (focus (repeat (first | exact At.here | apply At.there)); done); exact rfl; (conv => whnf)); refine sla ?_)
     refine VT.mk (otx_end ?_)
     (((conv => whnf); (repeat ((first | (apply VLd.mk; (focus ((repeat (first | ((with_reducible apply ld_blk); exact rfl) | (with_reducible apply ld_skip))); done))) | (apply VRng.mk; omega) | apply VBr.f | (apply v_f; omega)); (conv => whnf)))); exact v_rnd (gm2 - 1) (by omega) (l := [(2, _), (3, _), (7, _), (8, _)]) (B := [.blk g3 24 [.slice (some ⟨b2, o2, none⟩) l2.length c2], .blk g2 24 [.slice (some ⟨b1, o1, none⟩) l1.length c1]]) ⟨rfl, rfl, rfl, rfl, trivial⟩ (.cons _ (.cons _ (List.Sublist.refl _))) ⟨rfl, k + 1, by omega, hq, rfl, rfl⟩)
    ·(apply ot_v tk; (conv => whnf); (apply VNew.mk; intro gb hgb; (conv => whnf)); refine sla ?_)
     refine ox1 10 ?_
     (apply ot_v tk; (conv => whnf); (apply VNew.mk; intro ga hga; (conv => whnf)); refine sla ?_)
     refine ox1 12 ?_
     (apply ot_v tk; (conv => whnf); (apply VSt.mk; (focus (repeat (first | exact At.here | apply At.there)); done); exact rfl; (conv => whnf)); refine sla ?_)
     refine ox1 13 ?_
     (apply ot_v tk; (conv => whnf); (apply VSt.mk; (focus (repeat (first | exact At.here | apply At.there)); done); exact rfl; (conv => whnf)); refine sla ?_)
     refine VT.mk (otx_end ?_)
     (((conv => whnf); (repeat ((first | (apply VLd.mk; (focus ((repeat (first | ((with_reducible apply ld_blk); exact rfl) | (with_reducible apply ld_skip))); done))) | (apply VRng.mk; omega) | apply VBr.f | (apply v_f; omega)); (conv => whnf)))); exact v_rnd (gm2 - 1) (by omega) (l := [(2, _), (3, _), (7, _), (8, _)]) (B := [.blk g3 24 [.slice (some ⟨b2, o2, none⟩) l2.length c2], .blk g2 24 [.slice (some ⟨b1, o1, none⟩) l1.length c1]]) ⟨rfl, rfl, rfl, rfl, trivial⟩ (.cons _ (.cons _ (List.Sublist.refl _))) ⟨rfl, k + 1, by omega, hq, rfl, rfl⟩)
   by_cases e2 : x.ck = y.ck
   rotate_left
   ·rw [decide_eq_true e1, decide_eq_false e2, Bool.true_and, Bool.false_and] at hc
    rw [hc, Bool.false_or] at hq
    (apply tr_v tk; (conv => whnf); (repeat ((first | (apply VStop.mk; refine tr_region_treeV (id := 9) (by kernel_rfl) [.blk g3 24 _, .blk g2 24 _] (by (repeat (first | exact sl0 _ | exact sl1 _ | refine sl2 _ ?_ | refine sl3 _ ?_))) [0, 1, 2, 3, 4, 5, 6, 7, 8, 9] [10, 11, 12, 13] [.rd, .rd, .rd, .rd, .rd, .rd, .rd, .rd, .rd, .rd] (fun i => [.wr, .wr, .wr, .wr, .wr, .wr, .wr, .wr, .wr, .wr, .cr, .cr, .wr, .wr].getD i .wr) _ rfl rfl (by kernel_rfl) ?_; apply ot_v tk) | (apply VLdN.mk; (first | exact cA _ | exact cB _); exact rfl) | (apply VIx.mk (j := j); exact rfl; omega) | (apply VIx.mk (j := k); exact rfl; omega) | (apply VLd.mk; (focus ((repeat (first | ((with_reducible apply ld_blk); exact rfl) | (with_reducible apply ld_skip))); done))) | apply VBr.t | (apply v_t; omega)); (conv => whnf))))
    refine ox2 10 11 ?_ ?_
    ·(apply ot_v tk; (conv => whnf); (apply VNew.mk; intro ga hga; (conv => whnf)); refine sla ?_)
     refine ox1 11 ?_
     (apply ot_v tk; (conv => whnf); (apply VNew.mk; intro gb hgb; (conv => whnf)); refine sla ?_)
     refine ox1 12 ?_
     (apply ot_v tk; (conv => whnf); (apply VSt.mk; (focus (repeat (first | exact At.here | apply At.there)); done); exact rfl; (conv => whnf)); refine sla ?_)
     refine ox1 13 ?_
     (apply ot_v tk; (conv => whnf); (apply VSt.mk; (focus (repeat (first | exact At.here | apply At.there)); done); exact rfl; (conv => whnf)); refine sla ?_)
     refine VT.mk (otx_end ?_)
     (((conv => whnf); (repeat ((first | (apply VLd.mk; (focus ((repeat (first | ((with_reducible apply ld_blk); exact rfl) | (with_reducible apply ld_skip))); done))) | (apply VRng.mk; omega) | apply VBr.t | apply VBr.f | (apply v_t; omega) | (apply v_f; omega)); (conv => whnf)))); exact v_rnd (gm2 - 1) (by omega) (l := [(2, _), (3, _), (7, _), (8, _)]) (B := [.blk g3 24 [.slice (some ⟨b2, o2, none⟩) l2.length c2], .blk g2 24 [.slice (some ⟨b1, o1, none⟩) l1.length c1]]) ⟨rfl, rfl, rfl, rfl, trivial⟩ (.cons _ (.cons _ (List.Sublist.refl _))) ⟨rfl, k + 1, by omega, hq, rfl, rfl⟩)
    ·(apply ot_v tk; (conv => whnf); (apply VNew.mk; intro gb hgb; (conv => whnf)); refine sla ?_)
     refine ox1 10 ?_
     (apply ot_v tk; (conv => whnf); (apply VNew.mk; intro ga hga; (conv => whnf)); refine sla ?_)
     refine ox1 12 ?_
     (apply ot_v tk; (conv => whnf); (apply VSt.mk; (focus (repeat (first | exact At.here | apply At.there)); done); exact rfl; (conv => whnf)); refine sla ?_)
     refine ox1 13 ?_
     (apply ot_v tk; (conv => whnf); (apply VSt.mk; (focus (repeat (first | exact At.here | apply At.there)); done); exact rfl; (conv => whnf)); refine sla ?_)
     refine VT.mk (otx_end ?_)
     (((conv => whnf); (repeat ((first | (apply VLd.mk; (focus ((repeat (first | ((with_reducible apply ld_blk); exact rfl) | (with_reducible apply ld_skip))); done))) | (apply VRng.mk; omega) | apply VBr.t | apply VBr.f | (apply v_t; omega) | (apply v_f; omega)); (conv => whnf)))); exact v_rnd (gm2 - 1) (by omega) (l := [(2, _), (3, _), (7, _), (8, _)]) (B := [.blk g3 24 [.slice (some ⟨b2, o2, none⟩) l2.length c2], .blk g2 24 [.slice (some ⟨b1, o1, none⟩) l1.length c1]]) ⟨rfl, rfl, rfl, rfl, trivial⟩ (.cons _ (.cons _ (List.Sublist.refl _))) ⟨rfl, k + 1, by omega, hq, rfl, rfl⟩)
   by_cases e3 : x = y
   ·have he := fun w1 => ln_eqV (decide_eq_true e3) w1
    rw [decide_eq_true e1, decide_eq_true e2, decide_eq_true e3] at hc
    replace hc : clB x y = false := hc
    rw [hc, Bool.false_or] at hq
    (apply tr_v tk; (conv => whnf); (repeat ((first | (apply VStop.mk; refine tr_region_treeV (id := 9) (by kernel_rfl) [.blk g3 24 _, .blk g2 24 _] (by (repeat (first | exact sl0 _ | exact sl1 _ | refine sl2 _ ?_ | refine sl3 _ ?_))) [0, 1, 2, 3, 4, 5, 6, 7, 8, 9] [10, 11, 12, 13] [.rd, .rd, .rd, .rd, .rd, .rd, .rd, .rd, .rd, .rd] (fun i => [.wr, .wr, .wr, .wr, .wr, .wr, .wr, .wr, .wr, .wr, .cr, .cr, .wr, .wr].getD i .wr) _ rfl rfl (by kernel_rfl) ?_; apply ot_v tk) | (apply VLdN.mk; (first | exact cA _ | exact cB _); exact rfl) | (apply VIx.mk (j := j); exact rfl; omega) | (apply VIx.mk (j := k); exact rfl; omega) | (apply VLd.mk; (focus ((repeat (first | ((with_reducible apply ld_blk); exact rfl) | (with_reducible apply ld_skip))); done))) | apply VBr.t | (apply v_t; omega)); (conv => whnf))))
    refine ox2 10 11 ?_ ?_
    ·(apply ot_v tk; (conv => whnf); (apply VNew.mk; intro ga hga; (conv => whnf)); refine sla ?_)
     refine ox1 11 ?_
     (apply ot_v tk; (conv => whnf); (apply VNew.mk; intro gb hgb; (conv => whnf)); refine sla ?_)
     refine ox1 12 ?_
     (apply ot_v tk; (conv => whnf); (apply VSt.mk; (focus (repeat (first | exact At.here | apply At.there)); done); exact rfl; (conv => whnf)); refine sla ?_)
     refine ox1 13 ?_
     (apply ot_v tk; (conv => whnf); (apply VSt.mk; (focus (repeat (first | exact At.here | apply At.there)); done); exact rfl; (conv => whnf)); refine sla ?_)
     refine VT.mk (otx_end ?_)
     (((conv => whnf); (repeat ((first | (apply VEq.mk true; kernel_rfl; exact he) | (apply VLd.mk; (focus ((repeat (first | ((with_reducible apply ld_blk); exact rfl) | (with_reducible apply ld_skip))); done))) | (apply VLdN.mk; (focus ((repeat (first | (with_reducible apply ldn_blk) | (with_reducible apply ldn_skip))); done)); exact rfl) | (apply VRng.mk; omega) | apply VBr.t | apply VBr.f | (apply v_t; omega)); (conv => whnf)))); exact v_rnd (gm2 - 1) (by omega) (l := [(2, _), (3, _), (7, _), (8, _)]) (B := [.blk g3 24 [.slice (some ⟨b2, o2, none⟩) l2.length c2], .blk g2 24 [.slice (some ⟨b1, o1, none⟩) l1.length c1]]) ⟨rfl, rfl, rfl, rfl, trivial⟩ (.cons _ (.cons _ (List.Sublist.refl _))) ⟨rfl, k + 1, by omega, hq, rfl, rfl⟩)
    ·(apply ot_v tk; (conv => whnf); (apply VNew.mk; intro gb hgb; (conv => whnf)); refine sla ?_)
     refine ox1 10 ?_
     (apply ot_v tk; (conv => whnf); (apply VNew.mk; intro ga hga; (conv => whnf)); refine sla ?_)
     refine ox1 12 ?_
     (apply ot_v tk; (conv => whnf); (apply VSt.mk; (focus (repeat (first | exact At.here | apply At.there)); done); exact rfl; (conv => whnf)); refine sla ?_)
     refine ox1 13 ?_
     (apply ot_v tk; (conv => whnf); (apply VSt.mk; (focus (repeat (first | exact At.here | apply At.there)); done); exact rfl; (conv => whnf)); refine sla ?_)
     refine VT.mk (otx_end ?_)
     (((conv => whnf); (repeat ((first | (apply VEq.mk true; kernel_rfl; exact he) | (apply VLd.mk; (focus ((repeat (first | ((with_reducible apply ld_blk); exact rfl) | (with_reducible apply ld_skip))); done))) | (apply VLdN.mk; (focus ((repeat (first | (with_reducible apply ldn_blk) | (with_reducible apply ldn_skip))); done)); exact rfl) | (apply VRng.mk; omega) | apply VBr.t | apply VBr.f | (apply v_t; omega)); (conv => whnf)))); exact v_rnd (gm2 - 1) (by omega) (l := [(2, _), (3, _), (7, _), (8, _)]) (B := [.blk g3 24 [.slice (some ⟨b2, o2, none⟩) l2.length c2], .blk g2 24 [.slice (some ⟨b1, o1, none⟩) l1.length c1]]) ⟨rfl, rfl, rfl, rfl, trivial⟩ (.cons _ (.cons _ (List.Sublist.refl _))) ⟨rfl, k + 1, by omega, hq, rfl, rfl⟩)
   have he := fun w1 => ln_eqV (decide_eq_false e3) w1
   rw [decide_eq_true e1, decide_eq_true e2, decide_eq_false e3] at hc
   replace hc : clB x y = true := hc
   rw [hc, Bool.true_or] at hq
   subst hq
   rw [if_pos rfl] at hr
   subst hr
   unfold clashV
   (apply tr_v tk; (conv => whnf); (repeat ((first | (apply VStop.mk; refine tr_region_treeV (id := 9) (by kernel_rfl) [.blk g3 24 _, .blk g2 24 _] (by (repeat (first | exact sl0 _ | exact sl1 _ | refine sl2 _ ?_ | refine sl3 _ ?_))) [0, 1, 2, 3, 4, 5, 6, 7, 8, 9] [10, 11, 12, 13] [.rd, .rd, .rd, .rd, .rd, .rd, .rd, .rd, .rd, .rd] (fun i => [.wr, .wr, .wr, .wr, .wr, .wr, .wr, .wr, .wr, .wr, .cr, .cr, .wr, .wr].getD i .wr) _ rfl rfl (by kernel_rfl) ?_; apply ot_v tk) | (apply VLdN.mk; (first | exact cA _ | exact cB _); exact rfl) | (apply VIx.mk (j := j); exact rfl; omega) | (apply VIx.mk (j := k); exact rfl; omega) | (apply VLd.mk; (focus ((repeat (first | ((with_reducible apply ld_blk); exact rfl) | (with_reducible apply ld_skip))); done))) | apply VBr.t | (apply v_t; omega)); (conv => whnf))))
   refine ox2 10 11 ?_ ?_
   ·(apply ot_v tk; (conv => whnf); (apply VNew.mk; intro ga hga; (conv => whnf)); refine sla ?_)
    refine ox1 11 ?_
    (apply ot_v tk; (conv => whnf); (apply VNew.mk; intro gb hgb; (conv => whnf)); refine sla ?_)
    refine ox1 12 ?_
    (apply ot_v tk; (conv => whnf); (apply VSt.mk; (focus (repeat (first | exact At.here | apply At.there)); done); exact rfl; (conv => whnf)); refine sla ?_)
    refine ox1 13 ?_
    (apply ot_v tk; (conv => whnf); (apply VSt.mk; (focus (repeat (first | exact At.here | apply At.there)); done); exact rfl; (conv => whnf)); refine sla ?_)
    refine VT.mk (otx_end ?_)
    (((conv => whnf); (repeat ((first | (apply VStop.mk; refine tr_region_draw (id := 11) (by kernel_rfl) [0, 1, 2, 3, 4, 5, 6] [.rd, .rd, .rd, .rd, .rd, .rd, .rd] rfl (by kernel_rfl) ?_; apply ot_v tk) | (apply VEq.mk false; kernel_rfl; exact he) | (apply VLd.mk; (focus ((repeat (first | ((with_reducible apply ld_blk); exact rfl) | (with_reducible apply ld_skip))); done))) | (apply VLdN.mk; (focus ((repeat (first | (with_reducible apply ldn_blk) | (with_reducible apply ldn_skip))); done)); exact rfl) | apply VBr.t | (apply v_t; omega)); (conv => whnf)))); (apply VRet.mk); refine ret3 (by first | exact .inl rfl | exact .inr rfl) rfl (by exact rv_tmp rfl) (by exact rv_tmp rfl) (by exact rv_tmp rfl) ?_; exact fun w h => ⟨rfl, h.base⟩)
   ·(apply ot_v tk; (conv => whnf); (apply VNew.mk; intro gb hgb; (conv => whnf)); refine sla ?_)
    refine ox1 10 ?_
    (apply ot_v tk; (conv => whnf); (apply VNew.mk; intro ga hga; (conv => whnf)); refine sla ?_)
    refine ox1 12 ?_
    (apply ot_v tk; (conv => whnf); (apply VSt.mk; (focus (repeat (first | exact At.here | apply At.there)); done); exact rfl; (conv => whnf)); refine sla ?_)
    refine ox1 13 ?_
    (apply ot_v tk; (conv => whnf); (apply VSt.mk; (focus (repeat (first | exact At.here | apply At.there)); done); exact rfl; (conv => whnf)); refine sla ?_)
    refine VT.mk (otx_end ?_)
    (((conv => whnf); (repeat ((first | (apply VStop.mk; refine tr_region_draw (id := 11) (by kernel_rfl) [0, 1, 2, 3, 4, 5, 6] [.rd, .rd, .rd, .rd, .rd, .rd, .rd] rfl (by kernel_rfl) ?_; apply ot_v tk) | (apply VEq.mk false; kernel_rfl; exact he) | (apply VLd.mk; (focus ((repeat (first | ((with_reducible apply ld_blk); exact rfl) | (with_reducible apply ld_skip))); done))) | (apply VLdN.mk; (focus ((repeat (first | (with_reducible apply ldn_blk) | (with_reducible apply ldn_skip))); done)); exact rfl) | apply VBr.t | (apply v_t; omega)); (conv => whnf)))); (apply VRet.mk); refine ret3 (by first | exact .inl rfl | exact .inr rfl) rfl (by exact rv_tmp rfl) (by exact rv_tmp rfl) (by exact rv_tmp rfl) ?_; exact fun w h => ⟨rfl, h.base⟩)
  obtain rfl : k = l2.length := by omega
  rw [List.drop_length] at hq
  subst hq
  replace hr : r = List.find? (clashB l2) (List.drop (j + 1) l1) := hr
  (apply tr_v tk; (conv => whnf); (repeat ((first | (apply VLd.mk; (focus ((repeat (first | ((with_reducible apply ld_blk); exact rfl) | (with_reducible apply ld_skip))); done))) | (apply VRng.mk; omega) | apply VBr.f | (apply v_f; omega)); (conv => whnf))))
  exact v_rnd (gm - 1) (by omega) (l := [(2, _), (3, _), (7, _)]) (B := _) ⟨rfl, rfl, rfl, trivial⟩ (List.Sublist.refl _) ⟨rfl, j + 1, by omega, hr, rfl, rfl⟩
 obtain rfl : j = l1.length := by omega
 rw [List.drop_length] at hr
 subst hr
 (apply tr_v tk; (conv => whnf); (repeat ((first | (apply VLd.mk; (focus ((repeat (first | ((with_reducible apply ld_blk); exact rfl) | (with_reducible apply ld_skip))); done))) | apply VBr.f | (apply v_f; omega)); (conv => whnf))))
 (apply VRet.mk)
 refine ret3 (by first | exact .inl rfl | exact .inr rfl) rfl (by exact rv_tmp rfl) (by exact rv_tmp rfl) (by exact rv_tmp rfl) ?_
 exact fun w h => ⟨rfl, h.base⟩
/-! ## Seen and Since, as the definitions say -/
def seenStep (f : Nat → Int) (x : Ln) : Nat → Int := fun k => if k = x.ck.toNat then (if x.st > f k then x.st else f k) else f k
def seenF (l : List Ln) : Nat → Int := l.foldl seenStep (fun _ => 0)
theorem seenF_step {l : List Ln} {j : Nat} (h : j < l.length) : seenF (l.take (j + 1)) = seenStep (seenF (l.take j)) (lnAt l j) := by
 unfold seenF
 rw [List.take_succ_eq_append_getElem h, List.foldl_append, lnAt_get h]; rfl
def iAtK (l : List Int) (j : Nat) : Int := l[j]?.getD 0
theorem ints_at {w : World} {b o n : Nat} {l : List Int} (h : Reads w w.heap.size 1 (some ⟨b, o, none⟩) n (i64s l)) {j : Nat} (hj : j < n) (A : List Chunk) : CellAt w A b (o + j * 1) (.int .i64 (iAtK l j)) := by
 obtain ⟨b', o', he, _, h1⟩ := h.int hj
 cases he
 rw [Nat.mul_one]
 exact CellAt.base h1
section
variable (B : Option Addr) (c : Nat) (l : List Ln) (w : World) (h : BookR w B l)
include h
theorem refSeen_err (hm : l.length ≤ maxLen) (hE : chkBook l ≠ 0) : Calls Tryz.prog 34 #[.agg #[.slice B l.length c]] w fun e w' => e = .returned (.tuple #[.slice none 0 0, .int .i64 (chkBook l)]) ∧ Below w.heap.size w w' := by
 have k1 := fun w1 h => refCheck_any B c l w1 h hm
 generalize chkBook l = z at *
 refine fn_v tk (n := 44) (A := []) Tryz.func34 rfl rfl (Nat.le_of_ble_eq_true rfl) (St.nil (Below.refl _ _)) ?_
 ((conv => whnf); (repeat ((first | (apply VCall.q; kernel_rfl; (focus (intro w1 hs; first | with_reducible apply k1 w1 (hs.book h)))) | (apply VLdN.mk; (focus ((repeat (first | (with_reducible apply ldn_blk) | (with_reducible apply ldn_skip))); done)); exact rfl) | apply VBr.t | (apply v_t; omega) | (apply VNew.mk; intro g hg)); (conv => whnf))))
 (apply VRet.mk)
 refine ret2 (by first | exact .inl rfl | exact .inr rfl) rfl (by exact rv_tmp rfl) (by exact rv_tmp rfl) ?_
 exact fun w h => ⟨rfl, h.base⟩
set_option maxHeartbeats 1000000 in
set_option maxRecDepth 20000 in
theorem refSeen_ok (hV : Valid l) : Calls Tryz.prog 34 #[.agg #[.slice B l.length c]] w fun e w' => ∃ x : SlX, e = .returned (.tuple #[.slice x.1 3 x.2, .int .i64 0]) ∧ True ∧ St w ([] ++ [.own (.slice x.1 3 x.2) 3 1 3 (fnC (seenF l) 3)]) w' := by
 have k1 := fun w1 h => refCheck_any B c l w1 h hV.max
 rw [chk_valid.2 hV] at k1
 refine fn_v tk (n := 44) (A := []) Tryz.func34 rfl rfl (Nat.le_of_ble_eq_true rfl) (St.nil (Below.refl _ _)) ?_
 ((conv => whnf); (repeat ((first | ((first | apply VStop.mk | apply VCall.stop); (refine ot_makeSlice (m := 3) tk (by decide) rfl rfl rfl rfl rfl rfl rfl rfl rfl rfl rfl rfl (by omega) (by decide) (fun g hg => ?_)); apply ot_v tk) | (apply VCall.q; kernel_rfl; (focus (intro w1 hs; first | with_reducible apply k1 w1 (hs.book h)))) | (apply VLdN.mk; (focus ((repeat (first | (with_reducible apply ldn_blk) | (with_reducible apply ldn_skip))); done)); exact rfl) | apply VBr.f | (apply v_f; omega) | (apply VNew.mk; intro g hg)); (conv => whnf))); apply VStop.mk)
 rw [fnC_zero]
 rename_i g1 hg1
 refine v_loop (fun gm ds ts A => ds = [] ∧ ∃ j : Nat, j + gm = l.length ∧ A = [.blk g 3 (fnC (seenF (l.take j)) 3), .blk g1 24 [.slice B l.length c]] ∧ ts = [(1, .pointer (some ⟨g1, 0, none⟩)), (4, .slice (some ⟨g, 0, none⟩) 3 3), (5, .int .i64 (j : Int))]) l.length (l := [(1, _), (4, _), (5, _)]) (B := [.blk g 3 (fnC (seenF (l.take 0)) 3), .blk g1 24 [.slice B l.length c]]) ?_ (List.Sublist.refl _) ⟨rfl, 0, by omega, rfl, rfl⟩ ?_
 ·exact ⟨rfl, rfl, rfl, trivial⟩
 rintro gm ds ts A ⟨rfl, j, hj, rfl, rfl⟩
 by_cases hlt : j < l.length
 ·obtain ⟨b, o, rfl⟩ := book_addr h hlt
  have c0 := fun A => ln_cell h hlt 0 rfl A
  have c1 := fun A => ln_cell h hlt 1 rfl A
  have ok := (hV.lnOk hlt).ck
  have hlen := hV.len
  have hst := seenF_step hlt
  unfold seenStep at hst
  generalize lnAt l j = x at *
  generalize seenF (l.take j) = f at *
  obtain ⟨st, ck, kd, th, vl⟩ := x
  dsimp only at c0 c1 ok hst
  obtain ⟨k, rfl, hk⟩ := toNat_eq ok.1
  rw [hk] at hst
  have cf := fun (f : Nat → Int) A (hA : Chunk.blk g 3 (fnC f 3) ∈ A) => cell_fnC (w0 := w) (j := k) hA (by omega)
  (apply tr_v tk; (conv => whnf); (repeat ((first | (apply VStop.mk; refine tr_region_draw (id := 7) (by kernel_rfl) [0, 1, 2, 3, 4, 5, 6, 7, 8, 9, 10, 11, 12, 13, 14, 15, 16, 17, 18, 19, 20, 21, 22, 23, 24] [.rd, .rd, .rd, .rd, .rd, .rd, .rd, .rd, .rd, .rd, .rd, .rd, .rd, .rd, .rd, .rd, .rd, .rd, .rd, .rd, .rd, .rd, .rd, .rd, .wr] rfl (by kernel_rfl) ?_; apply ot_v tk) | (apply VLd.mk; first | exact c0 _ | exact c1 _ | exact cf _ _ (.head _)) | (apply VIx.mk (j := j); exact rfl; omega) | (apply VIx.mk (j := k); exact rfl; omega) | (apply VSt.old; (focus (repeat (first | (with_reducible exact Upd.here) | (with_reducible apply Upd.there))); done); exact ble_fnC (by omega); exact setMany_fnC1 (by omega)) | (apply VLd.mk; (focus ((repeat (first | ((with_reducible apply ld_blk); exact rfl) | (with_reducible apply ld_skip))); done))) | (apply VRng.mk; omega) | apply VBr.t | (apply v_t; omega)); (conv => whnf))))
  exact v_rnd (gm - 1) (by omega) (l := [(1, _), (4, _), (5, _)]) (B := _) ⟨rfl, rfl, rfl, trivial⟩ (List.Sublist.refl _) ⟨rfl, j + 1, by omega, by rw [hst]; exact congrArg (fun q => [Chunk.blk g 3 q, _]) (fnC_congr fun i hi => by split <;> simp_all), rfl⟩
 obtain rfl : j = l.length := by omega
 rw [List.take_length]
 (apply tr_v tk; (conv => whnf); (repeat ((first | (apply VLd.mk; (focus ((repeat (first | ((with_reducible apply ld_blk); exact rfl) | (with_reducible apply ld_skip))); done))) | apply VBr.f | (apply v_f; omega)); (conv => whnf))))
 (apply VRet.mk)
 refine ret2 (by first | exact .inl rfl | exact .inr rfl) rfl (by exact rv_tmp rfl) (by exact rv_tmp rfl) ?_
 exact fun w hs => ⟨(some ⟨g, 0, none⟩, 3), rfl, trivial, (hs.blk_own (sz := 1) (by rw [fnC_length]) (by unfold maxLen; omega)).sub (.cons_cons _ (List.nil_sublist _))⟩
end
def sinceP (sn : List Int) (x : Ln) : Bool := decide (iAtK sn x.ck.toNat < x.st)
def badSn (sn : List Int) : Bool := !(inB (iAtK sn 0) 0 999 && inB (iAtK sn 1) 0 999 && inB (iAtK sn 2) 0 999)
section
variable (B : Option Addr) (c : Nat) (l : List Ln) (SA : Option Addr) (sc : Nat) (sn : List Int) (w : World) (h : BookR w B l) (hs0 : Reads w w.heap.size 1 SA sn.length (i64s sn))
include h hs0
omit hs0 in
theorem refSince_err (hm : l.length ≤ maxLen) (hE : chkBook l ≠ 0) : Calls Tryz.prog 36 #[.agg #[.slice B l.length c], .slice SA sn.length sc] w fun e w' => e = .returned (.tuple #[.agg #[.slice none 0 0], .int .i64 (chkBook l)]) ∧ Below w.heap.size w w' := by
 have k1 := fun w1 h => refCheck_any B c l w1 h hm
 generalize chkBook l = z at *
 refine fn_v tk (n := 64) (A := []) Tryz.func36 rfl rfl (Nat.le_of_ble_eq_true rfl) (St.nil (Below.refl _ _)) ?_
 ((conv => whnf); (repeat ((first | (apply VCall.q; kernel_rfl; (focus (intro w1 hs; first | with_reducible apply k1 w1 (hs.book h)))) | (apply VLdN.mk; (focus ((repeat (first | (with_reducible apply ldn_blk) | (with_reducible apply ldn_skip))); done)); exact rfl) | apply VBr.t | (apply v_t; omega) | (apply VNew.mk; intro g hg) | (apply VSt.mk; (focus ((repeat (first | (with_reducible exact At.here) | (with_reducible apply At.there))); done)); exact rfl)); (conv => whnf))))
 (apply VRet.mk)
 refine ret2 (by first | exact .inl rfl | exact .inr rfl) rfl (by exact rv_row tk rfl rfl rfl (by first | exact cells_blk_all (by (repeat (first | exact List.Mem.head _ | assumption | refine List.Mem.tail _ ?_))) | exact cells_row0 (by (repeat (first | exact List.Mem.head _ | assumption | refine List.Mem.tail _ ?_)))) rfl) (by exact rv_tmp rfl) ?_
 exact fun w h => ⟨rfl, h.base⟩
omit hs0 in
theorem refSince_len (hV : Valid l) (hn : sn.length ≠ 3) : Calls Tryz.prog 36 #[.agg #[.slice B l.length c], .slice SA sn.length sc] w fun e w' => e = .returned (.tuple #[.agg #[.slice none 0 0], .int .i64 15]) ∧ Below w.heap.size w w' := by
 have k1 := fun w1 h => refCheck_any B c l w1 h hV.max
 rw [chk_valid.2 hV] at k1
 refine fn_v tk (n := 64) (A := []) Tryz.func36 rfl rfl (Nat.le_of_ble_eq_true rfl) (St.nil (Below.refl _ _)) ?_
 ((conv => whnf); (repeat ((first | (apply VCall.q; kernel_rfl; (focus (intro w1 hs; first | with_reducible apply k1 w1 (hs.book h)))) | (apply VLdN.mk; (focus ((repeat (first | (with_reducible apply ldn_blk) | (with_reducible apply ldn_skip))); done)); exact rfl) | apply VBr.t | apply VBr.f | (apply v_t; omega) | (apply v_f; omega) | (apply VNew.mk; intro g hg) | (apply VSt.mk; (focus ((repeat (first | (with_reducible exact At.here) | (with_reducible apply At.there))); done)); exact rfl)); (conv => whnf))))
 (apply VRet.mk)
 refine ret2 (by first | exact .inl rfl | exact .inr rfl) rfl (by exact rv_row tk rfl rfl rfl (by first | exact cells_blk_all (by (repeat (first | exact List.Mem.head _ | assumption | refine List.Mem.tail _ ?_))) | exact cells_row0 (by (repeat (first | exact List.Mem.head _ | assumption | refine List.Mem.tail _ ?_)))) rfl) (by exact rv_tmp rfl) ?_
 exact fun w h => ⟨rfl, h.base⟩
set_option maxHeartbeats 2000000 in
set_option maxRecDepth 20000 in
theorem refSince_bad (hV : Valid l) (hn : sn.length = 3) (hb : badSn sn = true) : Calls Tryz.prog 36 #[.agg #[.slice B l.length c], .slice SA sn.length sc] w fun e w' => e = .returned (.tuple #[.agg #[.slice none 0 0], .int .i64 3]) ∧ Below w.heap.size w w' := by
 have k1 := fun w1 h => refCheck_any B c l w1 h hV.max
 rw [chk_valid.2 hV] at k1
 obtain ⟨bs, os, rfl, _⟩ := hs0.2 (by omega)
 have ci := fun j (hj : j < 3) A => ints_at hs0 (j := j) (by omega) A
 have k2 := fun (n : Int) w1 => is_any n 0 999 w1
 unfold badSn at hb
 rw [hn]
 refine fn_v tk (n := 64) (A := []) Tryz.func36 rfl rfl (Nat.le_of_ble_eq_true rfl) (St.nil (Below.refl _ _)) ?_
 ((conv => whnf); (repeat ((first | (apply VCall.q; kernel_rfl; (focus (intro w1 hs; first | with_reducible apply k1 w1 (hs.book h)))) | (apply VLdN.mk; (focus ((repeat (first | (with_reducible apply ldn_blk) | (with_reducible apply ldn_skip))); done)); exact rfl) | apply VBr.f | (apply v_f; omega) | (apply VNew.mk; intro g hg)); (conv => whnf))); apply VStop.mk)
 revert g hg
 intro g4 hg4
 revert g hg
 intro g2 hg2
 refine v_loop (fun gm ds ts A => ds = [] ∧ ∃ j : Nat, j + gm = 3 ∧ (∀ i, i < j → inB (iAtK sn i) 0 999 = true) ∧ A = [.blk g4 24 [.slice none 0 0], .blk g2 24 [.slice B l.length c]] ∧ ts = [(1, .slice (some ⟨bs, os, none⟩) 3 sc), (2, .pointer (some ⟨g2, 0, none⟩)), (4, .pointer (some ⟨g4, 0, none⟩)), (6, .int .i64 (j : Int))]) 3 (l := [(1, _), (2, _), (4, _), (6, _)]) (B := _) ?_ (List.Sublist.refl _) ⟨rfl, 0, by omega, fun i hi => absurd hi (Nat.not_lt_zero _), rfl, rfl⟩ ?_
 ·exact ⟨rfl, rfl, rfl, rfl, trivial⟩
 rintro gm ds ts A ⟨rfl, j, hj, hi, rfl, rfl⟩
 by_cases hlt : j < 3
 ·have cj := ci j hlt
  have hi1 : inB (iAtK sn j) 0 999 = true → ∀ i, i < j + 1 → inB (iAtK sn i) 0 999 = true := fun h1 i hij => by
   by_cases e : i = j
   ·subst e; exact h1
   ·exact hi i (by omega)
  have kj := k2 (iAtK sn j)
  generalize iAtK sn j = z at *
  cases hz : inB z 0 999
  ·rw [hz] at kj
   (apply tr_v tk; (conv => whnf); (repeat ((first | (apply VLd.mk; first | exact cj _) | (apply VIx.mk (j := j); exact rfl; omega) | (apply VCall.q; kernel_rfl; (focus (intro w1 hs; first | with_reducible apply kj w1))) | apply VBr.t | (apply v_t; omega) | (apply VSt.mk; (focus ((repeat (first | (with_reducible exact At.here) | (with_reducible apply At.there))); done)); exact rfl)); (conv => whnf))))
   (apply VRet.mk)
   refine ret2 (by first | exact .inl rfl | exact .inr rfl) rfl (by exact rv_row tk rfl rfl rfl (by first | exact cells_blk_all (by (repeat (first | exact List.Mem.head _ | assumption | refine List.Mem.tail _ ?_))) | exact cells_row0 (by (repeat (first | exact List.Mem.head _ | assumption | refine List.Mem.tail _ ?_)))) rfl) (by exact rv_tmp rfl) ?_
   exact fun w h => ⟨rfl, h.base⟩
  ·rw [hz] at kj
   (apply tr_v tk; (conv => whnf); (repeat ((first | (apply VLd.mk; first | exact cj _) | (apply VIx.mk (j := j); exact rfl; omega) | (apply VCall.q; kernel_rfl; (focus (intro w1 hs; first | with_reducible apply kj w1))) | (apply VRng.mk; omega) | apply VBr.t | apply VBr.f | (apply v_t; omega)); (conv => whnf))))
   exact v_rnd (gm - 1) (by omega) (l := [(1, _), (2, _), (4, _), (6, _)]) (B := _) ⟨rfl, rfl, rfl, rfl, trivial⟩ (List.Sublist.refl _) ⟨rfl, j + 1, by omega, hi1 hz, rfl, rfl⟩
 ·rw [hi 0 (by omega), hi 1 (by omega), hi 2 (by omega)] at hb
  cases hb
set_option maxHeartbeats 2000000 in
set_option maxRecDepth 20000 in
theorem refSince_ok (hV : Valid l) (hn : sn.length = 3) (hb : badSn sn = false) : Calls Tryz.prog 36 #[.agg #[.slice B l.length c], .slice SA sn.length sc] w fun e w' => ∃ x : SlX, e = .returned (.tuple #[.agg #[.slice x.1 (l.filter (sinceP sn)).length x.2], .int .i64 0]) ∧ True ∧ St w ([] ++ [.own (.slice x.1 (l.filter (sinceP sn)).length x.2) 61 5 (l.filter (sinceP sn)).length (lnC (l.filter (sinceP sn)))]) w' := by
 have k1 := fun w1 h => refCheck_any B c l w1 h hV.max
 rw [chk_valid.2 hV] at k1
 obtain ⟨bs, os, rfl, _⟩ := hs0.2 (by omega)
 have ci := fun j (hj : j < 3) A => ints_at hs0 (j := j) (by omega) A
 have hlen := hV.len
 have hbi : ∀ i, i < 3 → inB (iAtK sn i) 0 999 = true := fun i hi => by
  unfold badSn at hb
  have := (Bool.not_eq_false' ..).mp hb
  rw [Bool.and_eq_true, Bool.and_eq_true] at this
  match i, hi with
  | 0, _ => exact this.1.1
  | 1, _ => exact this.1.2
  | 2, _ => exact this.2
 have k2 := fun i (hi : i < 3) w1 => by
  have := is_any (iAtK sn i) 0 999 w1
  rw [hbi i hi] at this
  exact this
 rw [hn]
 refine fn_v tk (n := 64) (A := []) Tryz.func36 rfl rfl (Nat.le_of_ble_eq_true rfl) (St.nil (Below.refl _ _)) ?_
 ((conv => whnf); (repeat ((first | (apply VCall.q; kernel_rfl; (focus (intro w1 hs; first | with_reducible apply k1 w1 (hs.book h)))) | (apply VLdN.mk; (focus ((repeat (first | (with_reducible apply ldn_blk) | (with_reducible apply ldn_skip))); done)); exact rfl) | apply VBr.f | (apply v_f; omega) | (apply VNew.mk; intro g hg)); (conv => whnf))); apply VStop.mk)
 revert g hg
 intro g4 hg4
 revert g hg
 intro g2 hg2
 refine v_loop (fun gm ds ts A => ds = [] ∧ ∃ j : Nat, j + gm = 3 ∧ A = [.blk g4 24 [.slice none 0 0], .blk g2 24 [.slice B l.length c]] ∧ ts = [(1, .slice (some ⟨bs, os, none⟩) 3 sc), (2, .pointer (some ⟨g2, 0, none⟩)), (4, .pointer (some ⟨g4, 0, none⟩)), (6, .int .i64 (j : Int))]) 3 (l := [(1, _), (2, _), (4, _), (6, _)]) (B := _) ?_ (List.Sublist.refl _) ⟨rfl, 0, by omega, rfl, rfl⟩ ?_
 ·exact ⟨rfl, rfl, rfl, rfl, trivial⟩
 rintro gm ds ts A ⟨rfl, j, hj, rfl, rfl⟩
 by_cases hlt : j < 3
 ·have cj := ci j hlt
  have kj := k2 j hlt
  (apply tr_v tk; (conv => whnf); (repeat ((first | (apply VLd.mk; first | exact cj _) | (apply VIx.mk (j := j); exact rfl; omega) | (apply VCall.q; kernel_rfl; (focus (intro w1 hs; first | with_reducible apply kj w1))) | (apply VRng.mk; omega) | apply VBr.t | apply VBr.f | (apply v_t; omega)); (conv => whnf))))
  exact v_rnd (gm - 1) (by omega) (l := [(1, _), (2, _), (4, _), (6, _)]) (B := _) ⟨rfl, rfl, rfl, rfl, trivial⟩ (List.Sublist.refl _) ⟨rfl, j + 1, by omega, rfl, rfl⟩
 obtain rfl : j = 3 := by omega
 (apply tr_v tk; (conv => whnf); (repeat ((first | apply VBr.f | (apply v_f; omega) | (apply VNew.mk; intro g hg)); (conv => whnf))); apply VStop.mk)
 revert g hg
 intro g7 hg7
 refine tr_own_nil 61 5 ?_
 refine v_loop (fun gm ds ts A => ds = [] ∧ ∃ (j : Nat) (Bx : Option Addr) (cx : Nat), j + gm = l.length ∧ A = [.own (.slice Bx ((l.take j).filter (sinceP sn)).length cx) 61 5 ((l.take j).filter (sinceP sn)).length (lnC ((l.take j).filter (sinceP sn))), .blk g7 24 [.slice Bx ((l.take j).filter (sinceP sn)).length cx], .blk g4 24 [.slice none 0 0], .blk g2 24 [.slice B l.length c]] ∧ ts = [(1, .slice (some ⟨bs, os, none⟩) 3 sc), (2, .pointer (some ⟨g2, 0, none⟩)), (4, .pointer (some ⟨g4, 0, none⟩)), (7, .pointer (some ⟨g7, 0, none⟩)), (8, .int .i64 (j : Int))]) l.length (l := [(1, _), (2, _), (4, _), (7, _), (8, _)]) (B := _) ?_ (List.Sublist.refl _) ⟨rfl, 0, none, 0, by omega, rfl, rfl⟩ ?_
 ·exact ⟨rfl, rfl, rfl, rfl, rfl, trivial⟩
 rintro gm ds ts A ⟨rfl, j, Bx, cx, hj, rfl, rfl⟩
 by_cases hlt : j < l.length
 ·obtain ⟨ba, oa, rfl⟩ := book_addr h hlt
  have cA := fun A => ln_cells h hlt A
  have c0 := fun A => ln_cell h hlt 0 rfl A
  have c1 := fun A => ln_cell h hlt 1 rfl A
  have hst := filter_step (sinceP sn) hlt
  have hle := filter_le (sinceP sn) l j
  rw [← lnAt_get hlt] at hst
  have hpp : sinceP sn (lnAt l j) = decide (iAtK sn (lnAt l j).ck.toNat < (lnAt l j).st) := rfl
  have ok := (hV.lnOk hlt).ck
  generalize lnAt l j = x at *
  generalize (l.take j).filter (sinceP sn) = O at *
  have hs2 : (O ++ [x]).length = O.length + 1 := by rw [List.length_append]; rfl
  have hs3 := lnC_snoc O x
  unfold lnL at cA hs3
  obtain ⟨st, ck, kd, th, vl⟩ := x
  dsimp only at c0 c1 ok hst hpp cA hs3
  obtain ⟨k, rfl, hk⟩ := toNat_eq ok.1
  rw [hk] at hpp
  have cs := ci k (by omega)
  rw [hpp] at hst
  by_cases e : iAtK sn k < st
  ·rw [if_pos (decide_eq_true e)] at hst
   (apply tr_v tk; (conv => whnf); (repeat ((first | (apply VStop.mk; (first | refine tr_region_draw (id := 14) (by kernel_rfl) [0, 1, 2, 3, 4, 5, 6, 7, 8, 9, 10, 11, 12, 13, 14, 15] [.rd, .rd, .rd, .rd, .rd, .rd, .rd, .rd, .rd, .rd, .rd, .rd, .rd, .rd, .rd, .rd] rfl (by kernel_rfl) ?_ | refine tr_region_lex (id := 15) (by kernel_rfl) [.rd, .rd, .rd, .rd, .rd, .rd, .rd, .cr, .wr, .rd, .wr] rfl (by kernel_rfl) ?_ | (refine ot_appendS (sz := 5) (sl := O.length) (A'v := fun v' => _ :: .own v' 61 5 (O.length + 1) (lnC O ++ [.int .i64 st, .int .i64 (k : Int), .int .i64 kd, .int .i64 th, .int .i64 vl]) :: _) tk rfl rfl rfl rfl rfl rfl rfl rfl rfl rfl (by decide) rfl (cells_blk_all (.head _)) rfl rfl (fun v' => .there .here) (by omega) (by decide) (fun B3 c3 => ?_))); apply ot_v tk) | (apply VLdN.mk; (first | exact cA _); exact rfl) | (apply VLd.mk; first | exact c0 _ | exact c1 _ | exact cs _) | (apply VIx.mk (j := j); exact rfl; omega) | (apply VIx.mk (j := k); exact rfl; omega) | (apply VLd.mk; (focus ((repeat (first | ((with_reducible apply ld_blk); exact rfl) | (with_reducible apply ld_skip))); done))) | (apply VRng.mk; omega) | apply VBr.t | (apply v_t; omega) | (apply VNew.mk; intro g hg) | (apply VSt.mk; (focus ((repeat (first | (with_reducible exact At.here) | (with_reducible apply At.there))); done)); exact rfl)); (conv => whnf))))
   exact v_rnd (gm - 1) (by omega) (l := [(1, _), (2, _), (4, _), (7, _), (8, _)]) (B := _) ⟨rfl, rfl, rfl, rfl, rfl, trivial⟩ (.cons _ (List.Sublist.refl _)) ⟨rfl, j + 1, B3, c3, by omega, by rw [hst, hs2, hs3], rfl⟩
  ·rw [if_neg (by rw [decide_eq_false e]; decide), List.append_nil] at hst
   (apply tr_v tk; (conv => whnf); (repeat ((first | (apply VStop.mk; refine tr_region_draw (id := 14) (by kernel_rfl) [0, 1, 2, 3, 4, 5, 6, 7, 8, 9, 10, 11, 12, 13, 14, 15] [.rd, .rd, .rd, .rd, .rd, .rd, .rd, .rd, .rd, .rd, .rd, .rd, .rd, .rd, .rd, .rd] rfl (by kernel_rfl) ?_; apply ot_v tk) | (apply VLd.mk; first | exact c0 _ | exact c1 _ | exact cs _) | (apply VIx.mk (j := j); exact rfl; omega) | (apply VIx.mk (j := k); exact rfl; omega) | (apply VLd.mk; (focus ((repeat (first | ((with_reducible apply ld_blk); exact rfl) | (with_reducible apply ld_skip))); done))) | (apply VRng.mk; omega) | apply VBr.t | apply VBr.f | (apply v_t; omega) | (apply v_f; omega)); (conv => whnf))))
   exact v_rnd (gm - 1) (by omega) (l := [(1, _), (2, _), (4, _), (7, _), (8, _)]) (B := _) ⟨rfl, rfl, rfl, rfl, rfl, trivial⟩ (List.Sublist.refl _) ⟨rfl, j + 1, Bx, cx, by omega, by rw [hst], rfl⟩
 obtain rfl : j = l.length := by omega
 rw [List.take_length]
 (apply tr_v tk; (conv => whnf); (repeat ((first | (apply VLd.mk; (focus ((repeat (first | ((with_reducible apply ld_blk); exact rfl) | (with_reducible apply ld_skip))); done))) | (apply VLdN.mk; (focus ((repeat (first | (with_reducible apply ldn_blk) | (with_reducible apply ldn_skip))); done)); exact rfl) | apply VBr.f | (apply v_f; omega) | (apply VSt.mk; (focus ((repeat (first | (with_reducible exact At.here) | (with_reducible apply At.there))); done)); exact rfl)); (conv => whnf))))
 (apply VRet.mk)
 refine ret2 (by first | exact .inl rfl | exact .inr rfl) rfl (by exact rv_row tk rfl rfl rfl (by first | exact cells_blk_all (by (repeat (first | exact List.Mem.head _ | assumption | refine List.Mem.tail _ ?_))) | exact cells_row0 (by (repeat (first | exact List.Mem.head _ | assumption | refine List.Mem.tail _ ?_)))) rfl) (by exact rv_tmp rfl) ?_
 exact fun w hs => ⟨(Bx, cx), rfl, trivial, hs.sub (.cons_cons _ (List.nil_sublist _))⟩
end
end Go.Proofs.YtojeeindlijgkaaGreatDoor
