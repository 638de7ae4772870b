/- The laws helpers: lemmas for the rows of this seat. No conditions. -/
import Derived.Laws.StructEq
import Derived.Test.YtojeeindlijgkaaGreatDoorK5
set_option linter.all false
namespace Go.Proofs.YtojeeindlijgkaaGreatDoor
open Go.RowKit
/-! ## The law's helpers -/
theorem ints_ext {l1 l2 : List Int} (hl : l1.length = l2.length) (h : ∀ k, k < l1.length → iAtK l1 k = iAtK l2 k) : l1 = l2 := by
 refine List.ext_getElem hl fun k h1 h2 => ?_
 have := h k h1
 unfold iAtK at this
 rw [List.getElem?_eq_getElem h1, List.getElem?_eq_getElem h2] at this
 exact this
theorem great_any (B : Option Addr) (c n : Nat) (w : World) (hm : n ≤ maxLen) : Calls Tryz.prog 15 #[.agg #[.slice B n c]] w fun e w' => e = .returned (.bool (decide (26 < n))) ∧ Below w.heap.size w w' := by
 unfold maxLen at hm
 by_cases e : 26 < n
 ·rw [decide_eq_true e]
  refine fn_v tk (n := 7) (A := []) Tryz.func15 rfl rfl (Nat.le_of_ble_eq_true rfl) (St.nil (Below.refl _ _)) ?_
  ((conv => whnf); (repeat ((first | (apply VLd.mk; (focus ((repeat (first | ((with_reducible apply ld_blk); exact rfl) | (with_reducible apply ld_skip))); done))) | (apply v_t; omega) | (apply VNew.mk; intro g hg)); (conv => whnf))))
  (apply VRet.mk)
  refine ret1 (by first | exact .inl rfl | exact .inr rfl) rfl (by exact rv_tmp rfl) ?_
  exact fun w h => ⟨by simp, h.base⟩
 ·rw [decide_eq_false e]
  refine fn_v tk (n := 7) (A := []) Tryz.func15 rfl rfl (Nat.le_of_ble_eq_true rfl) (St.nil (Below.refl _ _)) ?_
  ((conv => whnf); (repeat ((first | (apply VLd.mk; (focus ((repeat (first | ((with_reducible apply ld_blk); exact rfl) | (with_reducible apply ld_skip))); done))) | (apply v_f; omega) | (apply VNew.mk; intro g hg)); (conv => whnf))))
  (apply VRet.mk)
  refine ret1 (by first | exact .inl rfl | exact .inr rfl) rfl (by exact rv_tmp rfl) ?_
  exact fun w h => ⟨by simp, h.base⟩
theorem ints_any (A1 : Option Addr) (c1 : Nat) (l1 : List Int) (A2 : Option Addr) (c2 : Nat) (l2 : List Int) (w : World) (h1 : Reads w w.heap.size 1 A1 l1.length (i64s l1)) (h2 : Reads w w.heap.size 1 A2 l2.length (i64s l2)) (hm : l1.length ≤ maxLen) : Calls Tryz.prog 37 #[.slice A1 l1.length c1, .slice A2 l2.length c2] w fun e w' => e = .returned (.bool (decide (l1 = l2))) ∧ Below w.heap.size w w' := by
 unfold maxLen at hm
 refine fn_v tk (n := 26) (A := []) Tryz.func37 rfl rfl (Nat.le_of_ble_eq_true rfl) (St.nil (Below.refl _ _)) ?_
 by_cases hl : l1.length = l2.length
 rotate_left
 ·rw [decide_eq_false (fun e => hl (by rw [e]))]
  ((conv => whnf); (repeat ((first | apply VBr.t | (apply v_t; omega)); (conv => whnf))))
  ((apply VRet.mk); refine ret1 (by first | exact .inl rfl | exact .inr rfl) rfl (by exact rv_tmp rfl) ?_; exact fun w h => ⟨rfl, h.base⟩)
 ((conv => whnf); (repeat ((first | apply VBr.f | (apply v_f; omega)); (conv => whnf))); apply VStop.mk)
 refine v_loop (fun gm ds ts A => ds = [] ∧ A = [] ∧ ∃ j : Nat, j + gm = l1.length ∧ (∀ k, k < j → iAtK l1 k = iAtK l2 k) ∧ ts = [(0, .slice A1 l1.length c1), (1, .slice A2 l2.length c2), (5, .int .i64 (j : Int))]) l1.length (l := [(0, _), (1, _), (5, _)]) (B := []) ?_ (List.nil_sublist _) ⟨rfl, rfl, 0, by omega, by omega, rfl⟩ ?_
 ·exact ⟨rfl, rfl, rfl, trivial⟩
 rintro gm ds ts A ⟨rfl, rfl, j, hj, hall, rfl⟩
 by_cases hlt : j < l1.length
 ·obtain ⟨b1, o1, rfl, _⟩ := h1.2 (by omega)
  obtain ⟨b2, o2, rfl, _⟩ := h2.2 (by omega)
  have e1 := fun A => ints_at h1 hlt A
  have e2 := fun A => ints_at h2 (show j < l2.length by omega) A
  by_cases he : iAtK l1 j = iAtK l2 j
  ·(apply tr_v tk; (conv => whnf); (repeat ((first | (apply VStop.mk; refine tr_region_lex (id := 6) (by kernel_rfl) [.rd, .rd, .rd, .rd, .rd, .rd, .rd, .rd, .rd] rfl (by kernel_rfl) ?_; apply ot_v tk) | (apply VLd.mk; first | exact e1 _ | exact e2 _) | (apply VIx.mk (j := j); exact rfl; omega) | (apply VRng.mk; omega) | apply VBr.t | apply VBr.f | (apply v_t; omega) | (apply v_f; omega)); (conv => whnf))))
   exact v_rnd (gm - 1) (by omega) (l := [(0, _), (1, _), (5, _)]) (B := []) ⟨rfl, rfl, rfl, trivial⟩ (List.nil_sublist _) ⟨rfl, rfl, j + 1, by omega, fun k hk => by
    rcases Nat.lt_or_ge k j with h | h
    ·exact hall k h
    ·rw [show k = j by omega]; exact he, rfl⟩
  ·rw [decide_eq_false (fun e => he (by rw [e]))]
   (apply tr_v tk; (conv => whnf); (repeat ((first | (apply VStop.mk; refine tr_region_lex (id := 6) (by kernel_rfl) [.rd, .rd, .rd, .rd, .rd, .rd, .rd, .rd, .rd] rfl (by kernel_rfl) ?_; apply ot_v tk) | (apply VLd.mk; first | exact e1 _ | exact e2 _) | (apply VIx.mk (j := j); exact rfl; omega) | apply VBr.t | (apply v_t; omega)); (conv => whnf))))
   ((apply VRet.mk); refine ret1 (by first | exact .inl rfl | exact .inr rfl) rfl (by exact rv_tmp rfl) ?_; exact fun w h => ⟨rfl, h.base⟩)
 obtain rfl : j = l1.length := by omega
 rw [decide_eq_true (ints_ext hl hall)]
 (apply tr_v tk; (conv => whnf); (repeat ((first | apply VBr.f | (apply v_f; omega)); (conv => whnf))))
 ((apply VRet.mk); refine ret1 (by first | exact .inl rfl | exact .inr rfl) rfl (by exact rv_tmp rfl) ?_; exact fun w h => ⟨rfl, h.base⟩)
theorem longs_any (A1 : Option Addr) (c1 : Nat) (l1 : List Int) (A2 : Option Addr) (c2 : Nat) (l2 : List Int) (w : World) (h1 : Reads w w.heap.size 1 A1 l1.length (i64s l1)) (h2 : Reads w w.heap.size 1 A2 l2.length (i64s l2)) (hm : l1.length ≤ maxLen) : Calls Tryz.prog 23 #[.slice A1 l1.length c1, .slice A2 l2.length c2] w fun e w' => e = .returned (.bool (decide (l1 = l2))) ∧ Below w.heap.size w w' := by
 unfold maxLen at hm
 refine fn_v tk (n := 26) (A := []) Tryz.func23 rfl rfl (Nat.le_of_ble_eq_true rfl) (St.nil (Below.refl _ _)) ?_
 by_cases hl : l1.length = l2.length
 rotate_left
 ·rw [decide_eq_false (fun e => hl (by rw [e]))]
  ((conv => whnf); (repeat ((first | apply VBr.t | (apply v_t; omega)); (conv => whnf))))
  ((apply VRet.mk); refine ret1 (by first | exact .inl rfl | exact .inr rfl) rfl (by exact rv_tmp rfl) ?_; exact fun w h => ⟨rfl, h.base⟩)
 ((conv => whnf); (repeat ((first | apply VBr.f | (apply v_f; omega)); (conv => whnf))); apply VStop.mk)
 refine v_loop (fun gm ds ts A => ds = [] ∧ A = [] ∧ ∃ j : Nat, j + gm = l1.length ∧ (∀ k, k < j → iAtK l1 k = iAtK l2 k) ∧ ts = [(0, .slice A1 l1.length c1), (1, .slice A2 l2.length c2), (5, .int .i64 (j : Int))]) l1.length (l := [(0, _), (1, _), (5, _)]) (B := []) ?_ (List.nil_sublist _) ⟨rfl, rfl, 0, by omega, by omega, rfl⟩ ?_
 ·exact ⟨rfl, rfl, rfl, trivial⟩
 rintro gm ds ts A ⟨rfl, rfl, j, hj, hall, rfl⟩
 by_cases hlt : j < l1.length
 ·obtain ⟨b1, o1, rfl, _⟩ := h1.2 (by omega)
  obtain ⟨b2, o2, rfl, _⟩ := h2.2 (by omega)
  have e1 := fun A => ints_at h1 hlt A
  have e2 := fun A => ints_at h2 (show j < l2.length by omega) A
  by_cases he : iAtK l1 j = iAtK l2 j
  ·(apply tr_v tk; (conv => whnf); (repeat ((first | (apply VStop.mk; refine tr_region_lex (id := 6) (by kernel_rfl) [.rd, .rd, .rd, .rd, .rd, .rd, .rd, .rd, .rd] rfl (by kernel_rfl) ?_; apply ot_v tk) | (apply VLd.mk; first | exact e1 _ | exact e2 _) | (apply VIx.mk (j := j); exact rfl; omega) | (apply VRng.mk; omega) | apply VBr.t | apply VBr.f | (apply v_t; omega) | (apply v_f; omega)); (conv => whnf))))
   exact v_rnd (gm - 1) (by omega) (l := [(0, _), (1, _), (5, _)]) (B := []) ⟨rfl, rfl, rfl, trivial⟩ (List.nil_sublist _) ⟨rfl, rfl, j + 1, by omega, fun k hk => by
    rcases Nat.lt_or_ge k j with h | h
    ·exact hall k h
    ·rw [show k = j by omega]; exact he, rfl⟩
  ·rw [decide_eq_false (fun e => he (by rw [e]))]
   (apply tr_v tk; (conv => whnf); (repeat ((first | (apply VStop.mk; refine tr_region_lex (id := 6) (by kernel_rfl) [.rd, .rd, .rd, .rd, .rd, .rd, .rd, .rd, .rd] rfl (by kernel_rfl) ?_; apply ot_v tk) | (apply VLd.mk; first | exact e1 _ | exact e2 _) | (apply VIx.mk (j := j); exact rfl; omega) | apply VBr.t | (apply v_t; omega)); (conv => whnf))))
   ((apply VRet.mk); refine ret1 (by first | exact .inl rfl | exact .inr rfl) rfl (by exact rv_tmp rfl) ?_; exact fun w h => ⟨rfl, h.base⟩)
 obtain rfl : j = l1.length := by omega
 rw [decide_eq_true (ints_ext hl hall)]
 (apply tr_v tk; (conv => whnf); (repeat ((first | apply VBr.f | (apply v_f; omega)); (conv => whnf))))
 ((apply VRet.mk); refine ret1 (by first | exact .inl rfl | exact .inr rfl) rfl (by exact rv_tmp rfl) ?_; exact fun w h => ⟨rfl, h.base⟩)
theorem lns_ext {l1 l2 : List Ln} (hl : l1.length = l2.length) (h : ∀ k, k < l1.length → lnAt l1 k = lnAt l2 k) : l1 = l2 := by
 refine List.ext_getElem hl fun k h1 h2 => ?_
 have := h k h1
 rw [lnAt_get h1, lnAt_get h2] at this
 exact this
set_option maxRecDepth 20000 in
theorem same_any (A1 : Option Addr) (c1 : Nat) (l1 : List Ln) (A2 : Option Addr) (c2 : Nat) (l2 : List Ln) (w : World) (h1 : BookR w A1 l1) (h2 : BookR w A2 l2) (hm : l1.length ≤ maxLen) : Calls Tryz.prog 28 #[.agg #[.slice A1 l1.length c1], .agg #[.slice A2 l2.length c2]] w fun e w' => e = .returned (.bool (decide (l1 = l2))) ∧ Below w.heap.size w w' := by
 unfold maxLen at hm
 refine fn_v tk (n := 31) (A := []) Tryz.func28 rfl rfl (Nat.le_of_ble_eq_true rfl) (St.nil (Below.refl _ _)) ?_
 by_cases hl : l1.length = l2.length
 rotate_left
 ·rw [decide_eq_false (fun e => hl (by rw [e]))]
  ((conv => whnf); (repeat ((first | (apply VLd.mk; (focus ((repeat (first | ((with_reducible apply ld_blk); exact rfl) | (with_reducible apply ld_skip))); done))) | apply VBr.t | (apply v_t; omega) | (apply VNew.mk; intro g hg)); (conv => whnf))))
  ((apply VRet.mk); refine ret1 (by first | exact .inl rfl | exact .inr rfl) rfl (by exact rv_tmp rfl) ?_; exact fun w h => ⟨rfl, h.base⟩)
 ((conv => whnf); (repeat ((first | (apply VLd.mk; (focus ((repeat (first | ((with_reducible apply ld_blk); exact rfl) | (with_reducible apply ld_skip))); done))) | apply VBr.f | (apply v_f; omega) | (apply VNew.mk; intro g hg)); (conv => whnf))); apply VStop.mk)
 rename_i g2 _
 revert g hg
 intro g3 hg3
 refine v_loop (fun gm ds ts A => ds = [] ∧ A = [.blk g3 24 [.slice A2 l2.length c2], .blk g2 24 [.slice A1 l1.length c1]] ∧ ∃ j : Nat, j + gm = l1.length ∧ (∀ k, k < j → lnAt l1 k = lnAt l2 k) ∧ ts = [(2, .pointer (some ⟨g2, 0, none⟩)), (3, .pointer (some ⟨g3, 0, none⟩)), (5, .int .i64 (j : Int))]) l1.length (l := [(2, _), (3, _), (5, _)]) (B := _) ?_ (List.Sublist.refl _) ⟨rfl, rfl, 0, by omega, by omega, rfl⟩ ?_
 ·exact ⟨rfl, rfl, rfl, trivial⟩
 rintro gm ds ts A ⟨rfl, rfl, j, hj, hall, rfl⟩
 by_cases hlt : j < l1.length
 ·obtain ⟨b1, o1, rfl⟩ := book_addr h1 hlt
  obtain ⟨b2, o2, rfl⟩ := book_addr h2 (show j < l2.length by omega)
  have e1 := fun A => ln_cells h1 hlt A
  have e2 := fun A => ln_cells h2 (show j < l2.length by omega) A
  have hx : ∀ h : lnAt l1 j = lnAt l2 j, ∀ k, k < j + 1 → lnAt l1 k = lnAt l2 k := fun he k hk => by
   rcases Nat.lt_or_ge k j with h | h
   ·exact hall k h
   ·rw [show k = j by omega]; exact he
  have hn : lnAt l1 j ≠ lnAt l2 j → l1 ≠ l2 := fun h e => h (by rw [e])
  unfold lnL at e1 e2
  generalize lnAt l1 j = x at *
  generalize lnAt l2 j = y at *
  by_cases he : x = y
  ·have q := fun w => ln_eqV (x := x) (y := y) (decide_eq_true he) w
   (apply tr_v tk; (conv => whnf); (repeat ((first | (apply VStop.mk; refine tr_region_lex (id := 6) (by kernel_rfl) [.rd, .rd, .rd, .rd, .rd, .rd, .rd, .rd, .rd, .rd, .rd] rfl (by kernel_rfl) ?_; apply ot_v tk) | (apply VLdN.mk; (first | exact e1 _ | exact e2 _); exact rfl) | (apply VIx.mk (j := j); exact rfl; omega) | (apply VEq.mk true; kernel_rfl; exact q) | (apply VLd.mk; (focus ((repeat (first | ((with_reducible apply ld_blk); exact rfl) | (with_reducible apply ld_skip))); done))) | (apply VRng.mk; omega) | apply VBr.t | apply VBr.f | (apply v_t; omega)); (conv => whnf))))
   exact v_rnd (gm - 1) (by omega) (l := [(2, _), (3, _), (5, _)]) (B := _) ⟨rfl, rfl, rfl, trivial⟩ (List.Sublist.refl _) ⟨rfl, rfl, j + 1, by omega, hx he, rfl⟩
  ·rw [decide_eq_false (hn he)]
   have q := fun w => ln_eqV (x := x) (y := y) (decide_eq_false he) w
   (apply tr_v tk; (conv => whnf); (repeat ((first | (apply VStop.mk; refine tr_region_lex (id := 6) (by kernel_rfl) [.rd, .rd, .rd, .rd, .rd, .rd, .rd, .rd, .rd, .rd, .rd] rfl (by kernel_rfl) ?_; apply ot_v tk) | (apply VLdN.mk; (first | exact e1 _ | exact e2 _); exact rfl) | (apply VIx.mk (j := j); exact rfl; omega) | (apply VEq.mk false; kernel_rfl; exact q) | (apply VLd.mk; (focus ((repeat (first | ((with_reducible apply ld_blk); exact rfl) | (with_reducible apply ld_skip))); done))) | apply VBr.t | (apply v_t; omega)); (conv => whnf))))
   ((apply VRet.mk); refine ret1 (by first | exact .inl rfl | exact .inr rfl) rfl (by exact rv_tmp rfl) ?_; exact fun w h => ⟨rfl, h.base⟩)
 obtain rfl : j = l1.length := by omega
 rw [decide_eq_true (lns_ext hl hall)]
 (apply tr_v tk; (conv => whnf); (repeat ((first | (apply VLd.mk; (focus ((repeat (first | ((with_reducible apply ld_blk); exact rfl) | (with_reducible apply ld_skip))); done))) | apply VBr.f | (apply v_f; omega)); (conv => whnf))))
 ((apply VRet.mk); refine ret1 (by first | exact .inl rfl | exact .inr rfl) rfl (by exact rv_tmp rfl) ?_; exact fun w h => ⟨rfl, h.base⟩)
theorem fine_any (B : Option Addr) (c : Nat) (l : List Ln) (w : World) (h : BookR w B l) (hm : l.length ≤ maxLen) : Calls Tryz.prog 42 #[.agg #[.slice B l.length c]] w fun e w' => e = .returned (.bool (decide (chkBook l = 0))) ∧ Below w.heap.size w w' := by
 have k1 := fun w1 => great_any B c l.length w1 hm
 have k2 := fun w1 h => refCheck_any B c l w1 h hm
 by_cases e : 26 < l.length
 ·have hc : chkBook l = 6 := if_pos (by omega)
  rw [hc]
  rw [decide_eq_true e] at k1
  refine fn_v tk (n := 11) (A := []) Tryz.func42 rfl rfl (Nat.le_of_ble_eq_true rfl) (St.nil (Below.refl _ _)) ?_
  ((conv => whnf); (repeat ((first | (apply VCall.q; kernel_rfl; (focus (intro w1 hs; first | with_reducible apply k1 w1))) | (apply VLdN.mk; (focus ((repeat (first | (with_reducible apply ldn_blk) | (with_reducible apply ldn_skip))); done)); exact rfl) | apply VBr.f | (apply VNew.mk; intro g hg)); (conv => whnf))))
  ((apply VRet.mk); refine ret1 (by first | exact .inl rfl | exact .inr rfl) rfl (by exact rv_tmp rfl) ?_; exact fun w h => ⟨rfl, h.base⟩)
 ·rw [decide_eq_false e] at k1
  generalize chkBook l = z at *
  by_cases hz : z = 0
  ·rw [decide_eq_true hz]
   subst hz
   refine fn_v tk (n := 11) (A := []) Tryz.func42 rfl rfl (Nat.le_of_ble_eq_true rfl) (St.nil (Below.refl _ _)) ?_
   ((conv => whnf); (repeat ((first | (apply VCall.q; kernel_rfl; (focus (intro w1 hs; first | with_reducible apply k1 w1 | with_reducible apply k2 w1 (hs.book h)))) | (apply VLdN.mk; (focus ((repeat (first | (with_reducible apply ldn_blk) | (with_reducible apply ldn_skip))); done)); exact rfl) | apply VBr.t | (apply v_t; omega) | (apply VNew.mk; intro g hg)); (conv => whnf))))
   ((apply VRet.mk); refine ret1 (by first | exact .inl rfl | exact .inr rfl) rfl (by exact rv_tmp rfl) ?_; exact fun w h => ⟨rfl, h.base⟩)
  ·rw [decide_eq_false hz]
   refine fn_v tk (n := 11) (A := []) Tryz.func42 rfl rfl (Nat.le_of_ble_eq_true rfl) (St.nil (Below.refl _ _)) ?_
   ((conv => whnf); (repeat ((first | (apply VCall.q; kernel_rfl; (focus (intro w1 hs; first | with_reducible apply k1 w1 | with_reducible apply k2 w1 (hs.book h)))) | (apply VLdN.mk; (focus ((repeat (first | (with_reducible apply ldn_blk) | (with_reducible apply ldn_skip))); done)); exact rfl) | apply VBr.t | (apply v_f; omega) | (apply VNew.mk; intro g hg)); (conv => whnf))))
   (apply VRet.mk)
   refine ret1 (by first | exact .inl rfl | exact .inr rfl) rfl (by exact rv_tmp rfl) ?_
   exact fun w h => ⟨rfl, h.base⟩
/-! ## Book -/
def bkLn (x : List Int) (j : Nat) : Ln := ⟨iAtK x (5 * j), iAtK x (5 * j + 1), iAtK x (5 * j + 2), iAtK x (5 * j + 3), iAtK x (5 * j + 4)⟩
def bkF (x : List Int) (n : Nat) : List Ln := (List.range n).map (bkLn x)
theorem bkF_succ (x : List Int) (n : Nat) : bkF x (n + 1) = bkF x n ++ [bkLn x n] := by unfold bkF; rw [List.range_succ, List.map_append]; rfl
theorem bkF_len (x : List Int) (n : Nat) : (bkF x n).length = n := by unfold bkF; simp
set_option maxHeartbeats 1000000 in
set_option maxRecDepth 20000 in
theorem book_any (A : Option Addr) (c : Nat) (x : List Int) (w : World) (h : Reads w w.heap.size 1 A x.length (i64s x)) (hm : x.length ≤ 1000) : Calls Tryz.prog 51 #[.slice A x.length c] w fun e w' => ∃ y : SlX, e = .returned (.agg #[.slice y.1 (x.length / 5) y.2]) ∧ True ∧ St w ([] ++ [.own (.slice y.1 (x.length / 5) y.2) 61 5 (x.length / 5) (lnC (bkF x (x.length / 5)))]) w' := by
 obtain ⟨N, hN⟩ : ∃ N, N = x.length / 5 := ⟨_, rfl⟩
 rw [← hN]
 refine fn_v tk (n := 43) (A := []) Tryz.func51 rfl rfl (Nat.le_of_ble_eq_true rfl) (St.nil (Below.refl _ _)) ?_
 ((conv => whnf); (repeat ((apply VNew.mk; intro g hg); (conv => whnf))); apply VStop.mk)
 rename_i g2 _
 revert g hg
 intro g3 hg3
 refine tr_own_nil 61 5 ?_
 refine v_loop (fun gm ds ts B => ds = [] ∧ ∃ (j : Nat) (Bx : Option Addr) (cx : Nat), j + gm = N ∧ B = [.own (.slice Bx j cx) 61 5 j (lnC (bkF x j)), .blk g3 24 [.slice Bx j cx], .blk g2 24 [.slice none 0 0]] ∧ ts = [(0, .slice A x.length c), (2, .pointer (some ⟨g2, 0, none⟩)), (3, .pointer (some ⟨g3, 0, none⟩)), (4, .int .i64 ((5 * j : Nat) : Int))]) N (l := [(0, _), (2, _), (3, _), (4, _)]) (B := _) ?_ (List.Sublist.refl _) ⟨rfl, 0, none, 0, by omega, rfl, rfl⟩ ?_
 ·exact ⟨rfl, rfl, rfl, rfl, trivial⟩
 rintro gm ds ts B ⟨rfl, j, Bx, cx, hj, rfl, rfl⟩
 by_cases hlt : j < N
 ·have hx : 5 * j + 4 < x.length := by omega
  obtain ⟨b, o, rfl, _⟩ := h.2 (by omega)
  have e0 := fun A => ints_at h (show 5 * j < x.length by omega) A
  have e1 := fun A => ints_at h (show 5 * j + 1 < x.length by omega) A
  have e2 := fun A => ints_at h (show 5 * j + 2 < x.length by omega) A
  have e3 := fun A => ints_at h (show 5 * j + 3 < x.length by omega) A
  have e4 := fun A => ints_at h hx A
  have hsn : lnC (bkF x (j + 1)) = lnC (bkF x j) ++ [.int .i64 (iAtK x (5 * j)), .int .i64 (iAtK x (5 * j + 1)), .int .i64 (iAtK x (5 * j + 2)), .int .i64 (iAtK x (5 * j + 3)), .int .i64 (iAtK x (5 * j + 4))] := by rw [bkF_succ, lnC_snoc]; rfl
  generalize lnC (bkF x j) = L at *
  (apply tr_v tk; (conv => whnf); (repeat ((first | (apply VStop.mk; (first | refine tr_region_draw (id := 5) (by kernel_rfl) [0, 1, 2, 3, 4, 5, 6, 7, 8, 9, 10, 11, 12, 13, 14, 15, 16, 17, 18, 19, 20, 21, 22, 23, 24, 25, 26, 27, 28, 29, 30] [.rd, .rd, .rd, .rd, .rd, .rd, .rd, .rd, .rd, .rd, .rd, .rd, .rd, .rd, .rd, .rd, .rd, .rd, .rd, .rd, .rd, .rd, .rd, .rd, .rd, .rd, .rd, .cr, .wr, .rd, .wr] rfl (by kernel_rfl) ?_ | (refine ot_appendS (sz := 5) (sl := j) (A'v := fun v' => _ :: .own v' 61 5 (j + 1) (L ++ [.int .i64 (iAtK x (5 * j)), .int .i64 (iAtK x (5 * j + 1)), .int .i64 (iAtK x (5 * j + 2)), .int .i64 (iAtK x (5 * j + 3)), .int .i64 (iAtK x (5 * j + 4))]) :: _) tk rfl rfl rfl rfl rfl rfl rfl rfl rfl rfl (by decide) rfl (cells_blk_all (.head _)) rfl rfl (fun v' => .there .here) (by omega) (by decide) (fun B3 c3 => ?_))); apply ot_v tk) | (apply VLd.mk; first | exact e0 _ | exact e1 _ | exact e2 _ | exact e3 _ | exact e4 _) | (apply VIx.mk (j := 5 * j); omega; omega) | (apply VIx.mk (j := 5 * j + 1); omega; omega) | (apply VIx.mk (j := 5 * j + 2); omega; omega) | (apply VIx.mk (j := 5 * j + 3); omega; omega) | (apply VIx.mk (j := 5 * j + 4); omega; omega) | (apply VLd.mk; (focus ((repeat (first | ((with_reducible apply ld_blk); exact rfl) | (with_reducible apply ld_skip))); done))) | (apply VRng.mk; omega) | apply VBr.t | (apply v_t; omega) | (apply VNew.mk; intro g hg) | (apply VSt.mk; (focus ((repeat (first | (with_reducible exact At.here) | (with_reducible apply At.there))); done)); exact rfl)); (conv => whnf))))
  exact v_rnd (gm - 1) (by omega) (l := [(0, _), (2, _), (3, _), (4, _)]) (B := _) ⟨rfl, rfl, rfl, rfl, trivial⟩ (.cons _ (List.Sublist.refl _)) ⟨rfl, j + 1, B3, c3, by omega, by rw [hsn], by simp; omega⟩
 obtain rfl : j = N := by omega
 (apply tr_v tk; (conv => whnf); (repeat ((first | (apply VLdN.mk; (focus ((repeat (first | (with_reducible apply ldn_blk) | (with_reducible apply ldn_skip))); done)); exact rfl) | (apply VRng.mk; omega) | apply VBr.f | (apply v_f; omega) | (apply VSt.mk; (focus ((repeat (first | (with_reducible exact At.here) | (with_reducible apply At.there))); done)); exact rfl)); (conv => whnf))))
 (apply VRet.mk)
 refine ret1 (by first | exact .inl rfl | exact .inr rfl) rfl (by exact rv_row tk rfl rfl rfl (by first | exact cells_blk_all (by (repeat (first | exact List.Mem.head _ | assumption | refine List.Mem.tail _ ?_))) | exact cells_row0 (by (repeat (first | exact List.Mem.head _ | assumption | refine List.Mem.tail _ ?_)))) rfl) ?_
 exact fun w hs => ⟨(Bx, cx), rfl, trivial, hs.sub (.cons_cons _ (List.nil_sublist _))⟩
theorem of_any (A : Option Addr) (n c : Nat) (w : World) : Calls Tryz.prog 50 #[.slice A n c] w fun e w' => e = .returned (.slice A n c) ∧ Below w.heap.size w w' := by
 refine fn_v tk (n := 4) (A := []) Tryz.func50 rfl rfl (Nat.le_of_ble_eq_true rfl) (St.nil (Below.refl _ _)) ?_
 ((conv => whnf))
 ((apply VRet.mk); refine ret1 (by first | exact .inl rfl | exact .inr rfl) rfl (by exact rv_tmp rfl) ?_; exact fun w h => ⟨rfl, h.base⟩)
def threeX : List Int := [1, 0, 1, 2, 30, 2, 1, 2, 2, 25, 4, 0, 1, 2, -5]
def threeL : List Ln := [⟨1, 0, 1, 2, 30⟩, ⟨2, 1, 2, 2, 25⟩, ⟨4, 0, 1, 2, -5⟩]
theorem three_bk {g t : Nat} {A : List Chunk} {w0 w : World} (hs : St w0 A w) (hm : Chunk.blk g t (i64s threeX) ∈ A) : Calls Tryz.prog 51 #[.slice (some ⟨g, 0, none⟩) 15 15] w fun e w' => ∃ y : SlX, e = .returned (.agg #[.slice y.1 3 y.2]) ∧ True ∧ St w ([] ++ [.own (.slice y.1 3 y.2) 61 5 3 (lnC threeL)]) w' :=
 book_any (some ⟨g, 0, none⟩) 15 threeX w (hs.blk_reads hm rfl) (by decide)
set_option maxRecDepth 20000 in
theorem three_any (w : World) : Calls Tryz.prog 47 #[] w fun e w' => ∃ y : SlX, e = .returned (.agg #[.slice y.1 3 y.2]) ∧ True ∧ St w ([] ++ [.own (.slice y.1 3 y.2) 61 5 3 (lnC threeL)]) w' := by
 refine fn_v tk (n := 3) (A := []) Tryz.func47 rfl rfl (Nat.le_of_ble_eq_true rfl) (St.nil (Below.refl _ _)) ?_
 ((conv => whnf); (repeat ((apply VNew.mk; intro g hg); (conv => whnf))); apply VCall.stop)
 refine ot_callT (X := SlX) (us := []) (vs := []) (fun x => .agg #[.slice x.1 3 x.2]) (fun x => []) (fun x => [.own (.slice x.1 3 x.2) 61 5 3 (lnC threeL)]) _ (fun x c hc => one_mut hc) (by decide) rfl rfl rfl rfl (by kernel_rfl) (evl_of rfl) rfl (fun w1 hs => three_bk hs (.head _)) ?_
 intro y _
 (dsimp only [List.cons_append, List.nil_append]; apply ot_v tk)
 ((conv => whnf); (repeat ((apply VSt.mk; (focus ((repeat (first | (with_reducible exact At.here) | (with_reducible apply At.there))); done)); exact rfl); (conv => whnf))))
 (apply VRet.mk)
 refine ret1 (by first | exact .inl rfl | exact .inr rfl) rfl (by exact rv_row tk rfl rfl rfl (by first | exact cells_blk_all (by (repeat (first | exact List.Mem.head _ | assumption | refine List.Mem.tail _ ?_))) | exact cells_row0 (by (repeat (first | exact List.Mem.head _ | assumption | refine List.Mem.tail _ ?_)))) rfl) ?_
 exact fun w hs => ⟨y, rfl, trivial, hs.sub (List.singleton_sublist.2 (by (repeat (first | exact List.Mem.head _ | assumption | refine List.Mem.tail _ ?_))))⟩
def otherX : List Int := [2, 1, 2, 2, 25, 3, 2, 1, 5, 7, 4, 0, 1, 2, -5]
def otherL : List Ln := [⟨2, 1, 2, 2, 25⟩, ⟨3, 2, 1, 5, 7⟩, ⟨4, 0, 1, 2, -5⟩]
theorem other_bk {g t : Nat} {A : List Chunk} {w0 w : World} (hs : St w0 A w) (hm : Chunk.blk g t (i64s otherX) ∈ A) : Calls Tryz.prog 51 #[.slice (some ⟨g, 0, none⟩) 15 15] w fun e w' => ∃ y : SlX, e = .returned (.agg #[.slice y.1 3 y.2]) ∧ True ∧ St w ([] ++ [.own (.slice y.1 3 y.2) 61 5 3 (lnC otherL)]) w' :=
 book_any (some ⟨g, 0, none⟩) 15 otherX w (hs.blk_reads hm rfl) (by decide)
set_option maxRecDepth 20000 in
theorem other_any (w : World) : Calls Tryz.prog 52 #[] w fun e w' => ∃ y : SlX, e = .returned (.agg #[.slice y.1 3 y.2]) ∧ True ∧ St w ([] ++ [.own (.slice y.1 3 y.2) 61 5 3 (lnC otherL)]) w' := by
 refine fn_v tk (n := 3) (A := []) Tryz.func52 rfl rfl (Nat.le_of_ble_eq_true rfl) (St.nil (Below.refl _ _)) ?_
 ((conv => whnf); (repeat ((apply VNew.mk; intro g hg); (conv => whnf))); apply VCall.stop)
 refine ot_callT (X := SlX) (us := []) (vs := []) (fun x => .agg #[.slice x.1 3 x.2]) (fun x => []) (fun x => [.own (.slice x.1 3 x.2) 61 5 3 (lnC otherL)]) _ (fun x c hc => one_mut hc) (by decide) rfl rfl rfl rfl (by kernel_rfl) (evl_of rfl) rfl (fun w1 hs => other_bk hs (.head _)) ?_
 intro y _
 (dsimp only [List.cons_append, List.nil_append]; apply ot_v tk)
 ((conv => whnf); (repeat ((apply VSt.mk; (focus ((repeat (first | (with_reducible exact At.here) | (with_reducible apply At.there))); done)); exact rfl); (conv => whnf))))
 (apply VRet.mk)
 refine ret1 (by first | exact .inl rfl | exact .inr rfl) rfl (by exact rv_row tk rfl rfl rfl (by first | exact cells_blk_all (by (repeat (first | exact List.Mem.head _ | assumption | refine List.Mem.tail _ ?_))) | exact cells_row0 (by (repeat (first | exact List.Mem.head _ | assumption | refine List.Mem.tail _ ?_)))) rfl) ?_
 exact fun w hs => ⟨y, rfl, trivial, hs.sub (List.singleton_sublist.2 (by (repeat (first | exact List.Mem.head _ | assumption | refine List.Mem.tail _ ?_))))⟩
def wrongX : List Int := [2, 1, 2, 2, 24]
def wrongL : List Ln := [⟨2, 1, 2, 2, 24⟩]
theorem wrong_bk {g t : Nat} {A : List Chunk} {w0 w : World} (hs : St w0 A w) (hm : Chunk.blk g t (i64s wrongX) ∈ A) : Calls Tryz.prog 51 #[.slice (some ⟨g, 0, none⟩) 5 5] w fun e w' => ∃ y : SlX, e = .returned (.agg #[.slice y.1 1 y.2]) ∧ True ∧ St w ([] ++ [.own (.slice y.1 1 y.2) 61 5 1 (lnC wrongL)]) w' :=
 book_any (some ⟨g, 0, none⟩) 5 wrongX w (hs.blk_reads hm rfl) (by decide)
set_option maxRecDepth 20000 in
theorem wrong_any (w : World) : Calls Tryz.prog 48 #[] w fun e w' => ∃ y : SlX, e = .returned (.agg #[.slice y.1 1 y.2]) ∧ True ∧ St w ([] ++ [.own (.slice y.1 1 y.2) 61 5 1 (lnC wrongL)]) w' := by
 refine fn_v tk (n := 3) (A := []) Tryz.func48 rfl rfl (Nat.le_of_ble_eq_true rfl) (St.nil (Below.refl _ _)) ?_
 ((conv => whnf); (repeat ((apply VNew.mk; intro g hg); (conv => whnf))); apply VCall.stop)
 refine ot_callT (X := SlX) (us := []) (vs := []) (fun x => .agg #[.slice x.1 1 x.2]) (fun x => []) (fun x => [.own (.slice x.1 1 x.2) 61 5 1 (lnC wrongL)]) _ (fun x c hc => one_mut hc) (by decide) rfl rfl rfl rfl (by kernel_rfl) (evl_of rfl) rfl (fun w1 hs => wrong_bk hs (.head _)) ?_
 intro y _
 (dsimp only [List.cons_append, List.nil_append]; apply ot_v tk)
 ((conv => whnf); (repeat ((apply VSt.mk; (focus ((repeat (first | (with_reducible exact At.here) | (with_reducible apply At.there))); done)); exact rfl); (conv => whnf))))
 (apply VRet.mk)
 refine ret1 (by first | exact .inl rfl | exact .inr rfl) rfl (by exact rv_row tk rfl rfl rfl (by first | exact cells_blk_all (by (repeat (first | exact List.Mem.head _ | assumption | refine List.Mem.tail _ ?_))) | exact cells_row0 (by (repeat (first | exact List.Mem.head _ | assumption | refine List.Mem.tail _ ?_)))) rfl) ?_
 exact fun w hs => ⟨y, rfl, trivial, hs.sub (List.singleton_sublist.2 (by (repeat (first | exact List.Mem.head _ | assumption | refine List.Mem.tail _ ?_))))⟩
end Go.Proofs.YtojeeindlijgkaaGreatDoor
