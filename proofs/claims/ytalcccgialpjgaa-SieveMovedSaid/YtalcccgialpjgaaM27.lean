/- moved and listed: lemmas for the rows of this seat. No conditions. -/
import Derived.Test.YtalcccgialpjgaaN15
import Derived.Test.YtalcccgialpjgaaN20
set_option linter.all false
namespace Go.Proofs.Ytalcccgialpjgaa
open Go.RowKit
/-! ## moved and listed -/
def movedB (a b : R2) (d : Int) : Bool := decide (b.1 - d = a.1) && decide (b.2 - d = a.2)
def inI64 (x : Int) : Prop := -1000000 ≤ x ∧ x ≤ 1000000
theorem moved_any (a b : R2) (d : Int) (h1 : inI64 b.1) (h2 : inI64 b.2) (h3 : inI64 d) (w : World) : Calls Try.prog 50 #[.agg #[.int .i64 a.1, .int .i64 a.2], .agg #[.int .i64 b.1, .int .i64 b.2], .int .i64 d] w fun e w' => e = .returned (.bool (movedB a b d)) ∧ Below w.heap.size w w' := by
 unfold movedB
 unfold inI64 at *
 refine fn_v tk (n := 23) (A := []) Try.func50 rfl rfl (Nat.le_of_ble_eq_true rfl) (St.nil (Below.refl _ _)) ?_
 by_cases e1 : b.1 - d = a.1
 ·rw [decide_eq_true e1]
  by_cases e2 : b.2 - d = a.2
  ·rw [decide_eq_true e2]
   ((conv => whnf); (repeat ((first | (apply VLd.mk; (focus ((repeat (first | ((with_reducible apply ld_blk); exact rfl) | (with_reducible apply ld_skip))); done))) | (apply VRng.mk; omega) | apply VBr.t | (apply v_t; omega) | (apply VNew.mk; intro g hg)); (conv => whnf))))
   ((apply VRet.mk); refine ret1 (by first | exact .inl rfl | exact .inr rfl) rfl (by exact rv_tmp rfl) ?_; exact fun w h => ⟨rfl, h.base⟩)
  ·rw [decide_eq_false e2]
   ((conv => whnf); (repeat ((first | (apply VLd.mk; (focus ((repeat (first | ((with_reducible apply ld_blk); exact rfl) | (with_reducible apply ld_skip))); done))) | (apply VRng.mk; omega) | apply VBr.t | (apply v_t; omega) | (apply v_f; omega) | (apply VNew.mk; intro g hg)); (conv => whnf))))
   ((apply VRet.mk); refine ret1 (by first | exact .inl rfl | exact .inr rfl) rfl (by exact rv_tmp rfl) ?_; exact fun w h => ⟨rfl, h.base⟩)
 ·rw [decide_eq_false e1]
  ((conv => whnf); (repeat ((first | (apply VLd.mk; (focus ((repeat (first | ((with_reducible apply ld_blk); exact rfl) | (with_reducible apply ld_skip))); done))) | (apply VRng.mk; omega) | apply VBr.f | (apply v_f; omega) | (apply VNew.mk; intro g hg)); (conv => whnf))))
  ((apply VRet.mk); refine ret1 (by first | exact .inl rfl | exact .inr rfl) rfl (by exact rv_tmp rfl) ?_; exact fun w h => ⟨rfl, h.base⟩)
/-- The numbers that bits say. -/
def listedL (b : Nat) : Nat → List Int
 | 0 => []
 | k + 1 => if b.testBit k = true then listedL b k ++ [(k : Int)] else listedL b k
theorem listedL_le (b : Nat) : ∀ k, (listedL b k).length ≤ k
 | 0 => Nat.le_refl _
 | k + 1 => by
  have := listedL_le b k
  rw [listedL]
  split
  ·rw [List.length_append]; simp; omega
  ·omega
theorem wrap_u8 (q : Nat) (h : q < 2) : IntKind.u8.wrap (q : Int) = q := by
 rcases (show q = 0 ∨ q = 1 by omega) with rfl | rfl <;> rfl
set_option maxRecDepth 20000 in
theorem listed_any (b : Nat) (hb : b < 256) (n : Nat) (hn : n ≤ 8) (w : World) : Calls Try.prog 43 #[.int .u8 (b : Int), .int .i64 (n : Int)] w fun e w' => ∃ x : SlX, e = .returned (.slice x.B (listedL b n).length x.c) ∧ True ∧ St w [.own (.slice x.B (listedL b n).length x.c) 3 1 (listedL b n).length (i64s (listedL b n))] w' := by
 refine fn_v tk (n := 22) (A := []) Try.func43 rfl rfl (Nat.le_of_ble_eq_true rfl) (St.nil (Below.refl _ _)) ?_
 ((conv => whnf); apply VStop.mk)
 refine tr_own_nil 3 1 ?_
 refine v_loop (fun gm ds ts A => ds = [] ∧ ∃ (k : Nat) (B : Option Addr) (c : Nat), k + gm = n ∧ A = [.own (.slice B (listedL b k).length c) 3 1 (listedL b k).length (i64s (listedL b k))] ∧ ts = [(0, .int .u8 (b : Int)), (1, .int .i64 (n : Int)), (5, .slice B (listedL b k).length c), (6, .int .i64 (k : Int))]) n
  (l := [(0, _), (1, _), (5, _), (6, _)]) (B := _) ?_ (List.Sublist.refl _) ⟨rfl, 0, none, 0, by omega, rfl, rfl⟩ ?_
 ·exact ⟨rfl, rfl, rfl, rfl, trivial⟩
 rintro gm ds ts A ⟨rfl, k, B, c, hk, rfl, rfl⟩
 by_cases hlt : k < n
 ·have hst : listedL b (k + 1) = if b.testBit k = true then listedL b k ++ [(k : Int)] else listedL b k := rfl
  have hle := listedL_le b k
  have hbt := bit_two b k
  generalize listedL b k = l at *
  rcases hbt with ⟨e1, e2⟩ | ⟨e1, e2⟩
  ·rw [if_pos e2] at hst
   have e3 : l.length + 1 = (listedL b (k + 1)).length := by rw [hst]; simp
   have e4 : i64s l ++ [.int .i64 (k : Int)] = i64s (listedL b (k + 1)) := by rw [hst]; simp [i64s]
   (apply tr_v tk; (conv => whnf); (repeat ((first | (apply VStop.mk; (first | (refine ot_shr rfl rfl rfl rfl rfl (by show k ≤ 8; omega) ?_) | (refine ot_and1 rfl rfl rfl rfl rfl (Nat.lt_of_le_of_lt (Nat.div_le_self _ _) (by show b < 2 ^ 8; omega)) wrap_u8 (by decide) ?_; rw [e1]) | (refine ot_appendS (sz := 1) (sl := l.length) (xs := i64s l) (news := [.int .i64 (k : Int)]) (A'v := fun v' => _ :: .own v' 3 1 (l.length + 1) _ :: _) tk rfl rfl rfl rfl rfl rfl rfl rfl rfl rfl (by decide) rfl (cells_blk_all (.head _)) rfl rfl (fun v' => .there .here) (by omega) (by decide) (fun Bn cn => ?_))); apply ot_v tk) | (apply VRng.mk; omega) | apply VBr.t | (apply v_t; omega) | (apply VNew.mk; intro g hg)); (conv => whnf))))
   rw [e4, e3]
   exact v_rnd (gm - 1) (by omega) (l := [(0, _), (1, _), (5, _), (6, _)]) (B := _) ⟨rfl, rfl, rfl, rfl, trivial⟩ (.cons _ (List.Sublist.refl _)) ⟨rfl, k + 1, Bn, cn, by omega, rfl, rfl⟩
  ·rw [if_neg (by rw [e2]; simp)] at hst
   (apply tr_v tk; (conv => whnf); (repeat ((first | (apply VStop.mk; (first | (refine ot_shr rfl rfl rfl rfl rfl (by show k ≤ 8; omega) ?_) | (refine ot_and1 rfl rfl rfl rfl rfl (Nat.lt_of_le_of_lt (Nat.div_le_self _ _) (by show b < 2 ^ 8; omega)) wrap_u8 (by decide) ?_; rw [e1])); apply ot_v tk) | (apply VRng.mk; omega) | apply VBr.t | apply VBr.f | (apply v_t; omega) | (apply v_f; omega)); (conv => whnf))))
   rw [← hst]
   exact v_rnd (gm - 1) (by omega) (l := [(0, _), (1, _), (5, _), (6, _)]) (B := _) ⟨rfl, rfl, rfl, rfl, trivial⟩ (List.Sublist.refl _) ⟨rfl, k + 1, B, c, by omega, rfl, rfl⟩
 obtain rfl : k = n := by omega
 (apply tr_v tk; (conv => whnf); (repeat ((first | apply VBr.f | (apply v_f; omega)); (conv => whnf))))
 (apply VRet.mk)
 refine ret1 (by first | exact .inl rfl | exact .inr rfl) rfl (by exact rv_tmp rfl) ?_
 exact fun w hs => ⟨⟨B, c⟩, rfl, trivial, hs⟩
end Go.Proofs.Ytalcccgialpjgaa
