/- short: lemmas for the rows of this seat. No conditions. -/
import Derived.Test.YtalcccgialpjgaaN16
set_option linter.all false
namespace Go.Proofs.Ytalcccgialpjgaa
open Go.RowKit
/-! ## short -/
def termS (X : List (List R2)) (rs cs : Nat → Bool) (i k : Nat) : Int := if rs i = true ∧ cs k = false then (xAt X i k).1 else if rs i = false ∧ cs k = true then -(xAt X i k).2 else 0
def rowTS (R : List R2) (m : Nat) (X : List (List R2)) (rs cs : Nat → Bool) (i : Nat) : Int := (if rs i = true then -(rAt R i).2 else 0) + sm (fun k => termS X rs cs i k) m
/-- By how much rows and columns are short. -/
def shS (R C : List R2) (X : List (List R2)) (rs cs : Nat → Bool) : Int := sm (fun k => if cs k = true then (rAt C k).1 else 0) C.length + sm (fun i => rowTS R C.length X rs cs i) R.length
theorem bit_two (a k : Nat) : (a / 2 ^ k % 2 = 1 ∧ a.testBit k = true) ∨ (a / 2 ^ k % 2 = 0 ∧ a.testBit k = false) := by
 have h : a.testBit k = decide (a / 2 ^ k % 2 = 1) := Nat.testBit_eq_decide_div_mod_eq
 have := Nat.mod_two_eq_zero_or_one (a / 2 ^ k)
 rw [h]
 rcases this with e | e
 ·right; rw [e]; exact ⟨rfl, rfl⟩
 ·left; rw [e]; exact ⟨rfl, rfl⟩
theorem wrap_small (q : Nat) (h : q < 2) : IntKind.i64.wrap (q : Int) = q := by rw [IntKind.wrap_i64]; omega
section
variable (RA : Option Addr) (rc : Nat) (CA : Option Addr) (cc : Nat) (XA : Option Addr) (xc : Nat) (R C : List R2) (X : List (List R2)) (w : World) (hT : TabR w RA CA XA R C X)
include hT
set_option maxHeartbeats 4000000 in
set_option maxRecDepth 20000 in
theorem short_any (hV : Valid R C X) (a b : Nat) (ha : a < 2 ^ 60) (hb : b < 2 ^ 60) : Calls Try.prog 96 #[tabV RA rc CA cc XA xc R C X, .int .i64 (a : Int), .int .i64 (b : Int)] w fun e w' => e = .returned (.int .i64 (shS R C X a.testBit b.testBit)) ∧ Below w.heap.size w w' := by
 have hn := hV.r1
 have hn4 := hV.r4
 have hm := hV.c1
 have hm4 := hV.c4
 have hxl := hV.x
 have key : ∀ a b, a < R.length → b < C.length → ∃ xb xo B o c, XA = some ⟨xb, xo, none⟩ ∧ (∀ Ch, CellAt w Ch xb (xo + a * 1) (.slice (some ⟨B, o, none⟩) C.length c)) ∧ ∀ Ch, CellAt w Ch B (o + b * 2) (.int .i64 (xAt X a b).1) ∧ CellAt w Ch B (o + b * 2 + 1) (.int .i64 (xAt X a b).2) := fun a b ha hb => by
  have hxk := hV.xs _ (List.getElem_mem (show a < X.length by omega))
  obtain ⟨xb, xo, rfl, B, c, hce, hrd⟩ := nest_gen hT.x (show a < X.length by omega)
  obtain ⟨b2, o2, rfl, _⟩ := hrd.2 (by omega)
  refine ⟨xb, xo, b2, o2, c, rfl, by rw [← hxk]; exact hce, ?_⟩
  have := rg_cell hrd (k := b) (by omega) (by omega)
  unfold xAt
  rw [List.getElem?_eq_getElem (by omega), Option.getD_some]
  exact this
 obtain ⟨rb, ro, rfl, _⟩ := hT.r.2 (by omega)
 obtain ⟨cb, co, rfl, _⟩ := hT.c.2 (by omega)
 have hrr := fun k (hk : k < R.length) => rg_cell hT.r (k := k) hk (by omega)
 have hcr := fun k (hk : k < C.length) => rg_cell hT.c (k := k) hk (by omega)
 unfold tabV at *
 unfold shS
 generalize hcs : b.testBit = cs at *
 generalize hrs : a.testBit = rs at *
 have b1 : ∀ k, k < C.length → 0 ≤ (if cs k = true then (rAt C k).1 else 0) ∧ (if cs k = true then (rAt C k).1 else 0) ≤ 48 := fun k hk => by have := hV.rC hk; split <;> omega
 have b2 : ∀ k, k ≤ C.length → 0 ≤ sm (fun k => if cs k = true then (rAt C k).1 else 0) k ∧ sm (fun k => if cs k = true then (rAt C k).1 else 0) k ≤ 48 * k := fun k hk => ⟨sm_nonneg fun j hj => (b1 j (by omega)).1, sm_bound fun j hj => (b1 j (by omega)).2⟩
 have b3 : ∀ i k, i < R.length → k < C.length → -12 ≤ termS X rs cs i k ∧ termS X rs cs i k ≤ 12 := fun i k hi hk => by
  have := hV.rX hi hk
  unfold termS
  split
  ·omega
  ·split <;> omega
 have b4 : ∀ i k, i < R.length → k ≤ C.length → -48 ≤ sm (fun k => termS X rs cs i k) k ∧ sm (fun k => termS X rs cs i k) k ≤ 48 := fun i k hi hk => by
  have h1 := sm_bound (f := fun k => termS X rs cs i k) (c := 12) (n := k) fun q hq => (b3 i q hi (by omega)).2
  have h2 := sm_bound' (f := fun k => termS X rs cs i k) (c := -12) (n := k) fun q hq => (b3 i q hi (by omega)).1
  omega
 have b5 : ∀ i, i < R.length → -96 ≤ rowTS R C.length X rs cs i ∧ rowTS R C.length X rs cs i ≤ 48 := fun i hi => by
  have h1 := b4 i _ hi (Nat.le_refl _)
  have h2 := hV.rR hi
  unfold rowTS
  split <;> omega
 have b6 : ∀ i, i ≤ R.length → -384 ≤ sm (fun i => rowTS R C.length X rs cs i) i ∧ sm (fun i => rowTS R C.length X rs cs i) i ≤ 192 := fun i hi => by
  have h1 := sm_bound (f := fun i => rowTS R C.length X rs cs i) (c := 48) (n := i) fun q hq => (b5 q (by omega)).2
  have h2 := sm_bound' (f := fun i => rowTS R C.length X rs cs i) (c := -96) (n := i) fun q hq => (b5 q (by omega)).1
  omega
 refine fn_v tk (n := 99) (A := []) Try.func96 rfl rfl (Nat.le_of_ble_eq_true rfl) (St.nil (Below.refl _ _)) ?_
 ((conv => whnf); (repeat ((apply VNew.mk; intro g hg); (conv => whnf))); apply VStop.mk)
 revert g hg
 intro gt hgt
 refine v_loop (fun gm ds ts A => ds = [] ∧ ∃ k : Nat, k + gm = C.length ∧ A = [.blk gt 25 [.slice (some ⟨rb, ro, none⟩) R.length rc, .slice (some ⟨cb, co, none⟩) C.length cc, .slice XA X.length xc]] ∧ ts = [(1, .int .i64 (a : Int)), (2, .int .i64 (b : Int)), (3, .pointer (some ⟨gt, 0, none⟩)), (7, .int .i64 (sm (fun k => if cs k = true then (rAt C k).1 else 0) k)), (8, .int .i64 (k : Int))]) C.length
  (l := [(1, _), (2, _), (3, _), (7, .int .i64 (sm (fun k => if cs k = true then (rAt C k).1 else 0) 0)), (8, _)]) (B := _) ?_ (List.Sublist.refl _) ⟨rfl, 0, by omega, rfl, rfl⟩ ?_
 ·exact ⟨rfl, rfl, rfl, rfl, rfl, trivial⟩
 rintro gm ds ts A ⟨rfl, k, hk, rfl, rfl⟩
 by_cases hlt : k < C.length
 ·have s1 := b2 k (by omega)
  have s2 := hV.rC hlt
  have hst : sm (fun k => if cs k = true then (rAt C k).1 else 0) (k + 1) = sm (fun k => if cs k = true then (rAt C k).1 else 0) k + (if cs k = true then (rAt C k).1 else 0) := rfl
  have hbt := bit_two b k
  rw [hcs] at hbt
  generalize hS : sm (fun k => if cs k = true then (rAt C k).1 else 0) k = S at *
  have hc := (hcr k hlt)
  rcases hbt with ⟨e1, e2⟩ | ⟨e1, e2⟩
  ·rw [if_pos e2] at hst
   (apply tr_v tk; (conv => whnf); (repeat ((first | (apply VStop.mk; (first | (refine ot_shr rfl rfl rfl rfl rfl (by show k ≤ 64; omega) ?_) | (refine ot_and1 rfl rfl rfl rfl rfl (Nat.lt_of_le_of_lt (Nat.div_le_self _ _) (by show b < 2 ^ 64; omega)) wrap_small (by decide) ?_; rw [e1])); apply ot_v tk) | (apply VIx.mk (j := k); exact rfl; omega) | (apply VLd.mk; first | exact (hc _).1) | (apply VLd.mk; (focus ((repeat (first | ((with_reducible apply ld_blk); exact rfl) | (with_reducible apply ld_skip))); done))) | (apply VRng.mk; omega) | apply VBr.t | (apply v_t; omega)); (conv => whnf))))
   exact v_rnd (gm - 1) (by omega) (l := [(1, _), (2, _), (3, _), (7, .int .i64 (sm (fun k => if cs k = true then (rAt C k).1 else 0) (k + 1))), (8, _)]) (B := _) ⟨rfl, rfl, rfl, by show some _ = some _; rw [hst], rfl, trivial⟩ (List.Sublist.refl _) ⟨rfl, k + 1, by omega, rfl, rfl⟩
  ·rw [if_neg (by rw [e2]; simp)] at hst
   (apply tr_v tk; (conv => whnf); (repeat ((first | (apply VStop.mk; (first | (refine ot_shr rfl rfl rfl rfl rfl (by show _ ≤ 64; omega) ?_) | (refine ot_and1 rfl rfl rfl rfl rfl (Nat.lt_of_le_of_lt (Nat.div_le_self _ _) (by show _ < 2 ^ 64; omega)) wrap_small (by decide) ?_; rw [e1])); apply ot_v tk) | (apply VLd.mk; (focus ((repeat (first | ((with_reducible apply ld_blk); exact rfl) | (with_reducible apply ld_skip))); done))) | (apply VRng.mk; omega) | apply VBr.t | apply VBr.f | (apply v_t; omega) | (apply v_f; omega)); (conv => whnf))))
   exact v_rnd (gm - 1) (by omega) (l := [(1, _), (2, _), (3, _), (7, .int .i64 (sm (fun k => if cs k = true then (rAt C k).1 else 0) (k + 1))), (8, _)]) (B := _) ⟨rfl, rfl, rfl, by show some _ = some _; rw [hst, Int.add_zero], rfl, trivial⟩ (List.Sublist.refl _) ⟨rfl, k + 1, by omega, rfl, rfl⟩
 obtain rfl : k = C.length := by omega
 have s1 := b2 _ (Nat.le_refl _)
 generalize sm (fun k => if cs k = true then (rAt C k).1 else 0) C.length = S at *
 (apply tr_v tk; (conv => whnf); (repeat ((first | (apply VLd.mk; (focus ((repeat (first | ((with_reducible apply ld_blk); exact rfl) | (with_reducible apply ld_skip))); done))) | apply VBr.f | (apply v_f; omega)); (conv => whnf))); apply VStop.mk)
 refine v_loop (fun gm ds ts A => ds = [] ∧ ∃ i : Nat, i + gm = R.length ∧ A = [.blk gt 25 [.slice (some ⟨rb, ro, none⟩) R.length rc, .slice (some ⟨cb, co, none⟩) C.length cc, .slice XA X.length xc]] ∧ ts = [(1, .int .i64 (a : Int)), (2, .int .i64 (b : Int)), (3, .pointer (some ⟨gt, 0, none⟩)), (7, .int .i64 (S + sm (fun i => rowTS R C.length X rs cs i) i)), (9, .int .i64 (i : Int))]) R.length
  (l := [(1, _), (2, _), (3, _), (7, .int .i64 (S + sm (fun i => rowTS R C.length X rs cs i) 0)), (9, _)]) (B := _) ?_ (List.Sublist.refl _) ⟨rfl, 0, by omega, rfl, rfl⟩ ?_
 ·exact ⟨rfl, rfl, rfl, by show some _ = some _; rw [show S + sm (fun i => rowTS R C.length X rs cs i) 0 = S from Int.add_zero _], rfl, trivial⟩
 rintro gm ds ts A ⟨rfl, i, hi, rfl, rfl⟩
 by_cases hlt : i < R.length
 ·have s2 := b6 i (by omega)
  have s3 := hV.rR hlt
  have hst : sm (fun i => rowTS R C.length X rs cs i) (i + 1) = sm (fun i => rowTS R C.length X rs cs i) i + rowTS R C.length X rs cs i := rfl
  have hrw : rowTS R C.length X rs cs i = (if rs i = true then -(rAt R i).2 else 0) + sm (fun k => termS X rs cs i k) C.length := rfl
  have hbt := bit_two a i
  rw [hrs] at hbt
  generalize sm (fun i => rowTS R C.length X rs cs i) i = S2 at *
  have hc := hrr i hlt
  rcases hbt with ⟨e1, e2⟩ | ⟨e1, e2⟩
  ·rw [if_pos e2] at hrw
   (apply tr_v tk; (conv => whnf); (repeat ((first | (apply VStop.mk; (first | (refine ot_shr rfl rfl rfl rfl rfl (by show _ ≤ 64; omega) ?_) | (refine ot_and1 rfl rfl rfl rfl rfl (Nat.lt_of_le_of_lt (Nat.div_le_self _ _) (by show _ < 2 ^ 64; omega)) wrap_small (by decide) ?_; rw [e1])); apply ot_v tk) | (apply VIx.mk (j := i); exact rfl; omega) | (apply VLd.mk; first | exact (hc _).2) | (apply VLd.mk; (focus ((repeat (first | ((with_reducible apply ld_blk); exact rfl) | (with_reducible apply ld_skip))); done))) | (apply VRng.mk; omega) | apply VBr.t | (apply v_t; omega)); (conv => whnf))); apply VStop.mk)
   refine v_loop (fun gm2 ds ts A => ds = [] ∧ ∃ k : Nat, k + gm2 = C.length ∧ A = [.blk gt 25 [.slice (some ⟨rb, ro, none⟩) R.length rc, .slice (some ⟨cb, co, none⟩) C.length cc, .slice XA X.length xc]] ∧ ts = [(1, .int .i64 (a : Int)), (2, .int .i64 (b : Int)), (3, .pointer (some ⟨gt, 0, none⟩)), (7, .int .i64 ((S + S2 - (rAt R i).2) + sm (fun k => termS X rs cs i k) k)), (9, .int .i64 (i : Int)), (10, .bool true), (11, .int .i64 (k : Int))]) C.length
    (l := [(1, _), (2, _), (3, _), (7, .int .i64 ((S + S2 - (rAt R i).2) + sm (fun k => termS X rs cs i k) 0)), (9, _), (10, _), (11, _)]) (B := _) ?_ (List.Sublist.refl _) ⟨rfl, 0, by omega, rfl, rfl⟩ ?_
   ·exact ⟨rfl, rfl, rfl, by show some _ = some _; rw [show (S + S2 - (rAt R i).2) + sm (fun k => termS X rs cs i k) 0 = (S + S2 - (rAt R i).2) from Int.add_zero _], rfl, rfl, rfl, trivial⟩
   rintro gm2 ds ts A ⟨rfl, k, hk, rfl, rfl⟩
   by_cases hlt2 : k < C.length
   ·have s4 := b4 i k hlt (by omega)
    have s5 := hV.rX hlt hlt2
    obtain ⟨T, hTe⟩ : ∃ T, T = termS X rs cs i k := ⟨_, rfl⟩
    have hs3 : sm (fun k => termS X rs cs i k) (k + 1) = sm (fun k => termS X rs cs i k) k + T := by rw [hTe]; rfl
    have hb2 := bit_two b k
    rw [hcs] at hb2
    generalize sm (fun k => termS X rs cs i k) k = S3 at *
    obtain ⟨xb, xo, B, o, c, rfl, k1, k2⟩ := key i k hlt hlt2
    unfold termS at hTe
    rw [e2] at hTe
    rcases hb2 with ⟨q1, q2⟩ | ⟨q1, q2⟩
    ·rw [q2, if_neg (by simp), if_neg (by simp)] at hTe
     subst hTe
     (apply tr_v tk; (conv => whnf); (repeat ((first | (apply VStop.mk; (first | (refine ot_shr rfl rfl rfl rfl rfl (by show _ ≤ 64; omega) ?_) | (refine ot_and1 rfl rfl rfl rfl rfl (Nat.lt_of_le_of_lt (Nat.div_le_self _ _) (by show _ < 2 ^ 64; omega)) wrap_small (by decide) ?_; rw [q1])); apply ot_v tk) | (apply VLd.mk; (focus ((repeat (first | ((with_reducible apply ld_blk); exact rfl) | (with_reducible apply ld_skip))); done))) | (apply VRng.mk; omega) | apply VBr.t | apply VBr.f | (apply v_t; omega)); (conv => whnf))))
     exact v_rnd (gm2 - 1) (by omega) (l := [(1, _), (2, _), (3, _), (7, .int .i64 ((S + S2 - (rAt R i).2) + sm (fun k => termS X rs cs i k) (k + 1))), (9, _), (10, _), (11, _)]) (B := _) ⟨rfl, rfl, rfl, by show some _ = some _; rw [hs3]; exact congrArg some (congrArg _ (by omega)), rfl, rfl, rfl, trivial⟩ (List.Sublist.refl _) ⟨rfl, k + 1, by omega, rfl, rfl⟩
    ·rw [q2, if_pos ⟨rfl, rfl⟩] at hTe
     subst hTe
     (apply tr_v tk; (conv => whnf); (repeat ((first | (apply VStop.mk; (first | (refine ot_shr rfl rfl rfl rfl rfl (by show _ ≤ 64; omega) ?_) | (refine ot_and1 rfl rfl rfl rfl rfl (Nat.lt_of_le_of_lt (Nat.div_le_self _ _) (by show _ < 2 ^ 64; omega)) wrap_small (by decide) ?_; rw [q1])); apply ot_v tk) | (apply VIx.mk (j := i); exact rfl; omega) | (apply VIx.mk (j := k); exact rfl; omega) | (apply VLd.mk; first | exact k1 _ | exact (k2 _).1 | exact (k2 _).2) | (apply VLd.mk; (focus ((repeat (first | ((with_reducible apply ld_blk); exact rfl) | (with_reducible apply ld_skip))); done))) | (apply VRng.mk; omega) | apply VBr.t | apply VBr.f | (apply v_t; omega) | (apply v_f; omega)); (conv => whnf))))
     exact v_rnd (gm2 - 1) (by omega) (l := [(1, _), (2, _), (3, _), (7, .int .i64 ((S + S2 - (rAt R i).2) + sm (fun k => termS X rs cs i k) (k + 1))), (9, _), (10, _), (11, _)]) (B := _) ⟨rfl, rfl, rfl, by show some _ = some _; rw [hs3]; exact congrArg some (congrArg _ (by omega)), rfl, rfl, rfl, trivial⟩ (List.Sublist.refl _) ⟨rfl, k + 1, by omega, rfl, rfl⟩
   obtain rfl : k = C.length := by omega
   (apply tr_v tk; (conv => whnf); (repeat ((first | (apply VLd.mk; (focus ((repeat (first | ((with_reducible apply ld_blk); exact rfl) | (with_reducible apply ld_skip))); done))) | (apply VRng.mk; omega) | apply VBr.f | (apply v_f; omega)); (conv => whnf))))
   exact v_rnd (gm - 1) (by omega) (l := [(1, _), (2, _), (3, _), (7, .int .i64 (S + sm (fun i => rowTS R C.length X rs cs i) (i + 1))), (9, _)]) (B := _) ⟨rfl, rfl, rfl, by show some _ = some _; rw [hst, hrw]; exact congrArg some (congrArg _ (by omega)), rfl, trivial⟩ (List.Sublist.refl _) ⟨rfl, i + 1, by omega, rfl, rfl⟩
  ·rw [if_neg (by rw [e2]; simp)] at hrw
   (apply tr_v tk; (conv => whnf); (repeat ((first | (apply VStop.mk; (first | (refine ot_shr rfl rfl rfl rfl rfl (by show _ ≤ 64; omega) ?_) | (refine ot_and1 rfl rfl rfl rfl rfl (Nat.lt_of_le_of_lt (Nat.div_le_self _ _) (by show _ < 2 ^ 64; omega)) wrap_small (by decide) ?_; rw [e1])); apply ot_v tk) | (apply VLd.mk; (focus ((repeat (first | ((with_reducible apply ld_blk); exact rfl) | (with_reducible apply ld_skip))); done))) | apply VBr.t | apply VBr.f | (apply v_t; omega) | (apply v_f; omega)); (conv => whnf))); apply VStop.mk)
   refine v_loop (fun gm2 ds ts A => ds = [] ∧ ∃ k : Nat, k + gm2 = C.length ∧ A = [.blk gt 25 [.slice (some ⟨rb, ro, none⟩) R.length rc, .slice (some ⟨cb, co, none⟩) C.length cc, .slice XA X.length xc]] ∧ ts = [(1, .int .i64 (a : Int)), (2, .int .i64 (b : Int)), (3, .pointer (some ⟨gt, 0, none⟩)), (7, .int .i64 ((S + S2) + sm (fun k => termS X rs cs i k) k)), (9, .int .i64 (i : Int)), (10, .bool false), (11, .int .i64 (k : Int))]) C.length
    (l := [(1, _), (2, _), (3, _), (7, .int .i64 ((S + S2) + sm (fun k => termS X rs cs i k) 0)), (9, _), (10, _), (11, _)]) (B := _) ?_ (List.Sublist.refl _) ⟨rfl, 0, by omega, rfl, rfl⟩ ?_
   ·exact ⟨rfl, rfl, rfl, by show some _ = some _; rw [show (S + S2) + sm (fun k => termS X rs cs i k) 0 = (S + S2) from Int.add_zero _], rfl, rfl, rfl, trivial⟩
   rintro gm2 ds ts A ⟨rfl, k, hk, rfl, rfl⟩
   by_cases hlt2 : k < C.length
   ·have s4 := b4 i k hlt (by omega)
    have s5 := hV.rX hlt hlt2
    obtain ⟨T, hTe⟩ : ∃ T, T = termS X rs cs i k := ⟨_, rfl⟩
    have hs3 : sm (fun k => termS X rs cs i k) (k + 1) = sm (fun k => termS X rs cs i k) k + T := by rw [hTe]; rfl
    have hb2 := bit_two b k
    rw [hcs] at hb2
    generalize sm (fun k => termS X rs cs i k) k = S3 at *
    obtain ⟨xb, xo, B, o, c, rfl, k1, k2⟩ := key i k hlt hlt2
    unfold termS at hTe
    rw [e2] at hTe
    rcases hb2 with ⟨q1, q2⟩ | ⟨q1, q2⟩
    ·rw [q2, if_neg (by simp), if_pos ⟨rfl, rfl⟩] at hTe
     subst hTe
     (apply tr_v tk; (conv => whnf); (repeat ((first | (apply VStop.mk; (first | (refine ot_shr rfl rfl rfl rfl rfl (by show _ ≤ 64; omega) ?_) | (refine ot_and1 rfl rfl rfl rfl rfl (Nat.lt_of_le_of_lt (Nat.div_le_self _ _) (by show _ < 2 ^ 64; omega)) wrap_small (by decide) ?_; rw [q1])); apply ot_v tk) | (apply VIx.mk (j := i); exact rfl; omega) | (apply VIx.mk (j := k); exact rfl; omega) | (apply VLd.mk; first | exact k1 _ | exact (k2 _).1 | exact (k2 _).2) | (apply VLd.mk; (focus ((repeat (first | ((with_reducible apply ld_blk); exact rfl) | (with_reducible apply ld_skip))); done))) | (apply VRng.mk; omega) | apply VBr.t | apply VBr.f | (apply v_t; omega)); (conv => whnf))))
     exact v_rnd (gm2 - 1) (by omega) (l := [(1, _), (2, _), (3, _), (7, .int .i64 ((S + S2) + sm (fun k => termS X rs cs i k) (k + 1))), (9, _), (10, _), (11, _)]) (B := _) ⟨rfl, rfl, rfl, by show some _ = some _; rw [hs3]; exact congrArg some (congrArg _ (by omega)), rfl, rfl, rfl, trivial⟩ (List.Sublist.refl _) ⟨rfl, k + 1, by omega, rfl, rfl⟩
    ·rw [q2, if_neg (by simp), if_neg (by simp)] at hTe
     subst hTe
     (apply tr_v tk; (conv => whnf); (repeat ((first | (apply VStop.mk; (first | (refine ot_shr rfl rfl rfl rfl rfl (by show _ ≤ 64; omega) ?_) | (refine ot_and1 rfl rfl rfl rfl rfl (Nat.lt_of_le_of_lt (Nat.div_le_self _ _) (by show _ < 2 ^ 64; omega)) wrap_small (by decide) ?_; rw [q1])); apply ot_v tk) | (apply VLd.mk; (focus ((repeat (first | ((with_reducible apply ld_blk); exact rfl) | (with_reducible apply ld_skip))); done))) | (apply VRng.mk; omega) | apply VBr.t | apply VBr.f | (apply v_t; omega) | (apply v_f; omega)); (conv => whnf))))
     exact v_rnd (gm2 - 1) (by omega) (l := [(1, _), (2, _), (3, _), (7, .int .i64 ((S + S2) + sm (fun k => termS X rs cs i k) (k + 1))), (9, _), (10, _), (11, _)]) (B := _) ⟨rfl, rfl, rfl, by show some _ = some _; rw [hs3]; exact congrArg some (congrArg _ (by omega)), rfl, rfl, rfl, trivial⟩ (List.Sublist.refl _) ⟨rfl, k + 1, by omega, rfl, rfl⟩
   obtain rfl : k = C.length := by omega
   (apply tr_v tk; (conv => whnf); (repeat ((first | (apply VLd.mk; (focus ((repeat (first | ((with_reducible apply ld_blk); exact rfl) | (with_reducible apply ld_skip))); done))) | (apply VRng.mk; omega) | apply VBr.f | (apply v_f; omega)); (conv => whnf))))
   exact v_rnd (gm - 1) (by omega) (l := [(1, _), (2, _), (3, _), (7, .int .i64 (S + sm (fun i => rowTS R C.length X rs cs i) (i + 1))), (9, _)]) (B := _) ⟨rfl, rfl, rfl, by show some _ = some _; rw [hst, hrw]; exact congrArg some (congrArg _ (by omega)), rfl, trivial⟩ (List.Sublist.refl _) ⟨rfl, i + 1, by omega, rfl, rfl⟩
 obtain rfl : i = R.length := by omega
 (apply tr_v tk; (conv => whnf); (repeat ((first | (apply VLd.mk; (focus ((repeat (first | ((with_reducible apply ld_blk); exact rfl) | (with_reducible apply ld_skip))); done))) | apply VBr.f | (apply v_f; omega)); (conv => whnf))))
 ((apply VRet.mk); refine ret1 (by first | exact .inl rfl | exact .inr rfl) rfl (by exact rv_tmp rfl) ?_; exact fun w h => ⟨rfl, h.base⟩)
end
/-! ## isList, Bits, Short -/
set_option maxHeartbeats 1000000 in
set_option maxRecDepth 20000 in
theorem isList_any (Al : Option Addr) (c : Nat) (l : List Int) (below : Nat) (w : World) (h : Reads w w.heap.size 1 Al l.length (i64s l)) (hm : l.length ≤ maxLen) :
  Calls Try.prog 78 #[.slice Al l.length c, .int .i64 (below : Int)] w fun e w' => e = .returned (.bool (risB below l l.length 0 0)) ∧ Below w.heap.size w w' := by
 unfold maxLen at hm
 refine fn_v tk (n := 41) (A := []) Try.func78 rfl rfl (Nat.le_of_ble_eq_true rfl) (St.nil (Below.refl _ _)) ?_
 ((conv => whnf); apply VStop.mk)
 refine v_loop (fun gm ds ts A => ds = [] ∧ A = [] ∧ ∃ (j : Nat) (lo : Int), j + gm = l.length ∧ 0 ≤ lo ∧ ((j = 0 ∧ lo = 0) ∨ ∃ q, j = q + 1 ∧ lo = l[q]?.getD 0 + 1) ∧ risB below l l.length 0 0 = risB below l gm j lo ∧ ts = [(0, .slice Al l.length c), (1, .int .i64 (below : Int)), (5, .int .i64 (j : Int))]) l.length (l := [(0, _), (1, _), (5, _)]) (B := _) ?_ (List.Sublist.refl _) ⟨rfl, rfl, 0, 0, by omega, by omega, .inl ⟨rfl, rfl⟩, rfl, rfl⟩ ?_
 ·exact ⟨rfl, rfl, rfl, trivial⟩
 rintro gm ds ts A ⟨rfl, rfl, j, lo, hj, hl0, hl1, hres, rfl⟩
 by_cases hlt : j < l.length
 ·obtain ⟨b, o, rfl, _⟩ := h.2 (by omega)
  have hc := int_cell h hlt
  obtain ⟨gm, rfl⟩ : ∃ g, gm = g + 1 := ⟨gm - 1, by omega⟩
  rw [risB] at hres
  have hlx : l[j]?.getD 0 = l[j]?.getD 0 := rfl
  generalize hx : l[j]?.getD 0 = x at hc hres
  by_cases h0 : x < 0
  ·rw [if_pos (.inl (by omega))] at hres
   (apply tr_v tk; (conv => whnf); (repeat ((first | (apply VStop.mk; refine tr_region_draw (id := 4) (by kernel_rfl) [0, 1, 2, 3, 4, 5, 6, 7, 8, 9, 10, 11, 12, 13, 14, 15, 16, 17, 18, 19, 20, 21, 22, 23, 24, 25, 26, 27, 28] [.rd, .rd, .rd, .rd, .rd, .rd, .rd, .rd, .rd, .rd, .rd, .rd, .rd, .rd, .rd, .rd, .rd, .rd, .rd, .rd, .rd, .rd, .rd, .rd, .rd, .rd, .rd, .rd, .rd] rfl (by kernel_rfl) ?_; apply ot_v tk) | (apply VIx.mk (j := j); exact rfl; omega) | (apply VLd.mk; first | exact hc _) | apply VBr.t | (apply v_t; omega)); (conv => whnf))))
   (apply VRet.mk)
   refine ret1 (by first | exact .inl rfl | exact .inr rfl) rfl (by exact rv_tmp rfl) ?_
   exact fun w h => ⟨by rw [hres], h.base⟩
  by_cases h2 : (below : Int) ≤ x
  ·rw [if_pos (.inr h2)] at hres
   (apply tr_v tk; (conv => whnf); (repeat ((first | (apply VStop.mk; refine tr_region_draw (id := 4) (by kernel_rfl) [0, 1, 2, 3, 4, 5, 6, 7, 8, 9, 10, 11, 12, 13, 14, 15, 16, 17, 18, 19, 20, 21, 22, 23, 24, 25, 26, 27, 28] [.rd, .rd, .rd, .rd, .rd, .rd, .rd, .rd, .rd, .rd, .rd, .rd, .rd, .rd, .rd, .rd, .rd, .rd, .rd, .rd, .rd, .rd, .rd, .rd, .rd, .rd, .rd, .rd, .rd] rfl (by kernel_rfl) ?_; apply ot_v tk) | (apply VIx.mk (j := j); exact rfl; omega) | (apply VLd.mk; first | exact hc _) | apply VBr.t | apply VBr.f | (apply v_t; omega) | (apply v_f; omega)); (conv => whnf))))
   (apply VRet.mk)
   refine ret1 (by first | exact .inl rfl | exact .inr rfl) rfl (by exact rv_tmp rfl) ?_
   exact fun w h => ⟨by rw [hres], h.base⟩
  rcases hl1 with ⟨rfl, rfl⟩ | ⟨q, rfl, hlo⟩
  ·rw [if_neg (by omega)] at hres
   (apply tr_v tk; (conv => whnf); (repeat ((first | (apply VStop.mk; refine tr_region_draw (id := 4) (by kernel_rfl) [0, 1, 2, 3, 4, 5, 6, 7, 8, 9, 10, 11, 12, 13, 14, 15, 16, 17, 18, 19, 20, 21, 22, 23, 24, 25, 26, 27, 28] [.rd, .rd, .rd, .rd, .rd, .rd, .rd, .rd, .rd, .rd, .rd, .rd, .rd, .rd, .rd, .rd, .rd, .rd, .rd, .rd, .rd, .rd, .rd, .rd, .rd, .rd, .rd, .rd, .rd] rfl (by kernel_rfl) ?_; apply ot_v tk) | (apply VIx.mk (j := 0); exact rfl; omega) | (apply VLd.mk; first | exact hc _) | (apply VRng.mk; omega) | apply VBr.t | apply VBr.f | (apply v_t; omega) | (apply v_f; omega)); (conv => whnf))))
   exact v_rnd gm (by omega) (l := [(0, _), (1, _), (5, _)]) (B := []) ⟨rfl, rfl, rfl, trivial⟩ (List.nil_sublist _) ⟨rfl, rfl, 0 + 1, x + 1, by omega, by omega, .inr ⟨0, rfl, by rw [hx]⟩, hres, rfl⟩
  ·have hc2 := int_cell h (show q < l.length by omega)
   have eq1 : (((q + 1 : Nat) : Int) - 1).toNat = q := by omega
   rw [← eq1] at hc2
   rw [show l[(((q + 1 : Nat) : Int) - 1).toNat]?.getD 0 = l[q]?.getD 0 by rw [eq1]] at hc2
   generalize hy : l[q]?.getD 0 = y at hlo hc2
   by_cases h3 : x ≤ y
   ·rw [if_pos (.inl (by omega))] at hres
    (apply tr_v tk; (conv => whnf); (repeat ((first | (apply VStop.mk; refine tr_region_draw (id := 4) (by kernel_rfl) [0, 1, 2, 3, 4, 5, 6, 7, 8, 9, 10, 11, 12, 13, 14, 15, 16, 17, 18, 19, 20, 21, 22, 23, 24, 25, 26, 27, 28] [.rd, .rd, .rd, .rd, .rd, .rd, .rd, .rd, .rd, .rd, .rd, .rd, .rd, .rd, .rd, .rd, .rd, .rd, .rd, .rd, .rd, .rd, .rd, .rd, .rd, .rd, .rd, .rd, .rd] rfl (by kernel_rfl) ?_; apply ot_v tk) | (apply VIx.mk (j := q + 1); exact rfl; omega) | (apply VLd.mk; first | exact hc _ | exact hc2 _) | (apply VRng.mk; omega) | apply VBr.t | apply VBr.f | (apply v_t; omega) | (apply v_f; omega) | (apply v_ixn; omega)); (conv => whnf))))
    (apply VRet.mk)
    refine ret1 (by first | exact .inl rfl | exact .inr rfl) rfl (by exact rv_tmp rfl) ?_
    exact fun w h => ⟨by rw [hres], h.base⟩
   ·rw [if_neg (by omega)] at hres
    (apply tr_v tk; (conv => whnf); (repeat ((first | (apply VStop.mk; refine tr_region_draw (id := 4) (by kernel_rfl) [0, 1, 2, 3, 4, 5, 6, 7, 8, 9, 10, 11, 12, 13, 14, 15, 16, 17, 18, 19, 20, 21, 22, 23, 24, 25, 26, 27, 28] [.rd, .rd, .rd, .rd, .rd, .rd, .rd, .rd, .rd, .rd, .rd, .rd, .rd, .rd, .rd, .rd, .rd, .rd, .rd, .rd, .rd, .rd, .rd, .rd, .rd, .rd, .rd, .rd, .rd] rfl (by kernel_rfl) ?_; apply ot_v tk) | (apply VIx.mk (j := q + 1); exact rfl; omega) | (apply VLd.mk; first | exact hc _ | exact hc2 _) | (apply VRng.mk; omega) | apply VBr.t | apply VBr.f | (apply v_t; omega) | (apply v_f; omega) | (apply v_ixn; omega)); (conv => whnf))))
    exact v_rnd gm (by omega) (l := [(0, _), (1, _), (5, _)]) (B := []) ⟨rfl, rfl, rfl, trivial⟩ (List.nil_sublist _) ⟨rfl, rfl, q + 1 + 1, x + 1, by omega, by omega, .inr ⟨q + 1, rfl, by rw [hx]⟩, hres, rfl⟩
 ·obtain rfl : gm = 0 := by omega
  (apply tr_v tk; (conv => whnf); (repeat ((first | apply VBr.f | (apply v_f; omega)); (conv => whnf))))
  (apply VRet.mk)
  refine ret1 (by first | exact .inl rfl | exact .inr rfl) rfl (by exact rv_tmp rfl) ?_
  exact fun w h => ⟨by rw [hres]; rfl, h.base⟩
/-- The bits of a list. -/
def bitsN (l : List Int) : Nat → Nat
 | 0 => 0
 | k + 1 => bitsN l k ||| 2 ^ (l[k]?.getD 0).toNat
theorem bitsN_lt {l : List Int} {b : Nat} : ∀ {k : Nat}, (∀ j, j < k → (l[j]?.getD 0).toNat < b) → bitsN l k < 2 ^ b
 | 0, _ => Nat.two_pow_pos b
 | k + 1, h => Nat.or_lt_two_pow (bitsN_lt fun j hj => h j (by omega)) (Nat.pow_lt_pow_right (by decide) (h k (by omega)))
theorem bitsN_test {l : List Int} (v : Nat) : ∀ k, (bitsN l k).testBit v = true ↔ ∃ j, j < k ∧ (l[j]?.getD 0).toNat = v
 | 0 => by simp [bitsN]
 | k + 1 => by
  rw [bitsN, Nat.testBit_or, Bool.or_eq_true, bitsN_test v k, Nat.testBit_two_pow, decide_eq_true_eq]
  constructor
  ·rintro (⟨j, h1, h2⟩ | h)
   ·exact ⟨j, by omega, h2⟩
   ·exact ⟨k, by omega, h⟩
  ·rintro ⟨j, h1, h2⟩
   by_cases e : j = k
   ·subst e; exact .inr h2
   ·exact .inl ⟨j, by omega, h2⟩
theorem bitsN_has {l : List Int} (h0 : ∀ j, j < l.length → 0 ≤ l[j]?.getD 0) : (bitsN l l.length).testBit = fun v : Nat => hasB l (v : Int) := by
 funext v
 rw [Bool.eq_iff_iff, bitsN_test]
 unfold hasB
 rw [List.any_eq_true]
 constructor
 ·rintro ⟨j, h1, h2⟩
  have := h0 j h1
  rw [List.getElem?_eq_getElem h1, Option.getD_some] at *
  exact ⟨_, List.getElem_mem h1, decide_eq_true (by omega)⟩
 ·rintro ⟨x, hx, h2⟩
  obtain ⟨j, hj, rfl⟩ := List.mem_iff_getElem.1 hx
  refine ⟨j, hj, ?_⟩
  have := of_decide_eq_true h2
  rw [List.getElem?_eq_getElem hj, Option.getD_some]
  omega
set_option maxRecDepth 20000 in
theorem bits_any (Al : Option Addr) (c : Nat) (l : List Int) (w : World) (h : Reads w w.heap.size 1 Al l.length (i64s l)) (hm : l.length ≤ maxLen) (hb : ∀ j, j < l.length → 0 ≤ l[j]?.getD 0 ∧ l[j]?.getD 0 < 60) :
  Calls Try.prog 98 #[.slice Al l.length c] w fun e w' => e = .returned (.int .i64 (bitsN l l.length : Int)) ∧ Below w.heap.size w w' := by
 unfold maxLen at hm
 refine fn_v tk (n := 19) (A := []) Try.func98 rfl rfl (Nat.le_of_ble_eq_true rfl) (St.nil (Below.refl _ _)) ?_
 ((conv => whnf); apply VStop.mk)
 refine v_loop (fun gm ds ts A => ds = [] ∧ A = [] ∧ ∃ j : Nat, j + gm = l.length ∧ ts = [(0, .slice Al l.length c), (3, .int .i64 (bitsN l j : Int)), (4, .int .i64 (j : Int))]) l.length (l := [(0, _), (3, .int .i64 (bitsN l 0 : Int)), (4, _)]) (B := _) ?_ (List.Sublist.refl _) ⟨rfl, rfl, 0, by omega, rfl⟩ ?_
 ·exact ⟨rfl, rfl, rfl, trivial⟩
 rintro gm ds ts A ⟨rfl, rfl, j, hj, rfl⟩
 by_cases hlt : j < l.length
 ·obtain ⟨b, o, rfl, _⟩ := h.2 (by omega)
  have hc := int_cell h hlt
  have hst : bitsN l (j + 1) = bitsN l j ||| 2 ^ (l[j]?.getD 0).toNat := rfl
  have h1 := bitsN_lt (l := l) (b := 60) (k := j) fun q hq => by have := hb q (by omega); omega
  have h2 := hb j hlt
  generalize l[j]?.getD 0 = x at *
  obtain ⟨x, rfl⟩ : ∃ q : Nat, x = q := ⟨x.toNat, by omega⟩
  rw [Int.toNat_natCast] at hst
  have h3 : (2 : Nat) ^ x < 2 ^ 60 := Nat.pow_lt_pow_right (by decide) (by omega)
  (apply tr_v tk; (conv => whnf); (repeat ((first | (apply VStop.mk; (first | (refine ot_shl1 rfl rfl rfl rfl rfl (by omega) ?_) | (refine ot_or rfl rfl rfl rfl rfl h1 h3 ?_)); apply ot_v tk) | (apply VIx.mk (j := j); exact rfl; omega) | (apply VLd.mk; first | exact hc _) | (apply VRng.mk; omega) | apply VBr.t | (apply v_t; omega)); (conv => whnf))))
  rw [← hst]
  exact v_rnd (gm - 1) (by omega) (l := [(0, _), (3, _), (4, _)]) (B := []) ⟨rfl, rfl, rfl, trivial⟩ (List.nil_sublist _) ⟨rfl, rfl, j + 1, by omega, rfl⟩
 ·obtain rfl : j = l.length := by omega
  (apply tr_v tk; (conv => whnf); (repeat ((first | apply VBr.f | (apply v_f; omega)); (conv => whnf))))
  ((apply VRet.mk); refine ret1 (by first | exact .inl rfl | exact .inr rfl) rfl (by exact rv_tmp rfl) ?_; exact fun w h => ⟨rfl, h.base⟩)
end Go.Proofs.Ytalcccgialpjgaa
