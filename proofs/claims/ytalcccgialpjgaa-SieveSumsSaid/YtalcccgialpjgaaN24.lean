/- All of the definition: lemmas for the rows of this seat. No conditions. -/
import Derived.Test.YtalcccgialpjgaaM22
set_option linter.all false
namespace Go.Proofs.Ytalcccgialpjgaa
open Go.RowKit
/-! ## All of the definition -/
theorem wS_step (p : Nat → Bool) (f : Nat → Int) (m : Nat) : wS p f (m + 1) = wS p f m + (if p m = true then f m else 0) := rfl
theorem wS_bound {p : Nat → Bool} {f : Nat → Int} {m : Nat} (h : ∀ k, k < m → 0 ≤ f k ∧ f k ≤ 48) : 0 ≤ wS p f m ∧ wS p f m ≤ 48 * m := ⟨wS_nonneg fun k hk => (h k hk).1, sm_bound fun k hk => by have := h k hk; split <;> omega⟩
theorem termS_sum (R C : List R2) (X : List (List R2)) (rs cs : Nat → Bool) : sm (fun i => sm (fun k => termS X rs cs i k) C.length) R.length = wD (fun i k => rs i && !cs k) (fun i k => (xAt X i k).1) R.length C.length - wD (fun i k => !rs i && cs k) (fun i k => (xAt X i k).2) R.length C.length := by
 unfold wD
 rw [← sm_sub]
 refine sm_congr fun i _ => ?_
 rw [← sm_sub]
 refine sm_congr fun k _ => ?_
 unfold termS
 cases h1 : rs i <;> cases h2 : cs k <;> simp [h1, h2]
theorem needA_terms (R C : List R2) (X : List (List R2)) (rs cs : Nat → Bool) : needA R C X rs cs = wS (fun i => !rs i) (fun i => (rAt R i).1) R.length + wS cs (fun k => (rAt C k).1) C.length + sm (fun i => sm (fun k => termS X rs cs i k) C.length) R.length ∧ canA R C X rs cs = wS rs (fun i => (rAt R i).2) R.length + wS (fun k => !cs k) (fun k => (rAt C k).2) C.length - sm (fun i => sm (fun k => termS X rs cs i k) C.length) R.length := by
 rw [termS_sum]
 unfold needA canA
 omega
section
variable (RA : Option Addr) (rc : Nat) (CA : Option Addr) (cc : Nat) (XA : Option Addr) (xc : Nat) (R C : List R2) (X : List (List R2)) (w : World) (hT : TabR w RA CA XA R C X)
include hT
set_option maxRecDepth 20000 in
theorem refAll_err (hF : FitT R C X) (hE : errT R C X ≠ 0) : Calls Try.prog 35 #[tabV RA rc CA cc XA xc R C X] w fun e w' => e = .returned (resV ((0, 0), errT R C X)) ∧ Below w.heap.size w w' := by
 have her := fun w1 (h : TabR w1 RA CA XA R C X) => error_any RA rc CA cc XA xc R C X w1 h hF
 unfold tabV at *
 generalize errT R C X = z at *
 refine fn_v tk (n := 181) (A := []) Try.func35 rfl rfl (Nat.le_of_ble_eq_true rfl) (St.nil (Below.refl _ _)) ?_
 ((try first | apply tr_v tk | apply ot_v tk); (conv => whnf); (repeat ((first | (apply VCall.q; kernel_rfl; (focus (intro w1 hs; first | with_reducible apply her w1 (hs.tab hT)))) | (apply VLdN.mk; (focus ((repeat (first | (with_reducible apply ldn_blk) | (with_reducible apply ldn_skip))); done)); exact rfl) | apply VBr.t | (apply v_t; omega) | (apply VNew.mk; intro g hg) | (apply VSt.mk; (focus ((repeat (first | (with_reducible exact At.here) | (with_reducible apply At.there))); done)); exact rfl)); (conv => whnf))); try (first | apply VStop.mk | apply VCall.stop))
 (apply VRet.mk)
 refine ret2 (by first | exact .inl rfl | exact .inr rfl) rfl (by exact rv_row tk rfl rfl rfl (by first | exact cells_blk_all (by (repeat (first | exact List.Mem.head _ | assumption | refine List.Mem.tail _ ?_))) | exact cells_row0 (by (repeat (first | exact List.Mem.head _ | assumption | refine List.Mem.tail _ ?_)))) rfl) (by exact rv_tmp rfl) ?_
 exact fun w h => ⟨rfl, h.base⟩
set_option maxHeartbeats 8000000 in
set_option maxRecDepth 20000 in
theorem refAll_ok (hV : Valid R C X) (hH : HasT R C X) : Calls Try.prog 35 #[tabV RA rc CA cc XA xc R C X] w fun e w' => e = .returned (resV (allR R C X, 0)) ∧ Below w.heap.size w w' := by
 have her := fun w1 (h : TabR w1 RA CA XA R C X) => error_any RA rc CA cc XA xc R C X w1 h hV.fit
 rw [errT_ok hV hH] at her
 have hn := hV.r1
 have hn4 := hV.r4
 have hm := hV.c1
 have hm4 := hV.c4
 have hxl := hV.x
 have p4 : ∀ n, n ≤ 4 → 2 ^ n ≤ 16 := fun n hn => Nat.pow_le_pow_right (n := 2) (by decide) hn
 have pn := p4 _ hn4
 have pm := p4 _ hm4
 have key : ∀ a b, a < R.length → b < C.length → ∃ xb xo B o c, XA = some ⟨xb, xo, none⟩ ∧ (∀ Ch, CellAt w Ch xb (xo + a * 1) (.slice (some ⟨B, o, none⟩) C.length c)) ∧ ∀ Ch, CellAt w Ch B (o + b * 2) (.int .i64 (xAt X a b).1) ∧ CellAt w Ch B (o + b * 2 + 1) (.int .i64 (xAt X a b).2) := fun a b ha hb => by
  have hxk := hV.xs _ (List.getElem_mem (show a < X.length by omega))
  obtain ⟨xb, xo, rfl, B, c, hce, hrd⟩ := nest_gen hT.x (show a < X.length by omega)
  obtain ⟨b2, o2, rfl, _⟩ := hrd.2 (by omega)
  refine ⟨xb, xo, b2, o2, c, rfl, by rw [← hxk]; exact hce, ?_⟩
  have := rg_cell hrd (k := b) (by omega) (by omega)
  unfold xAt
  rw [List.getElem?_eq_getElem (by omega), Option.getD_some]
  exact this
 obtain ⟨rb, ro, rfl, _⟩ := hT.r.2 (by omega)
 obtain ⟨cb, co, rfl, _⟩ := hT.c.2 (by omega)
 have hrr := fun k (hk : k < R.length) => rg_cell hT.r (k := k) hk (by omega)
 have hcr := fun k (hk : k < C.length) => rg_cell hT.c (k := k) hk (by omega)
 unfold tabV at *
 refine fn_v tk (n := 181) (A := []) Try.func35 rfl rfl (Nat.le_of_ble_eq_true rfl) (St.nil (Below.refl _ _)) ?_
 ((try first | apply tr_v tk | apply ot_v tk); (conv => whnf); (repeat ((first | (apply VCall.q; kernel_rfl; (focus (intro w1 hs; first | with_reducible apply her w1 (hs.tab hT)))) | (apply VLdN.mk; (focus ((repeat (first | (with_reducible apply ldn_blk) | (with_reducible apply ldn_skip))); done)); exact rfl) | apply VBr.f | (apply v_f; omega) | (apply VNew.mk; intro g hg)); (conv => whnf))); try (first | apply VStop.mk | apply VCall.stop))
 revert g hg
 intro g2 hg2
 revert g hg
 intro g1 hg1
 refine v_loop (fun gm ds ts A => ds = [] ∧ ∃ (a : Nat) (lo hi : Int), a + gm = 2 ^ R.length ∧ (0 ≤ lo ∧ lo ≤ 1000 ∧ hi ≤ 192 ∧ -1000 ≤ hi ∧ (lo = 0 ∨ ∃ rs cs, lo = needA R C X rs cs) ∧ (hi = 192 ∨ ∃ rs cs, hi = canA R C X rs cs)) ∧ (∀ a' b', a' < a → b' < 2 ^ C.length → needA R C X a'.testBit b'.testBit ≤ lo ∧ hi ≤ canA R C X a'.testBit b'.testBit) ∧ A = [.blk g2 37 [.int .i64 0, .int .i64 0], .blk g1 25 [.slice (some ⟨rb, ro, none⟩) R.length rc, .slice (some ⟨cb, co, none⟩) C.length cc, .slice XA X.length xc]] ∧ ts = [(1, .pointer (some ⟨g1, 0, none⟩)), (2, .pointer (some ⟨g2, 0, none⟩)), (4, .int .i64 lo), (5, .int .i64 hi), (6, .int .i64 (a : Int))]) (2 ^ R.length)
  (l := [(1, _), (2, _), (4, _), (5, _), (6, _)]) (B := _) ?_ (List.Sublist.refl _) ⟨rfl, 0, 0, 192, by omega, ⟨by omega, by omega, by omega, by omega, .inl rfl, .inl rfl⟩, fun a' b' h => absurd h (Nat.not_lt_zero _), rfl, rfl⟩ ?_
 ·exact ⟨rfl, rfl, rfl, rfl, rfl, trivial⟩
 rintro gm ds ts A ⟨rfl, a, lo, hi, ha, hin, hd, rfl, rfl⟩
 by_cases hlt : a < 2 ^ R.length
 ·have hlt' : (a : Int) < ((2 ^ R.length : Nat) : Int) := by omega
  generalize hN : 2 ^ R.length = N at hlt' hlt ha pn ⊢
  ((try first | apply tr_v tk | apply ot_v tk); (conv => whnf); (repeat ((first | ((first | apply VStop.mk | apply VCall.stop); (first | (refine ot_shl1 rfl rfl rfl rfl rfl (by omega) ?_; rw [hN])); try first | apply ot_v tk | apply tr_v tk) | (apply VLd.mk; (focus ((repeat (first | ((with_reducible apply ld_blk); exact rfl) | (with_reducible apply ld_skip))); done))) | apply VBr.t | (apply v_t; omega)); (conv => whnf))); try (first | apply VStop.mk | apply VCall.stop))
  refine v_loop (fun gm2 ds ts A' => ds = [] ∧ ∃ (b : Nat) (lo hi : Int), b + gm2 = 2 ^ C.length ∧ (0 ≤ lo ∧ lo ≤ 1000 ∧ hi ≤ 192 ∧ -1000 ≤ hi ∧ (lo = 0 ∨ ∃ rs cs, lo = needA R C X rs cs) ∧ (hi = 192 ∨ ∃ rs cs, hi = canA R C X rs cs)) ∧ (∀ a' b', a' < a → b' < 2 ^ C.length → needA R C X a'.testBit b'.testBit ≤ lo ∧ hi ≤ canA R C X a'.testBit b'.testBit) ∧ (∀ b', b' < b → needA R C X a.testBit b'.testBit ≤ lo ∧ hi ≤ canA R C X a.testBit b'.testBit) ∧ A' = [.blk g2 37 [.int .i64 0, .int .i64 0], .blk g1 25 [.slice (some ⟨rb, ro, none⟩) R.length rc, .slice (some ⟨cb, co, none⟩) C.length cc, .slice XA X.length xc]] ∧ ts = [(1, .pointer (some ⟨g1, 0, none⟩)), (2, .pointer (some ⟨g2, 0, none⟩)), (4, .int .i64 lo), (5, .int .i64 hi), (6, .int .i64 (a : Int)), (7, .int .i64 (b : Int))]) (2 ^ C.length)
   (l := [(1, _), (2, _), (4, _), (5, _), (6, _), (7, _)]) (B := _) ?_ (List.Sublist.refl _) ⟨rfl, 0, lo, hi, by omega, hin, hd, fun b' h => absurd h (Nat.not_lt_zero _), rfl, rfl⟩ ?_
  ·exact ⟨rfl, rfl, rfl, rfl, rfl, rfl, trivial⟩
  clear hin hd lo hi
  rintro gm2 ds ts A' ⟨rfl, b, lo, hi, hbb, hin, hd, hd2, rfl, rfl⟩
  by_cases hlt2 : b < 2 ^ C.length
  ·have hlt2' : (b : Int) < ((2 ^ C.length : Nat) : Int) := by omega
   obtain ⟨hneed, hcan⟩ := needA_terms R C X a.testBit b.testBit
   obtain ⟨rs, hrs⟩ : ∃ rs, rs = a.testBit := ⟨_, rfl⟩
   obtain ⟨cs, hcs⟩ : ∃ cs, cs = b.testBit := ⟨_, rfl⟩
   have hba := fun k => bit_two a k
   have hbb2 := fun k => bit_two b k
   rw [← hrs] at hneed hcan hba
   rw [← hcs] at hneed hcan hbb2
   have w1 : ∀ j, j ≤ R.length → 0 ≤ wS (fun i => !rs i) (fun i => (rAt R i).1) j ∧ wS (fun i => !rs i) (fun i => (rAt R i).1) j ≤ 48 * j := fun j hj => wS_bound fun k hk => by have := hV.rR (show k < R.length by omega); omega
   have w2 : ∀ j, j ≤ R.length → 0 ≤ wS rs (fun i => (rAt R i).2) j ∧ wS rs (fun i => (rAt R i).2) j ≤ 48 * j := fun j hj => wS_bound fun k hk => by have := hV.rR (show k < R.length by omega); omega
   have w3 : ∀ j, j ≤ C.length → 0 ≤ wS cs (fun k => (rAt C k).1) j ∧ wS cs (fun k => (rAt C k).1) j ≤ 48 * j := fun j hj => wS_bound fun k hk => by have := hV.rC (show k < C.length by omega); omega
   have w4 : ∀ j, j ≤ C.length → 0 ≤ wS (fun k => !cs k) (fun k => (rAt C k).2) j ∧ wS (fun k => !cs k) (fun k => (rAt C k).2) j ≤ 48 * j := fun j hj => wS_bound fun k hk => by have := hV.rC (show k < C.length by omega); omega
   have b3 : ∀ i k, i < R.length → k < C.length → -12 ≤ termS X rs cs i k ∧ termS X rs cs i k ≤ 12 := fun i k hi hk => by
    have := hV.rX hi hk
    unfold termS
    split
    ·omega
    ·split <;> omega
   have b4 : ∀ i k, i < R.length → k ≤ C.length → -48 ≤ sm (fun k => termS X rs cs i k) k ∧ sm (fun k => termS X rs cs i k) k ≤ 48 := fun i k hi hk => by
    have h1 := sm_bound (f := fun k => termS X rs cs i k) (c := 12) (n := k) fun q hq => (b3 i q hi (by omega)).2
    have h2 := sm_bound' (f := fun k => termS X rs cs i k) (c := -12) (n := k) fun q hq => (b3 i q hi (by omega)).1
    omega
   have b6 : ∀ i, i ≤ R.length → -192 ≤ sm (fun i => sm (fun k => termS X rs cs i k) C.length) i ∧ sm (fun i => sm (fun k => termS X rs cs i k) C.length) i ≤ 192 := fun i hi => by
    have h1 := sm_bound (f := fun i => sm (fun k => termS X rs cs i k) C.length) (c := 48) (n := i) fun q hq => (b4 q _ (by omega) (Nat.le_refl _)).2
    have h2 := sm_bound' (f := fun i => sm (fun k => termS X rs cs i k) C.length) (c := -48) (n := i) fun q hq => (b4 q _ (by omega) (Nat.le_refl _)).1
    omega
   generalize hM : 2 ^ C.length = M at hlt2 hlt2' hbb pm ⊢
   ((try first | apply tr_v tk | apply ot_v tk); (conv => whnf); (repeat ((first | ((first | apply VStop.mk | apply VCall.stop); (first | (refine ot_shl1 rfl rfl rfl rfl rfl (by omega) ?_; rw [hM])); try first | apply ot_v tk | apply tr_v tk) | (apply VLd.mk; (focus ((repeat (first | ((with_reducible apply ld_blk); exact rfl) | (with_reducible apply ld_skip))); done))) | apply VBr.t | (apply v_t; omega)); (conv => whnf))); try (first | apply VStop.mk | apply VCall.stop))
   refine v_loop (fun gm3 ds ts A' => ds = [] ∧ ∃ j : Nat, j + gm3 = R.length ∧ A' = [.blk g2 37 [.int .i64 0, .int .i64 0], .blk g1 25 [.slice (some ⟨rb, ro, none⟩) R.length rc, .slice (some ⟨cb, co, none⟩) C.length cc, .slice XA X.length xc]] ∧ ts = [(1, .pointer (some ⟨g1, 0, none⟩)), (2, .pointer (some ⟨g2, 0, none⟩)), (4, .int .i64 lo), (5, .int .i64 hi), (6, .int .i64 (a : Int)), (7, .int .i64 (b : Int)), (8, .int .i64 (wS (fun i => !rs i) (fun i => (rAt R i).1) j)), (9, .int .i64 (wS rs (fun i => (rAt R i).2) j)), (10, .int .i64 (j : Int))]) R.length
    (l := [(1, _), (2, _), (4, _), (5, _), (6, _), (7, _), (8, .int .i64 (wS (fun i => !rs i) (fun i => (rAt R i).1) 0)), (9, .int .i64 (wS rs (fun i => (rAt R i).2) 0)), (10, _)]) (B := _) ?_ (List.Sublist.refl _) ⟨rfl, 0, by omega, rfl, rfl⟩ ?_
   ·exact ⟨rfl, rfl, rfl, rfl, rfl, rfl, rfl, rfl, rfl, trivial⟩
   rintro gm3 ds ts A' ⟨rfl, j, hj, rfl, rfl⟩
   by_cases hj1 : j < R.length
   ·have hc := hrr j hj1
    have q1 := w1 j (by omega)
    have q2 := w2 j (by omega)
    have q3 := hV.rR hj1
    have st1 := wS_step (fun i => !rs i) (fun i => (rAt R i).1) j
    have st2 := wS_step rs (fun i => (rAt R i).2) j
    rcases hba j with ⟨e1, e2⟩ | ⟨e1, e2⟩
    ·rw [e2] at st1 st2
     simp only [Bool.not_true, Bool.not_false, Bool.false_eq_true, if_true, if_false, Int.add_zero] at st1 st2
     ((try first | apply tr_v tk | apply ot_v tk); (conv => whnf); (repeat ((first | ((first | apply VStop.mk | apply VCall.stop); (first | (refine ot_shr rfl rfl rfl rfl rfl (by show _ ≤ 64; omega) ?_) | (refine ot_and1 rfl rfl rfl rfl rfl (Nat.lt_of_le_of_lt (Nat.div_le_self _ _) (by show _ < 2 ^ 64; omega)) wrap_small (by decide) ?_; rw [e1])); try first | apply ot_v tk | apply tr_v tk) | (apply VIx.mk (j := j); exact rfl; omega) | (apply VLd.mk; first | exact (hc _).1 | exact (hc _).2) | (apply VLd.mk; (focus ((repeat (first | ((with_reducible apply ld_blk); exact rfl) | (with_reducible apply ld_skip))); done))) | (apply VRng.mk; omega) | apply VBr.t | (apply v_t; omega)); (conv => whnf))); try (first | apply VStop.mk | apply VCall.stop))
     exact v_rnd (gm3 - 1) (by omega) (l := [(1, _), (2, _), (4, _), (5, _), (6, _), (7, _), (8, .int .i64 (wS (fun i => !rs i) (fun i => (rAt R i).1) (j + 1))), (9, .int .i64 (wS rs (fun i => (rAt R i).2) (j + 1))), (10, _)]) (B := _) ⟨rfl, rfl, rfl, rfl, rfl, rfl, by show some _ = some _; rw [st1]; first | done | exact congrArg some (congrArg _ (by omega)), by show some _ = some _; rw [st2]; first | done | exact congrArg some (congrArg _ (by omega)), rfl, trivial⟩ (List.Sublist.refl _) ⟨rfl, j + 1, by omega, rfl, rfl⟩
    ·rw [e2] at st1 st2
     simp only [Bool.not_true, Bool.not_false, Bool.false_eq_true, if_true, if_false, Int.add_zero] at st1 st2
     ((try first | apply tr_v tk | apply ot_v tk); (conv => whnf); (repeat ((first | ((first | apply VStop.mk | apply VCall.stop); (first | (refine ot_shr rfl rfl rfl rfl rfl (by show _ ≤ 64; omega) ?_) | (refine ot_and1 rfl rfl rfl rfl rfl (Nat.lt_of_le_of_lt (Nat.div_le_self _ _) (by show _ < 2 ^ 64; omega)) wrap_small (by decide) ?_; rw [e1])); try first | apply ot_v tk | apply tr_v tk) | (apply VIx.mk (j := j); exact rfl; omega) | (apply VLd.mk; first | exact (hc _).1 | exact (hc _).2) | (apply VLd.mk; (focus ((repeat (first | ((with_reducible apply ld_blk); exact rfl) | (with_reducible apply ld_skip))); done))) | (apply VRng.mk; omega) | apply VBr.t | apply VBr.f | (apply v_t; omega) | (apply v_f; omega)); (conv => whnf))); try (first | apply VStop.mk | apply VCall.stop))
     exact v_rnd (gm3 - 1) (by omega) (l := [(1, _), (2, _), (4, _), (5, _), (6, _), (7, _), (8, .int .i64 (wS (fun i => !rs i) (fun i => (rAt R i).1) (j + 1))), (9, .int .i64 (wS rs (fun i => (rAt R i).2) (j + 1))), (10, _)]) (B := _) ⟨rfl, rfl, rfl, rfl, rfl, rfl, by show some _ = some _; rw [st1]; first | done | exact congrArg some (congrArg _ (by omega)), by show some _ = some _; rw [st2]; first | done | exact congrArg some (congrArg _ (by omega)), rfl, trivial⟩ (List.Sublist.refl _) ⟨rfl, j + 1, by omega, rfl, rfl⟩
   obtain rfl : j = R.length := by omega
   have z1 := w1 _ (Nat.le_refl _)
   have z2 := w2 _ (Nat.le_refl _)
   generalize wS (fun i => !rs i) (fun i => (rAt R i).1) R.length = N1 at hneed z1 ⊢
   generalize wS rs (fun i => (rAt R i).2) R.length = C1 at hcan z2 ⊢
   clear hj hj1
   ((try first | apply tr_v tk | apply ot_v tk); (conv => whnf); (repeat ((first | (apply VLd.mk; (focus ((repeat (first | ((with_reducible apply ld_blk); exact rfl) | (with_reducible apply ld_skip))); done))) | apply VBr.f | (apply v_f; omega)); (conv => whnf))); try (first | apply VStop.mk | apply VCall.stop))
   refine v_loop (fun gm3 ds ts A' => ds = [] ∧ ∃ j : Nat, j + gm3 = C.length ∧ A' = [.blk g2 37 [.int .i64 0, .int .i64 0], .blk g1 25 [.slice (some ⟨rb, ro, none⟩) R.length rc, .slice (some ⟨cb, co, none⟩) C.length cc, .slice XA X.length xc]] ∧ ts = [(1, .pointer (some ⟨g1, 0, none⟩)), (2, .pointer (some ⟨g2, 0, none⟩)), (4, .int .i64 lo), (5, .int .i64 hi), (6, .int .i64 (a : Int)), (7, .int .i64 (b : Int)), (8, .int .i64 (N1 + wS cs (fun k => (rAt C k).1) j)), (9, .int .i64 (C1 + wS (fun k => !cs k) (fun k => (rAt C k).2) j)), (11, .int .i64 (j : Int))]) C.length
    (l := [(1, _), (2, _), (4, _), (5, _), (6, _), (7, _), (8, .int .i64 (N1 + wS cs (fun k => (rAt C k).1) 0)), (9, .int .i64 (C1 + wS (fun k => !cs k) (fun k => (rAt C k).2) 0)), (11, _)]) (B := _) ?_ (List.Sublist.refl _) ⟨rfl, 0, by omega, rfl, rfl⟩ ?_
   ·exact ⟨rfl, rfl, rfl, rfl, rfl, rfl, by show some _ = some _; rw [show N1 + wS cs (fun k => (rAt C k).1) 0 = N1 from Int.add_zero _], by show some _ = some _; rw [show C1 + wS (fun k => !cs k) (fun k => (rAt C k).2) 0 = C1 from Int.add_zero _], rfl, trivial⟩
   rintro gm3 ds ts A' ⟨rfl, j, hj, rfl, rfl⟩
   by_cases hj1 : j < C.length
   ·have hc := hcr j hj1
    have q1 := w3 j (by omega)
    have q2 := w4 j (by omega)
    have q3 := hV.rC hj1
    have st1 := wS_step cs (fun k => (rAt C k).1) j
    have st2 := wS_step (fun k => !cs k) (fun k => (rAt C k).2) j
    rcases hbb2 j with ⟨e1, e2⟩ | ⟨e1, e2⟩
    ·rw [e2] at st1 st2
     simp only [Bool.not_true, Bool.not_false, Bool.false_eq_true, if_true, if_false, Int.add_zero] at st1 st2
     ((try first | apply tr_v tk | apply ot_v tk); (conv => whnf); (repeat ((first | ((first | apply VStop.mk | apply VCall.stop); (first | (refine ot_shr rfl rfl rfl rfl rfl (by show _ ≤ 64; omega) ?_) | (refine ot_and1 rfl rfl rfl rfl rfl (Nat.lt_of_le_of_lt (Nat.div_le_self _ _) (by show _ < 2 ^ 64; omega)) wrap_small (by decide) ?_; rw [e1])); try first | apply ot_v tk | apply tr_v tk) | (apply VIx.mk (j := j); exact rfl; omega) | (apply VLd.mk; first | exact (hc _).1 | exact (hc _).2) | (apply VLd.mk; (focus ((repeat (first | ((with_reducible apply ld_blk); exact rfl) | (with_reducible apply ld_skip))); done))) | (apply VRng.mk; omega) | apply VBr.t | (apply v_t; omega)); (conv => whnf))); try (first | apply VStop.mk | apply VCall.stop))
     exact v_rnd (gm3 - 1) (by omega) (l := [(1, _), (2, _), (4, _), (5, _), (6, _), (7, _), (8, .int .i64 (N1 + wS cs (fun k => (rAt C k).1) (j + 1))), (9, .int .i64 (C1 + wS (fun k => !cs k) (fun k => (rAt C k).2) (j + 1))), (11, _)]) (B := _) ⟨rfl, rfl, rfl, rfl, rfl, rfl, by show some _ = some _; rw [st1]; first | done | exact congrArg some (congrArg _ (by omega)), by show some _ = some _; rw [st2]; first | done | exact congrArg some (congrArg _ (by omega)), rfl, trivial⟩ (List.Sublist.refl _) ⟨rfl, j + 1, by omega, rfl, rfl⟩
    ·rw [e2] at st1 st2
     simp only [Bool.not_true, Bool.not_false, Bool.false_eq_true, if_true, if_false, Int.add_zero] at st1 st2
     ((try first | apply tr_v tk | apply ot_v tk); (conv => whnf); (repeat ((first | ((first | apply VStop.mk | apply VCall.stop); (first | (refine ot_shr rfl rfl rfl rfl rfl (by show _ ≤ 64; omega) ?_) | (refine ot_and1 rfl rfl rfl rfl rfl (Nat.lt_of_le_of_lt (Nat.div_le_self _ _) (by show _ < 2 ^ 64; omega)) wrap_small (by decide) ?_; rw [e1])); try first | apply ot_v tk | apply tr_v tk) | (apply VIx.mk (j := j); exact rfl; omega) | (apply VLd.mk; first | exact (hc _).1 | exact (hc _).2) | (apply VLd.mk; (focus ((repeat (first | ((with_reducible apply ld_blk); exact rfl) | (with_reducible apply ld_skip))); done))) | (apply VRng.mk; omega) | apply VBr.t | apply VBr.f | (apply v_t; omega) | (apply v_f; omega)); (conv => whnf))); try (first | apply VStop.mk | apply VCall.stop))
     exact v_rnd (gm3 - 1) (by omega) (l := [(1, _), (2, _), (4, _), (5, _), (6, _), (7, _), (8, .int .i64 (N1 + wS cs (fun k => (rAt C k).1) (j + 1))), (9, .int .i64 (C1 + wS (fun k => !cs k) (fun k => (rAt C k).2) (j + 1))), (11, _)]) (B := _) ⟨rfl, rfl, rfl, rfl, rfl, rfl, by show some _ = some _; rw [st1]; first | done | exact congrArg some (congrArg _ (by omega)), by show some _ = some _; rw [st2]; first | done | exact congrArg some (congrArg _ (by omega)), rfl, trivial⟩ (List.Sublist.refl _) ⟨rfl, j + 1, by omega, rfl, rfl⟩
   obtain rfl : j = C.length := by omega
   have z3 := w3 _ (Nat.le_refl _)
   have z4 := w4 _ (Nat.le_refl _)
   generalize hN2 : N1 + wS cs (fun k => (rAt C k).1) C.length = N2 at hneed ⊢
   generalize hC2 : C1 + wS (fun k => !cs k) (fun k => (rAt C k).2) C.length = C2 at hcan ⊢
   have z5 : 0 ≤ N2 ∧ N2 ≤ 384 ∧ 0 ≤ C2 ∧ C2 ≤ 384 := by omega
   clear hj hj1
   ((try first | apply tr_v tk | apply ot_v tk); (conv => whnf); (repeat ((first | (apply VLd.mk; (focus ((repeat (first | ((with_reducible apply ld_blk); exact rfl) | (with_reducible apply ld_skip))); done))) | apply VBr.f | (apply v_f; omega)); (conv => whnf))); try (first | apply VStop.mk | apply VCall.stop))
   refine v_loop (fun gm3 ds ts A' => ds = [] ∧ ∃ i : Nat, i + gm3 = R.length ∧ A' = [.blk g2 37 [.int .i64 0, .int .i64 0], .blk g1 25 [.slice (some ⟨rb, ro, none⟩) R.length rc, .slice (some ⟨cb, co, none⟩) C.length cc, .slice XA X.length xc]] ∧ ts = [(1, .pointer (some ⟨g1, 0, none⟩)), (2, .pointer (some ⟨g2, 0, none⟩)), (4, .int .i64 lo), (5, .int .i64 hi), (6, .int .i64 (a : Int)), (7, .int .i64 (b : Int)), (8, .int .i64 (N2 + sm (fun i => sm (fun k => termS X rs cs i k) C.length) i)), (9, .int .i64 (C2 - sm (fun i => sm (fun k => termS X rs cs i k) C.length) i)), (12, .int .i64 (i : Int))]) R.length
    (l := [(1, _), (2, _), (4, _), (5, _), (6, _), (7, _), (8, .int .i64 (N2 + sm (fun i => sm (fun k => termS X rs cs i k) C.length) 0)), (9, .int .i64 (C2 - sm (fun i => sm (fun k => termS X rs cs i k) C.length) 0)), (12, _)]) (B := _) ?_ (List.Sublist.refl _) ⟨rfl, 0, by omega, rfl, rfl⟩ ?_
   ·exact ⟨rfl, rfl, rfl, rfl, rfl, rfl, by show some _ = some _; rw [show N2 + sm (fun i => sm (fun k => termS X rs cs i k) C.length) 0 = N2 from Int.add_zero _], by show some _ = some _; rw [show C2 - sm (fun i => sm (fun k => termS X rs cs i k) C.length) 0 = C2 from Int.sub_zero _], rfl, trivial⟩
   rintro gm3 ds ts A' ⟨rfl, i, hi3, rfl, rfl⟩
   by_cases hi1 : i < R.length
   ·have q1 := b6 i (by omega)
    have hst : sm (fun i => sm (fun k => termS X rs cs i k) C.length) (i + 1) = sm (fun i => sm (fun k => termS X rs cs i k) C.length) i + sm (fun k => termS X rs cs i k) C.length := rfl
    generalize sm (fun i => sm (fun k => termS X rs cs i k) C.length) i = S2 at q1 hst ⊢
    ((try first | apply tr_v tk | apply ot_v tk); (conv => whnf); (repeat ((first | (apply VLd.mk; (focus ((repeat (first | ((with_reducible apply ld_blk); exact rfl) | (with_reducible apply ld_skip))); done))) | apply VBr.t | (apply v_t; omega)); (conv => whnf))); try (first | apply VStop.mk | apply VCall.stop))
    refine v_loop (fun gm4 ds ts A' => ds = [] ∧ ∃ k : Nat, k + gm4 = C.length ∧ A' = [.blk g2 37 [.int .i64 0, .int .i64 0], .blk g1 25 [.slice (some ⟨rb, ro, none⟩) R.length rc, .slice (some ⟨cb, co, none⟩) C.length cc, .slice XA X.length xc]] ∧ ts = [(1, .pointer (some ⟨g1, 0, none⟩)), (2, .pointer (some ⟨g2, 0, none⟩)), (4, .int .i64 lo), (5, .int .i64 hi), (6, .int .i64 (a : Int)), (7, .int .i64 (b : Int)), (8, .int .i64 (N2 + S2 + sm (fun k => termS X rs cs i k) k)), (9, .int .i64 (C2 - S2 - sm (fun k => termS X rs cs i k) k)), (12, .int .i64 (i : Int)), (13, .int .i64 (k : Int))]) C.length
     (l := [(1, _), (2, _), (4, _), (5, _), (6, _), (7, _), (8, .int .i64 (N2 + S2 + sm (fun k => termS X rs cs i k) 0)), (9, .int .i64 (C2 - S2 - sm (fun k => termS X rs cs i k) 0)), (12, _), (13, _)]) (B := _) ?_ (List.Sublist.refl _) ⟨rfl, 0, by omega, rfl, rfl⟩ ?_
    ·exact ⟨rfl, rfl, rfl, rfl, rfl, rfl, by show some _ = some _; rw [show N2 + S2 + sm (fun k => termS X rs cs i k) 0 = N2 + S2 from Int.add_zero _], by show some _ = some _; rw [show C2 - S2 - sm (fun k => termS X rs cs i k) 0 = C2 - S2 from Int.sub_zero _], rfl, rfl, trivial⟩
    rintro gm4 ds ts A' ⟨rfl, k, hk4, rfl, rfl⟩
    by_cases hk1 : k < C.length
    ·have q2 := b4 i k hi1 (by omega)
     have q3 := hV.rX hi1 hk1
     obtain ⟨T, hTe⟩ : ∃ T, T = termS X rs cs i k := ⟨_, rfl⟩
     have hst2 : sm (fun k => termS X rs cs i k) (k + 1) = sm (fun k => termS X rs cs i k) k + T := by rw [hTe]; rfl
     generalize sm (fun k => termS X rs cs i k) k = S3 at q2 hst2 ⊢
     obtain ⟨xb, xo, B, o, c, rfl, k1, k2⟩ := key i k hi1 hk1
     unfold termS at hTe
     rcases hba i with ⟨e1, e2⟩ | ⟨e1, e2⟩ <;> rcases hbb2 k with ⟨f1, f2⟩ | ⟨f1, f2⟩
     all_goals rw [e2, f2] at hTe
     ·rw [if_neg (by simp), if_neg (by simp)] at hTe
      subst hTe
      ((try first | apply tr_v tk | apply ot_v tk); (conv => whnf); (repeat ((first | ((first | apply VStop.mk | apply VCall.stop); (first | refine tr_region_draw (id := 29) (by kernel_rfl) [0, 1, 2, 3, 4, 5, 6, 7, 8, 9, 10, 11] [.rd, .rd, .rd, .rd, .rd, .rd, .rd, .rd, .rd, .rd, .rd, .rd] rfl (by kernel_rfl) ?_ | (refine ot_shr rfl rfl rfl rfl rfl (by show _ ≤ 64; omega) ?_) | (refine ot_and1 rfl rfl rfl rfl rfl (Nat.lt_of_le_of_lt (Nat.div_le_self _ _) (by show _ < 2 ^ 64; omega)) wrap_small (by decide) ?_; first | rw [e1] | rw [f1])); try first | apply ot_v tk | apply tr_v tk) | (apply VLd.mk; (focus ((repeat (first | ((with_reducible apply ld_blk); exact rfl) | (with_reducible apply ld_skip))); done))) | (apply VRng.mk; omega) | apply VBr.t | apply VBr.f | (apply v_t; omega)); (conv => whnf))); try (first | apply VStop.mk | apply VCall.stop))
      exact v_rnd (gm4 - 1) (by omega) (l := [(1, _), (2, _), (4, _), (5, _), (6, _), (7, _), (8, .int .i64 (N2 + S2 + sm (fun k => termS X rs cs i k) (k + 1))), (9, .int .i64 (C2 - S2 - sm (fun k => termS X rs cs i k) (k + 1))), (12, _), (13, _)]) (B := _) ⟨rfl, rfl, rfl, rfl, rfl, rfl, by show some _ = some _; rw [hst2]; first | done | exact congrArg some (congrArg _ (by omega)), by show some _ = some _; rw [hst2]; first | done | exact congrArg some (congrArg _ (by omega)), rfl, rfl, trivial⟩ (List.Sublist.refl _) ⟨rfl, k + 1, by omega, rfl, rfl⟩
     ·rw [if_pos ⟨rfl, rfl⟩] at hTe
      subst hTe
      ((try first | apply tr_v tk | apply ot_v tk); (conv => whnf); (repeat ((first | ((first | apply VStop.mk | apply VCall.stop); (first | refine tr_region_draw (id := 29) (by kernel_rfl) [0, 1, 2, 3, 4, 5, 6, 7, 8, 9, 10, 11] [.rd, .rd, .rd, .rd, .rd, .rd, .rd, .rd, .rd, .rd, .rd, .rd] rfl (by kernel_rfl) ?_ | refine tr_region_draw (id := 31) (by kernel_rfl) [0, 1, 2, 3, 4, 5, 6, 7, 8, 9, 10, 11, 12, 13, 14, 15, 16, 17, 18, 19, 20, 21, 22, 23] [.rd, .rd, .rd, .rd, .rd, .rd, .rd, .rd, .rd, .rd, .rd, .rd, .rd, .rd, .rd, .rd, .rd, .rd, .rd, .rd, .rd, .rd, .rd, .rd] rfl (by kernel_rfl) ?_ | (refine ot_shr rfl rfl rfl rfl rfl (by show _ ≤ 64; omega) ?_) | (refine ot_and1 rfl rfl rfl rfl rfl (Nat.lt_of_le_of_lt (Nat.div_le_self _ _) (by show _ < 2 ^ 64; omega)) wrap_small (by decide) ?_; first | rw [e1] | rw [f1])); try first | apply ot_v tk | apply tr_v tk) | (apply VIx.mk (j := i); exact rfl; omega) | (apply VIx.mk (j := k); exact rfl; omega) | (apply VLd.mk; first | exact k1 _ | exact (k2 _).1 | exact (k2 _).2) | (apply VLd.mk; (focus ((repeat (first | ((with_reducible apply ld_blk); exact rfl) | (with_reducible apply ld_skip))); done))) | (apply VRng.mk; omega) | apply VBr.t | apply VBr.f | (apply v_t; omega) | (apply v_f; omega)); (conv => whnf))); try (first | apply VStop.mk | apply VCall.stop))
      exact v_rnd (gm4 - 1) (by omega) (l := [(1, _), (2, _), (4, _), (5, _), (6, _), (7, _), (8, .int .i64 (N2 + S2 + sm (fun k => termS X rs cs i k) (k + 1))), (9, .int .i64 (C2 - S2 - sm (fun k => termS X rs cs i k) (k + 1))), (12, _), (13, _)]) (B := _) ⟨rfl, rfl, rfl, rfl, rfl, rfl, by show some _ = some _; rw [hst2]; first | done | exact congrArg some (congrArg _ (by omega)), by show some _ = some _; rw [hst2]; first | done | exact congrArg some (congrArg _ (by omega)), rfl, rfl, trivial⟩ (List.Sublist.refl _) ⟨rfl, k + 1, by omega, rfl, rfl⟩
     ·rw [if_neg (by simp), if_pos ⟨rfl, rfl⟩] at hTe
      subst hTe
      ((try first | apply tr_v tk | apply ot_v tk); (conv => whnf); (repeat ((first | ((first | apply VStop.mk | apply VCall.stop); (first | refine tr_region_draw (id := 29) (by kernel_rfl) [0, 1, 2, 3, 4, 5, 6, 7, 8, 9, 10, 11] [.rd, .rd, .rd, .rd, .rd, .rd, .rd, .rd, .rd, .rd, .rd, .rd] rfl (by kernel_rfl) ?_ | refine tr_region_draw (id := 33) (by kernel_rfl) [0, 1, 2, 3, 4, 5, 6, 7, 8, 9, 10, 11, 12, 13, 14, 15, 16, 17, 18, 19, 20, 21, 22, 23] [.rd, .rd, .rd, .rd, .rd, .rd, .rd, .rd, .rd, .rd, .rd, .rd, .rd, .rd, .rd, .rd, .rd, .rd, .rd, .rd, .rd, .rd, .rd, .rd] rfl (by kernel_rfl) ?_ | (refine ot_shr rfl rfl rfl rfl rfl (by show _ ≤ 64; omega) ?_) | (refine ot_and1 rfl rfl rfl rfl rfl (Nat.lt_of_le_of_lt (Nat.div_le_self _ _) (by show _ < 2 ^ 64; omega)) wrap_small (by decide) ?_; first | rw [e1] | rw [f1])); try first | apply ot_v tk | apply tr_v tk) | (apply VIx.mk (j := i); exact rfl; omega) | (apply VIx.mk (j := k); exact rfl; omega) | (apply VLd.mk; first | exact k1 _ | exact (k2 _).1 | exact (k2 _).2) | (apply VLd.mk; (focus ((repeat (first | ((with_reducible apply ld_blk); exact rfl) | (with_reducible apply ld_skip))); done))) | (apply VRng.mk; omega) | apply VBr.t | apply VBr.f | (apply v_t; omega) | (apply v_f; omega)); (conv => whnf))); try (first | apply VStop.mk | apply VCall.stop))
      exact v_rnd (gm4 - 1) (by omega) (l := [(1, _), (2, _), (4, _), (5, _), (6, _), (7, _), (8, .int .i64 (N2 + S2 + sm (fun k => termS X rs cs i k) (k + 1))), (9, .int .i64 (C2 - S2 - sm (fun k => termS X rs cs i k) (k + 1))), (12, _), (13, _)]) (B := _) ⟨rfl, rfl, rfl, rfl, rfl, rfl, by show some _ = some _; rw [hst2]; first | done | exact congrArg some (congrArg _ (by omega)), by show some _ = some _; rw [hst2]; first | done | exact congrArg some (congrArg _ (by omega)), rfl, rfl, trivial⟩ (List.Sublist.refl _) ⟨rfl, k + 1, by omega, rfl, rfl⟩
     ·rw [if_neg (by simp), if_neg (by simp)] at hTe
      subst hTe
      ((try first | apply tr_v tk | apply ot_v tk); (conv => whnf); (repeat ((first | ((first | apply VStop.mk | apply VCall.stop); (first | refine tr_region_draw (id := 29) (by kernel_rfl) [0, 1, 2, 3, 4, 5, 6, 7, 8, 9, 10, 11] [.rd, .rd, .rd, .rd, .rd, .rd, .rd, .rd, .rd, .rd, .rd, .rd] rfl (by kernel_rfl) ?_ | (refine ot_shr rfl rfl rfl rfl rfl (by show _ ≤ 64; omega) ?_) | (refine ot_and1 rfl rfl rfl rfl rfl (Nat.lt_of_le_of_lt (Nat.div_le_self _ _) (by show _ < 2 ^ 64; omega)) wrap_small (by decide) ?_; first | rw [e1] | rw [f1])); try first | apply ot_v tk | apply tr_v tk) | (apply VLd.mk; (focus ((repeat (first | ((with_reducible apply ld_blk); exact rfl) | (with_reducible apply ld_skip))); done))) | (apply VRng.mk; omega) | apply VBr.t | apply VBr.f | (apply v_t; omega) | (apply v_f; omega)); (conv => whnf))); try (first | apply VStop.mk | apply VCall.stop))
      exact v_rnd (gm4 - 1) (by omega) (l := [(1, _), (2, _), (4, _), (5, _), (6, _), (7, _), (8, .int .i64 (N2 + S2 + sm (fun k => termS X rs cs i k) (k + 1))), (9, .int .i64 (C2 - S2 - sm (fun k => termS X rs cs i k) (k + 1))), (12, _), (13, _)]) (B := _) ⟨rfl, rfl, rfl, rfl, rfl, rfl, by show some _ = some _; rw [hst2]; first | done | exact congrArg some (congrArg _ (by omega)), by show some _ = some _; rw [hst2]; first | done | exact congrArg some (congrArg _ (by omega)), rfl, rfl, trivial⟩ (List.Sublist.refl _) ⟨rfl, k + 1, by omega, rfl, rfl⟩
    obtain rfl : k = C.length := by omega
    ((try first | apply tr_v tk | apply ot_v tk); (conv => whnf); (repeat ((first | (apply VLd.mk; (focus ((repeat (first | ((with_reducible apply ld_blk); exact rfl) | (with_reducible apply ld_skip))); done))) | (apply VRng.mk; omega) | apply VBr.f | (apply v_f; omega)); (conv => whnf))); try (first | apply VStop.mk | apply VCall.stop))
    exact v_rnd (gm3 - 1) (by omega) (l := [(1, _), (2, _), (4, _), (5, _), (6, _), (7, _), (8, .int .i64 (N2 + sm (fun i => sm (fun k => termS X rs cs i k) C.length) (i + 1))), (9, .int .i64 (C2 - sm (fun i => sm (fun k => termS X rs cs i k) C.length) (i + 1))), (12, _)]) (B := _) ⟨rfl, rfl, rfl, rfl, rfl, rfl, by show some _ = some _; rw [hst]; first | done | exact congrArg some (congrArg _ (by omega)), by show some _ = some _; rw [hst]; first | done | exact congrArg some (congrArg _ (by omega)), rfl, trivial⟩ (List.Sublist.refl _) ⟨rfl, i + 1, by omega, rfl, rfl⟩
   obtain rfl : i = R.length := by omega
   have z6 := b6 _ (Nat.le_refl _)
   generalize sm (fun i => sm (fun k => termS X rs cs i k) C.length) R.length = S at hneed hcan z6 ⊢
   clear hi3 hi1 b6 b4 b3 w1 w2 w3 w4 z1 z2 z3 z4
   subst hrs hcs
   generalize hnv : N2 + S = nv at hneed ⊢
   generalize hcv : C2 - S = cv at hcan ⊢
   ((try first | apply tr_v tk | apply ot_v tk); (conv => whnf); (repeat ((first | (apply VLd.mk; (focus ((repeat (first | ((with_reducible apply ld_blk); exact rfl) | (with_reducible apply ld_skip))); done))) | (apply VRng.mk; omega) | apply VBr.f | (apply v_f; omega)); (conv => whnf))); try (first | apply VStop.mk | apply VCall.stop))
   have l1 : lo ≤ (if nv > lo then nv else lo) ∧ nv ≤ (if nv > lo then nv else lo) ∧ ((if nv > lo then nv else lo) = nv ∨ (if nv > lo then nv else lo) = lo) := by split <;> omega
   have l2 : (if cv < hi then cv else hi) ≤ hi ∧ (if cv < hi then cv else hi) ≤ cv ∧ ((if cv < hi then cv else hi) = cv ∨ (if cv < hi then cv else hi) = hi) := by split <;> omega
   generalize (if nv > lo then nv else lo) = lo2 at l1 ⊢
   generalize (if cv < hi then cv else hi) = hi2 at l2 ⊢
   subst hM
   obtain ⟨i1, i2, i3, i4, i5, i6⟩ := hin
   have j1 : 0 ≤ lo2 ∧ lo2 ≤ 1000 ∧ hi2 ≤ 192 ∧ -1000 ≤ hi2 := by
    clear i5 i6
    omega
   refine v_rnd (gm2 - 1) (by omega) (l := [(1, _), (2, _), (4, _), (5, _), (6, _), (7, _)]) (B := _) ⟨rfl, rfl, rfl, rfl, rfl, rfl, trivial⟩ (List.Sublist.refl _) ⟨rfl, b + 1, lo2, hi2, by omega, ⟨j1.1, j1.2.1, j1.2.2.1, j1.2.2.2, ?_, ?_⟩, fun a' b' h1 h2 => ?_, fun b' h1 => ?_, rfl, rfl⟩
   ·rcases l1.2.2 with e | e
    ·exact .inr ⟨_, _, by rw [e, ← hneed]⟩
    ·rw [e]; exact i5
   ·rcases l2.2.2 with e | e
    ·exact .inr ⟨_, _, by rw [e, ← hcan]⟩
    ·rw [e]; exact i6
   ·have := hd a' b' h1 h2
    omega
   ·by_cases e : b' = b
    ·rw [e, hneed, hcan]; omega
    ·have := hd2 b' (by omega)
     omega
  ·have hnl : ¬(b : Int) < ((2 ^ C.length : Nat) : Int) := by omega
   have hall : ∀ a' b', a' < a + 1 → b' < 2 ^ C.length → needA R C X a'.testBit b'.testBit ≤ lo ∧ hi ≤ canA R C X a'.testBit b'.testBit := fun a' b' h1 h2 => by
    by_cases e : a' = a
    ·rw [e]; exact hd2 b' (by omega)
    ·exact hd a' b' (by omega) h2
   generalize hM : 2 ^ C.length = M at hnl hall pm ⊢
   ((try first | apply tr_v tk | apply ot_v tk); (conv => whnf); (repeat ((first | ((first | apply VStop.mk | apply VCall.stop); (first | (refine ot_shl1 rfl rfl rfl rfl rfl (by omega) ?_; rw [hM])); try first | apply ot_v tk | apply tr_v tk) | (apply VLd.mk; (focus ((repeat (first | ((with_reducible apply ld_blk); exact rfl) | (with_reducible apply ld_skip))); done))) | (apply VRng.mk; omega) | apply VBr.f | (apply v_f; omega)); (conv => whnf))); try (first | apply VStop.mk | apply VCall.stop))
   exact v_rnd (gm - 1) (by omega) (l := [(1, _), (2, _), (4, _), (5, _), (6, _)]) (B := _) ⟨rfl, rfl, rfl, rfl, rfl, trivial⟩ (List.Sublist.refl _) ⟨rfl, a + 1, lo, hi, by omega, hin, hall, rfl, rfl⟩
 ·have hnl : ¬(a : Int) < ((2 ^ R.length : Nat) : Int) := by omega
  have hq : allR R C X = (lo, hi) := by
   obtain ⟨i1, i2, i3, i4, i5, i6⟩ := hin
   have hb : ∀ rs cs, needA R C X rs cs ≤ lo ∧ hi ≤ canA R C X rs cs := fun rs cs => by
    have := hd (natOf rs R.length) (natOf cs C.length) (by have := natOf_lt rs R.length; omega) (natOf_lt _ _)
    have e := needA_congr (R := R) (C := C) (X := X) (rs := (natOf rs R.length).testBit) (cs := (natOf cs C.length).testBit) (rs' := rs) (cs' := cs) (fun i hi => natOf_bit rs hi) (fun k hk => natOf_bit cs hk)
    rwa [e.1, e.2] at this
   exact all_is hV hH i1 i3 (fun rs cs => (hb rs cs).1) (fun rs cs => (hb rs cs).2) i5 i6
  rw [hq]
  generalize hN : 2 ^ R.length = N at hnl
  ((try first | apply tr_v tk | apply ot_v tk); (conv => whnf); (repeat ((first | ((first | apply VStop.mk | apply VCall.stop); (first | (refine ot_shl1 rfl rfl rfl rfl rfl (by omega) ?_; rw [hN])); try first | apply ot_v tk | apply tr_v tk) | (apply VLd.mk; (focus ((repeat (first | ((with_reducible apply ld_blk); exact rfl) | (with_reducible apply ld_skip))); done))) | apply VBr.f | (apply v_f; omega) | (apply VSt.mk; (focus ((repeat (first | (with_reducible exact At.here) | (with_reducible apply At.there))); done)); exact rfl)); (conv => whnf))); try (first | apply VStop.mk | apply VCall.stop))
  (apply VRet.mk)
  refine ret2 (by first | exact .inl rfl | exact .inr rfl) rfl (by exact rv_row tk rfl rfl rfl (by first | exact cells_blk_all (by (repeat (first | exact List.Mem.head _ | assumption | refine List.Mem.tail _ ?_))) | exact cells_row0 (by (repeat (first | exact List.Mem.head _ | assumption | refine List.Mem.tail _ ?_)))) rfl) (by exact rv_tmp rfl) ?_
  exact fun w h => ⟨rfl, h.base⟩
end
end Go.Proofs.Ytalcccgialpjgaa
