/- Around: lemmas for the rows of this seat. No conditions. -/
import Derived.Test.YtalcccgialpjgaaM18
import Derived.Test.YtalcccgialpjgaaN19
import Derived.Test.YtalcccgialpjgaaN27
set_option linter.all false
namespace Go.Proofs.Ytalcccgialpjgaa
open Go.RowKit
/-! ## Around -/
def mn (a b : Int) : Int := if b < a then b else a
def arS (R : List R2) (f : Nat → Int) : Nat → List R2
 | 0 => R
 | k + 1 => (arS R f k).set k (mn (f k) (rAt (arS R f k) k).1, mx (f k) (rAt (arS R f k) k).2)
theorem arS_len (R : List R2) (f : Nat → Int) : ∀ k, (arS R f k).length = R.length
 | 0 => rfl
 | k + 1 => by rw [arS, List.length_set, arS_len R f k]
theorem arS_at (R : List R2) (f : Nat → Int) : ∀ k, k ≤ R.length → ∀ j, rAt (arS R f k) j = if j < k then (mn (f j) (rAt R j).1, mx (f j) (rAt R j).2) else rAt R j
 | 0, _, j => by simp [arS]
 | k + 1, hk, j => by
  rw [arS, rAt_set _ (by rw [arS_len]; omega), arS_at R f k (by omega) j, arS_at R f k (by omega) k]
  by_cases h : j = k
  ·subst h; rw [if_pos rfl, if_neg (Nat.lt_irrefl _), if_pos (Nat.lt_succ_self _)]
  ·rw [if_neg h]
   by_cases h2 : j < k
   ·rw [if_pos h2, if_pos (by omega)]
   ·rw [if_neg h2, if_neg (by omega)]
theorem own_rg {w0 : World} {A : List Chunk} {b n c : Nat} {l : List R2} (h : .own (.slice (some ⟨b, 0, none⟩) n c) 37 2 n (rgC l) ∈ A) {k : Nat} (hk : k < l.length) : CellAt w0 A b (0 + k * 2) (.int .i64 (rAt l k).1) ∧ CellAt w0 A b (0 + k * 2 + 1) (.int .i64 (rAt l k).2) := by
 have e0 := rgC_get l k hk 0 (by omega)
 have e1 := rgC_get l k hk 1 (by omega)
 rw [Nat.zero_add]
 exact ⟨cell_own h e0, cell_own h e1⟩
/-- Numbers that fill a table. -/
structure FillN (n m : Nat) (L : List (List Int)) : Prop where
 len : L.length = n
 row : ∀ s ∈ L, s.length = m
 b : ∀ i k, i < n → k < m → 0 ≤ nAt L i k ∧ nAt L i k ≤ 20
theorem fill_rowS {n m : Nat} {L : List (List Int)} (h : FillN n m L) {i : Nat} (hi : i < n) : ∀ k, k ≤ m → 0 ≤ sm (fun k => nAt L i k) k ∧ sm (fun k => nAt L i k) k ≤ 20 * k := fun k hk => ⟨sm_nonneg fun j hj => (h.b i j hi (by omega)).1, sm_bound fun j hj => (h.b i j hi (by omega)).2⟩
theorem fill_colS {n m : Nat} {L : List (List Int)} (h : FillN n m L) {k : Nat} (hk : k < m) : ∀ i, i ≤ n → 0 ≤ sm (fun i => nAt L i k) i ∧ sm (fun i => nAt L i k) i ≤ 20 * i := fun i hi => ⟨sm_nonneg fun j hj => (h.b j k (by omega) hk).1, sm_bound fun j hj => (h.b j k (by omega) hk).2⟩
section
variable (RA : Option Addr) (rc : Nat) (CA : Option Addr) (cc : Nat) (XA : Option Addr) (xc : Nat) (R C : List R2) (X : List (List R2)) (w : World) (hT : TabR w RA CA XA R C X)
include hT
set_option maxHeartbeats 4000000 in
set_option maxRecDepth 20000 in
theorem around_any (hV : Valid R C X) (NA : Option Addr) (nc : Nat) (L : List (List Int)) (hN : NestR w 1 NA (nestI L)) (hL : FillN R.length C.length L) :
  Calls Try.prog 45 #[tabV RA rc CA cc XA xc R C X, .slice NA L.length nc] w fun e w' => ∃ x : TabX, e = .returned (tabX x (arS R (fun i => rowS L C.length i) R.length) (arS C (fun k => colS L R.length k) C.length) X) ∧ x.xs.length = X.length ∧ St w (tabCh (arS R (fun i => rowS L C.length i) R.length) (arS C (fun k => colS L R.length k) C.length) X x) w' := by
 have hn := hV.r1
 have hn4 := hV.r4
 have hm := hV.c1
 have hm4 := hV.c4
 have hxl := hV.x
 have hll := hL.len
 have hwi := fun w1 (h : TabR w1 RA CA XA R C X) => with_same RA rc CA cc XA xc R C X w1 h hV
 have hx0 : 0 < X.length := by omega
 have hxk := hV.xs _ (List.getElem_mem hx0)
 obtain ⟨xb, xo, rfl, B, c, hce, hrd⟩ := nest_gen hT.x hx0
 obtain ⟨b2, o2, rfl, _⟩ := hrd.2 (by omega)
 have k2 : ∀ Ch, CellsAt w Ch b2 (o2 + 0 * 2) [.int .i64 (xAt X 0 0).1, .int .i64 (xAt X 0 0).2] := by
  have := rg_cells hrd (k := 0) (by omega) (by omega)
  unfold xAt
  rw [List.getElem?_eq_getElem hx0, Option.getD_some]
  exact this
 obtain ⟨nb, no, rfl, _⟩ := (show ∃ xb xo, NA = some ⟨xb, xo, none⟩ ∧ True by
  obtain ⟨b, o, he, _⟩ := nest_gen hN (show 0 < L.length by omega)
  exact ⟨b, o, he, trivial⟩)
 have hnum : ∀ i k, i < R.length → k < C.length → ∃ B2 o2 c', (∀ Ch, CellAt w Ch nb (no + i * 1) (.slice (some ⟨B2, o2, none⟩) C.length c')) ∧ ∀ Ch, CellAt w Ch B2 (o2 + k * 1) (.int .i64 (nAt L i k)) := fun i k hi hk => by
  have h1 : i < L.length := by omega
  have h2 := hL.row _ (List.getElem_mem h1)
  obtain ⟨B2, o2, c', q1, q2⟩ := num_row hN h1 (by omega)
  rw [h2] at q1 q2
  exact ⟨B2, o2, c', q1, q2 k hk⟩
 unfold tabV at *
 refine fn_k Try.func45 rfl rfl (Nat.le_of_ble_eq_true rfl) (n := 109) (A := []) (St.nil (Below.refl _ _)) ?_
 refine tr_seqK ?_
 (apply tr_v tk; (conv => whnf); (repeat ((apply VNew.mk; intro g hg); (conv => whnf))); apply VStop.mk)
 revert g hg
 intro g4 hg4
 revert g hg
 intro g2 hg2
 refine tr_cut (fun x : Nat × { x : TabX // x.xs.length = X.length } => ([(1, .slice (some ⟨nb, no, none⟩) L.length nc), (2, .pointer (some ⟨g2, 0, none⟩)), (4, .pointer (some ⟨g4, 0, none⟩)), (5, .pointer (some ⟨x.1, 0, none⟩))], .own (.slice x.2.1.r.1 R.length x.2.1.r.2) 37 2 R.length (rgC R) :: .own (.slice x.2.1.c.1 C.length x.2.1.c.2) 37 2 C.length (rgC C) :: .blk x.1 25 [.slice x.2.1.r.1 R.length x.2.1.r.2, .slice x.2.1.c.1 C.length x.2.1.c.2, .slice x.2.1.x.1 X.length x.2.1.x.2] :: .blk g4 25 [.slice none 0 0, .slice none 0 0, .slice none 0 0] :: .blk g2 25 [.slice RA R.length rc, .slice CA C.length cc, .slice (some ⟨xb, xo, none⟩) X.length xc] :: .own (.slice x.2.1.x.1 X.length x.2.1.x.2) 22 1 X.length (nsVs x.2.1.xs (nestR X)) :: nsCh 37 2 x.2.1.xs (nestR X))) ?_ ?_
 ·(apply tr_v tk; (conv => whnf); (repeat ((first | (apply VStop.mk; refine tr_region_treeV (id := 1) (by kernel_rfl) [.blk g2 25 _] (by (repeat (first | exact sl0 _ | exact sl1 _ | refine sl2 _ ?_ | refine sl3 _ ?_))) [0, 1, 2, 3, 4, 5, 6] [7, 8, 9] [.rd, .rd, .rd, .rd, .rd, .rd, .rd] (fun i => [.wr, .wr, .wr, .wr, .wr, .wr, .wr, .cr, .cr, .wr].getD i .wr) _ rfl rfl (by kernel_rfl) ?_; apply ot_v tk) | (apply VIx.mk (j := 0); exact rfl; omega) | (apply VLd.mk; exact hce _) | (apply VLdN.mk; exact k2 _; exact rfl) | (apply VLd.mk; (focus ((repeat (first | ((with_reducible apply ld_blk); exact rfl) | (with_reducible apply ld_skip))); done))) | (apply VLdN.mk; (focus ((repeat (first | (with_reducible apply ldn_blk) | (with_reducible apply ldn_skip))); done)); exact rfl)); (conv => whnf))))
  refine ox2 7 8 ?_ ?_
  ·(refine ot_callT (X := TabX) (us := []) (vs := []) (fun x => tabX x R C X) (fun x => [.own (.slice x.r.1 R.length x.r.2) 37 2 R.length (rgC R), .own (.slice x.c.1 C.length x.c.2) 37 2 C.length (rgC C), .own (.slice x.x.1 X.length x.x.2) 22 1 X.length (nsVs x.xs (nestR X))]) (fun x => nsCh 37 2 x.xs (nestR X)) _ (fun x c hc => tabCh_mut (x := x) c hc) (by decide) rfl rfl rfl rfl (by kernel_rfl) (evl_of rfl) rfl (fun w1 hs => hwi w1 (hs.tab hT)) (fun x hx => ?_); refine ot_nil ?_; refine sla ?_)
   refine ox1 8 ?_
   (apply ot_v tk; (conv => whnf); (apply VNew.mk; intro g7 hg7; (conv => whnf)); refine sla ?_)
   refine ox1 9 ?_
   (apply ot_v tk; (conv => whnf); (apply VSt.mk; (focus (repeat (first | exact At.here | apply At.there)); done); exact rfl; (conv => whnf)); refine sla ?_)
   refine VT.mk (otx_end ?_)
   exact VJ.mk (g7, ⟨x, hx⟩) rfl ⟨rfl, rfl, rfl, rfl, trivial⟩ (by ((try dsimp only); (iterate 6 ((apply Pick.cons); (focus (repeat (first | exact Rem.here | apply Rem.there)); done))); exact Pick.of_sub (by (repeat (first | exact sl0 _ | exact sl1 _ | refine sl2 _ ?_ | refine sl3 _ ?_)))))
  ·(apply ot_v tk; (conv => whnf); (apply VNew.mk; intro g7 hg7; (conv => whnf)); refine sla ?_)
   refine ox1 7 ?_
   (refine ot_callT (X := TabX) (us := []) (vs := []) (fun x => tabX x R C X) (fun x => [.own (.slice x.r.1 R.length x.r.2) 37 2 R.length (rgC R), .own (.slice x.c.1 C.length x.c.2) 37 2 C.length (rgC C), .own (.slice x.x.1 X.length x.x.2) 22 1 X.length (nsVs x.xs (nestR X))]) (fun x => nsCh 37 2 x.xs (nestR X)) _ (fun x c hc => tabCh_mut (x := x) c hc) (by decide) rfl rfl rfl rfl (by kernel_rfl) (evl_of rfl) rfl (fun w1 hs => hwi w1 (hs.tab hT)) (fun x hx => ?_); refine ot_nil ?_; refine sla ?_)
   refine ox1 9 ?_
   (apply ot_v tk; (conv => whnf); (apply VSt.mk; (focus (repeat (first | exact At.here | apply At.there)); done); exact rfl; (conv => whnf)); refine sla ?_)
   refine VT.mk (otx_end ?_)
   exact VJ.mk (g7, ⟨x, hx⟩) rfl ⟨rfl, rfl, rfl, rfl, trivial⟩ (by ((try dsimp only); (iterate 6 ((apply Pick.cons); (focus (repeat (first | exact Rem.here | apply Rem.there)); done))); exact Pick.of_sub (by (repeat (first | exact sl0 _ | exact sl1 _ | refine sl2 _ ?_ | refine sl3 _ ?_)))))
 rintro ⟨g5, ⟨⟨Br, cr⟩, ⟨Bc, cc2⟩, ⟨Bx, cx⟩, xs⟩, hxs⟩
 dsimp only at hxs ⊢
 refine tr_fact (p := (∃ b, Br = some ⟨b, 0, none⟩) ∧ ∃ b, Bc = some ⟨b, 0, none⟩) (fun w' hs => ⟨own_some hs (.head _) (by omega), own_some hs (.tail _ (.head _)) (by omega)⟩) ?_
 rintro ⟨⟨br, rfl⟩, bc, rfl⟩
 generalize hD : (.own (.slice Bx X.length cx) 22 1 X.length (nsVs xs (nestR X)) :: nsCh 37 2 xs (nestR X) : List Chunk) = D
 (apply tr_v tk; (conv => whnf); apply VStop.mk)
 refine v_loop (fun gm ds ts A => ds = [] ∧ ∃ i : Nat, i + gm = R.length ∧ A = .own (.slice (some ⟨br, 0, none⟩) R.length cr) 37 2 R.length (rgC (arS R (fun i => rowS L C.length i) i)) :: .own (.slice (some ⟨bc, 0, none⟩) C.length cc2) 37 2 C.length (rgC C) :: .blk g5 25 [.slice (some ⟨br, 0, none⟩) R.length cr, .slice (some ⟨bc, 0, none⟩) C.length cc2, .slice Bx X.length cx] :: .blk g4 25 [.slice none 0 0, .slice none 0 0, .slice none 0 0] :: .blk g2 25 [.slice RA R.length rc, .slice CA C.length cc, .slice (some ⟨xb, xo, none⟩) X.length xc] :: D ∧ ts = [(1, .slice (some ⟨nb, no, none⟩) L.length nc), (2, .pointer (some ⟨g2, 0, none⟩)), (4, .pointer (some ⟨g4, 0, none⟩)), (5, .pointer (some ⟨g5, 0, none⟩)), (6, .int .i64 (i : Int))]) R.length
  (l := [(1, _), (2, _), (4, _), (5, _), (6, _)]) (B := .own (.slice (some ⟨br, 0, none⟩) R.length cr) 37 2 R.length (rgC (arS R (fun i => rowS L C.length i) 0)) :: .own (.slice (some ⟨bc, 0, none⟩) C.length cc2) 37 2 C.length (rgC C) :: .blk g5 25 [.slice (some ⟨br, 0, none⟩) R.length cr, .slice (some ⟨bc, 0, none⟩) C.length cc2, .slice Bx X.length cx] :: .blk g4 25 [.slice none 0 0, .slice none 0 0, .slice none 0 0] :: .blk g2 25 [.slice RA R.length rc, .slice CA C.length cc, .slice (some ⟨xb, xo, none⟩) X.length xc] :: D) ?_ (List.Sublist.refl _) ⟨rfl, 0, by omega, rfl, rfl⟩ ?_
 ·exact ⟨rfl, rfl, rfl, rfl, rfl, trivial⟩
 rintro gm ds ts A ⟨rfl, i, hi, rfl, rfl⟩
 by_cases hlt : i < R.length
 ·have hal := arS_len R (fun i => rowS L C.length i) i
  have hat := arS_at R (fun i => rowS L C.length i) i (by omega) i
  rw [if_neg (Nat.lt_irrefl _)] at hat
  have hst : arS R (fun i => rowS L C.length i) (i + 1) = (arS R (fun i => rowS L C.length i) i).set i (mn (sm (fun k => nAt L i k) C.length) (rAt (arS R (fun i => rowS L C.length i) i) i).1, mx (sm (fun k => nAt L i k) C.length) (rAt (arS R (fun i => rowS L C.length i) i) i).2) := rfl
  rw [hat] at hst
  have hrx := hV.rR hlt
  generalize hAr : arS R (fun i => rowS L C.length i) i = ar at *
  (apply tr_v tk; (conv => whnf); (repeat ((first | (apply VLd.mk; (focus ((repeat (first | ((with_reducible apply ld_blk); exact rfl) | (with_reducible apply ld_skip))); done))) | apply VBr.t | (apply v_t; omega)); (conv => whnf))); apply VStop.mk)
  refine v_loop (fun gm2 ds ts A => ds = [] ∧ ∃ k : Nat, k + gm2 = C.length ∧ A = .own (.slice (some ⟨br, 0, none⟩) R.length cr) 37 2 R.length (rgC ar) :: .own (.slice (some ⟨bc, 0, none⟩) C.length cc2) 37 2 C.length (rgC C) :: .blk g5 25 [.slice (some ⟨br, 0, none⟩) R.length cr, .slice (some ⟨bc, 0, none⟩) C.length cc2, .slice Bx X.length cx] :: .blk g4 25 [.slice none 0 0, .slice none 0 0, .slice none 0 0] :: .blk g2 25 [.slice RA R.length rc, .slice CA C.length cc, .slice (some ⟨xb, xo, none⟩) X.length xc] :: D ∧ ts = [(1, .slice (some ⟨nb, no, none⟩) L.length nc), (2, .pointer (some ⟨g2, 0, none⟩)), (4, .pointer (some ⟨g4, 0, none⟩)), (5, .pointer (some ⟨g5, 0, none⟩)), (6, .int .i64 (i : Int)), (7, .int .i64 (sm (fun k => nAt L i k) k)), (8, .int .i64 (k : Int))]) C.length
   (l := [(1, _), (2, _), (4, _), (5, _), (6, _), (7, .int .i64 (sm (fun k => nAt L i k) 0)), (8, _)]) (B := _) ?_ (List.Sublist.refl _) ⟨rfl, 0, by omega, rfl, rfl⟩ ?_
  ·exact ⟨rfl, rfl, rfl, rfl, rfl, rfl, rfl, trivial⟩
  rintro gm2 ds ts A ⟨rfl, k, hk, rfl, rfl⟩
  by_cases hlt2 : k < C.length
  ·obtain ⟨B2, o3, c', q1, q2⟩ := hnum i k hlt hlt2
   have s1 := fill_rowS hL hlt k (by omega)
   have s2 := hL.b i k hlt hlt2
   have hs2 : sm (fun k => nAt L i k) (k + 1) = sm (fun k => nAt L i k) k + nAt L i k := rfl
   generalize sm (fun k => nAt L i k) k = S at *
   generalize nAt L i k = v at *
   (apply tr_v tk; (conv => whnf); (repeat ((first | (apply VIx.mk (j := i); exact rfl; omega) | (apply VIx.mk (j := k); exact rfl; omega) | (apply VLd.mk; first | exact q1 _ | exact q2 _) | (apply VLd.mk; (focus ((repeat (first | ((with_reducible apply ld_blk); exact rfl) | (with_reducible apply ld_skip))); done))) | (apply VRng.mk; omega) | apply VBr.t | (apply v_t; omega)); (conv => whnf))))
   exact v_rnd (gm2 - 1) (by omega) (l := [(1, _), (2, _), (4, _), (5, _), (6, _), (7, .int .i64 (sm (fun k => nAt L i k) (k + 1))), (8, _)]) (B := _) ⟨rfl, rfl, rfl, rfl, rfl, by show some _ = some _; rw [hs2], rfl, trivial⟩ (List.Sublist.refl _) ⟨rfl, k + 1, by omega, rfl, rfl⟩
  obtain rfl : k = C.length := by omega
  have hto := fun (a b : Int) w1 => to_any a b w1
  have hcl := fun {A1 : List Chunk} (h : Chunk.own (.slice (some ⟨br, 0, none⟩) R.length cr) 37 2 R.length (rgC ar) ∈ A1) => own_rg (w0 := w) h (show i < ar.length by omega)
  rw [hat] at hcl
  have hput := rgC_put (l := ar) (j := i) (mn (sm (fun k => nAt L i k) C.length) (rAt R i).1, mx (sm (fun k => nAt L i k) C.length) (rAt R i).2) (by omega)
  dsimp only at hput
  unfold mn mx at hput hst
  generalize sm (fun k => nAt L i k) C.length = S at *
  generalize rAt R i = r at *
  obtain ⟨rl, rh⟩ := r
  dsimp only at hcl hput hst
  (apply tr_v tk; (conv => whnf); (repeat ((first | ((first | apply VStop.mk | apply VCall.stop); refine tr_region_draw (id := 10) (by kernel_rfl) [0, 1, 2, 3, 4, 5, 6, 7, 8, 9, 10, 11, 12, 13, 14, 15, 16, 17, 18, 19, 20, 21] [.rd, .rd, .rd, .rd, .rd, .rd, .rd, .rd, .rd, .rd, .rd, .rd, .rd, .rd, .rd, .rd, .rd, .rd, .rd, .cr, .rd, .wr] rfl (by kernel_rfl) ?_; apply ot_v tk) | (apply VIx.mk (j := i); exact rfl; omega) | (apply VLd.mk; first | exact (hcl (by (repeat (first | with_unfolding_all exact List.Mem.head _ | assumption | with_unfolding_all refine List.Mem.tail _ ?_)))).1 | exact (hcl (by (repeat (first | with_unfolding_all exact List.Mem.head _ | assumption | with_unfolding_all refine List.Mem.tail _ ?_)))).2) | (apply VCall.q; kernel_rfl; (focus (intro w1 hs; first | with_reducible apply hto _ _ w1))) | (apply VLd.mk; (focus ((repeat (first | ((with_reducible apply ld_blk); exact rfl) | (with_reducible apply ld_skip))); done))) | apply VBr.f | (apply v_f; omega)); (conv => whnf))))
  apply VSt.stop
  refine ot_storeN_own (sz := 2) (vs := [.int .i64 (if rl < S then rl else S), .int .i64 (if rh > S then rh else S)]) tk rfl rfl rfl rfl rfl rfl rfl rfl rfl rfl .here (by simp only [List.length_cons, List.length_nil]; omega) (Nat.succ_pos _) ?_
  rw [hput, ← hst]
  apply ot_v tk
  ((conv => whnf); (repeat ((apply VRng.mk; omega); (conv => whnf))))
  exact v_rnd (gm - 1) (by omega) (l := [(1, _), (2, _), (4, _), (5, _), (6, _)]) (B := _) ⟨rfl, rfl, rfl, rfl, rfl, trivial⟩ (List.Sublist.refl _) ⟨rfl, i + 1, by omega, rfl, rfl⟩
 obtain rfl : i = R.length := by omega
 clear hlt hi
 (apply tr_v tk; (conv => whnf); (repeat ((first | (apply VLd.mk; (focus ((repeat (first | ((with_reducible apply ld_blk); exact rfl) | (with_reducible apply ld_skip))); done))) | apply VBr.f | (apply v_f; omega)); (conv => whnf))); apply VStop.mk)
 refine v_loop (fun gm ds ts A => ds = [] ∧ ∃ i : Nat, i + gm = C.length ∧ A = .own (.slice (some ⟨br, 0, none⟩) R.length cr) 37 2 R.length (rgC (arS R (fun i => rowS L C.length i) R.length)) :: .own (.slice (some ⟨bc, 0, none⟩) C.length cc2) 37 2 C.length (rgC (arS C (fun k => colS L R.length k) i)) :: .blk g5 25 [.slice (some ⟨br, 0, none⟩) R.length cr, .slice (some ⟨bc, 0, none⟩) C.length cc2, .slice Bx X.length cx] :: .blk g4 25 [.slice none 0 0, .slice none 0 0, .slice none 0 0] :: .blk g2 25 [.slice RA R.length rc, .slice CA C.length cc, .slice (some ⟨xb, xo, none⟩) X.length xc] :: D ∧ ts = [(1, .slice (some ⟨nb, no, none⟩) L.length nc), (2, .pointer (some ⟨g2, 0, none⟩)), (4, .pointer (some ⟨g4, 0, none⟩)), (5, .pointer (some ⟨g5, 0, none⟩)), (9, .int .i64 (i : Int))]) C.length
  (l := [(1, _), (2, _), (4, _), (5, _), (9, _)]) (B := .own (.slice (some ⟨br, 0, none⟩) R.length cr) 37 2 R.length (rgC (arS R (fun i => rowS L C.length i) R.length)) :: .own (.slice (some ⟨bc, 0, none⟩) C.length cc2) 37 2 C.length (rgC (arS C (fun k => colS L R.length k) 0)) :: .blk g5 25 [.slice (some ⟨br, 0, none⟩) R.length cr, .slice (some ⟨bc, 0, none⟩) C.length cc2, .slice Bx X.length cx] :: .blk g4 25 [.slice none 0 0, .slice none 0 0, .slice none 0 0] :: .blk g2 25 [.slice RA R.length rc, .slice CA C.length cc, .slice (some ⟨xb, xo, none⟩) X.length xc] :: D) ?_ (List.Sublist.refl _) ⟨rfl, 0, by omega, rfl, rfl⟩ ?_
 ·exact ⟨rfl, rfl, rfl, rfl, rfl, trivial⟩
 rintro gm ds ts A ⟨rfl, i, hi, rfl, rfl⟩
 by_cases hlt : i < C.length
 ·have hal := arS_len C (fun k => colS L R.length k) i
  have hat := arS_at C (fun k => colS L R.length k) i (by omega) i
  rw [if_neg (Nat.lt_irrefl _)] at hat
  have hst : arS C (fun k => colS L R.length k) (i + 1) = (arS C (fun k => colS L R.length k) i).set i (mn (sm (fun k => nAt L k i) R.length) (rAt (arS C (fun k => colS L R.length k) i) i).1, mx (sm (fun k => nAt L k i) R.length) (rAt (arS C (fun k => colS L R.length k) i) i).2) := rfl
  rw [hat] at hst
  have hrx := hV.rC hlt
  generalize hAr : arS C (fun k => colS L R.length k) i = ar at *
  (apply tr_v tk; (conv => whnf); (repeat ((first | (apply VLd.mk; (focus ((repeat (first | ((with_reducible apply ld_blk); exact rfl) | (with_reducible apply ld_skip))); done))) | apply VBr.t | (apply v_t; omega)); (conv => whnf))); apply VStop.mk)
  refine v_loop (fun gm2 ds ts A => ds = [] ∧ ∃ k : Nat, k + gm2 = R.length ∧ A = .own (.slice (some ⟨br, 0, none⟩) R.length cr) 37 2 R.length (rgC (arS R (fun i => rowS L C.length i) R.length)) :: .own (.slice (some ⟨bc, 0, none⟩) C.length cc2) 37 2 C.length (rgC ar) :: .blk g5 25 [.slice (some ⟨br, 0, none⟩) R.length cr, .slice (some ⟨bc, 0, none⟩) C.length cc2, .slice Bx X.length cx] :: .blk g4 25 [.slice none 0 0, .slice none 0 0, .slice none 0 0] :: .blk g2 25 [.slice RA R.length rc, .slice CA C.length cc, .slice (some ⟨xb, xo, none⟩) X.length xc] :: D ∧ ts = [(1, .slice (some ⟨nb, no, none⟩) L.length nc), (2, .pointer (some ⟨g2, 0, none⟩)), (4, .pointer (some ⟨g4, 0, none⟩)), (5, .pointer (some ⟨g5, 0, none⟩)), (9, .int .i64 (i : Int)), (10, .int .i64 (sm (fun k => nAt L k i) k)), (11, .int .i64 (k : Int))]) R.length
   (l := [(1, _), (2, _), (4, _), (5, _), (9, _), (10, .int .i64 (sm (fun k => nAt L k i) 0)), (11, _)]) (B := _) ?_ (List.Sublist.refl _) ⟨rfl, 0, by omega, rfl, rfl⟩ ?_
  ·exact ⟨rfl, rfl, rfl, rfl, rfl, rfl, rfl, trivial⟩
  rintro gm2 ds ts A ⟨rfl, k, hk, rfl, rfl⟩
  by_cases hlt2 : k < R.length
  ·obtain ⟨B2, o3, c', q1, q2⟩ := hnum k i hlt2 hlt
   have s1 := fill_colS hL hlt k (by omega)
   have s2 := hL.b k i hlt2 hlt
   have hs2 : sm (fun k => nAt L k i) (k + 1) = sm (fun k => nAt L k i) k + nAt L k i := rfl
   generalize sm (fun k => nAt L k i) k = S at *
   generalize nAt L k i = v at *
   (apply tr_v tk; (conv => whnf); (repeat ((first | (apply VIx.mk (j := i); exact rfl; omega) | (apply VIx.mk (j := k); exact rfl; omega) | (apply VLd.mk; first | exact q1 _ | exact q2 _) | (apply VLd.mk; (focus ((repeat (first | ((with_reducible apply ld_blk); exact rfl) | (with_reducible apply ld_skip))); done))) | (apply VRng.mk; omega) | apply VBr.t | (apply v_t; omega)); (conv => whnf))))
   exact v_rnd (gm2 - 1) (by omega) (l := [(1, _), (2, _), (4, _), (5, _), (9, _), (10, .int .i64 (sm (fun k => nAt L k i) (k + 1))), (11, _)]) (B := _) ⟨rfl, rfl, rfl, rfl, rfl, by show some _ = some _; rw [hs2], rfl, trivial⟩ (List.Sublist.refl _) ⟨rfl, k + 1, by omega, rfl, rfl⟩
  obtain rfl : k = R.length := by omega
  have hto := fun (a b : Int) w1 => to_any a b w1
  have hcl := fun {A1 : List Chunk} (h : Chunk.own (.slice (some ⟨bc, 0, none⟩) C.length cc2) 37 2 C.length (rgC ar) ∈ A1) => own_rg (w0 := w) h (show i < ar.length by omega)
  rw [hat] at hcl
  have hput := rgC_put (l := ar) (j := i) (mn (sm (fun k => nAt L k i) R.length) (rAt C i).1, mx (sm (fun k => nAt L k i) R.length) (rAt C i).2) (by omega)
  dsimp only at hput
  unfold mn mx at hput hst
  generalize sm (fun k => nAt L k i) R.length = S at *
  generalize rAt C i = r at *
  obtain ⟨rl, rh⟩ := r
  dsimp only at hcl hput hst
  (apply tr_v tk; (conv => whnf); (repeat ((first | ((first | apply VStop.mk | apply VCall.stop); refine tr_region_draw (id := 19) (by kernel_rfl) [0, 1, 2, 3, 4, 5, 6, 7, 8, 9, 10, 11, 12, 13, 14, 15, 16, 17, 18, 19, 20, 21] [.rd, .rd, .rd, .rd, .rd, .rd, .rd, .rd, .rd, .rd, .rd, .rd, .rd, .rd, .rd, .rd, .rd, .rd, .rd, .cr, .rd, .wr] rfl (by kernel_rfl) ?_; apply ot_v tk) | (apply VIx.mk (j := i); exact rfl; omega) | (apply VLd.mk; first | exact (hcl (by (repeat (first | with_unfolding_all exact List.Mem.head _ | assumption | with_unfolding_all refine List.Mem.tail _ ?_)))).1 | exact (hcl (by (repeat (first | with_unfolding_all exact List.Mem.head _ | assumption | with_unfolding_all refine List.Mem.tail _ ?_)))).2) | (apply VCall.q; kernel_rfl; (focus (intro w1 hs; first | with_reducible apply hto _ _ w1))) | (apply VLd.mk; (focus ((repeat (first | ((with_reducible apply ld_blk); exact rfl) | (with_reducible apply ld_skip))); done))) | apply VBr.f | (apply v_f; omega)); (conv => whnf))))
  apply VSt.stop
  refine ot_storeN_own (sz := 2) (vs := [.int .i64 (if rl < S then rl else S), .int .i64 (if rh > S then rh else S)]) tk rfl rfl rfl rfl rfl rfl rfl rfl rfl rfl (.there .here) (by simp only [List.length_cons, List.length_nil]; omega) (Nat.succ_pos _) ?_
  rw [hput, ← hst]
  apply ot_v tk
  ((conv => whnf); (repeat ((apply VRng.mk; omega); (conv => whnf))))
  exact v_rnd (gm - 1) (by omega) (l := [(1, _), (2, _), (4, _), (5, _), (9, _)]) (B := _) ⟨rfl, rfl, rfl, rfl, rfl, trivial⟩ (List.Sublist.refl _) ⟨rfl, i + 1, by omega, rfl, rfl⟩
 obtain rfl : i = C.length := by omega
 clear hlt hi
 (apply tr_v tk; (conv => whnf); (repeat ((first | (apply VLd.mk; (focus ((repeat (first | ((with_reducible apply ld_blk); exact rfl) | (with_reducible apply ld_skip))); done))) | (apply VLdN.mk; (focus ((repeat (first | (with_reducible apply ldn_blk) | (with_reducible apply ldn_skip))); done)); exact rfl) | apply VBr.f | (apply v_f; omega) | (apply VSt.mk; (focus ((repeat (first | (with_reducible exact At.here) | (with_reducible apply At.there))); done)); exact rfl)); (conv => whnf))))
 (apply VRet.mk)
 refine ret1 (by first | exact .inl rfl | exact .inr rfl) rfl (by exact rv_row tk rfl rfl rfl (by first | exact cells_blk_all (by (repeat (first | exact List.Mem.head _ | assumption | refine List.Mem.tail _ ?_))) | exact cells_row0 (by (repeat (first | exact List.Mem.head _ | assumption | refine List.Mem.tail _ ?_)))) rfl) ?_
 have l1 := arS_len R (fun i => rowS L C.length i) R.length
 have l2 := arS_len C (fun k => colS L R.length k) C.length
 refine fun w hs => ⟨⟨(some ⟨br, 0, none⟩, cr), (some ⟨bc, 0, none⟩, cc2), (Bx, cx), xs⟩, ?_, hxs, ?_⟩
 ·unfold tabX tabV
  rw [l1, l2]
 ·unfold tabCh
  dsimp only
  rw [l1, l2]
  subst hD
  exact hs.sub (.cons_cons _ (.cons_cons _ (.cons _ (.cons _ (.cons _ (List.Sublist.refl _))))))
end
end Go.Proofs.Ytalcccgialpjgaa
