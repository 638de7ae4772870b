/- CheckTruth of the definition: lemmas for the rows of this seat. No conditions. -/
import Derived.Test.YtalcccgialpjgaaN3
set_option linter.all false
namespace Go.Proofs.Ytalcccgialpjgaa
open Go.RowKit
/-! ## CheckTruth of the definition -/
section
variable (RA : Option Addr) (rc : Nat) (CA : Option Addr) (cc : Nat) (XA : Option Addr) (xc : Nat) (R C : List R2) (X : List (List R2)) (w : World) (hT : TabR w RA CA XA R C X) (NA : Option Addr) (nc : Nat) (L : List (List Int)) (hN : NestR w 1 NA (nestI L))
include hT hN
set_option maxHeartbeats 4000000 in
set_option maxRecDepth 20000 in
theorem refTruth_any (hF : FitT R C X) (hl7 : L.length ≤ 7) (hls : ∀ s ∈ L, s.length ≤ 7) : Calls Try.prog 22 #[tabV RA rc CA cc XA xc R C X, .slice NA L.length nc] w fun e w' => e = .returned (.int .i64 (chkTru R C X L)) ∧ Below w.heap.size w w' := by
 have hct := fun w1 (h : TabR w1 RA CA XA R C X) => refTable_any RA rc CA cc XA xc R C X w1 h hF
 unfold tabV at *
 by_cases hz : chkTab R C X = 0
 rotate_left
 ·have hck : chkTru R C X L = chkTab R C X := by unfold chkTru; rw [if_pos hz]
  rw [hck]
  refine fn_v tk (n := 124) (A := []) Try.func22 rfl rfl (Nat.le_of_ble_eq_true rfl) (St.nil (Below.refl _ _)) ?_
  generalize chkTab R C X = z at *
  ((conv => whnf); (repeat ((first | (apply VCall.q; kernel_rfl; (focus (intro w1 hs; first | with_reducible apply hct w1 (hs.tab hT)))) | (apply VLdN.mk; (focus ((repeat (first | (with_reducible apply ldn_blk) | (with_reducible apply ldn_skip))); done)); exact rfl) | apply VBr.t | (apply v_t; omega) | (apply VNew.mk; intro g hg)); (conv => whnf))))
  ((apply VRet.mk); refine ret1 (by first | exact .inl rfl | exact .inr rfl) rfl (by exact rv_tmp rfl) ?_; exact fun w h => ⟨rfl, h.base⟩)
 have hV := chk_valid hz
 rw [hz] at hct
 have hn := hV.r1
 have hn4 := hV.r4
 have hm := hV.c1
 have hm4 := hV.c4
 refine fn_v tk (n := 124) (A := []) Try.func22 rfl rfl (Nat.le_of_ble_eq_true rfl) (St.nil (Below.refl _ _)) ?_
 obtain ⟨rb, ro, rfl, _⟩ := hT.r.2 (by omega)
 obtain ⟨cb, co, rfl, _⟩ := hT.c.2 (by omega)
 have hx := hV.x
 obtain ⟨xb, xo, rfl, _⟩ := (show ∃ xb xo, XA = some ⟨xb, xo, none⟩ ∧ True by
  obtain ⟨b, o, he, _⟩ := nest_gen hT.x (show 0 < X.length by omega)
  exact ⟨b, o, he, trivial⟩)
 by_cases hl : L.length = R.length
 rotate_left
 ·rw [tru15 hz (.inl hl)]
  ((conv => whnf); (repeat ((first | ((first | apply VStop.mk | apply VCall.stop); refine tr_region_lex (id := 3) (by kernel_rfl) [.rd, .rd, .rd, .rd, .rd, .rd, .rd, .rd] rfl (by kernel_rfl) ?_; apply ot_v tk) | (apply VCall.q; kernel_rfl; (focus (intro w1 hs; first | with_reducible apply hct w1 (hs.tab hT)))) | (apply VLd.mk; (focus ((repeat (first | ((with_reducible apply ld_blk); exact rfl) | (with_reducible apply ld_skip))); done))) | (apply VLdN.mk; (focus ((repeat (first | (with_reducible apply ldn_blk) | (with_reducible apply ldn_skip))); done)); exact rfl) | apply VBr.t | apply VBr.f | (apply v_t; omega) | (apply v_f; omega) | (apply VNew.mk; intro g hg)); (conv => whnf))))
  ((apply VRet.mk); refine ret1 (by first | exact .inl rfl | exact .inr rfl) rfl (by exact rv_tmp rfl) ?_; exact fun w h => ⟨rfl, h.base⟩)
 obtain ⟨nb, no, rfl, _⟩ := (show ∃ xb xo, NA = some ⟨xb, xo, none⟩ ∧ True by
  obtain ⟨b, o, he, _⟩ := nest_gen hN (show 0 < L.length by omega)
  exact ⟨b, o, he, trivial⟩)
 ((conv => whnf); (repeat ((first | ((first | apply VStop.mk | apply VCall.stop); refine tr_region_lex (id := 3) (by kernel_rfl) [.rd, .rd, .rd, .rd, .rd, .rd, .rd, .rd] rfl (by kernel_rfl) ?_; apply ot_v tk) | (apply VCall.q; kernel_rfl; (focus (intro w1 hs; first | with_reducible apply hct w1 (hs.tab hT)))) | (apply VLd.mk; (focus ((repeat (first | ((with_reducible apply ld_blk); exact rfl) | (with_reducible apply ld_skip))); done))) | (apply VLdN.mk; (focus ((repeat (first | (with_reducible apply ldn_blk) | (with_reducible apply ldn_skip))); done)); exact rfl) | apply VBr.f | (apply v_f; omega) | (apply VNew.mk; intro g hg)); (conv => whnf))); apply VStop.mk)
 refine v_loop (fun gm ds ts A => ds = [] ∧ ∃ j, j + gm = R.length ∧ (∀ i (hi : i < L.length), i < j → L[i].length = C.length) ∧ A = [.blk g 25 [.slice (some ⟨rb, ro, none⟩) R.length rc, .slice (some ⟨cb, co, none⟩) C.length cc, .slice (some ⟨xb, xo, none⟩) X.length xc]] ∧ ts = [(1, .slice (some ⟨nb, no, none⟩) L.length nc), (2, .pointer (some ⟨g, 0, none⟩)), (5, .int .i64 (R.length : Int)), (6, .int .i64 (C.length : Int)), (7, .int .i64 (j : Int))]) R.length
  (l := [(1, _), (2, _), (5, _), (6, _), (7, _)]) (B := [_]) ?_ (by (repeat (first | exact sl0 _ | exact sl1 _ | refine sl2 _ ?_ | refine sl3 _ ?_))) ⟨rfl, 0, by omega, fun i _ h => absurd h (by omega), rfl, rfl⟩ ?_
 ·exact ⟨rfl, rfl, rfl, rfl, rfl, trivial⟩
 rintro gm ds ts A ⟨rfl, j, hj, hall, rfl, rfl⟩
 by_cases hlt : j < R.length
 ·have hjx : j < L.length := by omega
  obtain ⟨_, _, he, B, c', hce, _⟩ := nest_gen hN hjx
  cases he
  by_cases he : L[j].length = C.length
  ·(apply tr_v tk; (conv => whnf); (repeat ((first | (apply VIx.mk (j := j); exact rfl; omega) | (apply VLd.mk; first | exact hce _) | (apply VRng.mk; omega) | apply VBr.t | apply VBr.f | (apply v_t; omega) | (apply v_f; omega)); (conv => whnf))))
   exact v_rnd (gm - 1) (by omega) (l := [(1, _), (2, _), (5, _), (6, _), (7, _)]) (B := [_]) ⟨rfl, rfl, rfl, rfl, rfl, trivial⟩ (by (repeat (first | exact sl0 _ | exact sl1 _ | refine sl2 _ ?_ | refine sl3 _ ?_))) ⟨rfl, j + 1, by omega, fun i hi h => (by
    rcases Nat.lt_or_ge i j with h1 | h1
    ·exact hall i hi h1
    ·obtain rfl : i = j := by omega
     exact he), rfl, rfl⟩
  ·rw [tru15 hz (.inr ⟨_, List.getElem_mem hjx, he⟩)]
   (apply tr_v tk; (conv => whnf); (repeat ((first | (apply VIx.mk (j := j); exact rfl; omega) | (apply VLd.mk; first | exact hce _) | apply VBr.t | (apply v_t; omega)); (conv => whnf))))
   ((apply VRet.mk); refine ret1 (by first | exact .inl rfl | exact .inr rfl) rfl (by exact rv_tmp rfl) ?_; exact fun w h => ⟨rfl, h.base⟩)
 have hs : ∀ s ∈ L, s.length = C.length := fun s hs => by
  obtain ⟨i, hi, rfl⟩ := List.mem_iff_getElem.1 hs
  exact hall i hi (by omega)
 clear hall
 (apply tr_v tk; (conv => whnf); (repeat ((first | apply VBr.f | (apply v_f; omega)); (conv => whnf))); apply VStop.mk)
 clear hj hlt
 have hcell : ∀ {i k}, i < R.length → k < C.length → ∃ (hi : i < L.length) (hix : i < X.length), (∃ B2 o2 c', (∀ Ch, CellAt w Ch nb (no + i * 1) (.slice (some ⟨B2, o2, none⟩) L[i].length c')) ∧ ∀ Ch, CellAt w Ch B2 (o2 + k * 1) (.int .i64 (nAt L i k))) ∧ L[i].length = C.length ∧ (∃ B2 o2 c', (∀ Ch, CellAt w Ch xb (xo + i * 1) (.slice (some ⟨B2, o2, none⟩) X[i].length c')) ∧ ∀ Ch, CellsAt w Ch B2 (o2 + k * 2) [.int .i64 (xAt X i k).1, .int .i64 (xAt X i k).2]) ∧ X[i].length = C.length := fun {i k} hi hk => by
  have h1 : i < L.length := by omega
  have h2 : i < X.length := by omega
  have h3 := hs _ (List.getElem_mem h1)
  have h4 := hV.xs _ (List.getElem_mem h2)
  exact ⟨h1, h2, num_cell hN h1 (by omega), h3, hT.cell h2 (by omega), h4⟩
 refine v_loop (fun gm ds ts A => ds = [] ∧ ∃ j, j + gm = R.length ∧ (∀ i k, i < j → k < C.length → inR (xAt X i k) (nAt L i k) = true) ∧ A = [.blk g 25 [.slice (some ⟨rb, ro, none⟩) R.length rc, .slice (some ⟨cb, co, none⟩) C.length cc, .slice (some ⟨xb, xo, none⟩) X.length xc]] ∧ ts = [(1, .slice (some ⟨nb, no, none⟩) L.length nc), (2, .pointer (some ⟨g, 0, none⟩)), (5, .int .i64 (R.length : Int)), (6, .int .i64 (C.length : Int)), (8, .int .i64 (j : Int))]) R.length
  (l := [(1, _), (2, _), (5, _), (6, _), (8, _)]) (B := [_]) ?_ (by (repeat (first | exact sl0 _ | exact sl1 _ | refine sl2 _ ?_ | refine sl3 _ ?_))) ⟨rfl, 0, by omega, fun i _ h => absurd h (by omega), rfl, rfl⟩ ?_
 ·exact ⟨rfl, rfl, rfl, rfl, rfl, trivial⟩
 rintro gm ds ts A ⟨rfl, j, hj, hX, rfl, rfl⟩
 by_cases hlt : j < R.length
 ·(apply tr_v tk; (conv => whnf); (repeat ((first | apply VBr.t | (apply v_t; omega)); (conv => whnf))); apply VStop.mk)
  refine v_loop (fun gm ds ts A => ds = [] ∧ ∃ k, k + gm = C.length ∧ (∀ k', k' < k → inR (xAt X j k') (nAt L j k') = true) ∧ A = [.blk g 25 [.slice (some ⟨rb, ro, none⟩) R.length rc, .slice (some ⟨cb, co, none⟩) C.length cc, .slice (some ⟨xb, xo, none⟩) X.length xc]] ∧ ts = [(1, .slice (some ⟨nb, no, none⟩) L.length nc), (2, .pointer (some ⟨g, 0, none⟩)), (5, .int .i64 (R.length : Int)), (6, .int .i64 (C.length : Int)), (8, .int .i64 (j : Int)), (9, .int .i64 (k : Int))]) C.length
   (l := [(1, _), (2, _), (5, _), (6, _), (8, _), (9, _)]) (B := [_]) ?_ (by (repeat (first | exact sl0 _ | exact sl1 _ | refine sl2 _ ?_ | refine sl3 _ ?_))) ⟨rfl, 0, by omega, fun i h => absurd h (by omega), rfl, rfl⟩ ?_
  ·exact ⟨rfl, rfl, rfl, rfl, rfl, rfl, trivial⟩
  rintro gm2 ds ts A ⟨rfl, k, hk, hK, rfl, rfl⟩
  by_cases hkt : k < C.length
  ·obtain ⟨hi, hix, ⟨B2, o2, c2, hc1, hc2⟩, hl2, ⟨B3, o3, c3, hc3, hc4⟩, hl3⟩ := hcell hlt hkt
   cases hb : inR (xAt X j k) (nAt L j k) with
   | false =>
    rw [tru3 hz hl hs hlt hkt hb]
    (apply tr_v tk; (conv => whnf); (repeat ((first | ((first | apply VStop.mk | apply VCall.stop); refine tr_region_lex (id := 17) (by kernel_rfl) [.rd, .rd, .rd, .rd, .rd, .rd, .rd, .rd, .rd, .rd, .rd, .rd, .rd, .rd, .rd, .cr, .rd] rfl (by kernel_rfl) ?_; apply ot_v tk) | (apply VIx.mk (j := j); exact rfl; omega) | (apply VIx.mk (j := k); exact rfl; omega) | (apply VLd.mk; first | exact hc1 _ | exact hc2 _ | exact hc3 _) | (apply VLdN.mk; (first | exact hc4 _); exact rfl) | (apply VCall.q; kernel_rfl; (focus (intro w1 hs; first | with_reducible apply refWithin_any _ _ _ w1 hb))) | (apply VLd.mk; (focus ((repeat (first | ((with_reducible apply ld_blk); exact rfl) | (with_reducible apply ld_skip))); done))) | apply VBr.t | (apply v_t; omega)); (conv => whnf))))
    ((apply VRet.mk); refine ret1 (by first | exact .inl rfl | exact .inr rfl) rfl (by exact rv_tmp rfl) ?_; exact fun w h => ⟨rfl, h.base⟩)
   | true =>
   (apply tr_v tk; (conv => whnf); (repeat ((first | ((first | apply VStop.mk | apply VCall.stop); refine tr_region_lex (id := 17) (by kernel_rfl) [.rd, .rd, .rd, .rd, .rd, .rd, .rd, .rd, .rd, .rd, .rd, .rd, .rd, .rd, .rd, .cr, .rd] rfl (by kernel_rfl) ?_; apply ot_v tk) | (apply VIx.mk (j := j); exact rfl; omega) | (apply VIx.mk (j := k); exact rfl; omega) | (apply VLd.mk; first | exact hc1 _ | exact hc2 _ | exact hc3 _) | (apply VLdN.mk; (first | exact hc4 _); exact rfl) | (apply VCall.q; kernel_rfl; (focus (intro w1 hs; first | with_reducible apply refWithin_any _ _ _ w1 hb))) | (apply VLd.mk; (focus ((repeat (first | ((with_reducible apply ld_blk); exact rfl) | (with_reducible apply ld_skip))); done))) | (apply VRng.mk; omega) | apply VBr.t | apply VBr.f | (apply v_t; omega)); (conv => whnf))))
   exact v_rnd (gm2 - 1) (by omega) (l := [(1, _), (2, _), (5, _), (6, _), (8, _), (9, _)]) (B := [_]) ⟨rfl, rfl, rfl, rfl, rfl, rfl, trivial⟩ (by (repeat (first | exact sl0 _ | exact sl1 _ | refine sl2 _ ?_ | refine sl3 _ ?_))) ⟨rfl, k + 1, by omega, fun i h => (by
    rcases Nat.lt_or_ge i k with h1 | h1
    ·exact hK i h1
    ·obtain rfl : i = k := by omega
     exact hb), rfl, rfl⟩
  ·(apply tr_v tk; (conv => whnf); (repeat ((first | (apply VRng.mk; omega) | apply VBr.f | (apply v_f; omega)); (conv => whnf))))
   exact v_rnd (gm - 1) (by omega) (l := [(1, _), (2, _), (5, _), (6, _), (8, _)]) (B := [_]) ⟨rfl, rfl, rfl, rfl, rfl, trivial⟩ (by (repeat (first | exact sl0 _ | exact sl1 _ | refine sl2 _ ?_ | refine sl3 _ ?_))) ⟨rfl, j + 1, by omega, fun i k' h h' => (by
    rcases Nat.lt_or_ge i j with h1 | h1
    ·exact hX i k' h1 h'
    ·obtain rfl : i = j := by omega
     exact hK k' (by omega)), rfl, rfl⟩
 have hX' : ∀ i k, i < R.length → k < C.length → inR (xAt X i k) (nAt L i k) = true := fun i k h h' => hX i k (by omega) h'
 have hnb : ∀ i k, i < R.length → k < C.length → 0 ≤ nAt L i k ∧ nAt L i k ≤ 12 := fun i k h h' => inR_valid hV h h' (hX' i k h h')
 clear hX
 (apply tr_v tk; (conv => whnf); (repeat ((first | apply VBr.f | (apply v_f; omega)); (conv => whnf))); apply VStop.mk)
 clear hj hlt
 refine v_loop (fun gm ds ts A => ds = [] ∧ ∃ j, j + gm = R.length ∧ (∀ i, i < j → inR (rAt R i) (rowS L C.length i) = true) ∧ A = [.blk g 25 [.slice (some ⟨rb, ro, none⟩) R.length rc, .slice (some ⟨cb, co, none⟩) C.length cc, .slice (some ⟨xb, xo, none⟩) X.length xc]] ∧ ts = [(1, .slice (some ⟨nb, no, none⟩) L.length nc), (2, .pointer (some ⟨g, 0, none⟩)), (5, .int .i64 (R.length : Int)), (6, .int .i64 (C.length : Int)), (10, .int .i64 (j : Int))]) R.length
  (l := [(1, _), (2, _), (5, _), (6, _), (10, _)]) (B := [_]) ?_ (by (repeat (first | exact sl0 _ | exact sl1 _ | refine sl2 _ ?_ | refine sl3 _ ?_))) ⟨rfl, 0, by omega, fun i h => absurd h (by omega), rfl, rfl⟩ ?_
 ·exact ⟨rfl, rfl, rfl, rfl, rfl, trivial⟩
 rintro gm ds ts A ⟨rfl, j, hj, hR, rfl, rfl⟩
 by_cases hlt : j < R.length
 ·(apply tr_v tk; (conv => whnf); (repeat ((first | apply VBr.t | (apply v_t; omega)); (conv => whnf))); apply VStop.mk)
  refine v_loop (fun gm ds ts A => ds = [] ∧ ∃ k, k + gm = C.length ∧ A = [.blk g 25 [.slice (some ⟨rb, ro, none⟩) R.length rc, .slice (some ⟨cb, co, none⟩) C.length cc, .slice (some ⟨xb, xo, none⟩) X.length xc]] ∧ ts = [(1, .slice (some ⟨nb, no, none⟩) L.length nc), (2, .pointer (some ⟨g, 0, none⟩)), (5, .int .i64 (R.length : Int)), (6, .int .i64 (C.length : Int)), (10, .int .i64 (j : Int)), (11, .int .i64 (sm (fun k => nAt L j k) k)), (12, .int .i64 (k : Int))]) C.length
   (l := [(1, _), (2, _), (5, _), (6, _), (10, _), (11, _), (12, _)]) (B := [_]) ?_ (by (repeat (first | exact sl0 _ | exact sl1 _ | refine sl2 _ ?_ | refine sl3 _ ?_))) ⟨rfl, 0, by omega, rfl, rfl⟩ ?_
  ·exact ⟨rfl, rfl, rfl, rfl, rfl, rfl, rfl, trivial⟩
  rintro gm2 ds ts A ⟨rfl, k, hk, rfl, rfl⟩
  by_cases hkt : k < C.length
  ·obtain ⟨hi, hix, ⟨B2, o2, c2, hc1, hc2⟩, hl2, _, hl3⟩ := hcell hlt hkt
   have h1 := sm_bound (f := fun k => nAt L j k) (n := k) fun i h => (hnb j i hlt (by omega)).2
   have h2 := sm_bound' (f := fun k => nAt L j k) (n := k) fun i h => (hnb j i hlt (by omega)).1
   have h3 := hnb j k hlt hkt
   have hst : sm (fun k => nAt L j k) (k + 1) = sm (fun k => nAt L j k) k + nAt L j k := rfl
   generalize sm (fun k => nAt L j k) k = s at *
   (apply tr_v tk; (conv => whnf); (repeat ((first | (apply VIx.mk (j := j); exact rfl; omega) | (apply VIx.mk (j := k); exact rfl; omega) | (apply VLd.mk; first | exact hc1 _ | exact hc2 _) | (apply VRng.mk; omega) | apply VBr.t | (apply v_t; omega)); (conv => whnf))))
   exact v_rnd (gm2 - 1) (by omega) (l := [(1, _), (2, _), (5, _), (6, _), (10, _), (11, _), (12, _)]) (B := [_]) ⟨rfl, rfl, rfl, rfl, rfl, rfl, rfl, trivial⟩ (by (repeat (first | exact sl0 _ | exact sl1 _ | refine sl2 _ ?_ | refine sl3 _ ?_))) ⟨rfl, k + 1, by omega, rfl, by rw [hst]; rfl⟩
  ·obtain rfl : k = C.length := by omega
   have hrc := hT.row hlt
   have hsu : sm (fun k => nAt L j k) C.length = rowS L C.length j := rfl
   rw [hsu]
   cases hb : inR (rAt R j) (rowS L C.length j) with
   | false =>
    rw [tru20 hz hl hs hX' (.inl ⟨j, hlt, hb⟩)]
    (apply tr_v tk; (conv => whnf); (repeat ((first | (apply VIx.mk (j := j); exact rfl; omega) | (apply VLdN.mk; (first | exact hrc _); exact rfl) | (apply VCall.q; kernel_rfl; (focus (intro w1 hs; first | with_reducible apply refWithin_any _ _ _ w1 hb))) | (apply VLd.mk; (focus ((repeat (first | ((with_reducible apply ld_blk); exact rfl) | (with_reducible apply ld_skip))); done))) | apply VBr.t | apply VBr.f | (apply v_f; omega)); (conv => whnf))))
    ((apply VRet.mk); refine ret1 (by first | exact .inl rfl | exact .inr rfl) rfl (by exact rv_tmp rfl) ?_; exact fun w h => ⟨rfl, h.base⟩)
   | true =>
   (apply tr_v tk; (conv => whnf); (repeat ((first | (apply VIx.mk (j := j); exact rfl; omega) | (apply VLdN.mk; (first | exact hrc _); exact rfl) | (apply VCall.q; kernel_rfl; (focus (intro w1 hs; first | with_reducible apply refWithin_any _ _ _ w1 hb))) | (apply VLd.mk; (focus ((repeat (first | ((with_reducible apply ld_blk); exact rfl) | (with_reducible apply ld_skip))); done))) | (apply VRng.mk; omega) | apply VBr.f | (apply v_f; omega)); (conv => whnf))))
   exact v_rnd (gm - 1) (by omega) (l := [(1, _), (2, _), (5, _), (6, _), (10, _)]) (B := [_]) ⟨rfl, rfl, rfl, rfl, rfl, trivial⟩ (by (repeat (first | exact sl0 _ | exact sl1 _ | refine sl2 _ ?_ | refine sl3 _ ?_))) ⟨rfl, j + 1, by omega, fun i h => (by
    rcases Nat.lt_or_ge i j with h1 | h1
    ·exact hR i h1
    ·obtain rfl : i = j := by omega
     exact hb), rfl, rfl⟩
 have hR' : ∀ i, i < R.length → inR (rAt R i) (rowS L C.length i) = true := fun i h => hR i (by omega)
 clear hR
 (apply tr_v tk; (conv => whnf); (repeat ((first | apply VBr.f | (apply v_f; omega)); (conv => whnf))); apply VStop.mk)
 clear hj hlt
 refine v_loop (fun gm ds ts A => ds = [] ∧ ∃ j, j + gm = C.length ∧ (∀ i, i < j → inR (rAt C i) (colS L R.length i) = true) ∧ A = [.blk g 25 [.slice (some ⟨rb, ro, none⟩) R.length rc, .slice (some ⟨cb, co, none⟩) C.length cc, .slice (some ⟨xb, xo, none⟩) X.length xc]] ∧ ts = [(1, .slice (some ⟨nb, no, none⟩) L.length nc), (2, .pointer (some ⟨g, 0, none⟩)), (5, .int .i64 (R.length : Int)), (6, .int .i64 (C.length : Int)), (13, .int .i64 (j : Int))]) C.length
  (l := [(1, _), (2, _), (5, _), (6, _), (13, _)]) (B := [_]) ?_ (by (repeat (first | exact sl0 _ | exact sl1 _ | refine sl2 _ ?_ | refine sl3 _ ?_))) ⟨rfl, 0, by omega, fun i h => absurd h (by omega), rfl, rfl⟩ ?_
 ·exact ⟨rfl, rfl, rfl, rfl, rfl, trivial⟩
 rintro gm ds ts A ⟨rfl, j, hj, hC, rfl, rfl⟩
 by_cases hlt : j < C.length
 ·(apply tr_v tk; (conv => whnf); (repeat ((first | apply VBr.t | (apply v_t; omega)); (conv => whnf))); apply VStop.mk)
  refine v_loop (fun gm ds ts A => ds = [] ∧ ∃ k, k + gm = R.length ∧ A = [.blk g 25 [.slice (some ⟨rb, ro, none⟩) R.length rc, .slice (some ⟨cb, co, none⟩) C.length cc, .slice (some ⟨xb, xo, none⟩) X.length xc]] ∧ ts = [(1, .slice (some ⟨nb, no, none⟩) L.length nc), (2, .pointer (some ⟨g, 0, none⟩)), (5, .int .i64 (R.length : Int)), (6, .int .i64 (C.length : Int)), (13, .int .i64 (j : Int)), (14, .int .i64 (sm (fun i => nAt L i j) k)), (15, .int .i64 (k : Int))]) R.length
   (l := [(1, _), (2, _), (5, _), (6, _), (13, _), (14, _), (15, _)]) (B := [_]) ?_ (by (repeat (first | exact sl0 _ | exact sl1 _ | refine sl2 _ ?_ | refine sl3 _ ?_))) ⟨rfl, 0, by omega, rfl, rfl⟩ ?_
  ·exact ⟨rfl, rfl, rfl, rfl, rfl, rfl, rfl, trivial⟩
  rintro gm2 ds ts A ⟨rfl, k, hk, rfl, rfl⟩
  by_cases hkt : k < R.length
  ·obtain ⟨hi, hix, ⟨B2, o2, c2, hc1, hc2⟩, hl2, _, hl3⟩ := hcell hkt hlt
   have h1 := sm_bound (f := fun i => nAt L i j) (n := k) fun i h => (hnb i j (by omega) hlt).2
   have h2 := sm_bound' (f := fun i => nAt L i j) (n := k) fun i h => (hnb i j (by omega) hlt).1
   have h3 := hnb k j hkt hlt
   have hst : sm (fun i => nAt L i j) (k + 1) = sm (fun i => nAt L i j) k + nAt L k j := rfl
   generalize sm (fun i => nAt L i j) k = s at *
   (apply tr_v tk; (conv => whnf); (repeat ((first | (apply VIx.mk (j := j); exact rfl; omega) | (apply VIx.mk (j := k); exact rfl; omega) | (apply VLd.mk; first | exact hc1 _ | exact hc2 _) | (apply VRng.mk; omega) | apply VBr.t | (apply v_t; omega)); (conv => whnf))))
   exact v_rnd (gm2 - 1) (by omega) (l := [(1, _), (2, _), (5, _), (6, _), (13, _), (14, _), (15, _)]) (B := [_]) ⟨rfl, rfl, rfl, rfl, rfl, rfl, rfl, trivial⟩ (by (repeat (first | exact sl0 _ | exact sl1 _ | refine sl2 _ ?_ | refine sl3 _ ?_))) ⟨rfl, k + 1, by omega, rfl, by rw [hst]; rfl⟩
  ·obtain rfl : k = R.length := by omega
   have hrc := hT.col hlt
   have hsu : sm (fun i => nAt L i j) R.length = colS L R.length j := rfl
   rw [hsu]
   cases hb : inR (rAt C j) (colS L R.length j) with
   | false =>
    rw [tru20 hz hl hs hX' (.inr ⟨j, hlt, hb⟩)]
    (apply tr_v tk; (conv => whnf); (repeat ((first | (apply VIx.mk (j := j); exact rfl; omega) | (apply VLdN.mk; (first | exact hrc _); exact rfl) | (apply VCall.q; kernel_rfl; (focus (intro w1 hs; first | with_reducible apply refWithin_any _ _ _ w1 hb))) | (apply VLd.mk; (focus ((repeat (first | ((with_reducible apply ld_blk); exact rfl) | (with_reducible apply ld_skip))); done))) | apply VBr.t | apply VBr.f | (apply v_f; omega)); (conv => whnf))))
    ((apply VRet.mk); refine ret1 (by first | exact .inl rfl | exact .inr rfl) rfl (by exact rv_tmp rfl) ?_; exact fun w h => ⟨rfl, h.base⟩)
   | true =>
   (apply tr_v tk; (conv => whnf); (repeat ((first | (apply VIx.mk (j := j); exact rfl; omega) | (apply VLdN.mk; (first | exact hrc _); exact rfl) | (apply VCall.q; kernel_rfl; (focus (intro w1 hs; first | with_reducible apply refWithin_any _ _ _ w1 hb))) | (apply VLd.mk; (focus ((repeat (first | ((with_reducible apply ld_blk); exact rfl) | (with_reducible apply ld_skip))); done))) | (apply VRng.mk; omega) | apply VBr.f | (apply v_f; omega)); (conv => whnf))))
   exact v_rnd (gm - 1) (by omega) (l := [(1, _), (2, _), (5, _), (6, _), (13, _)]) (B := [_]) ⟨rfl, rfl, rfl, rfl, rfl, trivial⟩ (by (repeat (first | exact sl0 _ | exact sl1 _ | refine sl2 _ ?_ | refine sl3 _ ?_))) ⟨rfl, j + 1, by omega, fun i h => (by
    rcases Nat.lt_or_ge i j with h1 | h1
    ·exact hC i h1
    ·obtain rfl : i = j := by omega
     exact hb), rfl, rfl⟩
 rw [tru0 hz hl hs hX' hR' fun k h => hC k (by omega)]
 (apply tr_v tk; (conv => whnf); (repeat ((first | apply VBr.f | (apply v_f; omega)); (conv => whnf))))
 ((apply VRet.mk); refine ret1 (by first | exact .inl rfl | exact .inr rfl) rfl (by exact rv_tmp rfl) ?_; exact fun w h => ⟨rfl, h.base⟩)
end
end Go.Proofs.Ytalcccgialpjgaa
