/- TopGroundBite: lemmas for the rows of this seat. No conditions. -/
import Derived.Laws.StructEq
import Derived.Test.YtiodmphhjgkgjaaGreatP8
import Derived.Test.YtiodmphhjgkgjaaGreatP9
set_option linter.all false
namespace Go.Proofs.YtiodmphhjgkgjaaGreat
open Go.RowKit
/-! ## TopGroundBite -/
def hrM (H : List HourT) (r : Int) (i : Nat) : List HourT := (List.range i).map fun k => ⟨r, r, (hAt H k).pd⟩
def plM (many i : Nat) : List Int := (List.range i).map fun k => if k < many then 1 else 0
theorem hrM_succ (H : List HourT) (r : Int) (i : Nat) : hrM H r (i + 1) = hrM H r i ++ [⟨r, r, (hAt H i).pd⟩] := by
 unfold hrM
 rw [List.range_succ, List.map_append]; rfl
theorem plM_succ (many i : Nat) : plM many (i + 1) = plM many i ++ [if i < many then 1 else 0] := by
 unfold plM
 rw [List.range_succ, List.map_append]; rfl
theorem hrC_snoc (H : List HourT) (h : HourT) : hrC (H ++ [h]) = hrC H ++ hrL h := by
 unfold hrC
 rw [List.flatMap_append]; simp
theorem hrM_len (H : List HourT) (r : Int) (i : Nat) : (hrM H r i).length = i := by simp [hrM]
theorem plM_len (many i : Nat) : (plM many i).length = i := by simp [plM]
theorem hrM_at {H : List HourT} {r : Int} {i k : Nat} (hk : k < i) : hAt (hrM H r i) k = ⟨r, r, (hAt H k).pd⟩ := by
 unfold hAt hrM
 rw [List.getElem?_map, List.getElem?_range hk]; rfl
theorem plM_at {many i k : Nat} (hk : k < i) : rAt (plM many i) k = if k < many then 1 else 0 := by
 unfold rAt plM
 rw [List.getElem?_map, List.getElem?_range hk]; rfl
theorem plM_ok (many n : Nat) : PlanOk (plM many n) n := ⟨plM_len _ _, fun k hk => by rw [plM_at hk]; split <;> omega⟩
theorem hrM_ok {M : MillT} {H : List HourT} (hM : MillOk M H) : MillOk M (hrM H (hAt H 0).lo H.length) := by
 refine ⟨by rw [hrM_len]; exact hM.1, hM.2.1, fun k hk => ?_⟩
 rw [hrM_len] at hk
 rw [hrM_at hk]
 have h1 := hM.2.2 0 (by omega)
 have h2 := hM.2.2 k hk
 unfold HourOk at *
 dsimp only
 omega
theorem heatL_at {M : MillT} {H : List HourT} {P : List Int} {warm : Bool} {n k : Nat} (hk : k < n) : rAt (heatL M H P warm n) k = heatF M H P warm (k + 1) := by
 unfold rAt heatL
 rw [List.getElem?_map, List.getElem?_range hk]; rfl
theorem heatF_same (M : MillT) (H : List HourT) (r : Int) (P : List Int) (n : Nat) : ∀ k, k ≤ n → heatF M (hrM H r n) P false k = heatF M (hrM H r n) P true k
 | 0, _ => rfl
 | k + 1, hk => by
  unfold heatF
  rw [heatF_same M H r P n k (by omega), hrM_at (by omega)]; rfl
theorem heatL_same (M : MillT) (H : List HourT) (r : Int) (P : List Int) (n : Nat) : heatL M (hrM H r n) P false n = heatL M (hrM H r n) P true n := by
 unfold heatL
 apply List.map_congr_left
 intro k hk
 rw [List.mem_range] at hk
 exact heatF_same M H r P n (k + 1) (by omega)
theorem heat_row {M : MillT} {H : List HourT} (hM : MillOk M H) (P : List Int) (warm : Bool) : rowE (heatL M H P warm H.length) = 0 := by
 refine rowE_ok.2 ⟨by rw [heatL_len]; exact hM.1, fun x hx => ?_⟩
 obtain ⟨k, hk, rfl⟩ := List.mem_map.1 hx
 rw [List.mem_range] at hk
 have h1 := heat_ok hM P warm (k + 1) (by omega)
 have h2 := hM.1
 omega
theorem heat_peak {M : MillT} {H : List HourT} (hM : MillOk M H) (many : Nat) (hmany : many ≤ H.length) : Peak (heatL M (hrM H (hAt H 0).lo H.length) (plM many H.length) true H.length) (many - 1) := by
 have h0 := hM.1
 have h1 := hM.2.1
 have hge : ∀ k, k < H.length → (hAt H 0).lo ≤ heatF M (hrM H (hAt H 0).lo H.length) (plM many H.length) true (k + 1) := fun k hk => by
  unfold heatF afterL roomL
  rw [hrM_at hk, if_pos rfl]
  dsimp only
  split <;> omega
 refine ⟨by rw [heatL_len]; omega, fun i hi => ?_, fun i hi hi2 => ?_⟩
 ·rw [heatL_at (by omega), heatL_at (by omega)]
  rw [show heatF M (hrM H (hAt H 0).lo H.length) (plM many H.length) true (i + 1 + 1) = afterL M (heatF M (hrM H (hAt H 0).lo H.length) (plM many H.length) true (i + 1)) (roomL true (hAt (hrM H (hAt H 0).lo H.length) (i + 1))) (rAt (plM many H.length) (i + 1)) from rfl, plM_at (by omega), if_pos (by omega)]
  unfold afterL
  rw [if_pos rfl]
  omega
 ·rw [heatL_len] at hi2
  have := hge i (by omega)
  rw [heatL_at (by omega), heatL_at (by omega)]
  rw [show heatF M (hrM H (hAt H 0).lo H.length) (plM many H.length) true (i + 1 + 1) = afterL M (heatF M (hrM H (hAt H 0).lo H.length) (plM many H.length) true (i + 1)) (roomL true (hAt (hrM H (hAt H 0).lo H.length) (i + 1))) (rAt (plM many H.length) (i + 1)) from rfl, plM_at (by omega), if_neg (by omega), hrM_at (by omega)]
  unfold afterL roomL
  rw [if_neg (by decide), if_pos rfl]
  dsimp only
  omega
abbrev WorksR (f : Nat) : Prop := ∀ w1, Calls Tryz.prog f #[] w1 fun e w' => e = .returned (.bool true) ∧ Below w1.heap.size w1 w'
set_option maxHeartbeats 2000000 in
set_option maxRecDepth 20000 in
theorem law3_any (hwk : WorksR 6) (M : MillT) (B : Option Addr) (c n : Nat) (H : List HourT) (z : Int) (w : World) (hn : H.length = n) (h : Reads w w.heap.size 3 B n (hrC H)) (hmx : n ≤ maxLen) (hz : 0 ≤ z ∧ z ≤ 255) :
  Calls Tryz.prog 3 #[millV M B n c, .int .u8 z] w fun e w' => e = .returned (.bool true) ∧ Below w.heap.size w w' := by
 have hmx' := hmx
 unfold maxLen at hmx'
 have kr := fun w1 h => refMill_any M B c n H w1 hn h hmx
 by_cases hbig : 12 < n
 ·refine fn_v tk (n := 147) (A := []) Tryz.func3 rfl rfl (Nat.le_of_ble_eq_true rfl) (St.nil (Below.refl _ _)) ?_
  ((conv => whnf); (repeat ((first | (apply VCall.q; kernel_rfl; (focus (intro w1 hs; first | with_reducible apply hwk w1))) | (apply VLd.mk; (focus ((repeat (first | ((with_reducible apply ld_blk); exact rfl) | (with_reducible apply ld_skip))); done))) | apply VBr.t | (apply v_t; omega) | (apply VNew.mk; intro g hg)); (conv => whnf))))
  ((apply VRet.mk); refine ret1 (by first | exact .inl rfl | exact .inr rfl) rfl (by exact rv_tmp rfl) ?_; exact fun w h => ⟨rfl, h.base⟩)
 by_cases hM0 : refMill M H = 0
 rotate_left
 ·refine fn_v tk (n := 147) (A := []) Tryz.func3 rfl rfl (Nat.le_of_ble_eq_true rfl) (St.nil (Below.refl _ _)) ?_
  generalize refMill M H = rv at *
  ((conv => whnf); (repeat ((first | (apply VCall.q; kernel_rfl; (focus (intro w1 hs; first | with_reducible apply kr w1 (hs.reads h) | with_reducible apply hwk w1))) | (apply VLd.mk; (focus ((repeat (first | ((with_reducible apply ld_blk); exact rfl) | (with_reducible apply ld_skip))); done))) | (apply VLdN.mk; (focus ((repeat (first | (with_reducible apply ldn_blk) | (with_reducible apply ldn_skip))); done)); exact rfl) | apply VBr.t | apply VBr.f | (apply v_t; omega) | (apply v_f; omega) | (apply VNew.mk; intro g hg)); (conv => whnf))))
  ((apply VRet.mk); refine ret1 (by first | exact .inl rfl | exact .inr rfl) rfl (by exact rv_tmp rfl) ?_; exact fun w h => ⟨rfl, h.base⟩)
 rw [hM0] at kr
 have hM := refMill_iff.1 hM0
 clear hM0
 have hl := hM.1
 rw [hn] at hl
 refine fn_v tk (n := 147) (A := []) Tryz.func3 rfl rfl (Nat.le_of_ble_eq_true rfl) (St.nil (Below.refl _ _)) ?_
 ((conv => whnf); (repeat ((first | (apply VCall.q; kernel_rfl; (focus (intro w1 hs; first | with_reducible apply kr w1 (hs.reads h)))) | (apply VLd.mk; (focus ((repeat (first | ((with_reducible apply ld_blk); exact rfl) | (with_reducible apply ld_skip))); done))) | (apply VLdN.mk; (focus ((repeat (first | (with_reducible apply ldn_blk) | (with_reducible apply ldn_skip))); done)); exact rfl) | (apply VRng.mk; omega) | apply VBr.f | (apply v_f; omega) | (apply VNew.mk; intro g hg) | (apply VSt.mk; (focus ((repeat (first | (with_reducible exact At.here) | (with_reducible apply At.there))); done)); exact rfl) | (apply v_wr64; omega) | (apply VNz.mk; omega)); (conv => whnf))); apply VStop.mk)
 rename_i g2 _
 revert g
 intro gy _
 obtain ⟨many, hmany, hle⟩ : ∃ many : Nat, z.tmod ((n : Int) + 1) = (many : Int) ∧ many ≤ n := by
  have h1 := Int.tmod_nonneg ((n : Int) + 1) hz.1
  have h2 := Int.tmod_lt_of_pos z (show (0 : Int) < (n : Int) + 1 by omega)
  exact ⟨(z.tmod ((n : Int) + 1)).toNat, by omega, by omega⟩
 rw [hmany]
 clear hmany hz kr
 obtain ⟨b0, o0, rfl, _⟩ := h.2 (by omega)
 have c0 : ∀ A, CellAt w A b0 (o0 + 0 * 3 + 0 + 0) (.int .i64 (hAt H 0).lo) := hr_cell (k := 0) (j := 0) h hn (by omega) rfl
 have cp : ∀ i, i < n → ∀ A, CellAt w A b0 (o0 + i * 3 + 2) (.int .i64 (hAt H i).pd) := fun i hi => hr_cell (k := i) (j := 2) h hn hi rfl
 have hpk := heat_peak hM many (by omega)
 have hrow := heat_row (hrM_ok hM) (plM many H.length) true
 have hok2 := hrM_ok hM
 have hsame := heatL_same M H (hAt H 0).lo (plM many H.length) H.length
 rw [hrM_len] at hrow
 rw [hn] at hpk hrow hok2 hsame
 generalize (hAt H 0).lo = r at *
 refine tr_own_nil 32 3 ?_
 refine tr_own_nil 3 1 ?_
 refine v_loop (fun gm ds ts A => ds = [] ∧ ∃ (i : Nat) (Bx Bp : Option Addr) (cx cq : Nat), i + gm = n ∧ A = [.own (.slice Bp i cq) 3 1 i (i64s (plM many i)), .own (.slice Bx i cx) 32 3 i (hrC (hrM H r i)), .blk gy 24 [.int .i64 M.st, .int .i64 M.li, .int .i64 M.ga, .int .i64 M.fa, .slice Bx i cx], .blk g2 24 [.int .i64 M.st, .int .i64 M.li, .int .i64 M.ga, .int .i64 M.fa, .slice (some ⟨b0, o0, none⟩) n c]] ∧ ts = [(2, .pointer (some ⟨g2, 0, none⟩)), (5, .int .i64 (n : Int)), (6, .pointer (some ⟨gy, 0, none⟩)), (7, .slice Bp i cq), (8, .int .i64 (many : Int)), (9, .int .i64 (i : Int))]) n
  (l := [(2, _), (5, _), (6, _), (7, _), (8, _), (9, _)]) (B := _) ?_ (List.Sublist.refl _) ⟨rfl, 0, none, none, 0, 0, by omega, rfl, rfl⟩ ?_
 ·exact ⟨rfl, rfl, rfl, rfl, rfl, rfl, trivial⟩
 rintro gm ds ts A ⟨rfl, i, Bx, Bp, cx, cq, hi, rfl, rfl⟩
 by_cases hlt : i < n
 ·have hs1 := hrM_succ H r i
  have hs2 := plM_succ many i
  have hs3 : hrC (hrM H r (i + 1)) = hrC (hrM H r i) ++ [.int .i64 r, .int .i64 r, .int .i64 (hAt H i).pd] := by rw [hs1, hrC_snoc]; rfl
  have hs4 : ∀ b : Int, b = (if i < many then 1 else 0) → i64s (plM many (i + 1)) = i64s (plM many i) ++ [.int .i64 b] := fun b hb => by rw [hs2, hb]; simp [i64s]
  have cpi := cp i hlt
  generalize (hAt H i).pd = pd at *
  by_cases hm1 : i < many
  ·have hs5 := hs4 1 (by rw [if_pos hm1])
   (apply tr_v tk; (conv => whnf); (repeat ((first | (apply VStop.mk; refine tr_region_lex (id := 10) (by kernel_rfl) [.rd, .rd, .rd, .rd, .rd, .rd, .rd, .rd, .rd, .rd, .rd, .rd, .rd, .rd, .rd, .rd, .rd, .rd, .rd, .rd, .rd, .rd, .cr, .wr, .rd, .wr] rfl (by kernel_rfl) ?_; apply ot_v tk) | (apply VLd.mk; first | exact c0 _ | exact cpi _) | (apply VIx.mk (j := 0); exact rfl; omega) | (apply VIx.mk (j := i); exact rfl; omega) | (apply VLd.mk; (focus ((repeat (first | ((with_reducible apply ld_blk); exact rfl) | (with_reducible apply ld_skip))); done))) | apply VBr.t | (apply v_t; omega) | (apply VNew.mk; intro g hg)); (conv => whnf))); apply VStop.mk)
   refine ot_appendS (sz := 3) (sl := i) (A'v := fun v' => _ :: _ :: .own v' 32 3 (i + 1) (hrC (hrM H r i) ++ [.int .i64 r, .int .i64 r, .int .i64 pd]) :: _) tk rfl rfl rfl rfl rfl rfl rfl rfl rfl rfl (by decide) rfl (cells_blk_all (.head _)) rfl rfl (fun v' => .there (.there .here)) (by omega) (by decide) (fun B3 c3 => ?_)
   (apply ot_v tk; (conv => whnf); (repeat ((first | apply VBr.t | (apply v_t; omega) | (apply VNew.mk; intro g hg) | (apply VSt.mk; (focus ((repeat (first | (with_reducible exact At.here) | (with_reducible apply At.there))); done)); exact rfl)); (conv => whnf))); apply VStop.mk)
   refine ot_appendS (sz := 1) (sl := i) (A'v := fun v' => _ :: _ :: .own v' 3 1 (i + 1) (i64s (plM many i) ++ [.int .i64 1]) :: _) tk rfl rfl rfl rfl rfl rfl rfl rfl rfl rfl (by decide) rfl (cells_blk_all (.head _)) rfl rfl (fun v' => .there (.there .here)) (by omega) (by decide) (fun B4 c4 => ?_)
   (apply ot_v tk; (conv => whnf); (repeat ((apply VRng.mk; omega); (conv => whnf))))
   rw [← hs3, ← hs5]
   exact v_rnd (gm - 1) (by omega) (l := [(2, _), (5, _), (6, _), (7, _), (8, _), (9, _)]) (B := [.own (.slice B4 (i + 1) c4) 3 1 (i + 1) (i64s (plM many (i + 1))), .own (.slice B3 (i + 1) c3) 32 3 (i + 1) (hrC (hrM H r (i + 1))), .blk gy 24 [.int .i64 M.st, .int .i64 M.li, .int .i64 M.ga, .int .i64 M.fa, .slice B3 (i + 1) c3], .blk g2 24 [.int .i64 M.st, .int .i64 M.li, .int .i64 M.ga, .int .i64 M.fa, .slice (some ⟨b0, o0, none⟩) n c]]) ⟨rfl, rfl, rfl, rfl, rfl, rfl, trivial⟩ (by (repeat (first | exact sl0 _ | exact sl1 _ | refine sl2 _ ?_ | refine sl3 _ ?_))) ⟨rfl, i + 1, B3, B4, c3, c4, by omega, rfl, rfl⟩
  ·have hs5 := hs4 0 (by rw [if_neg hm1])
   (apply tr_v tk; (conv => whnf); (repeat ((first | (apply VStop.mk; refine tr_region_lex (id := 10) (by kernel_rfl) [.rd, .rd, .rd, .rd, .rd, .rd, .rd, .rd, .rd, .rd, .rd, .rd, .rd, .rd, .rd, .rd, .rd, .rd, .rd, .rd, .rd, .rd, .cr, .wr, .rd, .wr] rfl (by kernel_rfl) ?_; apply ot_v tk) | (apply VLd.mk; first | exact c0 _ | exact cpi _) | (apply VIx.mk (j := 0); exact rfl; omega) | (apply VIx.mk (j := i); exact rfl; omega) | (apply VLd.mk; (focus ((repeat (first | ((with_reducible apply ld_blk); exact rfl) | (with_reducible apply ld_skip))); done))) | apply VBr.t | (apply v_t; omega) | (apply VNew.mk; intro g hg)); (conv => whnf))); apply VStop.mk)
   refine ot_appendS (sz := 3) (sl := i) (A'v := fun v' => _ :: _ :: .own v' 32 3 (i + 1) (hrC (hrM H r i) ++ [.int .i64 r, .int .i64 r, .int .i64 pd]) :: _) tk rfl rfl rfl rfl rfl rfl rfl rfl rfl rfl (by decide) rfl (cells_blk_all (.head _)) rfl rfl (fun v' => .there (.there .here)) (by omega) (by decide) (fun B3 c3 => ?_)
   (apply ot_v tk; (conv => whnf); (repeat ((first | apply VBr.f | (apply v_f; omega) | (apply VNew.mk; intro g hg) | (apply VSt.mk; (focus ((repeat (first | (with_reducible exact At.here) | (with_reducible apply At.there))); done)); exact rfl)); (conv => whnf))); apply VStop.mk)
   refine ot_appendS (sz := 1) (sl := i) (A'v := fun v' => _ :: _ :: .own v' 3 1 (i + 1) (i64s (plM many i) ++ [.int .i64 0]) :: _) tk rfl rfl rfl rfl rfl rfl rfl rfl rfl rfl (by decide) rfl (cells_blk_all (.head _)) rfl rfl (fun v' => .there (.there .here)) (by omega) (by decide) (fun B4 c4 => ?_)
   (apply ot_v tk; (conv => whnf); (repeat ((apply VRng.mk; omega); (conv => whnf))))
   rw [← hs3, ← hs5]
   exact v_rnd (gm - 1) (by omega) (l := [(2, _), (5, _), (6, _), (7, _), (8, _), (9, _)]) (B := [.own (.slice B4 (i + 1) c4) 3 1 (i + 1) (i64s (plM many (i + 1))), .own (.slice B3 (i + 1) c3) 32 3 (i + 1) (hrC (hrM H r (i + 1))), .blk gy 24 [.int .i64 M.st, .int .i64 M.li, .int .i64 M.ga, .int .i64 M.fa, .slice B3 (i + 1) c3], .blk g2 24 [.int .i64 M.st, .int .i64 M.li, .int .i64 M.ga, .int .i64 M.fa, .slice (some ⟨b0, o0, none⟩) n c]]) ⟨rfl, rfl, rfl, rfl, rfl, rfl, trivial⟩ (by (repeat (first | exact sl0 _ | exact sl1 _ | refine sl2 _ ?_ | refine sl3 _ ?_))) ⟨rfl, i + 1, B3, B4, c3, c4, by omega, rfl, rfl⟩
 ·obtain rfl : i = n := by omega
  have kh := fun warm w1 h1 h2 => heatsS_any M Bx Bp cx cq i (hrM H r i) (plM many i) warm w1 (hrM_len _ _ _) h1 hok2 h2 (plM_ok many i)
  have kh1 := kh true
  have kh2 := kh false
  rw [hsame] at kh2
  have hll : (heatL M (hrM H r i) (plM many i) true i).length = i := heatL_len _ _ _ _ _
  have ⟨_, hv⟩ := rowE_ok.1 hrow
  clear hsame kh
  generalize heatL M (hrM H r i) (plM many i) true i = L at *
  (apply tr_v tk; (conv => whnf); (repeat ((first | (apply VLdN.mk; (focus ((repeat (first | (with_reducible apply ldn_blk) | (with_reducible apply ldn_skip))); done)); exact rfl) | apply VBr.f | (apply v_f; omega)); (conv => whnf))); apply VCall.stop)
  refine ot_callT (X := Nat) (us := []) (vs := []) (fun x => .tuple #[.slice (some ⟨x, 0, none⟩) i i, .int .i64 0]) (fun x => []) (fun x => [.own (.slice (some ⟨x, 0, none⟩) i i) 2 1 i (i64s L)]) _ (fun x c hc => one_mut hc) (by decide) rfl rfl rfl rfl (by kernel_rfl) (evl_of rfl) rfl (fun w1 hs => kh1 w1 (hs.own_rd (.tail _ (.head _))) (hs.own_rd (.head _))) ?_
  rintro ga _
  (dsimp only [List.cons_append, List.nil_append]; apply ot_v tk)
  ((conv => whnf); (repeat ((apply VLdN.mk; (focus ((repeat (first | (with_reducible apply ldn_blk) | (with_reducible apply ldn_skip))); done)); exact rfl); (conv => whnf))); apply VCall.stop)
  refine ot_callT (X := Nat) (us := []) (vs := []) (fun x => .tuple #[.slice (some ⟨x, 0, none⟩) i i, .int .i64 0]) (fun x => []) (fun x => [.own (.slice (some ⟨x, 0, none⟩) i i) 2 1 i (i64s L)]) _ (fun x c hc => one_mut hc) (by decide) rfl rfl rfl rfl (by kernel_rfl) (evl_of rfl) rfl (fun w1 hs => kh2 w1 (hs.own_rd (.tail _ (.head _))) (hs.own_rd (.head _))) ?_
  rintro gb _
  (dsimp only [List.cons_append, List.nil_append]; apply ot_v tk)
  have ks := fun w1 h1 h2 => same05_any (some ⟨ga, 0, none⟩) (some ⟨gb, 0, none⟩) i i L w1 h1 h2 (by omega)
  rw [hll] at ks
  ((conv => whnf); (repeat ((first | (apply VCall.q; kernel_rfl; (focus (intro w1 hs; first | with_reducible apply ks w1 (hs.own_rd (c := i) (t := 2) (by (repeat (first | exact List.mem_cons_self | refine List.mem_cons_of_mem _ ?_)))) (hs.own_rd (c := i) (t := 2) (by (repeat (first | exact List.mem_cons_self | refine List.mem_cons_of_mem _ ?_))))))) | apply VBr.f | (apply v_f; omega)); (conv => whnf))); apply VStop.mk)
  have kc := fun w1 h1 => curve_any (some ⟨ga, 0, none⟩) i i L w1 hll h1 (Nat.le_refl _) hrow hpk
  have km := fun w1 h1 => smooth_any (some ⟨ga, 0, none⟩) i i L (if (many : Int) - 1 > 0 then (many : Int) - 1 else 0) w1 hll h1 (Nat.le_refl _) hrow hpk (.inr (by split <;> omega))
  refine v_loop (fun gm ds ts A => ds = [] ∧ ∃ j : Nat, j + gm = i ∧ A = [.own (.slice (some ⟨ga, 0, none⟩) i i) 2 1 i (i64s L)] ∧ ts = [(5, .int .i64 (i : Int)), (8, .int .i64 (many : Int)), (10, .slice (some ⟨ga, 0, none⟩) i i), (14, .int .i64 (j : Int))]) i
   (l := [(5, _), (8, _), (10, _), (14, _)]) (B := [.own (.slice (some ⟨ga, 0, none⟩) i i) 2 1 i (i64s L)]) ?_ (List.singleton_sublist.2 (by (repeat (first | exact List.Mem.head _ | assumption | refine List.Mem.tail _ ?_)))) ⟨rfl, 0, by omega, rfl, rfl⟩ ?_
  ·exact ⟨rfl, rfl, rfl, rfl, trivial⟩
  clear hi hlt gm
  rintro gm ds ts A ⟨rfl, j, hj, rfl, rfl⟩
  by_cases hlt : j < i
  ·have cj : ∀ {R' : List Chunk}, CellAt w (.own (.slice (some ⟨ga, 0, none⟩) i i) 2 1 i (i64s L) :: R') ga (0 + j * 1) (.int .i64 (rAt L j)) := cell_ownI (by omega)
   have hx := hv _ (rAt_mem (l := L) (k := j) (by omega))
   generalize rAt L j = x at *
   (apply tr_v tk; (conv => whnf); (repeat ((first | (apply VLd.mk; exact cj) | (apply VIx.mk (j := j); exact rfl; omega) | (apply VRng.mk; omega) | apply VBr.t | apply VBr.f | (apply v_t; omega) | (apply v_f; omega)); (conv => whnf))))
   exact v_rnd (gm - 1) (by omega) (l := [(5, _), (8, _), (10, _), (14, _)]) (B := _) ⟨rfl, rfl, rfl, rfl, trivial⟩ (List.Sublist.refl _) ⟨rfl, j + 1, by omega, rfl, rfl⟩
  ·(apply tr_v tk; (conv => whnf); (repeat ((first | (apply VCall.q; kernel_rfl; (focus (intro w1 hs; first | with_reducible apply kc w1 (hs.own_rd (c := i) (t := 2) (by (repeat (first | exact List.mem_cons_self | refine List.mem_cons_of_mem _ ?_)))) | with_reducible apply km w1 (hs.own_rd (c := i) (t := 2) (by (repeat (first | exact List.mem_cons_self | refine List.mem_cons_of_mem _ ?_)))) | with_reducible apply hwk w1))) | (apply VRng.mk; omega) | apply VBr.t | apply VBr.f | (apply v_t; omega) | (apply v_f; omega)); (conv => whnf))))
   ((apply VRet.mk); refine ret1 (by first | exact .inl rfl | exact .inr rfl) rfl (by exact rv_tmp rfl) ?_; exact fun w h => ⟨rfl, h.base⟩)
end Go.Proofs.YtiodmphhjgkgjaaGreat
