/- Layer 3, blends: steps: lemmas for the rows of this seat. No conditions. -/
import Derived.Test.YtfjnnegaljfkgaaProg
import Derived.Test.YtfjnnegaljfkgaaBase
import Derived.Test.YtfjnnegaljfkgaaPlain
import Derived.Test.YtfjnnegaljfkgaaWA
set_option linter.all false
namespace Go.Proofs.Ytfjnnegaljfkgaa
open Go.RowKit
theorem Reads.step {w w' : World} {size n : Nat} {A : Option Addr} {xs : List Value} (h : Reads w w.heap.size size A n xs) (hb : Below w.heap.size w w') : Reads w' w'.heap.size size A n xs := (h.below hb).more hb.size
set_option maxHeartbeats 2000000 in
theorem isCorner_tail (A : Option Addr) (c : Nat) (xs : List (Int × Int)) (i : Nat) (w : World) (h : Reads w w.heap.size 2 A xs.length (pairCells xs)) (hm : xs.length ≤ 14) (hi : i < xs.length)
    (hg : ∀ j, j < xs.length → lotBad (lotAt xs j) = false) :
    Calls Try.prog 71 #[.slice A xs.length c, .int .i64 i] w fun e w' => e = .returned (.bool (isCorner xs i)) ∧ Below w.heap.size w w' := by
  have Hdef : Hid (isCorner xs i = if (xs.take i).any (fun x => decide (x = lotAt xs i)) then false else isCornerTail xs (lotAt xs i)) := rfl
  have Hany := Lib.hid (fun k hk => any_take (fun x => decide (x = lotAt xs i)) xs i k (0, 0) hk (by omega))
  have Hnot := Lib.hid (any_take_not (fun x => decide (x = lotAt xs i)) xs i (0, 0) (by omega))
  have hgi := not_lotBad.1 (hg i hi)
  have cO := fun (w1 : World) (hb : Below w.heap.size w w1) => others_any A c xs (lotAt xs i).1 (lotAt xs i).2 w1 ((h.below hb).more hb.size) (by omega)
  have cC := fun (w1 : World) (hb : Below w.heap.size w w1) => cheapestOf_any A c xs (lotAt xs i).1 w1 ((h.below hb).more hb.size) hm ⟨hgi.1, hgi.2.1⟩ hg
  have hol : (othersOf xs (lotAt xs i)).length ≤ xs.length := List.length_filter_le _ _
  have cD := fun (A' : Option Addr) (c' : Nat) (w1 : World) (hr : Reads w1 w1.heap.size 2 A' (othersOf xs (lotAt xs i)).length (pairCells (othersOf xs (lotAt xs i)))) => cheapestOf_any A' c' (othersOf xs (lotAt xs i)) (lotAt xs i).1 w1 hr (by omega) ⟨hgi.1, hgi.2.1⟩ (lotBad_others hg)
  have hX := okSt_couter (t := (lotAt xs i).1) hg _ (Nat.le_refl _)
  have hY := okSt_couter (xs := othersOf xs (lotAt xs i)) (t := (lotAt xs i).1) (lotBad_others hg) _ (Nat.le_refl _)
  have HT : Hid (isCornerTail xs (lotAt xs i) = (decide ((cheapestOf xs (lotAt xs i).1).getD (0, 0) = rat (lotAt xs i).2 1) &&
    (match cheapestOf (othersOf xs (lotAt xs i)) (lotAt xs i).1 with
    | none => true
    | some y => less ((cheapestOf xs (lotAt xs i).1).getD (0, 0)) y))) := rfl
  have hr := h.pair hi
  change okSt (cheapestOf xs (lotAt xs i).1) at hX
  change okSt (cheapestOf (othersOf xs (lotAt xs i)) (lotAt xs i).1) at hY
  have HX := Lib.hid hX
  have HY := Lib.hid hY
  have hli : lotAt xs i = xs[i]?.getD (0, 0) := rfl
  rw [← hli] at hr
  clear hli hX hY hg
  generalize lotAt xs i = l at *
  obtain ⟨l1, l2⟩ := l
  dsimp only at *
  generalize cheapestOf xs l1 = X at *
  generalize othersOf xs (l1, l2) = ys at *
  generalize cheapestOf ys l1 = Y at *
  unfold stB at cD
  generalize hyv : Y.getD (0, 0) = yv at *
  have Hyv := Lib.hid hyv; clear hyv
  obtain ⟨y1, y2⟩ := yv
  dsimp only at cD
  obtain ⟨b, o, rfl, hbb, ha1, ha2⟩ := hr
  go_enter Try.func71, Try.ntmps71
  go_wp2
  go_loopg [5] i (fun g v wr => ∃ k : Nat, k + g = i ∧ v = .int .i64 k ∧ (∀ j, j < k → decide ((xs[j]?.getD (0, 0)) = (l1, l2)) = false) ∧ Below w.heap.size w wr)
  case atStart => exact ⟨0, by omega, rfl, by simp, Below.refl _ _⟩
  case round =>
    obtain ⟨k, hk, rfl, hp, hb⟩ := hrel
    have Hk := Lib.hid hk; clear hk
    have Hp := Lib.hid hp; clear hp
    have ha1 := (hb.cell (p := ⟨_, _, none⟩) hbb).trans ha1
    have ha2 := (hb.cell (p := ⟨_, _, none⟩) hbb).trans ha2
    by_cases hlt : k < i
    · have hlx : k < xs.length := by omega
      have Hcase : Hid (∀ j, j < k + 1 → j < k ∨ j = k) := fun j hj => by omega
      obtain ⟨b', o', hq, hbb', hc1, hc2⟩ := (h.below hb).pair hlx
      obtain ⟨rfl, rfl⟩ : b = b' ∧ o = o' := by simpa using hq
      clear hq
      have Hyk := Lib.hid (Hany.out k hlt)
      generalize hx : xs[k]?.getD (0, 0) = x at *
      have Hx := Lib.hid hx; clear hx
      obtain ⟨x1, x2⟩ := x
      dsimp only at hc1 hc2
      by_cases t1 : x1 = l1
      · subst t1
        by_cases t2 : x2 = l2
        · subst t2
          have He := Lib.hid (Hdef.out.trans (if_pos (Hyk.out (by simp))))
          go_upto_region 4 with (fail)
          have d1 := fun u : BW wr => u.some_ ha1
          have d2 := fun u : BW wr => u.some_ ha2
          have d3 := fun u : BW wr => u.some_ hc1
          have d4 := fun u : BW wr => u.some_ hc2
          refine wp_region_bw (by kernel_rfl) (by kernel_rfl) ?_
          repeat (go_big_quiet_step (fail))
          refine wpQuiet_nil ?_
          intro wq hwq
          have hbq := bw_out hwq
          clear hwq
          try dsimp only
          clear d1 d2 d3 d4
          go_wp2
          go_ret
          exact ⟨ret_bool He.out.symm, hb.trans (hbq.mono hb.size)⟩
        · go_upto_region 4 with (fail)
          have d1 := fun u : BW wr => u.some_ ha1
          have d2 := fun u : BW wr => u.some_ ha2
          have d3 := fun u : BW wr => u.some_ hc1
          have d4 := fun u : BW wr => u.some_ hc2
          refine wp_region_bw (by kernel_rfl) (by kernel_rfl) ?_
          repeat (go_big_quiet_step (fail))
          refine wpQuiet_nil ?_
          intro wq hwq
          have hbq := bw_out hwq
          clear hwq
          try dsimp only
          clear d1 d2 d3 d4
          go_wp2
          go_roundg (gk - 1)
          case measure => have := Hk.out; omega
          case rel =>
            refine ⟨k + 1, by have := Hk.out; omega, by go_num, fun j hj => ?_, hb.trans (hbq.mono hb.size)⟩
            rcases Hcase.out j hj with hj | rfl
            · exact Hp.out j hj
            · rw [Hx.out]; simp [t2]
      · go_upto_region 4 with (fail)
        have d1 := fun u : BW wr => u.some_ ha1
        have d2 := fun u : BW wr => u.some_ ha2
        have d3 := fun u : BW wr => u.some_ hc1
        have d4 := fun u : BW wr => u.some_ hc2
        refine wp_region_bw (by kernel_rfl) (by kernel_rfl) ?_
        repeat (go_big_quiet_step (fail))
        refine wpQuiet_nil ?_
        intro wq hwq
        have hbq := bw_out hwq
        clear hwq
        try dsimp only
        clear d1 d2 d3 d4
        go_wp2
        go_roundg (gk - 1)
        case measure => have := Hk.out; omega
        case rel =>
          refine ⟨k + 1, by have := Hk.out; omega, by go_num, fun j hj => ?_, hb.trans (hbq.mono hb.size)⟩
          rcases Hcase.out j hj with hj | rfl
          · exact Hp.out j hj
          · rw [Hx.out]; simp [t1]
    · obtain rfl : k = i := by have := Hk.out; omega
      have He := Lib.hid ((Hdef.out.trans (if_neg (by rw [Hnot.out Hp.out]; simp))).trans HT.out)
      clear hlt
      go_wp2_with fail
      refine (cC _ hb).mono ?_; rintro e w1 ⟨rfl, hb1⟩
      unfold stB
      generalize hxv : X.getD (0, 0) = xv at *
      have hxo : Hid (∀ y, X = some y → xv = y) := fun y hy => by rw [← hxv, hy]; rfl
      clear hxv
      obtain ⟨x1, x2⟩ := xv
      dsimp only
      have hk6 := Blk.new w1 27 #[.int .i64 x1, .int .i64 x2]
      have hB := hb.trans (hb1.mono hb.size)
      have hB6 := hB.alloc hB.size (.cells #[.int .i64 x1, .int .i64 x2] 27)
      have hbw : b < w1.heap.size := Nat.lt_of_lt_of_le hbb hB.size
      have ha1 := (hB6.cell (p := ⟨_, _, none⟩) hbb).trans ((hb.cell (p := ⟨_, _, none⟩) hbb).symm.trans ha1)
      have ha2 := (hB6.cell (p := ⟨_, _, none⟩) hbb).trans ((hb.cell (p := ⟨_, _, none⟩) hbb).symm.trans ha2)
      clear hb hb1 hB
      go_upto_region 7 with (fail)
      generalize w1.alloc (.cells #[.int .i64 x1, .int .i64 x2] 27) = w2 at *
      go_cut [8, 9] (fun p q wx => ∃ g : Nat, p = .pointer (some ⟨g, 0, none⟩) ∧ q = .bool Y.isSome ∧ Blk wx g 27 #[.int .i64 y1, .int .i64 y2] ∧ Below w2.heap.size w2 wx)
      case first =>
        have lb : b < w2.heap.size := Nat.lt_of_lt_of_le hbb hB6.size
        go_region_with (first
            | (go_at_call 83; refine (cO _ (by first | exact hB6.drew | exact (hB6.alloc hB6.size _).drew)).mono ?_; rintro e w5 ⟨⟨A', c', rfl, hr5⟩, hb5⟩; have hd5 : w5.cell? ⟨b, o + k * 2, none⟩ = some (.int .i64 l1) := (hb5.cell (p := ⟨b, o + k * 2, none⟩) (by first | exact lb | (simp; omega))).trans (by first | exact ha1 | exact (World.cell?_alloc_lt _ _ _ lb).trans ha1); have hx5 : Below w2.heap.size w2 w5 := (by first | exact ((Below.refl _ _).drew).trans hb5 | exact (((Below.refl _ _).alloc (Nat.le_refl _) _).drew).trans (hb5.mono (by simp))); have hz5 : b < w5.heap.size := Nat.lt_of_lt_of_le (by first | exact lb | (simp; omega)) hb5.size; (try (have k5 := Blk.kept (w := (w2.alloc (.cells #[.int .i64 0, .int .i64 0] 27)).drew) (Blk.new w2 27 #[.int .i64 0, .int .i64 0]) hb5; obtain ⟨p1, p2, p3, p4⟩ := k5.two)))
            | (go_at_call 65; refine (cD A' c' _ (by first | exact hr5 | exact hr5.step ((Below.refl _ _).alloc (Nat.le_refl _) _))).mono ?_; rintro e w7 ⟨rfl, hb7⟩; have hx7 : Below w2.heap.size w2 w7 := (by first | exact hx5.trans (hb7.mono hx5.size) | exact (hx5.alloc hx5.size _).trans (hb7.mono (by have := hx5.size; simp; omega))); (first | (have k7 := k5.kept hb7; obtain ⟨m1, m2, m3, m4⟩ := k7.two) | (have k7 := (Blk.new w5 27 #[.int .i64 0, .int .i64 0]).kept hb7; obtain ⟨m1, m2, m3, m4⟩ := k7.two) | skip)))
        all_goals
          go_wp2_with fail
          go_meet
          first
            | exact ⟨_, rfl, rfl, Blk.new w7 27 _, hx7.alloc hx7.size _⟩
            | exact ⟨_, rfl, rfl, k7.put2 _ _, below_put2 hx7 (by have := hx5.size; first | exact this | exact Nat.le_refl _) _ _⟩
      case rest =>
        obtain ⟨g, rfl, rfl, hkg, hbx⟩ := hcut
        have hk6 := hk6.kept hbx
        have ha2 := (hbx.cell (p := ⟨_, _, none⟩) (Nat.lt_of_lt_of_le hbb hB6.size)).trans ha2
        have hB := hB6.trans (hbx.mono hB6.size)
        clear hbx ha1 hB6 cO cC cD
        obtain ⟨q1, q2, q3, q4⟩ := hk6.two
        obtain ⟨r1, r2, r3, r4⟩ := hkg.two
        have hrok := Lib.hid (okPrice_rat (n := l2) (d := 1) (by omega) (by omega) (by omega) (by omega))
        have hcall := Lib.hid (fun (u : BW wc) => calls_bw u (refBy_any l2 1 u.w (by omega) (by omega)))
        generalize rat l2 1 = rr at *
        obtain ⟨p1, p2⟩ := rr
        have d1 := fun u : BW wc => u.some_ ha2
        have d2 := fun u : BW wc => u.some_ q1
        have d3 := fun u : BW wc => u.some_ q2
        have d4 := fun u : BW wc => u.some_ r1
        have d5 := fun u : BW wc => u.some_ r2
        by_cases t1 : x1 = p1
        · subst t1
          by_cases t2 : x2 = p2
          · subst t2
            cases Y with
            | none =>
              have hfo : (none : Option (Int × Int)).isSome = false := rfl
              go_upto_region 8 with (fail)
              refine wp_region_bw (by kernel_rfl) (by kernel_rfl) ?_
              repeat (go_big_quiet_step (first | (go_at_call 47; exact hcall.out _) | fail))
              refine wpQuiet_nil ?_
              intro wq hwq
              have hbq := bw_out hwq
              clear hwq
              try dsimp only
              go_wp2
              go_ret
              exact ⟨ret_bool (by rw [He.out]; simp), hB.trans (hbq.mono hB.size)⟩
            | some y =>
              have hfo : (some y : Option (Int × Int)).isSome = true := rfl
              obtain rfl : y = (y1, y2) := Hyv.out
              have hyo := Lib.hid (HY.out _ rfl)
              have hl2 := Lib.hid (fun (u : BW wc) => calls_bw u (less_ok (x1, x2) (y1, y2) u.w hrok.out hyo.out))
              go_upto_region 8 with (fail)
              refine wp_region_bw (by kernel_rfl) (by kernel_rfl) ?_
              repeat (go_big_quiet_step (first | (go_at_call 47; exact hcall.out _) | (go_at_call 48; exact hl2.out _)))
              refine wpQuiet_nil ?_
              intro wq hwq
              have hbq := bw_out hwq
              clear hwq
              try dsimp only
              go_wp2
              go_ret
              exact ⟨ret_bool (by rw [He.out]; simp), hB.trans (hbq.mono hB.size)⟩
          · go_upto_region 8 with (fail)
            refine wp_region_bw (by kernel_rfl) (by kernel_rfl) ?_
            repeat (go_big_quiet_step (first | (go_at_call 47; exact hcall.out _) | fail))
            refine wpQuiet_nil ?_
            intro wq hwq
            have hbq := bw_out hwq
            clear hwq
            try dsimp only
            go_wp2
            go_ret
            exact ⟨ret_bool (by rw [He.out]; simp [t2]), hB.trans (hbq.mono hB.size)⟩
        · go_upto_region 8 with (fail)
          refine wp_region_bw (by kernel_rfl) (by kernel_rfl) ?_
          repeat (go_big_quiet_step (first | (go_at_call 47; exact hcall.out _) | fail))
          refine wpQuiet_nil ?_
          intro wq hwq
          have hbq := bw_out hwq
          clear hwq
          try dsimp only
          go_wp2
          go_ret
          exact ⟨ret_bool (by rw [He.out]; simp [t1]), hB.trans (hbq.mono hB.size)⟩
end Go.Proofs.Ytfjnnegaljfkgaa
