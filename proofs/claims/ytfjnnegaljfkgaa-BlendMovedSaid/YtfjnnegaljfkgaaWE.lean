/- Layer 3, blends: steps: lemmas for the rows of this seat. No conditions. -/
import Derived.Test.YtfjnnegaljfkgaaProg
import Derived.Test.YtfjnnegaljfkgaaBase
import Derived.Test.YtfjnnegaljfkgaaPlain
import Derived.Test.YtfjnnegaljfkgaaWA
import Derived.Test.YtfjnnegaljfkgaaWD
set_option linter.all false
namespace Go.Proofs.Ytfjnnegaljfkgaa
open Go.RowKit
theorem Try.info3 : (Try.prog.info? 3).map (fun i => (i.zero, i.size, i.bytes)) = some (some (.int .i64 0), 1, 8) := by kernel_rfl
/-- A list of numbers and an error, in memory. -/
def IntsRet (r : List Int × Int) (w0 : World) (e : Ending) (w' : World) : Prop :=
  (∃ A c, e = .returned (.tuple #[.slice A r.1.length c, .int .i64 r.2]) ∧ Reads w' w'.heap.size 1 A r.1.length (i64s r.1)) ∧ Below w0.heap.size w0 w'
theorem i64s_append (l m : List Int) : i64s (l ++ m) = i64s l ++ i64s m := by simp [i64s]

set_option maxHeartbeats 2000000 in
theorem refIdle_any (A : Option Addr) (c : Nat) (xs : List (Int × Int)) (w : World) (h : Reads w w.heap.size 2 A xs.length (pairCells xs)) (hm : xs.length ≤ maxLen) :
    Calls Try.prog 37 #[.slice A xs.length c] w (IntsRet (refIdle xs) w) := by
  have c1 := fun (w1 : World) (hb : Below w.heap.size w w1) => refCheckLots_any A c xs w1 ((h.below hb).more hb.size) hm
  by_cases he : checkLots xs = 0
  · obtain ⟨hl1, hl8, hgood⟩ := checkLots_zero he
    have Hs : Hid (refIdle xs = (idxs (idleAt xs) xs.length, 0)) := if_neg (by simpa using he)
    have Hg : Hid (∀ j, j < xs.length → lotBad (lotAt xs j) = false) := hgood
    have c2 := fun (t : Int) (ht : 0 ≤ t ∧ t ≤ 100) (w1 : World) (hb : Below w.heap.size w w1) => cheapestOf_any A c xs t w1 ((h.below hb).more hb.size) (by omega) ht hgood
    have HX := Lib.hid (fun t => okSt_couter (t := t) hgood _ (Nat.le_refl _))
    have HI := Lib.hid (idxs_succ (idleAt xs))
    have HL := Lib.hid (idxs_length (idleAt xs))
    have HA : Hid (∀ i, idleAt xs i = less ((cheapestOf xs (lotAt xs i).1).getD (0, 0)) (rat (lotAt xs i).2 1)) := fun _ => rfl
    rw [he] at c1
    clear he hgood hl1
    obtain ⟨i0, hi0, hz0, hz1, hz2⟩ := info_parts Try.info3
    have Hpost : Hid (∀ e w', (∃ A c, e = .returned (.tuple #[.slice A (idxs (idleAt xs) xs.length).length c, .int .i64 0]) ∧ Reads w' w'.heap.size 1 A (idxs (idleAt xs) xs.length).length (i64s (idxs (idleAt xs) xs.length))) ∧ Below w.heap.size w w' → IntsRet (refIdle xs) w e w') := by
      intro e w' h; unfold IntsRet; rw [Hs.out]; exact h
    generalize IntsRet (refIdle xs) w = POST at *
    go_enter Try.func37, Try.ntmps37
    go_wp2_with fail
    refine (c1 _ (Below.refl _ _)).mono ?_; rintro e w1 ⟨rfl, hb1⟩
    go_wp2
    go_loopg [4, 5] xs.length (fun g v i wr => ∃ k : Nat, k + g = xs.length ∧ i = .int .i64 k ∧ wr.ownsRow w.heap.size 3 1 v (idxs (idleAt xs) k).length (i64s (idxs (idleAt xs) k)) ∧ Below w.heap.size w wr)
    case atStart => exact ⟨0, by omega, rfl, by simpa [idxs, i64s] using World.ownsRow_nil _ _ _ _, hb1⟩
    case round =>
      clear hb1 c1
      obtain ⟨k, hk, rfl, hown, hb⟩ := hrel
      have Hk := Lib.hid hk; clear hk
      by_cases hlt : k < xs.length
      · have hs := Lib.hid (HI.out k)
        have hlen := HL.out k
        have hgk := not_lotBad.1 (Hg.out k hlt)
        have hra := h.pair hlt
        have hA := Lib.hid (HA.out k)
        have hcl : lotAt xs k = xs[k]?.getD (0, 0) := rfl
        rw [← hcl] at hra
        clear hcl
        generalize lotAt xs k = l at *
        obtain ⟨l1, l2⟩ := l
        dsimp only at *
        obtain ⟨b, o, rfl, hbb, ha1, ha2⟩ := hra
        have c3 := c2 l1 (by omega)
        have hX := HX.out l1
        change okSt (cheapestOf xs l1) at hX
        have hXo := Lib.hid (fun (hx : (cheapestOf xs l1) ≠ none) => show okPrice ((cheapestOf xs l1).getD (0, 0)) by
          cases hc : cheapestOf xs l1 with
          | none => exact absurd hc hx
          | some y => exact hX y hc)
        have hXz : Hid (okPrice ((cheapestOf xs l1).getD (0, 0)) ∨ (cheapestOf xs l1).getD (0, 0) = (0, 0)) := by
          cases hc : cheapestOf xs l1 with
          | none => exact .inr rfl
          | some y => exact .inl (hX y hc)
        clear hX hXo
        unfold stB at c3
        generalize (cheapestOf xs l1).getD (0, 0) = xv at *
        generalize (cheapestOf xs l1).isSome = xb at *
        obtain ⟨x1, x2⟩ := xv
        have hxb : -1000000 ≤ x1 ∧ x1 ≤ 1000000 ∧ 0 ≤ x2 ∧ x2 ≤ 10000 := by
          rcases hXz.out with h1 | h1
          · unfold okPrice at h1; dsimp only at h1; omega
          · simp only [Prod.mk.injEq] at h1; omega
        clear hXz
        have ha1w := (hb.cell (p := ⟨_, _, none⟩) hbb).trans ha1
        go_wp2_with fail
        refine (c3 _ hb).mono ?_; rintro e w2 ⟨rfl, hb2⟩
        have hB := hb.trans (hb2.mono hb.size)
        have hown := own_below_kept hown hb2 (Nat.le_refl _)
        have ha2w := (hB.cell (p := ⟨_, _, none⟩) hbb).trans ha2
        have hbw : b < w2.heap.size := Nat.lt_of_lt_of_le hbb hB.size
        have ha2' := (World.cell?_alloc_lt w2 (.cells #[.int .i64 x1, .int .i64 x2] 27) ⟨b, o + k * 2 + 1, none⟩ hbw).trans ha2w
        obtain ⟨q1, q2, q3, q4⟩ := (Blk.new w2 27 #[.int .i64 x1, .int .i64 x2]).two
        clear hb hb2 ha1 ha2 ha1w ha2w c3
        have hrok := Lib.hid (okPrice_rat (n := l2) (d := 1) (by omega) (by omega) (by omega) (by omega))
        have cB := Lib.hid (fun (u : BW (w2.alloc (.cells #[.int .i64 x1, .int .i64 x2] 27))) => calls_bw u (refBy_any l2 1 u.w (by omega) (by omega)))
        have hro := hrok.out
        unfold okPrice at hro
        have cL := Lib.hid (fun (u : BW (w2.alloc (.cells #[.int .i64 x1, .int .i64 x2] 27))) => calls_bw u (less_any x1 x2 (rat l2 1).1 (rat l2 1).2 u.w (by omega) (by omega) (by omega) (by omega)))
        clear hro
        generalize rat l2 1 = rr at *
        obtain ⟨p1, p2⟩ := rr
        dsimp only at cB cL
        go_upto_region 8 with (fail)
        have d1 := fun u : BW (w2.alloc (.cells #[.int .i64 x1, .int .i64 x2] 27)) => u.some_ ha2'
        have d2 := fun u : BW (w2.alloc (.cells #[.int .i64 x1, .int .i64 x2] 27)) => u.some_ q1
        have d3 := fun u : BW (w2.alloc (.cells #[.int .i64 x1, .int .i64 x2] 27)) => u.some_ q2
        refine wp_region_bw (by kernel_rfl) (by kernel_rfl) ?_
        repeat (go_big_quiet_step (first | (go_at_call 47; exact cB.out _) | (go_at_call 48; exact cL.out _)))
        refine wpQuiet_nil ?_
        intro wq hwq
        have hbq := bw_out hwq
        clear hwq
        try dsimp only
        clear d1 d2 d3
        have hB := (hB.alloc hB.size (.cells #[.int .i64 x1, .int .i64 x2] 27)).trans (hbq.mono (by have := hB.size; simp; omega))
        have hown := own_below_kept (hown.alloc _) hbq (Nat.le_refl _)
        clear hbq ha2' q1 q2 q3 q4 cB cL
        generalize less (x1, x2) (p1, p2) = lt at *
        cases lt with
        | true =>
          have hs := Lib.hid (hs.out.trans (by rw [hA.out, if_pos rfl]))
          go_wp2_with (at_builtin; refine wpList_append_own _ rfl (.tmp 37) (.tmp 39) 47 rfl w.heap.size 3 i0 (.int .i64 0) 1 8 Try.underlying47 hi0 hz0 hz1 hz2 rfl (by decide) _ _ _ rfl (hown.alloc _) ⟨wq.heap.size, 0, none⟩ 1 1 (i64s [(k : Int)]) rfl rfl (cells_alloc wq (i64s [(k : Int)]) 3) (i64s_oneCell _) (by unfold maxLen; omega) (by omega) (by have := hB.size; simp; omega) ?_)
          intro v' w5 hown5 hg5 hv5
          have hb5 := own_below (hown.alloc _) hg5 (by have := hB.size; simp; omega)
          have hB5 := (hB.alloc hB.size (.cells _ 3)).trans hb5
          rw [← i64s_append] at hown5
          clear hg5 hv5 hb5 hown hB
          obtain ⟨A5, c5, hv5, _⟩ := own_reads hown5
          go_wp2
          go_roundg (gk - 1)
          case measure => have := Hk.out; omega
          case rel => exact ⟨k + 1, by have := Hk.out; omega, by go_num, by rw [hs.out, List.length_append]; exact hown5, hB5⟩
        | false =>
          have hs := Lib.hid (hs.out.trans (by rw [hA.out, if_neg (by simp), List.append_nil]))
          go_wp2
          go_roundg (gk - 1)
          case measure => have := Hk.out; omega
          case rel => exact ⟨k + 1, by have := Hk.out; omega, by go_num, by rw [hs.out]; exact hown, hB⟩
      · obtain rfl : k = xs.length := by have := Hk.out; omega
        obtain ⟨A', c', rfl, hr, _⟩ := own_reads hown
        go_wp2
        exact Hpost.out _ _ ⟨⟨A', c', rfl, hr⟩, hb⟩
  · have Hs : Hid (refIdle xs = ([], checkLots xs)) := if_pos he
    have Hpost : Hid (∀ e w', (∃ A c, e = .returned (.tuple #[.slice A 0 c, .int .i64 (checkLots xs)]) ∧ Reads w' w'.heap.size 1 A 0 []) ∧ Below w.heap.size w w' → IntsRet (refIdle xs) w e w') := by
      intro e w' h; unfold IntsRet; rw [Hs.out]; exact h
    generalize IntsRet (refIdle xs) w = POST at *
    clear Hs
    generalize checkLots xs = e at *
    have he' : (e != 0) = true := by simpa using he
    go_enter Try.func37, Try.ntmps37
    go_wp2_with fail
    refine (c1 _ (Below.refl _ _)).mono ?_; rintro e w1 ⟨rfl, hb1⟩
    go_wp2_with fail
    refine (c1 _ hb1).mono ?_; rintro e w2 ⟨rfl, hb2⟩
    go_wp2
    exact Hpost.out _ _ ⟨⟨none, 0, rfl, Reads.none_⟩, hb1.trans (hb2.mono hb1.size)⟩
set_option maxHeartbeats 2000000 in
theorem refCorners_any (A : Option Addr) (c : Nat) (xs : List (Int × Int)) (w : World) (h : Reads w w.heap.size 2 A xs.length (pairCells xs)) (hm : xs.length ≤ maxLen) :
    Calls Try.prog 35 #[.slice A xs.length c] w (IntsRet (refCorners xs) w) := by
  have c1 := fun (w1 : World) (hb : Below w.heap.size w w1) => refCheckLots_any A c xs w1 ((h.below hb).more hb.size) hm
  by_cases he : checkLots xs = 0
  · obtain ⟨hl1, hl8, hgood⟩ := checkLots_zero he
    have Hs : Hid (refCorners xs = (cornersUpto xs 101, 0)) := if_neg (by simpa using he)
    have Hg : Hid (∀ j, j < xs.length → lotBad (lotAt xs j) = false) := hgood
    have c2 := Lib.hid (fun (i : Nat) (hi : i < xs.length) (w1 : World) (hb : Below w.heap.size w w1) => isCorner_tail A c xs i w1 ((h.below hb).more hb.size) (by omega) hi hgood)
    have HI := Lib.hid (fun s => idxs_succ (cornerAt xs s))
    have HL := Lib.hid (fun s => idxs_length (cornerAt xs s))
    have HU := Lib.hid (cornersUpto_length xs)
    have HA : Hid (∀ s i, cornerAt xs s i = (decide ((lotAt xs i).1 = s) && isCorner xs i)) := fun _ _ => rfl
    have HS : Hid (∀ s, cornersUpto xs (s + 1) = cornersUpto xs s ++ idxs (cornerAt xs s) xs.length) := fun _ => rfl
    rw [he] at c1
    clear he hgood hl1
    obtain ⟨i0, hi0, hz0, hz1, hz2⟩ := info_parts Try.info3
    have Hpost : Hid (∀ e w', (∃ A c, e = .returned (.tuple #[.slice A (cornersUpto xs 101).length c, .int .i64 0]) ∧ Reads w' w'.heap.size 1 A (cornersUpto xs 101).length (i64s (cornersUpto xs 101))) ∧ Below w.heap.size w w' → IntsRet (refCorners xs) w e w') := by
      intro e w' h; unfold IntsRet; rw [Hs.out]; exact h
    generalize IntsRet (refCorners xs) w = POST at *
    go_enter Try.func35, Try.ntmps35
    go_wp2_with fail
    refine (c1 _ (Below.refl _ _)).mono ?_; rintro e w1 ⟨rfl, hb1⟩
    go_wp2
    go_loopg [4, 5] 101 (fun g v i wr => ∃ s : Nat, s + g = 101 ∧ i = .int .i64 s ∧ wr.ownsRow w.heap.size 3 1 v (cornersUpto xs s).length (i64s (cornersUpto xs s)) ∧ Below w.heap.size w wr)
    case atStart => exact ⟨0, by omega, rfl, by simpa [cornersUpto, i64s] using World.ownsRow_nil _ _ _ _, hb1⟩
    case round =>
      clear hb1 c1
      obtain ⟨s, hs, rfl, hown, hb⟩ := hrel
      have Hss := Lib.hid hs; clear hs
      by_cases hlt : s < 101
      · have hlt' : (s : Int) ≤ 100 := by omega
        have hUs := HU.out s
        have hUs2 : (cornersUpto xs s).length ≤ 808 := by
          have : s * xs.length ≤ 101 * 8 := Nat.mul_le_mul (by omega) hl8
          omega
        clear hUs
        have hsn := HS.out s
        have Hsn := Lib.hid hsn; clear hsn
        generalize cornersUpto xs s = U at *
        have hUl : (U ++ idxs (cornerAt xs s) 0) = U := by simp [idxs]
        go_wp2
        go_loopg [4, 6] xs.length (fun g v i wr => ∃ k : Nat, k + g = xs.length ∧ i = .int .i64 k ∧ wr.ownsRow w.heap.size 3 1 v (U ++ idxs (cornerAt xs s) k).length (i64s (U ++ idxs (cornerAt xs s) k)) ∧ Below w.heap.size w wr)
        case atStart => exact ⟨0, by omega, rfl, by rw [hUl]; exact hown, hb⟩
        case round =>
          clear hown hb hUl
          obtain ⟨k, hk, rfl, hown, hb⟩ := hrel
          have Hk := Lib.hid hk; clear hk
          by_cases hlk : k < xs.length
          · have hst := Lib.hid (HI.out s k)
            have hlen := HL.out s k
            have hra := h.pair hlk
            have hA := Lib.hid (HA.out s k)
            have c3 := c2.out k hlk
            have hgk := not_lotBad.1 (Hg.out k hlk)
            have hcl : lotAt xs k = xs[k]?.getD (0, 0) := rfl
            rw [← hcl] at hra
            clear hcl
            generalize lotAt xs k = l at *
            obtain ⟨l1, l2⟩ := l
            dsimp only at *
            obtain ⟨b, o, rfl, hbb, ha1, ha2⟩ := hra
            have ha1w := (hb.cell (p := ⟨_, _, none⟩) hbb).trans ha1
            clear ha1 ha2
            have hll : (U ++ idxs (cornerAt xs s) k).length ≤ 1000 := by rw [List.length_append]; omega
            generalize hZ : U ++ idxs (cornerAt xs s) k = Z at *
            have HZ := Lib.hid hZ; clear hZ
            by_cases t1 : l1 = s
            · subst t1
              go_wp2_with fail
              refine (c3 _ hb).mono ?_; rintro e w2 ⟨rfl, hb2⟩
              have hB := hb.trans (hb2.mono hb.size)
              have hown := own_below_kept hown hb2 (Nat.le_refl _)
              clear hb hb2 ha1w c3
              generalize isCorner xs k = ic at *
              cases ic with
              | true =>
                have hst := Lib.hid (show U ++ idxs (cornerAt xs s) (k + 1) = Z ++ [(k : Int)] by rw [hst.out, hA.out, ← List.append_assoc, HZ.out]; simp)
                go_wp2_with (at_builtin; refine wpList_append_own _ rfl (.tmp 34) (.tmp 36) 47 rfl w.heap.size 3 i0 (.int .i64 0) 1 8 Try.underlying47 hi0 hz0 hz1 hz2 rfl (by decide) _ _ _ rfl (hown.alloc _) ⟨w2.heap.size, 0, none⟩ 1 1 (i64s [(k : Int)]) rfl rfl (cells_alloc w2 (i64s [(k : Int)]) 3) (i64s_oneCell _) (by unfold maxLen; omega) (by omega) (by have := hB.size; simp; omega) ?_)
                intro v' w5 hown5 hg5 hv5
                have hb5 := own_below (hown.alloc _) hg5 (by have := hB.size; simp; omega)
                have hB5 := (hB.alloc hB.size (.cells _ 3)).trans hb5
                rw [← i64s_append] at hown5
                clear hg5 hv5 hb5 hown hB
                obtain ⟨A5, c5, hv5, _⟩ := own_reads hown5
                go_wp2
                go_roundg (gk - 1)
                case measure => have := Hk.out; omega
                case rel => exact ⟨k + 1, by have := Hk.out; omega, by go_num, by rw [hst.out, List.length_append]; exact hown5, hB5⟩
              | false =>
                have hst := Lib.hid (show U ++ idxs (cornerAt xs s) (k + 1) = Z by rw [hst.out, hA.out, ← List.append_assoc, HZ.out]; simp)
                go_wp2
                go_roundg (gk - 1)
                case measure => have := Hk.out; omega
                case rel => exact ⟨k + 1, by have := Hk.out; omega, by go_num, by rw [hst.out]; exact hown, hB⟩
            · have hst := Lib.hid (show U ++ idxs (cornerAt xs s) (k + 1) = Z by rw [hst.out, hA.out, ← List.append_assoc, HZ.out]; simp [t1])
              have t2 : (l1 == (s : Int)) = false := by simpa using t1
              go_wp2
              go_roundg (gk - 1)
              case measure => have := Hk.out; omega
              case rel => exact ⟨k + 1, by have := Hk.out; omega, by go_num, by rw [hst.out]; exact hown, hb⟩
          · have hkn : k = xs.length := by have := Hk.out; omega
            subst hkn
            go_wp2
            go_roundg (100 - s)
            case measure => have := Hss.out; omega
            case rel => exact ⟨s + 1, by omega, by go_num, by rw [Hsn.out]; exact hown, hb⟩
      · have hs101 : s = 101 := by have := Hss.out; omega
        subst hs101
        obtain ⟨A', c', rfl, hr, _⟩ := own_reads hown
        go_wp2
        exact Hpost.out _ _ ⟨⟨A', c', rfl, hr⟩, hb⟩
  · have Hs : Hid (refCorners xs = ([], checkLots xs)) := if_pos he
    have Hpost : Hid (∀ e w', (∃ A c, e = .returned (.tuple #[.slice A 0 c, .int .i64 (checkLots xs)]) ∧ Reads w' w'.heap.size 1 A 0 []) ∧ Below w.heap.size w w' → IntsRet (refCorners xs) w e w') := by
      intro e w' h; unfold IntsRet; rw [Hs.out]; exact h
    generalize IntsRet (refCorners xs) w = POST at *
    clear Hs
    generalize checkLots xs = e at *
    have he' : (e != 0) = true := by simpa using he
    go_enter Try.func35, Try.ntmps35
    go_wp2_with fail
    refine (c1 _ (Below.refl _ _)).mono ?_; rintro e w1 ⟨rfl, hb1⟩
    go_wp2_with fail
    refine (c1 _ hb1).mono ?_; rintro e w2 ⟨rfl, hb2⟩
    go_wp2
    exact Hpost.out _ _ ⟨⟨none, 0, rfl, Reads.none_⟩, hb1.trans (hb2.mono hb1.size)⟩
end Go.Proofs.Ytfjnnegaljfkgaa
