/- Layer 3, blends: parts, lines: lemmas for the rows of this seat. No conditions. -/
import Derived.Test.YtfjnnegaljfkgaaProg
import Derived.Test.YtfjnnegaljfkgaaBase
import Derived.Test.YtfjnnegaljfkgaaPlain
import Derived.Test.YtfjnnegaljfkgaaWA
import Derived.Test.YtfjnnegaljfkgaaSeg
import Derived.Test.YtfjnnegaljfkgaaKeys
import Derived.Test.YtfjnnegaljfkgaaW20
import Derived.Test.YtfjnnegaljfkgaaW21
import Derived.Test.YtfjnnegaljfkgaaW22
import Derived.Test.YtfjnnegaljfkgaaS1
import Derived.Test.YtfjnnegaljfkgaaS5
import Derived.Test.YtfjnnegaljfkgaaS12
import Derived.Test.YtfjnnegaljfkgaaTab
import Derived.Test.YtfjnnegaljfkgaaS14
import Derived.Test.YtfjnnegaljfkgaaArms
import Derived.Test.YtfjnnegaljfkgaaWE
import Derived.Test.YtfjnnegaljfkgaaB1
import Derived.Test.YtfjnnegaljfkgaaB2
import Derived.Test.YtfjnnegaljfkgaaB3
import Derived.Test.YtfjnnegaljfkgaaB4
import Derived.Test.YtfjnnegaljfkgaaB5
import Derived.Test.YtfjnnegaljfkgaaB6
import Derived.Test.YtfjnnegaljfkgaaB7
import Derived.Test.YtfjnnegaljfkgaaB8
import Derived.Test.YtfjnnegaljfkgaaB9
import Derived.Test.YtfjnnegaljfkgaaB10
import Derived.Test.YtfjnnegaljfkgaaB11
import Derived.Test.YtfjnnegaljfkgaaB12
import Derived.Test.YtfjnnegaljfkgaaB13
import Derived.Test.YtfjnnegaljfkgaaB14
import Derived.Test.YtfjnnegaljfkgaaC1
import Derived.Test.YtfjnnegaljfkgaaC2a
import Derived.Test.YtfjnnegaljfkgaaC2
import Derived.Test.YtfjnnegaljfkgaaL1
import Derived.Test.YtfjnnegaljfkgaaL2
set_option linter.all false
namespace Go.Proofs.Ytfjnnegaljfkgaa
open Go.RowKit
/-! ## parts, lines -/
/-- Lay theorems by their runs: the parts, the lines. -/
theorem parts_spec (xs : List (Int × Int)) (t : Int) : (partsP xs t).2 = (refCheapest xs t).2 ∧ ((refCheapest xs t).2 ≠ 0 → (partsP xs t).1 = []) ∧
    ((refCheapest xs t).2 = 0 → (partsP xs t).1.length = xs.length ∧ checkBlend xs (partsP xs t).1 = ((t, 1), (refCheapest xs t).1, 0) ∧ countNZ (partsP xs t).1 ≤ 2) := by
  rw [← cheapest_eq]
  unfold cheapestP partsP
  by_cases hs : openErr xs [t] ≠ 0
  · rw [if_pos hs, if_pos hs]
    exact ⟨rfl, fun _ => rfl, fun h => absurd h hs⟩
  · rw [if_neg hs, if_neg hs]
    rw [openErr_sharped] at hs
    obtain ⟨hg, ht⟩ := sharped_good hs
    cases hm : mixScan t none (chainOf xs) with
    | none => exact ⟨rfl, fun _ => rfl, fun h => by cases h⟩
    | some m => exact ⟨rfl, fun h => absurd rfl h, fun _ => ⟨partsOf_len _ _ _ _ _, hg.parts hm, partsOf_count _ _ _ _ _⟩⟩
theorem line_spec (xs : List (Int × Int)) (t : Int) : (lineP xs t).2 = (refCheapest xs t).2 ∧ ((refCheapest xs t).2 ≠ 0 → (lineP xs t).1 = (0, 0, 0)) ∧
    ((refCheapest xs t).2 = 0 → refCheckLine xs (lineP xs t).1.1 (lineP xs t).1.2.1 (lineP xs t).1.2.2 t = ((refCheapest xs t).1, 0)) := by
  rw [← cheapest_eq]
  unfold cheapestP lineP
  by_cases hs : openErr xs [t] ≠ 0
  · rw [if_pos hs, if_pos hs]
    exact ⟨rfl, fun _ => rfl, fun h => absurd h hs⟩
  · rw [if_neg hs, if_neg hs]
    rw [openErr_sharped] at hs
    obtain ⟨hg, ht⟩ := sharped_good hs
    cases hm : mixScan t none (chainOf xs) with
    | none => exact ⟨rfl, fun _ => rfl, fun h => by cases h⟩
    | some m =>
      have hI := hg.mixIs hm
      exact ⟨rfl, fun h => absurd rfl h, fun _ => checkLine_of hs hI.line hI.below hI.cheap.pos hI.val⟩
theorem floor_spec (xs : List (Int × Int)) (t : Int) : (floorP xs t).2 = (refAtLeast xs t).2 ∧ ((refAtLeast xs t).2 ≠ 0 → (floorP xs t).1 = (0, 0, 0)) ∧
    ((refAtLeast xs t).2 = 0 → refCheckLine xs (floorP xs t).1.1 (floorP xs t).1.2.1 (floorP xs t).1.2.2 t = ((refAtLeast xs t).1, 0) ∧ 0 ≤ (floorP xs t).1.2.2) := by
  rw [← atLeast_eq]
  unfold atLeastP floorP
  by_cases hs : openErr xs [t] ≠ 0
  · rw [if_pos hs, if_pos hs]
    exact ⟨rfl, fun _ => rfl, fun h => absurd h hs⟩
  · rw [if_neg hs, if_neg hs]
    rw [openErr_sharped] at hs
    obtain ⟨hg, ht⟩ := sharped_good hs
    cases hm : mixScan (riseOf xs t) none (chainOf xs) with
    | none => exact ⟨rfl, fun _ => rfl, fun h => by cases h⟩
    | some m =>
      have hF := hg.floorIs ht.1 hm
      have hfo : (if t < riseOf xs t ∨ riseOf xs t = riseOf xs 0 then ((1, m.1.2.1, 0), (0 : Int)) else (lineOf xs (riseOf xs t), 0)) = (floorO xs t m, 0) := by
        unfold floorO
        split <;> rfl
      dsimp only
      rw [hfo]
      refine ⟨rfl, fun h => absurd rfl h, fun _ => ⟨checkLine_of hs ?_ hF.below hF.least.pos hF.val, hF.line.2.2.2.2.1⟩⟩
      have := hF.line
      dsimp only
      omega
end Go.Proofs.Ytfjnnegaljfkgaa
