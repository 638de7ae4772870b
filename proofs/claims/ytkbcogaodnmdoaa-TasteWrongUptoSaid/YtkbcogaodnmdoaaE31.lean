/- TasteApart: lemmas for the rows of this seat. No conditions. -/
import Derived.Test.YtkbcogaodnmdoaaProg
import Derived.WalkKit
import Derived.WalkSpells
import Derived.WalkLawsBesides
import Derived.Lib.Hide
import Derived.Deep.AppendLies
import Derived.Deep.Draws
import Derived.Maps.AppendAt
import Derived.RegionTactic
import Derived.OwnWalk
import Derived.Deep.QuietTactic
import Derived.BigQuiet
import Derived.Deep.DeepFit
import Derived.Deep.LoopGhost
import Derived.Deep.DeepMust
import Derived.Deep.DeepCutAuto
import Derived.StillTail
import Derived.Deep.Quiet
import Derived.Deep.RegionHeld3
import Derived.Deep.RegionWith
import Derived.Deep.RegionLaw
import Derived.Maps.OwnOps
import Derived.Maps.OwnSet
import Derived.Maps.OwnRows
import Derived.Maps.RangeWalk
import Derived.Carry
import Derived.Test.YtkbcogaodnmdoaaBase
import Derived.Test.YtkbcogaodnmdoaaMaps
import Derived.Test.YtkbcogaodnmdoaaKeys
import Derived.Test.YtkbcogaodnmdoaaS1
import Derived.Test.YtkbcogaodnmdoaaS5
import Derived.Test.YtkbcogaodnmdoaaS12
import Derived.Test.YtkbcogaodnmdoaaS14
import Derived.Test.YtkbcogaodnmdoaaV
import Derived.Test.YtkbcogaodnmdoaaV2
import Derived.Test.YtkbcogaodnmdoaaV3
import Derived.Test.YtkbcogaodnmdoaaV4
import Derived.Test.YtkbcogaodnmdoaaTab
import Derived.Test.YtkbcogaodnmdoaaE1
import Derived.Test.YtkbcogaodnmdoaaE2
import Derived.Test.YtkbcogaodnmdoaaE3
import Derived.Test.YtkbcogaodnmdoaaE4
import Derived.Test.YtkbcogaodnmdoaaE5
import Derived.Test.YtkbcogaodnmdoaaE6
import Derived.Test.YtkbcogaodnmdoaaE7
import Derived.Test.YtkbcogaodnmdoaaE8
import Derived.Test.YtkbcogaodnmdoaaE9
import Derived.Test.YtkbcogaodnmdoaaE10
import Derived.Test.YtkbcogaodnmdoaaE11
import Derived.Test.YtkbcogaodnmdoaaE12
import Derived.Test.YtkbcogaodnmdoaaE13
import Derived.Test.YtkbcogaodnmdoaaE14
import Derived.Test.YtkbcogaodnmdoaaE15
import Derived.Test.YtkbcogaodnmdoaaE16
import Derived.Test.YtkbcogaodnmdoaaE17
import Derived.Test.YtkbcogaodnmdoaaE18
import Derived.Test.YtkbcogaodnmdoaaE19
import Derived.Test.YtkbcogaodnmdoaaE20
import Derived.Test.YtkbcogaodnmdoaaE21
import Derived.Test.YtkbcogaodnmdoaaE22
import Derived.Test.YtkbcogaodnmdoaaE23
import Derived.Test.YtkbcogaodnmdoaaE24
import Derived.Test.YtkbcogaodnmdoaaE25
import Derived.Test.YtkbcogaodnmdoaaE26
import Derived.Test.YtkbcogaodnmdoaaE27
import Derived.Test.YtkbcogaodnmdoaaE28
import Derived.Test.YtkbcogaodnmdoaaE29
import Derived.Test.YtkbcogaodnmdoaaE30
set_option linter.all false
namespace Go.Proofs.Ytkbcogaodnmdoaa
open Go.RowKit
/-! ## TasteApart -/
theorem rng_ne (a b c d : Int) (h : ¬ (a = c ∧ b = d)) (w : World) : (Op.equal 23 (.agg #[.int .i64 a, .int .i64 b]) (.agg #[.int .i64 c, .int .i64 d])).run Try.prog w = .ok false w := by
  rw [rng_eq, decide_eq_false h]
theorem tmod_nat (z : Int) (L : Nat) (h : 0 ≤ z) : Int.tmod z L = ((z.toNat % L : Nat) : Int) := by
  obtain ⟨n, rfl⟩ : ∃ n : Nat, z = n := ⟨z.toNat, by omega⟩
  rw [Int.toNat_natCast]
  exact (Int.ofNat_tmod n L).symm
section
variable {rlo rhi : Int} {L : Nat} {S : List (List T3)} (hO : Okb rlo rhi L S)
include hO
theorem apartR_yes (hc : canB rlo rhi L S (-1) = true) {i k : Nat} (hi : i < L) (hk : k < L) : apartR rlo rhi L S i k = (-(jm rlo rhi L S (-1) (i + 1) (k + 1)), jm rlo rhi L S (-1) (k + 1) (i + 1), 0) := by
  have h0 : chkBook rlo rhi L S = 0 := chk_ok.2 hO
  unfold apartR
  rw [if_neg (by simpa using h0), if_neg (by omega), Int.toNat_natCast, if_neg (by rw [hc]; decide), Int.toNat_natCast, Int.toNat_natCast]
theorem apartR_no (hc : canB rlo rhi L S (-1) = false) {i k : Nat} (hi : i < L) (hk : k < L) : apartR rlo rhi L S i k = (0, 0, 17) := by
  have h0 : chkBook rlo rhi L S = 0 := chk_ok.2 hO
  unfold apartR
  rw [if_neg (by simpa using h0), if_neg (by omega), Int.toNat_natCast, if_pos hc]
theorem spansP_at (hc : canB rlo rhi L S (-1) = true) {i : Nat} (hi : i < L) : (spansP rlo rhi L S)[i]?.getD (0, 0) = (loS rlo rhi L S i, hiS rlo rhi L S i) := by
  unfold spansP
  rw [if_pos hc, List.getElem?_map, List.getElem?_range hi]; rfl
theorem spansP_yes (hc : canB rlo rhi L S (-1) = true) : (spansP rlo rhi L S).length = L := by
  unfold spansP
  rw [if_pos hc, List.length_map, List.length_range]
end
end Go.Proofs.Ytkbcogaodnmdoaa
