/- The laws: helpers: lemmas for the rows of this seat. No conditions. -/
import Derived.Test.YtkbcogaodnmdoaaProg
import Derived.WalkKit
import Derived.WalkSpells
import Derived.WalkLawsBesides
import Derived.Lib.Hide
import Derived.Deep.AppendLies
import Derived.Deep.Draws
import Derived.Maps.AppendAt
import Derived.RegionTactic
import Derived.OwnWalk
import Derived.Deep.QuietTactic
import Derived.BigQuiet
import Derived.Deep.DeepFit
import Derived.Deep.LoopGhost
import Derived.Deep.DeepMust
import Derived.Deep.DeepCutAuto
import Derived.StillTail
import Derived.Deep.Quiet
import Derived.Deep.RegionHeld3
import Derived.Deep.RegionWith
import Derived.Deep.RegionLaw
import Derived.Maps.OwnOps
import Derived.Maps.OwnSet
import Derived.Maps.OwnRows
import Derived.Maps.RangeWalk
import Derived.Carry
import Derived.Test.YtkbcogaodnmdoaaBase
import Derived.Test.YtkbcogaodnmdoaaMaps
import Derived.Test.YtkbcogaodnmdoaaKeys
import Derived.Test.YtkbcogaodnmdoaaS1
import Derived.Test.YtkbcogaodnmdoaaS5
import Derived.Test.YtkbcogaodnmdoaaS12
import Derived.Test.YtkbcogaodnmdoaaS14
import Derived.Test.YtkbcogaodnmdoaaV
import Derived.Test.YtkbcogaodnmdoaaV2
import Derived.Test.YtkbcogaodnmdoaaV3
import Derived.Test.YtkbcogaodnmdoaaV4
import Derived.Test.YtkbcogaodnmdoaaTab
import Derived.Test.YtkbcogaodnmdoaaE1
import Derived.Test.YtkbcogaodnmdoaaE2
import Derived.Test.YtkbcogaodnmdoaaE3
import Derived.Test.YtkbcogaodnmdoaaE4
import Derived.Test.YtkbcogaodnmdoaaE5
import Derived.Test.YtkbcogaodnmdoaaE6
import Derived.Test.YtkbcogaodnmdoaaE7
import Derived.Test.YtkbcogaodnmdoaaE8
import Derived.Test.YtkbcogaodnmdoaaE9
import Derived.Test.YtkbcogaodnmdoaaE10
import Derived.Test.YtkbcogaodnmdoaaE11
import Derived.Test.YtkbcogaodnmdoaaE12
import Derived.Test.YtkbcogaodnmdoaaE13
import Derived.Test.YtkbcogaodnmdoaaE14
import Derived.Test.YtkbcogaodnmdoaaE15
import Derived.Test.YtkbcogaodnmdoaaE16
import Derived.Test.YtkbcogaodnmdoaaE17
import Derived.Test.YtkbcogaodnmdoaaE18
import Derived.Test.YtkbcogaodnmdoaaE19
import Derived.Test.YtkbcogaodnmdoaaE20
import Derived.Test.YtkbcogaodnmdoaaE21
import Derived.Test.YtkbcogaodnmdoaaE22
import Derived.Test.YtkbcogaodnmdoaaE23
import Derived.Test.YtkbcogaodnmdoaaE24
import Derived.Test.YtkbcogaodnmdoaaE25
import Derived.Test.YtkbcogaodnmdoaaE26
import Derived.Test.YtkbcogaodnmdoaaE27
set_option linter.all false
namespace Go.Proofs.Ytkbcogaodnmdoaa
open Go.RowKit
/-! ## The laws: helpers -/
theorem fit_of {S : List (List T3)} (h : greatB S = false) : Fit S := by
  unfold greatB at h
  rw [Bool.or_eq_false_iff] at h
  refine ⟨by simpa using h.1, fun s hs => ?_⟩
  have := List.any_eq_false.1 h.2 s hs
  simpa using this
theorem endR_len {rlo rhi lots : Int} {S : List (List T3)} (gr : Bool) : (endR rlo rhi lots S gr).1.length ≤ 6 ∧ (endR rlo rhi lots S gr).2.1.length ≤ 12 := by
  unfold endR
  by_cases h0 : chkBook rlo rhi lots S = 0
  · rw [if_neg (by simpa using h0)]
    have hO := chk_ok.1 h0
    have hl := hO.l
    have ht := hO.t
    split
    · simp
    · dsimp only
      unfold sharpL tiredL
      rw [List.length_map, List.length_range, List.length_map, List.length_range]
      omega
  · rw [if_pos h0]; simp
theorem wrongR_len {rlo rhi lots : Int} {S : List (List T3)} : (wrongR rlo rhi lots S).1.length ≤ 12 := by
  unfold wrongR
  by_cases h0 : chkBook rlo rhi lots S = 0
  · rw [if_neg (by simpa using h0)]
    have ht := (chk_ok.1 h0).t
    have := wrongUpto_le (fun k => canB rlo rhi lots.toNat S k) S.flatten.length
    dsimp only
    omega
  · rw [if_pos h0]; simp
theorem roundRet_facts {rlo rhi lots : Int} {S : List (List T3)} : (roundRet rlo rhi lots S).2 = roundErr rlo rhi lots S ∧ (roundRet rlo rhi lots S).1.length ≤ 19 ∧ (roundErr rlo rhi lots S ≠ 0 → (roundRet rlo rhi lots S).1 = []) ∧ (roundErr rlo rhi lots S = 0 → ∃ n, 0 < n ∧ roundR rlo rhi lots S (roundRet rlo rhi lots S).1 = (n, 0)) := by
  by_cases h0 : chkBook rlo rhi lots S = 0
  · have hO := chk_ok.1 h0
    obtain ⟨L, rfl⟩ : ∃ L : Nat, lots = L := ⟨lots.toNat, by have := hO.l; omega⟩
    have hre : roundErr rlo rhi L S = if canB rlo rhi L S (-1) = true then 5 else 0 := by unfold roundErr; rw [if_neg (by simpa using h0), Int.toNat_natCast]
    cases hc : canB rlo rhi L S (-1) with
    | true =>
      rw [hre, hc, if_pos rfl, roundRet_no hO hc]
      exact ⟨rfl, by simp, fun _ => rfl, fun h => by cases h⟩
    | false =>
      obtain ⟨r, n, h1, h2, h3, h4, h5⟩ := roundRet_yes hO hc
      rw [hre, hc, if_neg (by decide), h1]
      exact ⟨rfl, h5, fun h => absurd rfl h, fun _ => ⟨n, h2, h3⟩⟩
  · have hr : roundRet rlo rhi lots S = ([], chkBook rlo rhi lots S) := by unfold roundRet; rw [if_pos h0]
    have he : roundErr rlo rhi lots S = chkBook rlo rhi lots S := by unfold roundErr; rw [if_pos h0]
    rw [hr, he]
    exact ⟨rfl, by simp, fun _ => rfl, fun h => absurd h h0⟩
/-- Two lists that lie in memory are the same list. -/
theorem longs_same {A B : Option Addr} {ca cb : Nat} {a : List Int} {w : World} (ha : Reads w w.heap.size 1 A a.length (i64s a)) (hb : Reads w w.heap.size 1 B a.length (i64s a)) (hm : a.length ≤ 1000000) : Calls Try.prog 29 #[.slice A a.length ca, .slice B a.length cb] w fun e w' => e = .returned (.bool true) ∧ Below w.heap.size w w' := by
  have := longs_eq_any A B ca cb a a w ha hb hm hm
  rwa [decide_eq_true rfl] at this
theorem ints_same {A B : Option Addr} {ca cb : Nat} {a : List Int} {w : World} (ha : Reads w w.heap.size 1 A a.length (i64s a)) (hb : Reads w w.heap.size 1 B a.length (i64s a)) (hm : a.length ≤ 1000000) : Calls Try.prog 40 #[.slice A a.length ca, .slice B a.length cb] w fun e w' => e = .returned (.bool true) ∧ Below w.heap.size w w' := by
  have := ints_eq_any A B ca cb a a w ha hb hm hm
  rwa [decide_eq_true rfl] at this
end Go.Proofs.Ytkbcogaodnmdoaa
