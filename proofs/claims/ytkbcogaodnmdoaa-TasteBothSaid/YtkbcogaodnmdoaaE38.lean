/- TasteBoth: plain: lemmas for the rows of this seat. No conditions. -/
import Derived.Test.YtkbcogaodnmdoaaProg
import Derived.WalkKit
import Derived.WalkSpells
import Derived.WalkLawsBesides
import Derived.Lib.Hide
import Derived.Deep.AppendLies
import Derived.Deep.Draws
import Derived.Maps.AppendAt
import Derived.RegionTactic
import Derived.OwnWalk
import Derived.Deep.QuietTactic
import Derived.BigQuiet
import Derived.Deep.DeepFit
import Derived.Deep.LoopGhost
import Derived.Deep.DeepMust
import Derived.Deep.DeepCutAuto
import Derived.StillTail
import Derived.Deep.Quiet
import Derived.Deep.RegionHeld3
import Derived.Deep.RegionWith
import Derived.Deep.RegionLaw
import Derived.Maps.OwnOps
import Derived.Maps.OwnSet
import Derived.Maps.OwnRows
import Derived.Maps.RangeWalk
import Derived.Carry
import Derived.Test.YtkbcogaodnmdoaaBase
import Derived.Test.YtkbcogaodnmdoaaMaps
import Derived.Test.YtkbcogaodnmdoaaKeys
import Derived.Test.YtkbcogaodnmdoaaS1
import Derived.Test.YtkbcogaodnmdoaaS5
import Derived.Test.YtkbcogaodnmdoaaS12
import Derived.Test.YtkbcogaodnmdoaaS14
import Derived.Test.YtkbcogaodnmdoaaV
import Derived.Test.YtkbcogaodnmdoaaV2
import Derived.Test.YtkbcogaodnmdoaaV3
import Derived.Test.YtkbcogaodnmdoaaV4
import Derived.Test.YtkbcogaodnmdoaaV5
import Derived.Test.YtkbcogaodnmdoaaV6
import Derived.Test.YtkbcogaodnmdoaaV7
import Derived.Test.YtkbcogaodnmdoaaTab
import Derived.Test.YtkbcogaodnmdoaaE1
import Derived.Test.YtkbcogaodnmdoaaE2
import Derived.Test.YtkbcogaodnmdoaaE3
import Derived.Test.YtkbcogaodnmdoaaE4
import Derived.Test.YtkbcogaodnmdoaaE5
import Derived.Test.YtkbcogaodnmdoaaE6
import Derived.Test.YtkbcogaodnmdoaaE7
import Derived.Test.YtkbcogaodnmdoaaE8
import Derived.Test.YtkbcogaodnmdoaaE9
import Derived.Test.YtkbcogaodnmdoaaE10
import Derived.Test.YtkbcogaodnmdoaaE11
import Derived.Test.YtkbcogaodnmdoaaE12
import Derived.Test.YtkbcogaodnmdoaaE13
import Derived.Test.YtkbcogaodnmdoaaE14
import Derived.Test.YtkbcogaodnmdoaaE15
import Derived.Test.YtkbcogaodnmdoaaE16
import Derived.Test.YtkbcogaodnmdoaaE17
import Derived.Test.YtkbcogaodnmdoaaE18
import Derived.Test.YtkbcogaodnmdoaaE19
import Derived.Test.YtkbcogaodnmdoaaE20
import Derived.Test.YtkbcogaodnmdoaaE21
import Derived.Test.YtkbcogaodnmdoaaE22
import Derived.Test.YtkbcogaodnmdoaaE23
import Derived.Test.YtkbcogaodnmdoaaE24
import Derived.Test.YtkbcogaodnmdoaaE25
import Derived.Test.YtkbcogaodnmdoaaE26
import Derived.Test.YtkbcogaodnmdoaaE27
import Derived.Test.YtkbcogaodnmdoaaE28
import Derived.Test.YtkbcogaodnmdoaaE29
import Derived.Test.YtkbcogaodnmdoaaE30
import Derived.Test.YtkbcogaodnmdoaaE31
import Derived.Test.YtkbcogaodnmdoaaE32
import Derived.Test.YtkbcogaodnmdoaaE33
import Derived.Test.YtkbcogaodnmdoaaE34
import Derived.Test.YtkbcogaodnmdoaaE35
import Derived.Test.YtkbcogaodnmdoaaE36
set_option linter.all false
namespace Go.Proofs.Ytkbcogaodnmdoaa
open Go.RowKit
/-! ## TasteBoth: plain -/
theorem widen_le (x : T3) (n : Int) : (widen x n).1 = x.1 ∧ (widen x n).2.1 ≤ x.2.1 ∧ x.2.2 ≤ (widen x n).2.2 ∧ (widen x n).2.1 ≤ n ∧ n ≤ (widen x n).2.2 := by
  unfold widen
  dsimp only
  refine ⟨rfl, ?_, ?_, ?_, ?_⟩ <;> split <;> omega
def mnI (p q : Int) : Int := if q < p then q else p
def mxI (p q : Int) : Int := if q > p then q else p
def mnL (f : Int → Int → Int) (a b : List Int) (n : Nat) : List Int := (List.range n).map fun i => f (iAt a i) (iAt b i)
theorem mnL_at {f : Int → Int → Int} {a b : List Int} {n i : Nat} (hi : i < n) : iAt (mnL f a b n) i = f (iAt a i) (iAt b i) := by
  unfold mnL
  rw [show iAt ((List.range n).map fun i => f (iAt a i) (iAt b i)) i = (((List.range n).map fun i => f (iAt a i) (iAt b i))[i]?).getD 0 from rfl, List.getElem?_map, List.getElem?_range hi]; rfl
theorem mnL_snoc (f : Int → Int → Int) (a b : List Int) (n : Nat) : i64s (mnL f a b n) ++ i64s [f (iAt a n) (iAt b n)] = i64s (mnL f a b (n + 1)) := by
  unfold i64s mnL
  rw [List.range_succ, List.map_append, List.map_append]; rfl
section
variable {rlo rhi : Int} {L : Nat} {S : List (List T3)} {by_ : List Int} (hO : Okb rlo rhi L S)
include hO
theorem heldT_same {S' : List (List T3)} (hO' : Okb rlo rhi L S') (hl : S'.length = S.length) (hlen : ∀ j (hj : j < S.length), (S'[j]'(by omega)).length = S[j].length) (hoff : ∀ j, j ≤ S.length → offT S' j = offT S j) {j : Nat} (hj : j < S.length) : ∀ k, k < S[j].length → heldT rlo rhi L S' by_ (offT S' j + k) = heldT rlo rhi L S by_ (offT S j + k)
  | 0, _ => by rw [Nat.add_zero, Nat.add_zero, heldT_first hO hj, heldT_first hO' (by omega)]
  | k + 1, hk => by
    rw [heldT_next hO hj hk, heldT_next hO' (by omega) (by rw [hlen j hj]; exact hk), heldT_same hO' hl hlen hoff hj k (by omega), hoff j (by omega)]
/-- Numbers that a narrower book holds. -/
theorem both_truth (hb : ∀ z ∈ by_, 0 ≤ z ∧ z ≤ 65535) {two : List Int} (hO2 : Okb rlo rhi L (heldS rlo rhi L (heldS rlo rhi L S by_) two)) (hO1 : Okb rlo rhi L (heldS rlo rhi L S by_)) :
    TruthN rlo rhi L (heldS rlo rhi L (heldS rlo rhi L S by_) two) (-1) (iAt (heldL by_ L)) (iAt (heldTl rlo rhi L (heldS rlo rhi L (heldS rlo rhi L S by_) two) by_ (heldS rlo rhi L (heldS rlo rhi L S by_) two).flatten.length)) := by
  have hl1 := heldS_len rlo rhi L S by_
  have hl2 := heldS_len rlo rhi L (heldS rlo rhi L S by_) two
  refine held_truthN (S := heldS rlo rhi L (heldS rlo rhi L S by_) two) hO2 (fun j _ => rfl) (held_truth hO2 hb rfl fun j hj => ⟨rfl, fun k hk hk' => ?_⟩)
  have hj1 : j < (heldS rlo rhi L S by_).length := by omega
  have hj0 : j < S.length := by omega
  have hk1 : k < (heldS rlo rhi L S by_)[j].length := by rw [heldS_atl hj1] at hk; exact hk
  have hk0 : k < S[j].length := by rw [heldS_atl hj0] at hk1; exact hk1
  have e2 := heldS_at2 (rlo := rlo) (rhi := rhi) (L := L) (by_ := two) hj1 hk1
  have e1 := heldS_at2 (rlo := rlo) (rhi := rhi) (L := L) (by_ := by_) hj0 hk0
  have hs := heldT_same (by_ := by_) hO hO2 (by omega) (fun j hj => by rw [heldS_atl (by omega), heldS_atl hj]) (fun j hj => by rw [held_off (by omega), held_off hj]) hj0 k hk0
  obtain ⟨a1, a2, a3, a4, a5⟩ := widen_le S[j][k] (heldSh by_ S[j][k].1.toNat - heldT rlo rhi L S by_ (offT S j + k))
  rw [← e1] at a1 a2 a3 a4 a5
  obtain ⟨b1, b2, b3, _, _⟩ := widen_le (heldS rlo rhi L S by_)[j][k] (heldSh two (heldS rlo rhi L S by_)[j][k].1.toNat - heldT rlo rhi L (heldS rlo rhi L S by_) two (offT (heldS rlo rhi L S by_) j + k))
  rw [← e2] at b1 b2 b3
  rw [hs]
  refine ⟨rfl, ?_, ?_⟩
  · rw [b1, a1]; omega
  · rw [b1, a1]; omega
omit hO in
theorem truth_mn {a b u v : List Int} (h : TruthN rlo rhi L S (-1) (iAt a) (iAt u)) (h' : TruthN rlo rhi L S (-1) (iAt b) (iAt v)) : TruthN rlo rhi L S (-1) (fun i => mnI (iAt a i) (iAt b i)) (fun i => mnI (iAt u i) (iAt v i)) := by
  refine ⟨fun i hi => ?_, fun k hk hf => ?_, fun k hk hf => ?_, fun k hk hq => ?_⟩
  · have h1 := h.sharp i hi
    have h2 := h'.sharp i hi
    unfold mnI; split <;> omega
  · have h1 := h.first k hk hf
    have h2 := h'.first k hk hf
    unfold mnI; split <;> omega
  · have h1 := h.next k hk hf
    have h2 := h'.next k hk hf
    unfold mnI; split <;> split <;> omega
  · have h1 := h.said k hk hq
    have h2 := h'.said k hk hq
    unfold mnI; split <;> split <;> omega
omit hO in
theorem truth_mx {a b u v : List Int} (h : TruthN rlo rhi L S (-1) (iAt a) (iAt u)) (h' : TruthN rlo rhi L S (-1) (iAt b) (iAt v)) : TruthN rlo rhi L S (-1) (fun i => mxI (iAt a i) (iAt b i)) (fun i => mxI (iAt u i) (iAt v i)) := by
  refine ⟨fun i hi => ?_, fun k hk hf => ?_, fun k hk hf => ?_, fun k hk hq => ?_⟩
  · have h1 := h.sharp i hi
    have h2 := h'.sharp i hi
    unfold mxI; split <;> omega
  · have h1 := h.first k hk hf
    have h2 := h'.first k hk hf
    unfold mxI; split <;> omega
  · have h1 := h.next k hk hf
    have h2 := h'.next k hk hf
    unfold mxI; split <;> split <;> omega
  · have h1 := h.said k hk hq
    have h2 := h'.said k hk hq
    unfold mxI; split <;> split <;> omega
end
end Go.Proofs.Ytkbcogaodnmdoaa
