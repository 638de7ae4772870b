/- TasteHeld: plain: lemmas for the rows of this seat. No conditions. -/
import Derived.Test.YtkbcogaodnmdoaaProg
import Derived.WalkKit
import Derived.WalkSpells
import Derived.WalkLawsBesides
import Derived.Lib.Hide
import Derived.Deep.AppendLies
import Derived.Deep.Draws
import Derived.Maps.AppendAt
import Derived.RegionTactic
import Derived.OwnWalk
import Derived.Deep.QuietTactic
import Derived.BigQuiet
import Derived.Deep.DeepFit
import Derived.Deep.LoopGhost
import Derived.Deep.DeepMust
import Derived.Deep.DeepCutAuto
import Derived.StillTail
import Derived.Deep.Quiet
import Derived.Deep.RegionHeld3
import Derived.Deep.RegionWith
import Derived.Deep.RegionLaw
import Derived.Maps.OwnOps
import Derived.Maps.OwnSet
import Derived.Maps.OwnRows
import Derived.Maps.RangeWalk
import Derived.Carry
import Derived.Test.YtkbcogaodnmdoaaBase
import Derived.Test.YtkbcogaodnmdoaaMaps
import Derived.Test.YtkbcogaodnmdoaaKeys
import Derived.Test.YtkbcogaodnmdoaaS1
import Derived.Test.YtkbcogaodnmdoaaS5
import Derived.Test.YtkbcogaodnmdoaaS12
import Derived.Test.YtkbcogaodnmdoaaS14
import Derived.Test.YtkbcogaodnmdoaaV
import Derived.Test.YtkbcogaodnmdoaaV2
import Derived.Test.YtkbcogaodnmdoaaV3
import Derived.Test.YtkbcogaodnmdoaaV4
import Derived.Test.YtkbcogaodnmdoaaV5
import Derived.Test.YtkbcogaodnmdoaaV6
import Derived.Test.YtkbcogaodnmdoaaTab
import Derived.Test.YtkbcogaodnmdoaaE1
import Derived.Test.YtkbcogaodnmdoaaE2
import Derived.Test.YtkbcogaodnmdoaaE3
import Derived.Test.YtkbcogaodnmdoaaE4
import Derived.Test.YtkbcogaodnmdoaaE5
import Derived.Test.YtkbcogaodnmdoaaE6
import Derived.Test.YtkbcogaodnmdoaaE7
import Derived.Test.YtkbcogaodnmdoaaE8
import Derived.Test.YtkbcogaodnmdoaaE9
import Derived.Test.YtkbcogaodnmdoaaE10
import Derived.Test.YtkbcogaodnmdoaaE11
import Derived.Test.YtkbcogaodnmdoaaE12
import Derived.Test.YtkbcogaodnmdoaaE13
import Derived.Test.YtkbcogaodnmdoaaE14
import Derived.Test.YtkbcogaodnmdoaaE15
import Derived.Test.YtkbcogaodnmdoaaE16
import Derived.Test.YtkbcogaodnmdoaaE17
import Derived.Test.YtkbcogaodnmdoaaE18
import Derived.Test.YtkbcogaodnmdoaaE19
import Derived.Test.YtkbcogaodnmdoaaE20
import Derived.Test.YtkbcogaodnmdoaaE21
import Derived.Test.YtkbcogaodnmdoaaE22
import Derived.Test.YtkbcogaodnmdoaaE23
import Derived.Test.YtkbcogaodnmdoaaE24
import Derived.Test.YtkbcogaodnmdoaaE25
import Derived.Test.YtkbcogaodnmdoaaE26
import Derived.Test.YtkbcogaodnmdoaaE27
import Derived.Test.YtkbcogaodnmdoaaE28
import Derived.Test.YtkbcogaodnmdoaaE29
import Derived.Test.YtkbcogaodnmdoaaE30
import Derived.Test.YtkbcogaodnmdoaaE31
import Derived.Test.YtkbcogaodnmdoaaE32
import Derived.Test.YtkbcogaodnmdoaaE33
import Derived.Test.YtkbcogaodnmdoaaE34
import Derived.Test.YtkbcogaodnmdoaaE35
set_option linter.all false
namespace Go.Proofs.Ytkbcogaodnmdoaa
open Go.RowKit
/-! ## TasteHeld: plain -/
section
variable {rlo rhi : Int} {L : Nat} {S : List (List T3)}
theorem flatN_self {T : Nat → Int} {t : Nat} (ht : t < S.flatten.length) : flatN S (fun j k => T (offT S j + k)) t = T t := by
  obtain ⟨j, hj, k, hk, rfl⟩ := off_find (S := S) S.length t (Nat.le_refl _) (by rw [offT_all]; exact ht)
  rw [flatN_at hj hk]
theorem heldL_at {by_ : List Int} {i : Nat} (hi : i < L) : iAt (heldL by_ L) i = heldSh by_ i := by
  unfold iAt heldL
  rw [List.getElem?_map, List.getElem?_range hi]; rfl
theorem heldTl_at {by_ : List Int} {T k : Nat} (hk : k < T) : iAt (heldTl rlo rhi L S by_ T) k = heldT rlo rhi L S by_ k := by
  unfold iAt heldTl
  rw [List.getElem?_map, List.getElem?_range hk]; rfl
/-- Numbers held by a book that has the same tastes. -/
theorem held_truthN {S' : List (List T3)} {by_ : List Int} (hO' : Okb rlo rhi L S') (hoff : ∀ j, j ≤ S'.length → offT S' j = offT S j) (h : TruthA rlo rhi L S' (heldSh by_) (fun j k => heldT rlo rhi L S by_ (offT S j + k))) : TruthN rlo rhi L S' (-1) (iAt (heldL by_ L)) (iAt (heldTl rlo rhi L S by_ S'.flatten.length)) := by
  have h2 : TruthS rlo rhi L S' (skipAt S' (-1)) (heldSh by_) (fun j k => heldT rlo rhi L S by_ (offT S' j + k)) := by
    refine truthA_iff.2 ⟨h.sharp, fun j hj => ?_, fun j hj k hk => ?_, fun j hj k hk hs => ?_⟩
    · have := h.first j hj
      rw [hoff j (by omega)]; exact this
    · have := h.next j hj k hk
      rw [hoff j (by omega)]; exact this
    · have := h.said j hj k hk hs
      rw [hoff j (by omega)]; exact this
  exact TruthN.congr' hO' (truthN_of hO' h2) (fun i hi => heldL_at hi) fun k hk => by rw [heldTl_at hk, flatN_self hk]
variable (hO : Okb rlo rhi L S)
include hO
theorem tired_holds {sh ti : Nat → Int} (h : TruthN rlo rhi L S (-1) sh ti) {k : Nat} (hk : k < S.flatten.length) : endVal (jm rlo rhi L S (-1)) false (L + 1 + k) ≤ ti k ∧ ti k ≤ endVal (jm rlo rhi L S (-1)) true (L + 1 + k) := by
  have hc := (canB_iff hO (-1)).2 ((has_iff hO (-1)).2 ⟨_, _, h⟩)
  have hp := truth_pot hO h
  have h1 := (jm_dist hO hc (show 0 < 1 + L + S.flatten.length by omega) (show L + 1 + k < 1 + L + S.flatten.length by omega)).pot hp
  have h2 := (jm_dist hO hc (show L + 1 + k < 1 + L + S.flatten.length by omega) (show 0 < 1 + L + S.flatten.length by omega)).pot hp
  have e0 : pOf L sh ti 0 = 0 := rfl
  have e1 : pOf L sh ti (L + 1 + k) = ti k := by unfold pOf; rw [if_neg (by omega), if_neg (by omega)]; congr 1; omega
  rw [e0, e1] at h1 h2
  unfold endVal
  rw [if_neg (by decide), if_pos rfl]
  omega
theorem sharp_holds {sh ti : Nat → Int} (h : TruthN rlo rhi L S (-1) sh ti) {i : Nat} (hi : i < L) : endVal (jm rlo rhi L S (-1)) false (i + 1) ≤ sh i ∧ sh i ≤ endVal (jm rlo rhi L S (-1)) true (i + 1) := by
  have := span_holds hO (truthA_iff.1 (truthS_of hO h)) hi
  unfold endVal
  rw [if_neg (by decide), if_pos rfl]
  exact this
end
theorem own_int {w0 : World} {b n cap : Nat} {t : TypeId} {l : List Int} {A : List Chunk} (h : .own (.slice (some ⟨b, 0, none⟩) n cap) t 1 n (i64s l) ∈ A) {k : Nat} (hk : k < l.length) : CellAt w0 A b (0 + k * 1) (.int .i64 (iAt l k)) := by
  rw [Nat.zero_add, Nat.mul_one]
  exact cell_own h (iAt_get hk)
theorem own_some {w0 w : World} {A : List Chunk} (hs : St w0 A w) {B : Option Addr} {n cap sz : Nat} {t : TypeId} {xs : List Value} (h : Chunk.own (.slice B n cap) t sz n xs ∈ A) (hn : 0 < n) : ∃ b, B = some ⟨b, 0, none⟩ := by
  obtain ⟨_, _, q1, p1⟩ := own_form (hs.all _ h)
  cases q1
  exact p1 hn
end Go.Proofs.Ytkbcogaodnmdoaa
