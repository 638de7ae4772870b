/- TasteEither: plain: lemmas for the rows of this seat. No conditions. -/
import Derived.Test.YtkbcogaodnmdoaaProg
import Derived.WalkKit
import Derived.WalkSpells
import Derived.WalkLawsBesides
import Derived.Lib.Hide
import Derived.Deep.AppendLies
import Derived.Deep.Draws
import Derived.Maps.AppendAt
import Derived.RegionTactic
import Derived.OwnWalk
import Derived.Deep.QuietTactic
import Derived.BigQuiet
import Derived.Deep.DeepFit
import Derived.Deep.LoopGhost
import Derived.Deep.DeepMust
import Derived.Deep.DeepCutAuto
import Derived.StillTail
import Derived.Deep.Quiet
import Derived.Deep.RegionHeld3
import Derived.Deep.RegionWith
import Derived.Deep.RegionLaw
import Derived.Maps.OwnOps
import Derived.Maps.OwnSet
import Derived.Maps.OwnRows
import Derived.Maps.RangeWalk
import Derived.Carry
import Derived.Test.YtkbcogaodnmdoaaBase
import Derived.Test.YtkbcogaodnmdoaaMaps
import Derived.Test.YtkbcogaodnmdoaaKeys
import Derived.Test.YtkbcogaodnmdoaaS1
import Derived.Test.YtkbcogaodnmdoaaS5
import Derived.Test.YtkbcogaodnmdoaaS12
import Derived.Test.YtkbcogaodnmdoaaS14
import Derived.Test.YtkbcogaodnmdoaaV
import Derived.Test.YtkbcogaodnmdoaaV2
import Derived.Test.YtkbcogaodnmdoaaV3
import Derived.Test.YtkbcogaodnmdoaaV4
import Derived.Test.YtkbcogaodnmdoaaV5
import Derived.Test.YtkbcogaodnmdoaaV6
import Derived.Test.YtkbcogaodnmdoaaTab
import Derived.Test.YtkbcogaodnmdoaaE1
import Derived.Test.YtkbcogaodnmdoaaE2
import Derived.Test.YtkbcogaodnmdoaaE3
import Derived.Test.YtkbcogaodnmdoaaE4
import Derived.Test.YtkbcogaodnmdoaaE5
import Derived.Test.YtkbcogaodnmdoaaE6
import Derived.Test.YtkbcogaodnmdoaaE7
import Derived.Test.YtkbcogaodnmdoaaE8
import Derived.Test.YtkbcogaodnmdoaaE9
import Derived.Test.YtkbcogaodnmdoaaE10
import Derived.Test.YtkbcogaodnmdoaaE11
import Derived.Test.YtkbcogaodnmdoaaE12
import Derived.Test.YtkbcogaodnmdoaaE13
import Derived.Test.YtkbcogaodnmdoaaE14
import Derived.Test.YtkbcogaodnmdoaaE15
import Derived.Test.YtkbcogaodnmdoaaE16
import Derived.Test.YtkbcogaodnmdoaaE17
import Derived.Test.YtkbcogaodnmdoaaE18
import Derived.Test.YtkbcogaodnmdoaaE19
import Derived.Test.YtkbcogaodnmdoaaE20
import Derived.Test.YtkbcogaodnmdoaaE21
import Derived.Test.YtkbcogaodnmdoaaE22
import Derived.Test.YtkbcogaodnmdoaaE23
import Derived.Test.YtkbcogaodnmdoaaE24
import Derived.Test.YtkbcogaodnmdoaaE25
import Derived.Test.YtkbcogaodnmdoaaE26
import Derived.Test.YtkbcogaodnmdoaaE27
import Derived.Test.YtkbcogaodnmdoaaE28
import Derived.Test.YtkbcogaodnmdoaaE29
import Derived.Test.YtkbcogaodnmdoaaE30
import Derived.Test.YtkbcogaodnmdoaaE31
import Derived.Test.YtkbcogaodnmdoaaE32
import Derived.Test.YtkbcogaodnmdoaaE33
import Derived.Test.YtkbcogaodnmdoaaE34
set_option linter.all false
namespace Go.Proofs.Ytkbcogaodnmdoaa
open Go.RowKit
/-! ## TasteEither: plain -/
section
variable {rlo rhi : Int} {L : Nat} {S : List (List T3)} (hO : Okb rlo rhi L S)
include hO
theorem TruthN.congr' {but : Int} {sh ti sh' ti' : Nat → Int} (h : TruthN rlo rhi L S but sh ti) (h1 : ∀ i, i < L → sh' i = sh i) (h2 : ∀ k, k < S.flatten.length → ti' k = ti k) : TruthN rlo rhi L S but sh' ti' := by
  refine ⟨fun i hi => by rw [h1 i hi]; exact h.sharp i hi, fun k hk hf => by rw [h2 k hk]; exact h.first k hk hf, fun k hk hf => by rw [h2 k hk, h2 (k - 1) (by omega)]; exact h.next k hk hf, fun k hk hb => ?_⟩
  have hx := hO.x _ (tasteAt_mem hk)
  rw [h2 k hk, h1 _ (by omega)]
  exact h.said k hk hb
theorem truthR_zero {sharp tired : List Int} (h1 : sharp.length = L) (h2 : tired.length = S.flatten.length) (h : TruthN rlo rhi L S (-1) (iAt sharp) (iAt tired)) : truthR rlo rhi L S sharp tired = 0 := by
  have h0 : chkBook rlo rhi L S = 0 := chk_ok.2 hO
  have ht := (truth_iff hO h1 h2).2 h
  unfold truthR
  rw [if_neg (by simpa using h0), if_neg (by omega), if_neg (by rw [ht]; decide)]
theorem truthR_err {sharp tired : List Int} (hc : canB rlo rhi L S (-1) = false) : truthR rlo rhi L S sharp tired ≠ 0 := fun h => by
  have := truth_can hO h (-1)
  rw [hc] at this; cases this
theorem roundR_err {l : List Int} (hc : canB rlo rhi L S (-1) = true) : (roundR rlo rhi L S l).2 ≠ 0 := fun h => by
  have := round_can hO (l := l) (n := (roundR rlo rhi L S l).1) (by rw [← h])
  rw [hc] at this; cases this
theorem end_pot (hc : canB rlo rhi L S (-1) = true) (gr : Bool) : Pot (allE (bnd rlo rhi L S (-1)) (1 + L + S.flatten.length) (1 + L + S.flatten.length)) (endVal (jm rlo rhi L S (-1)) gr) := by
  rintro ⟨a, b, x⟩ he
  obtain ⟨ha, hb, hbb⟩ := mem_allE.1 he
  dsimp only at ha hb hbb ⊢
  have e1 := jm_edge hO hc ha hb hbb
  have e2 := jm_tri hO hc (show 0 < 1 + L + S.flatten.length by omega) ha hb
  have e3 := jm_tri hO hc ha hb (show 0 < 1 + L + S.flatten.length by omega)
  unfold endVal
  cases gr with
  | true => rw [if_pos rfl, if_pos rfl]; omega
  | false => rw [if_neg (by decide), if_neg (by decide)]; omega
theorem end_lens (hc : canB rlo rhi L S (-1) = true) (gr : Bool) : endR rlo rhi L S gr = (sharpL (jm rlo rhi L S (-1)) gr L, tiredL (jm rlo rhi L S (-1)) gr L S.flatten.length, 0) := by
  have h0 : chkBook rlo rhi L S = 0 := chk_ok.2 hO
  unfold endR
  rw [if_neg (by simpa using h0), Int.toNat_natCast, if_neg (by rw [hc]; decide)]
theorem end_no' (hc : canB rlo rhi L S (-1) = false) (gr : Bool) : endR rlo rhi L S gr = ([], [], 17) := by
  have h0 : chkBook rlo rhi L S = 0 := chk_ok.2 hO
  unfold endR
  rw [if_neg (by simpa using h0), Int.toNat_natCast, if_pos hc]
omit hO in
theorem sharpL_at {m : Mx} {gr : Bool} {i : Nat} (hi : i < L) : iAt (sharpL m gr L) i = endVal m gr (i + 1) := by
  unfold iAt sharpL
  rw [List.getElem?_map, List.getElem?_range hi]; rfl
omit hO in
theorem tiredL_at {m : Mx} {gr : Bool} {k T : Nat} (hk : k < T) : iAt (tiredL m gr L T) k = endVal m gr (L + 1 + k) := by
  unfold iAt tiredL
  rw [List.getElem?_map, List.getElem?_range hk]; rfl
theorem end_truth (hc : canB rlo rhi L S (-1) = true) (gr : Bool) : truthR rlo rhi L S (sharpL (jm rlo rhi L S (-1)) gr L) (tiredL (jm rlo rhi L S (-1)) gr L S.flatten.length) = 0 := by
  have h0 : endVal (jm rlo rhi L S (-1)) gr 0 = 0 := by
    have := jm_self hO hc (show 0 < 1 + L + S.flatten.length by omega)
    unfold endVal
    cases gr <;> simp [this]
  have ht := pot_truth hO (end_pot hO hc gr)
  refine truthR_zero hO (by simp [sharpL]) (by simp [tiredL]) (TruthN.congr' hO ht (fun i hi => ?_) fun k hk => ?_)
  · rw [sharpL_at hi, h0]; omega
  · rw [tiredL_at hk, h0]; omega
end
end Go.Proofs.Ytkbcogaodnmdoaa
