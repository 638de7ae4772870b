/- TasteWrong: plain: lemmas for the rows of this seat. No conditions. -/
import Derived.Test.YtkbcogaodnmdoaaProg
import Derived.WalkKit
import Derived.WalkSpells
import Derived.WalkLawsBesides
import Derived.Lib.Hide
import Derived.Deep.AppendLies
import Derived.Deep.Draws
import Derived.Maps.AppendAt
import Derived.RegionTactic
import Derived.OwnWalk
import Derived.Deep.QuietTactic
import Derived.BigQuiet
import Derived.Deep.DeepFit
import Derived.Deep.LoopGhost
import Derived.Deep.DeepMust
import Derived.Deep.DeepCutAuto
import Derived.StillTail
import Derived.Deep.Quiet
import Derived.Deep.RegionHeld3
import Derived.Deep.RegionWith
import Derived.Deep.RegionLaw
import Derived.Maps.OwnOps
import Derived.Maps.OwnSet
import Derived.Maps.OwnRows
import Derived.Maps.RangeWalk
import Derived.Carry
import Derived.Test.YtkbcogaodnmdoaaBase
import Derived.Test.YtkbcogaodnmdoaaMaps
import Derived.Test.YtkbcogaodnmdoaaKeys
import Derived.Test.YtkbcogaodnmdoaaS1
import Derived.Test.YtkbcogaodnmdoaaS5
import Derived.Test.YtkbcogaodnmdoaaS12
import Derived.Test.YtkbcogaodnmdoaaS14
import Derived.Test.YtkbcogaodnmdoaaV
import Derived.Test.YtkbcogaodnmdoaaV2
import Derived.Test.YtkbcogaodnmdoaaV3
import Derived.Test.YtkbcogaodnmdoaaV4
import Derived.Test.YtkbcogaodnmdoaaV5
import Derived.Test.YtkbcogaodnmdoaaV6
import Derived.Test.YtkbcogaodnmdoaaTab
import Derived.Test.YtkbcogaodnmdoaaE1
import Derived.Test.YtkbcogaodnmdoaaE2
import Derived.Test.YtkbcogaodnmdoaaE3
import Derived.Test.YtkbcogaodnmdoaaE4
import Derived.Test.YtkbcogaodnmdoaaE5
import Derived.Test.YtkbcogaodnmdoaaE6
import Derived.Test.YtkbcogaodnmdoaaE7
import Derived.Test.YtkbcogaodnmdoaaE8
import Derived.Test.YtkbcogaodnmdoaaE9
import Derived.Test.YtkbcogaodnmdoaaE10
import Derived.Test.YtkbcogaodnmdoaaE11
import Derived.Test.YtkbcogaodnmdoaaE12
import Derived.Test.YtkbcogaodnmdoaaE13
import Derived.Test.YtkbcogaodnmdoaaE14
import Derived.Test.YtkbcogaodnmdoaaE15
import Derived.Test.YtkbcogaodnmdoaaE16
import Derived.Test.YtkbcogaodnmdoaaE17
import Derived.Test.YtkbcogaodnmdoaaE18
import Derived.Test.YtkbcogaodnmdoaaE19
import Derived.Test.YtkbcogaodnmdoaaE20
import Derived.Test.YtkbcogaodnmdoaaE21
import Derived.Test.YtkbcogaodnmdoaaE22
import Derived.Test.YtkbcogaodnmdoaaE23
import Derived.Test.YtkbcogaodnmdoaaE24
import Derived.Test.YtkbcogaodnmdoaaE25
import Derived.Test.YtkbcogaodnmdoaaE26
import Derived.Test.YtkbcogaodnmdoaaE27
import Derived.Test.YtkbcogaodnmdoaaE28
import Derived.Test.YtkbcogaodnmdoaaE29
import Derived.Test.YtkbcogaodnmdoaaE30
import Derived.Test.YtkbcogaodnmdoaaE31
import Derived.Test.YtkbcogaodnmdoaaE32
import Derived.Test.YtkbcogaodnmdoaaE33
import Derived.Test.YtkbcogaodnmdoaaE34
import Derived.Test.YtkbcogaodnmdoaaE35
import Derived.Test.YtkbcogaodnmdoaaE36
import Derived.Test.YtkbcogaodnmdoaaE37
set_option linter.all false
namespace Go.Proofs.Ytkbcogaodnmdoaa
open Go.RowKit
/-! ## TasteWrong: plain -/
section
variable {rlo rhi : Int} {L : Nat} {S S' : List (List T3)}
theorem skip_iff {j k j' k' : Nat} (hj : j < S.length) (hk : k < S[j].length) (hj' : j' < S.length) (hk' : k' < S[j'].length) : skipAt S ((offT S j + k : Nat) : Int) j' k' ↔ (j' = j ∧ k' = k) := by
  unfold skipAt
  constructor
  · intro h
    exact off_uniq hj' hj hk' hk (by omega)
  · rintro ⟨rfl, rfl⟩
    rfl
theorem flat_set {i : Nat} {s' : List T3} (hi : i < S.length) (hl : s'.length = S[i].length) : (S.set i s').flatten.length = S.flatten.length := by
  rw [List.length_flatten, List.length_flatten, List.map_set, hl]
  have : (S.map List.length).set i S[i].length = S.map List.length := by
    have e : S[i].length = (S.map List.length)[i]'(by simpa using hi) := by simp
    rw [e, List.set_getElem_self]
  rw [this]
theorem Okb.set {lots : Int} {i : Nat} {s' : List T3} (hO : Okb rlo rhi lots S) (hi : i < S.length) (hl : s'.length = S[i].length) (hx : ∀ x ∈ s', 0 ≤ x.1 ∧ x.1 < lots ∧ -1000 ≤ x.2.1 ∧ x.2.1 ≤ x.2.2 ∧ x.2.2 ≤ 1000) : Okb rlo rhi lots (S.set i s') := by
  refine ⟨hO.r, hO.l, by rw [List.length_set]; exact hO.n, by rw [flat_set hi hl]; exact hO.t, fun s hs => ?_, fun x hx' => ?_⟩
  · rcases List.mem_or_eq_of_mem_set hs with h | rfl
    · exact hO.ne s h
    · rw [hl]; exact hO.ne _ (List.getElem_mem hi)
  · obtain ⟨s, hs, hxs⟩ := List.mem_flatten.1 hx'
    rcases List.mem_or_eq_of_mem_set hs with h | rfl
    · exact hO.x x (List.mem_flatten.2 ⟨s, h, hxs⟩)
    · exact hx x hxs
theorem Okb.setSaid {lots : Int} {i k : Nat} {lo hi' : Int} (hO : Okb rlo rhi lots S) (hi : i < S.length) (hk : k < S[i].length) (h1 : -1000 ≤ lo) (h2 : lo ≤ hi') (h3 : hi' ≤ 1000) : Okb rlo rhi lots (S.set i (S[i].set k (S[i][k].1, lo, hi'))) := by
  refine hO.set hi (List.length_set) fun x hx => ?_
  have := hO.x S[i][k] (List.mem_flatten.2 ⟨_, List.getElem_mem hi, List.getElem_mem hk⟩)
  rcases List.mem_or_eq_of_mem_set hx with h | rfl
  · exact hO.x x (List.mem_flatten.2 ⟨_, List.getElem_mem hi, h⟩)
  · exact ⟨this.1, this.2.1, h1, h2, h3⟩
end
section
variable {rlo rhi : Int} {L : Nat} {S : List (List T3)} (hO : Okb rlo rhi L S)
include hO
theorem tiS_bd {skip : Nat → Nat → Prop} {sh : Nat → Int} {ti : Nat → Nat → Int} (h : TruthS rlo rhi L S skip sh ti) {j : Nat} (hj : j < S.length) : ∀ k : Nat, k < S[j].length → 0 ≤ ti j k ∧ ti j k ≤ 50 * (k : Int)
  | 0, _ => by rw [h.first j hj]; omega
  | k + 1, hk => by
    have h1 := tiS_bd h hj k (by omega)
    have h2 := h.next j hj k hk
    have hr := hO.r
    omega
theorem len12 {j : Nat} (hj : j < S.length) : S[j].length ≤ 12 := by
  have h1 := offT_step hj
  have h2 := off_mono (S := S) (show j + 1 ≤ S.length by omega) (Nat.le_refl _)
  have h3 := hO.t
  rw [offT_all] at h2
  omega
/-- One taste says any number at all. -/
def wideS (S : List (List T3)) (j k : Nat) : List (List T3) := S.set j ((S[j]?.getD []).set k (((S[j]?.getD [])[k]?.getD (0, 0, 0)).1, -1000, 1000))
omit hO in
theorem wideS_eq {j k : Nat} (hj : j < S.length) (hk : k < S[j].length) : wideS S j k = S.set j (S[j].set k (S[j][k].1, -1000, 1000)) := by
  unfold wideS
  rw [List.getElem?_eq_getElem hj, Option.getD_some, List.getElem?_eq_getElem hk, Option.getD_some]
theorem can_wide {j k : Nat} (hj : j < S.length) (hk : k < S[j].length) (hO' : Okb rlo rhi L (wideS S j k)) : canB rlo rhi L (wideS S j k) (-1) = canB rlo rhi L S ((offT S j + k : Nat) : Int) := by
  rw [Bool.eq_iff_iff, can_truth hO', can_truthS hO]
  have e := wideS_eq hj hk
  have hl : (wideS S j k).length = S.length := by rw [e, List.length_set]
  have hln : ∀ a (h : a < S.length), ((wideS S j k)[a]'(by omega)).length = S[a].length := fun a h => by
    simp only [e]
    rw [List.getElem_set]
    split
    · rename_i q; subst q; rw [List.length_set]
    · rfl
  have hat : ∀ a (h : a < S.length) b (hb : b < S[a].length) (hb' : b < ((wideS S j k)[a]'(by omega)).length), ((wideS S j k)[a]'(by omega))[b] = if a = j ∧ b = k then (S[a][b].1, -1000, 1000) else S[a][b] := fun a h b hb hb' => by
    simp only [e]
    by_cases q : j = a
    · subst q
      simp only [List.getElem_set_self, true_and]
      rw [List.getElem_set]
      by_cases q2 : k = b
      · subst q2; rw [if_pos rfl]
      · rw [if_neg q2, if_neg (fun x => q2 x.symm)]
    · simp only [List.getElem_set_ne q]
      rw [if_neg (fun x => q x.1.symm)]
  constructor
  · rintro ⟨sh, ti, h⟩
    refine ⟨sh, ti, h.sharp, fun a ha => h.first a (by omega), fun a ha b hb => h.next a (by omega) b (by rw [hln a ha]; exact hb), fun a ha b hb hs => ?_⟩
    have hb' : b < ((wideS S j k)[a]'(by omega)).length := by rw [hln a ha]; exact hb
    have q := h.said a (by omega) b hb' id
    rw [hat a ha b hb hb', if_neg (fun x => hs ((skip_iff hj hk ha hb).2 x))] at q
    exact q
  · rintro ⟨sh, ti, h⟩
    refine ⟨sh, ti, h.sharp, fun a ha => h.first a (by omega), fun a ha b hb => h.next a (by omega) b (by rw [hln a (by omega)] at hb; exact hb), fun a ha b hb _ => ?_⟩
    have ha' : a < S.length := by omega
    have hb' : b < S[a].length := by rw [hln a ha'] at hb; exact hb
    have hx := hO.x _ (List.mem_flatten.2 ⟨_, List.getElem_mem ha', List.getElem_mem hb'⟩)
    rw [hat a ha' b hb' hb]
    by_cases q : a = j ∧ b = k
    · rw [if_pos q]
      have t := tiS_bd hO h ha' b hb'
      have l12 := len12 hO ha'
      have hsh := h.sharp S[a][b].1.toNat (by omega)
      dsimp only
      omega
    · rw [if_neg q]
      exact h.said a ha' b hb' fun x => q ((skip_iff hj hk ha' hb').1 x)
theorem can_all {but : Int} (hc : canB rlo rhi L S (-1) = true) : canB rlo rhi L S but = true := by
  obtain ⟨sh, ti, h⟩ := (has_iff hO (-1)).1 ((canB_iff hO (-1)).1 hc)
  exact (canB_iff hO but).2 ((has_iff hO but).2 ⟨sh, ti, h.sharp, h.first, h.next, fun k hk _ => h.said k hk (by omega)⟩)
end
/-- What Wrong tells, in order. -/
theorem wrong_at (f : Nat → Bool) : ∀ (T i : Nat), i < (wrongUpto f T).length → ∃ x : Nat, iAt (wrongUpto f T) i = x ∧ x < T ∧ f x = true
  | 0, i, h => absurd h (by simp [wrongUpto])
  | T + 1, i, h => by
    rw [wrongUpto] at h ⊢
    split at h
    · rename_i hf
      rw [if_pos hf]
      rw [iAt_append]
      split
      · rename_i hi
        obtain ⟨x, h1, h2, h3⟩ := wrong_at f T i hi
        exact ⟨x, h1, by omega, h3⟩
      · rename_i hi
        have : i - (wrongUpto f T).length = 0 := by simp at h; omega
        rw [this]
        exact ⟨T, rfl, by omega, hf⟩
    · rename_i hf
      rw [if_neg hf]
      obtain ⟨x, h1, h2, h3⟩ := wrong_at f T i h
      exact ⟨x, h1, by omega, h3⟩
theorem wrong_inc (f : Nat → Bool) : ∀ (T i : Nat), i + 1 < (wrongUpto f T).length → iAt (wrongUpto f T) i < iAt (wrongUpto f T) (i + 1)
  | 0, i, h => absurd h (by simp [wrongUpto])
  | T + 1, i, h => by
    rw [wrongUpto] at h ⊢
    split at h
    · rename_i hf
      rw [if_pos hf, iAt_append, iAt_append]
      rw [List.length_append, List.length_singleton] at h
      rw [if_pos (by omega)]
      split
      · rename_i hi
        exact wrong_inc f T i hi
      · rename_i hi
        obtain ⟨x, h1, h2, _⟩ := wrong_at f T i (by omega)
        rw [h1, show i + 1 - (wrongUpto f T).length = 0 by omega]
        show (x : Int) < (T : Int)
        omega
    · rename_i hf
      rw [if_neg hf]
      exact wrong_inc f T i h
theorem wrong_has (f : Nat → Bool) : ∀ (T x : Nat), x < T → f x = true → ∃ i, i < (wrongUpto f T).length ∧ iAt (wrongUpto f T) i = x
  | 0, x, h, _ => absurd h (by omega)
  | T + 1, x, h, hf => by
    rw [wrongUpto]
    by_cases hT : f T = true
    · rw [if_pos hT]
      by_cases e : x = T
      · subst e
        refine ⟨(wrongUpto f x).length, by simp, ?_⟩
        rw [iAt_append, if_neg (by omega), Nat.sub_self]; rfl
      · obtain ⟨i, h1, h2⟩ := wrong_has f T x (by omega) hf
        exact ⟨i, by rw [List.length_append]; omega, by rw [iAt_append, if_pos h1, h2]⟩
    · rw [if_neg hT]
      by_cases e : x = T
      · subst e; exact absurd hf hT
      · exact wrong_has f T x (by omega) hf
theorem wrong_full (f : Nat → Bool) : ∀ T, (∀ x, x < T → f x = true) → (wrongUpto f T).length = T
  | 0, _ => rfl
  | T + 1, h => by
    rw [wrongUpto, if_pos (h T (by omega)), List.length_append, wrong_full f T fun x hx => h x (by omega)]; rfl
end Go.Proofs.Ytkbcogaodnmdoaa
