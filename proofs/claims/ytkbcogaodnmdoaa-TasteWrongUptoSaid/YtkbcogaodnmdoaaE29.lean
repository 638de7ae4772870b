/- Truths, sitting by sitting: lemmas for the rows of this seat. No conditions. -/
import Derived.Test.YtkbcogaodnmdoaaProg
import Derived.WalkKit
import Derived.WalkSpells
import Derived.WalkLawsBesides
import Derived.Lib.Hide
import Derived.Deep.AppendLies
import Derived.Deep.Draws
import Derived.Maps.AppendAt
import Derived.RegionTactic
import Derived.OwnWalk
import Derived.Deep.QuietTactic
import Derived.BigQuiet
import Derived.Deep.DeepFit
import Derived.Deep.LoopGhost
import Derived.Deep.DeepMust
import Derived.Deep.DeepCutAuto
import Derived.StillTail
import Derived.Deep.Quiet
import Derived.Deep.RegionHeld3
import Derived.Deep.RegionWith
import Derived.Deep.RegionLaw
import Derived.Maps.OwnOps
import Derived.Maps.OwnSet
import Derived.Maps.OwnRows
import Derived.Maps.RangeWalk
import Derived.Carry
import Derived.Test.YtkbcogaodnmdoaaBase
import Derived.Test.YtkbcogaodnmdoaaMaps
import Derived.Test.YtkbcogaodnmdoaaKeys
import Derived.Test.YtkbcogaodnmdoaaS1
import Derived.Test.YtkbcogaodnmdoaaS5
import Derived.Test.YtkbcogaodnmdoaaS12
import Derived.Test.YtkbcogaodnmdoaaS14
import Derived.Test.YtkbcogaodnmdoaaV
import Derived.Test.YtkbcogaodnmdoaaV2
import Derived.Test.YtkbcogaodnmdoaaV3
import Derived.Test.YtkbcogaodnmdoaaV4
import Derived.Test.YtkbcogaodnmdoaaTab
import Derived.Test.YtkbcogaodnmdoaaE1
import Derived.Test.YtkbcogaodnmdoaaE2
import Derived.Test.YtkbcogaodnmdoaaE3
import Derived.Test.YtkbcogaodnmdoaaE4
import Derived.Test.YtkbcogaodnmdoaaE5
import Derived.Test.YtkbcogaodnmdoaaE6
import Derived.Test.YtkbcogaodnmdoaaE7
import Derived.Test.YtkbcogaodnmdoaaE8
import Derived.Test.YtkbcogaodnmdoaaE9
import Derived.Test.YtkbcogaodnmdoaaE10
import Derived.Test.YtkbcogaodnmdoaaE11
import Derived.Test.YtkbcogaodnmdoaaE12
import Derived.Test.YtkbcogaodnmdoaaE13
import Derived.Test.YtkbcogaodnmdoaaE14
import Derived.Test.YtkbcogaodnmdoaaE15
import Derived.Test.YtkbcogaodnmdoaaE16
import Derived.Test.YtkbcogaodnmdoaaE17
import Derived.Test.YtkbcogaodnmdoaaE18
import Derived.Test.YtkbcogaodnmdoaaE19
import Derived.Test.YtkbcogaodnmdoaaE20
import Derived.Test.YtkbcogaodnmdoaaE21
import Derived.Test.YtkbcogaodnmdoaaE22
import Derived.Test.YtkbcogaodnmdoaaE23
import Derived.Test.YtkbcogaodnmdoaaE24
import Derived.Test.YtkbcogaodnmdoaaE25
import Derived.Test.YtkbcogaodnmdoaaE26
import Derived.Test.YtkbcogaodnmdoaaE27
import Derived.Test.YtkbcogaodnmdoaaE28
set_option linter.all false
namespace Go.Proofs.Ytkbcogaodnmdoaa
open Go.RowKit
/-! ## Truths, sitting by sitting -/
/-- The numbers are a truth, sitting by sitting; some tastes are not looked at. -/
structure TruthS (rlo rhi : Int) (L : Nat) (S : List (List T3)) (skip : Nat → Nat → Prop) (sh : Nat → Int) (ti : Nat → Nat → Int) : Prop where
  sharp : ∀ i, i < L → 0 ≤ sh i ∧ sh i ≤ 1000
  first : ∀ j, j < S.length → ti j 0 = 0
  next : ∀ j (hj : j < S.length) k, k + 1 < S[j].length → rlo ≤ ti j (k + 1) - ti j k ∧ ti j (k + 1) - ti j k ≤ rhi
  said : ∀ j (hj : j < S.length) k (hk : k < S[j].length), ¬ skip j k → S[j][k].2.1 ≤ sh S[j][k].1.toNat - ti j k ∧ sh S[j][k].1.toNat - ti j k ≤ S[j][k].2.2
/-- Where a taste stands among all. -/
def offT (S : List (List T3)) (j : Nat) : Nat := (S.take j).flatten.length
theorem offT_step {S : List (List T3)} {j : Nat} (hj : j < S.length) : offT S (j + 1) = offT S j + S[j].length := by
  unfold offT
  rw [List.take_succ_eq_append_getElem hj, List.flatten_append, List.length_append]
  simp
theorem off_find {S : List (List T3)} : ∀ (m t : Nat), m ≤ S.length → t < offT S m → ∃ j, ∃ (hj : j < S.length), ∃ k, k < S[j].length ∧ t = offT S j + k
  | 0, t, _, h => by simp [offT] at h
  | m + 1, t, hm, h => by
    rw [offT_step (show m < S.length by omega)] at h
    rcases Nat.lt_or_ge t (offT S m) with h1 | h1
    · exact off_find m t (by omega) h1
    · exact ⟨m, by omega, t - offT S m, by omega, by omega⟩
theorem offT_all (S : List (List T3)) : offT S S.length = S.flatten.length := by unfold offT; rw [List.take_length]
theorem off_mono {S : List (List T3)} {a : Nat} : ∀ {b : Nat}, a ≤ b → b ≤ S.length → offT S a ≤ offT S b
  | 0, h, _ => by obtain rfl : a = 0 := by omega
                  exact Nat.le_refl _
  | b + 1, h, hb => by
    rcases Nat.lt_or_ge a (b + 1) with h1 | h1
    · have := off_mono (S := S) (show a ≤ b by omega) (by omega)
      rw [offT_step (show b < S.length by omega)]; omega
    · obtain rfl : a = b + 1 := by omega
      exact Nat.le_refl _
theorem off_uniq {S : List (List T3)} {j j' k k' : Nat} (hj : j < S.length) (hj' : j' < S.length) (hk : k < S[j].length) (hk' : k' < S[j'].length) (h : offT S j + k = offT S j' + k') : j = j' ∧ k = k' := by
  rcases Nat.lt_trichotomy j j' with c | c | c
  · have := off_mono (S := S) (show j + 1 ≤ j' by omega) (by omega)
    rw [offT_step hj] at this; omega
  · subst c; exact ⟨rfl, by omega⟩
  · have := off_mono (S := S) (show j' + 1 ≤ j by omega) (by omega)
    rw [offT_step hj'] at this; omega
section
variable {rlo rhi : Int} {L : Nat} {S : List (List T3)} (hO : Okb rlo rhi L S)
include hO
/-- Which taste is not looked at. -/
def skipAt (S : List (List T3)) (but : Int) (j k : Nat) : Prop := ((offT S j + k : Nat) : Int) = but
theorem truthS_of {but : Int} {sh ti : Nat → Int} (h : TruthN rlo rhi L S but sh ti) : TruthS rlo rhi L S (skipAt S but) sh (fun j k => ti (offT S j + k)) := by
  have hne := hO.ne
  refine ⟨h.sharp, fun j hj => ?_, fun j hj k hk => ?_, fun j hj k hk hs => ?_⟩
  · have hl : 0 < S[j].length := Nat.pos_of_ne_zero (hne _ (List.getElem_mem hj))
    exact h.first _ (flat_lt hj hl) (by have := first_at hne hj hl; rw [show (List.take j S).flatten.length + 0 = offT S j + 0 from rfl] at this; rw [this]; decide)
  · have := h.next (offT S j + (k + 1)) (flat_lt hj hk) (by have := first_at hne hj hk; rw [show (List.take j S).flatten.length + (k + 1) = offT S j + (k + 1) from rfl] at this; rw [this]; simp)
    rw [show offT S j + (k + 1) - 1 = offT S j + k by omega] at this
    exact this
  · have := h.said (offT S j + k) (flat_lt hj hk) hs
    have e := taste_at hj hk
    rw [show (List.take j S).flatten.length + k = offT S j + k from rfl] at e
    rw [e] at this
    exact this
/-- Numbers of tastes, one behind the other. -/
def flatN (S : List (List T3)) (ti : Nat → Nat → Int) (t : Nat) : Int := ((List.range S.length).flatMap fun j => (List.range (S[j]?.getD []).length).map (ti j))[t]?.getD 0
omit hO in
theorem flatN_at {ti : Nat → Nat → Int} {j k : Nat} (hj : j < S.length) (hk : k < S[j].length) : flatN S ti (offT S j + k) = ti j k := by
  unfold flatN
  have key : ∀ m, m ≤ S.length → ((List.range m).flatMap fun j => (List.range (S[j]?.getD []).length).map (ti j)).length = offT S m := by
    intro m
    induction m with
    | zero => intro _; simp [offT]
    | succ m ih =>
      intro hm
      have e : S[m]? = some S[m] := List.getElem?_eq_getElem (show m < S.length by omega)
      rw [List.range_succ, List.flatMap_append, List.length_append, ih (by omega), offT_step (show m < S.length by omega)]
      simp [List.flatMap_cons, e]
  obtain ⟨d, hd⟩ : ∃ d, S.length = j + 1 + d := ⟨S.length - (j + 1), by omega⟩
  have e1 : List.range S.length = List.range j ++ (j :: (List.range' (j + 1) d)) := by
    rw [hd, List.range_eq_range', List.range_eq_range']
    rw [show j + 1 + d = j + (d + 1) by omega, ← List.range'_append_1, List.range'_succ]
    simp
  rw [e1, List.flatMap_append, List.getElem?_append_right (by rw [key j (by omega)]; omega), key j (by omega), show offT S j + k - offT S j = k by omega, List.flatMap_cons, List.getElem?_eq_getElem hj, Option.getD_some, List.getElem?_append_left (by simpa using hk), List.getElem?_map, List.getElem?_range hk]
  rfl
theorem truthN_of {but : Int} {sh : Nat → Int} {ti : Nat → Nat → Int} (h : TruthS rlo rhi L S (skipAt S but) sh ti) : TruthN rlo rhi L S but sh (flatN S ti) := by
  have hne := hO.ne
  have hf : ∀ t, t < S.flatten.length → ∃ j, ∃ (hj : j < S.length), ∃ k, k < S[j].length ∧ t = offT S j + k := fun t ht => off_find S.length t (Nat.le_refl _) (by rw [offT_all]; exact ht)
  have hfi : ∀ {j k : Nat} (hj : j < S.length) (hk : k < S[j].length), firstB S ((offT S j + k : Nat) : Int) = decide (k = 0) := fun hj hk => first_at hne hj hk
  have hta : ∀ {j k : Nat} (hj : j < S.length) (hk : k < S[j].length), tasteAt S (offT S j + k) = S[j][k] := fun hj hk => taste_at hj hk
  refine ⟨h.sharp, fun t ht hb => ?_, fun t ht hb => ?_, fun t ht hb => ?_⟩
  · obtain ⟨j, hj, k, hk, rfl⟩ := hf t ht
    rw [hfi hj hk, decide_eq_true_eq] at hb
    subst hb
    rw [flatN_at hj hk]; exact h.first j hj
  · obtain ⟨j, hj, k, hk, rfl⟩ := hf t ht
    rw [hfi hj hk, decide_eq_false_iff_not] at hb
    obtain ⟨k, rfl⟩ : ∃ q, k = q + 1 := ⟨k - 1, by omega⟩
    rw [show offT S j + (k + 1) - 1 = offT S j + k by omega, flatN_at hj hk, flatN_at hj (by omega)]
    exact h.next j hj k hk
  · obtain ⟨j, hj, k, hk, rfl⟩ := hf t ht
    rw [hta hj hk, flatN_at hj hk]
    exact h.said j hj k hk hb
theorem can_truthS (but : Int) : canB rlo rhi L S but = true ↔ ∃ sh ti, TruthS rlo rhi L S (skipAt S but) sh ti := by
  rw [canB_iff hO, has_iff hO]
  exact ⟨fun ⟨_, _, h⟩ => ⟨_, _, truthS_of hO h⟩, fun ⟨_, _, h⟩ => ⟨_, _, truthN_of hO h⟩⟩
omit hO in
theorem skip_none (j k : Nat) : ¬ skipAt S (-1) j k := by unfold skipAt; omega
/-- Truths with no taste left out. -/
abbrev TruthA (rlo rhi : Int) (L : Nat) (S : List (List T3)) (sh : Nat → Int) (ti : Nat → Nat → Int) : Prop := TruthS rlo rhi L S (fun _ _ => False) sh ti
omit hO in
theorem truthA_iff {sh : Nat → Int} {ti : Nat → Nat → Int} : TruthS rlo rhi L S (skipAt S (-1)) sh ti ↔ TruthA rlo rhi L S sh ti :=
  ⟨fun h => ⟨h.sharp, h.first, h.next, fun j hj k hk _ => h.said j hj k hk (skip_none j k)⟩, fun h => ⟨h.sharp, h.first, h.next, fun j hj k hk _ => h.said j hj k hk id⟩⟩
theorem can_truth : canB rlo rhi L S (-1) = true ↔ ∃ sh ti, TruthA rlo rhi L S sh ti := by
  rw [can_truthS hO]
  exact ⟨fun ⟨a, b, h⟩ => ⟨a, b, truthA_iff.1 h⟩, fun ⟨a, b, h⟩ => ⟨a, b, truthA_iff.2 h⟩⟩
/-! ### spans -/
def loS (rlo rhi : Int) (L : Nat) (S : List (List T3)) (i : Nat) : Int := -(jm rlo rhi L S (-1) (i + 1) 0)
def hiS (rlo rhi : Int) (L : Nat) (S : List (List T3)) (i : Nat) : Int := jm rlo rhi L S (-1) 0 (i + 1)
theorem jm_dist (hc : canB rlo rhi L S (-1) = true) {i k : Nat} (hi : i < 1 + L + S.flatten.length) (hk : k < 1 + L + S.flatten.length) : IsDist (allE (bnd rlo rhi L S (-1)) (1 + L + S.flatten.length) (1 + L + S.flatten.length)) i k (jm rlo rhi L S (-1) i k) :=
  (bnd_ok hO (-1)).join_dist ((canB_iff hO (-1)).1 hc) hi hk (reach2 hO (-1) hi hk)
theorem jm_tri (hc : canB rlo rhi L S (-1) = true) {i j k : Nat} (hi : i < 1 + L + S.flatten.length) (hj : j < 1 + L + S.flatten.length) (hk : k < 1 + L + S.flatten.length) : jm rlo rhi L S (-1) i k ≤ jm rlo rhi L S (-1) i j + jm rlo rhi L S (-1) j k :=
  (jm_dist hO hc hi hj).tri (jm_dist hO hc hj hk) (jm_dist hO hc hi hk)
theorem jm_edge (hc : canB rlo rhi L S (-1) = true) {i k : Nat} {x : Int} (hi : i < 1 + L + S.flatten.length) (hk : k < 1 + L + S.flatten.length) (hb : bnd rlo rhi L S (-1) i k = some x) : jm rlo rhi L S (-1) i k ≤ x :=
  (jm_dist hO hc hi hk).2 _ _ (.one (mem_allE.2 ⟨hi, hk, hb⟩))
theorem jm_self (hc : canB rlo rhi L S (-1) = true) {i : Nat} (hi : i < 1 + L + S.flatten.length) : jm rlo rhi L S (-1) i i = 0 :=
  (jm_dist hO hc hi hi).uniq (IsDist.self ((bnd_ok hO (-1)).pot_of ((canB_iff hO (-1)).1 hc)))
theorem span_bounds (hc : canB rlo rhi L S (-1) = true) {i : Nat} (hi : i < L) : 0 ≤ loS rlo rhi L S i ∧ loS rlo rhi L S i ≤ hiS rlo rhi L S i ∧ hiS rlo rhi L S i ≤ 1000 := by
  have h1 := jm_edge hO hc (show 0 < 1 + L + S.flatten.length by omega) (show i + 1 < 1 + L + S.flatten.length by omega) (bnd_0l hO (-1) hi)
  have h2 := jm_edge hO hc (show i + 1 < 1 + L + S.flatten.length by omega) (show 0 < 1 + L + S.flatten.length by omega) (bnd_l0 hO (-1) hi)
  have h3 := jm_tri hO hc (show 0 < 1 + L + S.flatten.length by omega) (show i + 1 < 1 + L + S.flatten.length by omega) (show 0 < 1 + L + S.flatten.length by omega)
  rw [jm_self hO hc (by omega)] at h3
  unfold loS hiS
  omega
/-- Each truth is within the span. -/
theorem span_holds {sh : Nat → Int} {ti : Nat → Nat → Int} (h : TruthA rlo rhi L S sh ti) {i : Nat} (hi : i < L) : loS rlo rhi L S i ≤ sh i ∧ sh i ≤ hiS rlo rhi L S i := by
  have hc := (can_truth hO).2 ⟨_, _, h⟩
  have hp := truth_pot hO (truthN_of hO (truthA_iff.2 h))
  have h1 := (jm_dist hO hc (show 0 < 1 + L + S.flatten.length by omega) (show i + 1 < 1 + L + S.flatten.length by omega)).pot hp
  have h2 := (jm_dist hO hc (show i + 1 < 1 + L + S.flatten.length by omega) (show 0 < 1 + L + S.flatten.length by omega)).pot hp
  have e0 : pOf L sh (flatN S ti) 0 = 0 := rfl
  have e1 : pOf L sh (flatN S ti) (i + 1) = sh i := by unfold pOf; rw [if_neg (by omega), if_pos (by omega)]; rfl
  rw [e0, e1] at h1 h2
  unfold loS hiS
  omega
/-- How far two lots are apart in a truth. -/
theorem apart_holds {sh : Nat → Int} {ti : Nat → Nat → Int} (h : TruthA rlo rhi L S sh ti) {i k : Nat} (hi : i < L) (hk : k < L) : sh i - sh k ≤ jm rlo rhi L S (-1) (k + 1) (i + 1) := by
  have hc := (can_truth hO).2 ⟨_, _, h⟩
  have hp := truth_pot hO (truthN_of hO (truthA_iff.2 h))
  have h1 := (jm_dist hO hc (show k + 1 < 1 + L + S.flatten.length by omega) (show i + 1 < 1 + L + S.flatten.length by omega)).pot hp
  have e1 : ∀ i, i < L → pOf L sh (flatN S ti) (i + 1) = sh i := fun i hi => by unfold pOf; rw [if_neg (by omega), if_pos (by omega)]; rfl
  rw [e1 i hi, e1 k hk] at h1
  omega
/-- Each number of a span is had by some truth. -/
theorem span_had (hc : canB rlo rhi L S (-1) = true) {i : Nat} (hi : i < L) {n : Int} (h1 : loS rlo rhi L S i ≤ n) (h2 : n ≤ hiS rlo rhi L S i) : ∃ sh ti, TruthA rlo rhi L S sh ti ∧ sh i = n := by
  unfold loS at h1
  unfold hiS at h2
  have hN : i + 1 < 1 + L + S.flatten.length := by omega
  have hN0 : 0 < 1 + L + S.flatten.length := by omega
  have hp : Pot (allE (bnd rlo rhi L S (-1)) (1 + L + S.flatten.length) (1 + L + S.flatten.length)) (fun k => min (jm rlo rhi L S (-1) 0 k) (n + jm rlo rhi L S (-1) (i + 1) k)) := by
    rintro ⟨a, b, x⟩ he
    obtain ⟨ha, hb, hbb⟩ := mem_allE.1 he
    dsimp only at ha hb hbb ⊢
    have e1 := jm_edge hO hc ha hb hbb
    have e2 := jm_tri hO hc hN0 ha hb
    have e3 := jm_tri hO hc hN ha hb
    omega
  have ht := pot_truth hO hp
  have z0 := jm_self hO hc hN0
  have z1 := jm_self hO hc hN
  refine ⟨_, _, truthA_iff.1 (truthS_of hO ht), ?_⟩
  rw [z0, z1]
  omega
/-- The spans are those of the truths. -/
theorem spans_le {rlo' rhi' : Int} {S' : List (List T3)} (hO' : Okb rlo' rhi' L S') (hsub : ∀ sh ti', TruthA rlo' rhi' L S' sh ti' → ∃ ti, TruthA rlo rhi L S sh ti) (hc' : canB rlo' rhi' L S' (-1) = true) : canB rlo rhi L S (-1) = true ∧ ∀ i, i < L → loS rlo rhi L S i ≤ loS rlo' rhi' L S' i ∧ hiS rlo' rhi' L S' i ≤ hiS rlo rhi L S i := by
  obtain ⟨sh, ti, h⟩ := (can_truth hO').1 hc'
  obtain ⟨ti2, h2⟩ := hsub sh ti h
  have hc := (can_truth hO).2 ⟨_, _, h2⟩
  refine ⟨hc, fun i hi => ?_⟩
  have hb := span_bounds hO' hc' hi
  obtain ⟨s1, t1, g1, e1⟩ := span_had hO' hc' hi (Int.le_refl _) hb.2.1
  obtain ⟨s2, t2, g2, e2⟩ := span_had hO' hc' hi hb.2.1 (Int.le_refl _)
  obtain ⟨u1, q1⟩ := hsub _ _ g1
  obtain ⟨u2, q2⟩ := hsub _ _ g2
  have := span_holds hO q1 hi
  have := span_holds hO q2 hi
  omega
end
end Go.Proofs.Ytkbcogaodnmdoaa
