/- Layer 3, blends: Every lots own sharpness can be mixed: lemmas for the rows of this seat. No conditions. -/
import Derived.Test.YtfjnnegaljfkgaaProg
import Derived.Test.YtfjnnegaljfkgaaBase
import Derived.Test.YtfjnnegaljfkgaaPlain
import Derived.Test.YtfjnnegaljfkgaaWA
import Derived.Test.YtfjnnegaljfkgaaSeg
import Derived.Test.YtfjnnegaljfkgaaKeys
import Derived.Test.YtfjnnegaljfkgaaW20
import Derived.Test.YtfjnnegaljfkgaaW21
import Derived.Test.YtfjnnegaljfkgaaW22
import Derived.Test.YtfjnnegaljfkgaaS1
import Derived.Test.YtfjnnegaljfkgaaS5
import Derived.Test.YtfjnnegaljfkgaaS12
import Derived.Test.YtfjnnegaljfkgaaTab
import Derived.Test.YtfjnnegaljfkgaaS14
import Derived.Test.YtfjnnegaljfkgaaArms
import Derived.Test.YtfjnnegaljfkgaaWE
import Derived.Test.YtfjnnegaljfkgaaB1
import Derived.Test.YtfjnnegaljfkgaaB2
import Derived.Test.YtfjnnegaljfkgaaB3
import Derived.Test.YtfjnnegaljfkgaaB4
set_option linter.all false
namespace Go.Proofs.Ytfjnnegaljfkgaa
open Go.RowKit
/-! ## Every lot's own sharpness can be mixed -/
/-- Lay theorems by their runs: the last of what is left is the last. -/
theorem popAll_last (c : Corner) : ∀ s : List Corner, s ≠ [] → (popAll c s).getLast? = s.getLast? := by
  intro s
  induction s with
  | nil => intro h; exact absurd rfl h
  | cons q s ih =>
    intro _
    cases s with
    | nil => rfl
    | cons p r =>
      by_cases h : belowC p q c = true
      · simp [popAll, h]
      · simp only [popAll, h]
        rw [if_neg (by simp), ih (by simp)]
        simp
theorem chain_ends (L : List Int) (F : List ((Int × Int) × Nat)) : ∀ s t : Nat, t < s → L[t]?.getD 0 ≠ 1001 → (∃ c, (chainUpto L F s).getLast? = some c ∧ c.1 ≤ t) ∧ ∃ c ∈ chainUpto L F s, (t : Int) ≤ c.1 := by
  intro s
  induction s with
  | zero => intro t h; omega
  | succ s ih =>
    intro t ht hL
    unfold chainUpto
    split
    · rename_i h
      exact ih t (by have : t ≠ s := fun e => hL (e ▸ h); omega) hL
    · rename_i hne
      refine ⟨?_, _, .head _, by simp; omega⟩
      by_cases e : chainUpto L F s = []
      · rw [e]
        simp only [popAll, List.getLast?_singleton]
        refine ⟨_, rfl, ?_⟩
        have : t = s := by
          rcases Nat.lt_or_ge t s with h | h
          · exact absurd e (chainUpto_ne hL s h)
          · omega
        subst this
        exact Int.le_refl _
      · have h1 := popAll_last ((s : Int), L[s]?.getD 0, (firstIn F ((s : Int), L[s]?.getD 0) : Int)) _ e
        obtain ⟨c, hc⟩ : ∃ c, (chainUpto L F s).getLast? = some c := by
          cases h : (chainUpto L F s).getLast? with
          | none => exact absurd (List.getLast?_eq_none_iff.1 h) e
          | some c => exact ⟨c, rfl⟩
        rw [hc] at h1
        rw [List.getLast?_cons, h1]
        refine ⟨c, rfl, ?_⟩
        rcases Nat.lt_or_ge t s with h | h
        · obtain ⟨⟨c', h2, h3⟩, _⟩ := ih t h hL
          rw [hc] at h2; cases h2; exact h3
        · have hm : c ∈ chainUpto L F s := List.mem_of_getLast? hc
          have : ∀ s, ∀ c ∈ chainUpto L F s, c.1 < s := by
            intro s
            induction s with
            | zero => intro c hc; cases hc
            | succ s ih2 =>
              intro c hc
              unfold chainUpto at hc
              split at hc
              · have := ih2 c hc; omega
              · rcases List.mem_cons.1 hc with rfl | hc
                · simp; omega
                · obtain ⟨r, hr⟩ := popAll_suffix ((s : Int), L[s]?.getD 0, (firstIn F ((s : Int), L[s]?.getD 0) : Int)) (chainUpto L F s)
                  have := ih2 c (by rw [hr]; exact List.mem_append_right _ hc)
                  omega
          have := this s c hm
          omega
theorem mixScan_some {t : Int} : ∀ (l : List Corner) (la : Option Corner), (∃ c ∈ l, t ≤ c.1) → (la ≠ none ∨ ∃ c, l.head? = some c ∧ c.1 ≤ t) → ∃ m, mixScan t la l = some m := by
  intro l
  induction l with
  | nil => rintro la ⟨c, hc, _⟩; cases hc
  | cons c l ih =>
    rintro la ⟨d, hd, hdt⟩ hla
    unfold mixScan
    by_cases e1 : c.1 = t
    · rw [if_pos e1]; exact ⟨_, rfl⟩
    · rw [if_neg e1]
      by_cases e2 : t < c.1
      · rw [if_pos e2]
        rcases hla with h | ⟨c', h1, h2⟩
        · cases la with
          | none => exact absurd rfl h
          | some b => exact ⟨_, rfl⟩
        · cases h1; omega
      · rw [if_neg e2]
        refine ih (some c) ⟨d, ?_, hdt⟩ (.inl (by simp))
        rcases List.mem_cons.1 hd with rfl | h
        · omega
        · exact h
theorem Good.mixes {xs : List (Int × Int)} (h : Good xs) : ∀ j, j < xs.length → ∃ m, mixScan (lotAt xs j).1 none (chainOf xs) = some m := by
  intro j hj
  have h1 := not_lotBad.1 (h.lot j hj)
  have h2 := leastUpto_le h.lot xs.length (Nat.le_refl _) j hj
  obtain ⟨⟨c, hc, hct⟩, d, hd, hdt⟩ := chain_ends (leastOf xs) (firstUpto xs xs.length) 101 (lotAt xs j).1.toNat (by omega) (by unfold leastOf; omega)
  refine mixScan_some _ none ⟨d, List.mem_reverse.2 hd, by omega⟩ (.inr ⟨c, ?_, by omega⟩)
  unfold chainOf
  rw [List.head?_reverse]
  exact hc
end Go.Proofs.Ytfjnnegaljfkgaa
