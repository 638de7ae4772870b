/- Layer 3, blends: Shelves of valid lots, plainly: lemmas for the rows of this seat. No conditions. -/
import Derived.Test.YtfjnnegaljfkgaaProg
import Derived.Test.YtfjnnegaljfkgaaBase
import Derived.Test.YtfjnnegaljfkgaaPlain
import Derived.Test.YtfjnnegaljfkgaaWA
import Derived.Test.YtfjnnegaljfkgaaSeg
import Derived.Test.YtfjnnegaljfkgaaKeys
import Derived.Test.YtfjnnegaljfkgaaW20
import Derived.Test.YtfjnnegaljfkgaaW21
import Derived.Test.YtfjnnegaljfkgaaW22
import Derived.Test.YtfjnnegaljfkgaaS1
import Derived.Test.YtfjnnegaljfkgaaS5
import Derived.Test.YtfjnnegaljfkgaaS12
import Derived.Test.YtfjnnegaljfkgaaTab
import Derived.Test.YtfjnnegaljfkgaaS14
import Derived.Test.YtfjnnegaljfkgaaArms
import Derived.Test.YtfjnnegaljfkgaaB1
import Derived.Test.YtfjnnegaljfkgaaB2
import Derived.Test.YtfjnnegaljfkgaaB3
set_option linter.all false
namespace Go.Proofs.Ytfjnnegaljfkgaa
open Go.RowKit
/-! ## Shelves of valid lots, plainly -/
/-- Lay theorems by their runs: what is known of a shelf of valid lots. -/
structure Good (xs : List (Int × Int)) : Prop where
  len : 1 ≤ xs.length ∧ xs.length ≤ 8
  lot : ∀ j, j < xs.length → lotBad (lotAt xs j) = false
theorem Good.of {xs : List (Int × Int)} (h : checkLots xs = 0) : Good xs := by
  obtain ⟨h1, h2, h3⟩ := checkLots_zero h
  exact ⟨⟨h1, h2⟩, h3⟩
theorem Good.least {xs : List (Int × Int)} (h : Good xs) : okLeast (leastOf xs) := okLeast_upto h.lot _ (Nat.le_refl _)
theorem Good.corner {xs : List (Int × Int)} (h : Good xs) : ∀ c ∈ chainOf xs, okCorner c := fun c hc => okChain h.least 101 (Nat.le_refl _) c (List.mem_reverse.1 hc)
theorem leastUpto_count (xs : List (Int × Int)) (k : Nat) : (leastUpto xs k).countP (fun v => decide (v ≠ 1001)) ≤ k := by
  induction k with
  | zero => simp [leastUpto]
  | succ k ih =>
    simp only [leastUpto, leastStep]
    by_cases hi : (lotAt xs k).1.toNat < (leastUpto xs k).length
    · rw [List.countP_set hi]
      split <;> split <;> omega
    · rw [List.set_eq_of_length_le (by omega)]; omega
theorem Good.notZero {xs : List (Int × Int)} (h : Good xs) : (List.range 101).all (fun i => (leastOf xs)[i]?.getD 0 == (List.replicate 101 0)[i]?.getD 0) = false := by
  rcases hb : (List.range 101).all (fun i => (leastOf xs)[i]?.getD 0 == (List.replicate 101 0)[i]?.getD 0) with _ | _
  · rfl
  · have hl : (leastOf xs).length = 101 := leastUpto_length _ _
    have h2 := leastUpto_count xs xs.length
    have h3 := h.len.2
    have : (leastUpto xs xs.length).countP (fun v => decide (v ≠ 1001)) = (leastUpto xs xs.length).length := by
      rw [List.countP_eq_length]
      intro a ha
      obtain ⟨i, hi, he⟩ := List.mem_iff_getElem.1 ha
      have := List.all_eq_true.1 hb i (by rw [List.mem_range]; rw [leastUpto_length] at hi; exact hi)
      rw [show leastOf xs = leastUpto xs xs.length from rfl, List.getElem?_eq_getElem hi, he, List.getElem?_replicate, if_pos (by rw [leastUpto_length] at hi; exact hi)] at this
      have : a = 0 := by simpa using this
      subst this; rfl
    rw [leastUpto_length] at this
    omega
theorem leastUpto_le {xs : List (Int × Int)} (hg : ∀ j, j < xs.length → lotBad (lotAt xs j) = false) : ∀ k, k ≤ xs.length → ∀ j, j < k → (leastUpto xs k)[(lotAt xs j).1.toNat]?.getD 0 ≤ (lotAt xs j).2 := by
  intro k
  induction k with
  | zero => intro _ j hj; omega
  | succ k ih =>
    intro hk j hj
    have h1 := not_lotBad.1 (hg k (by omega))
    simp only [leastUpto, leastStep]
    by_cases e : (lotAt xs k).1.toNat = (lotAt xs j).1.toNat
    · rw [← e, List.getElem?_set_self (by rw [leastUpto_length]; omega)]
      simp only [Option.getD_some]
      by_cases e2 : j = k
      · subst e2; omega
      · have := ih (by omega) j (by omega)
        rw [← e] at this
        omega
    · rw [List.getElem?_set_ne e]
      have : j ≠ k := fun h => e (by rw [h])
      exact ih (by omega) j (by omega)
theorem chainUpto_ne {L : List Int} {F : List ((Int × Int) × Nat)} {t : Nat} (h : L[t]?.getD 0 ≠ 1001) : ∀ s, t < s → chainUpto L F s ≠ [] := by
  intro s
  induction s with
  | zero => intro h; omega
  | succ s ih =>
    intro hs
    unfold chainUpto
    split
    · rename_i h2
      exact ih (by have : t ≠ s := fun e => h (e ▸ h2); omega)
    · simp
theorem Good.chain {xs : List (Int × Int)} (h : Good xs) : 1 ≤ (chainOf xs).length := by
  have h1 := not_lotBad.1 (h.lot 0 (by have := h.len; omega))
  have h2 := leastUpto_le h.lot xs.length (Nat.le_refl _) 0 (by have := h.len; omega)
  have := chainUpto_ne (L := leastOf xs) (F := firstUpto xs xs.length) (t := (lotAt xs 0).1.toNat) (by unfold leastOf; omega) 101 (by omega)
  unfold chainOf
  rw [List.length_reverse]
  cases hc : chainUpto (leastOf xs) (firstUpto xs xs.length) 101 with
  | nil => exact absurd hc this
  | cons c l => simp
def mixOk : MixT → Prop := fun (a, b, p, q) => okCorner a ∧ okCorner b ∧ 0 ≤ p ∧ p ≤ 100 ∧ 0 ≤ q ∧ q ≤ 100 ∧ 1 ≤ p + q
theorem mixScan_ok {t : Int} (ht : 0 ≤ t ∧ t ≤ 100) : ∀ (l : List Corner) (la : Option Corner), (∀ c ∈ l, okCorner c) → (∀ b, la = some b → okCorner b ∧ b.1 < t) → ∀ m, mixScan t la l = some m → mixOk m := by
  intro l
  induction l with
  | nil => intro la _ _ m hm; cases hm
  | cons c l ih =>
    intro la hl hla m hm
    have hc := hl c (.head _)
    unfold mixScan at hm
    split at hm
    · cases hm
      exact ⟨hc, hc, by omega, by omega, by omega, by omega, by omega⟩
    · split at hm
      · cases la with
        | none => cases hm
        | some b =>
          cases hm
          obtain ⟨h1, h2⟩ := hla b rfl
          have hb := h1
          unfold okCorner at h1 hc
          exact ⟨hb, hl c (.head _), by omega, by omega, by omega, by omega, by omega⟩
      · exact ih (some c) (fun d hd => hl d (.tail _ hd)) (fun b hb => by cases hb; exact ⟨hc, by omega⟩) m hm
theorem bestOf_mem : ∀ (l : List Corner) (o : Corner), bestOf o l = o ∨ bestOf o l ∈ l := by
  intro l
  induction l with
  | nil => intro o; exact .inl rfl
  | cons x l ih =>
    intro o
    simp only [bestOf]
    rcases ih (if x.2.1 < o.2.1 then x else o) with h | h
    · rw [h]
      split
      · exact .inr (.head _)
      · exact .inl rfl
    · exact .inr (.tail _ h)
/-- The cheapest corner, and a sharpness, or its own. -/
def cheapC (xs : List (Int × Int)) : Corner := bestOf ((chainOf xs)[0]?.getD (0, 0, 0)) ((chainOf xs).drop 1)
def riseOf (xs : List (Int × Int)) (t : Int) : Int := max t (cheapC xs).1
theorem Good.cheap {xs : List (Int × Int)} (h : Good xs) : cheapC xs ∈ chainOf xs := by
  have hc := h.chain
  unfold cheapC
  cases hl : chainOf xs with
  | nil => rw [hl] at hc; simp at hc
  | cons c l =>
    rcases bestOf_mem l c with h | h
    · simp [h]
    · simpa using .inr h
end Go.Proofs.Ytfjnnegaljfkgaa
