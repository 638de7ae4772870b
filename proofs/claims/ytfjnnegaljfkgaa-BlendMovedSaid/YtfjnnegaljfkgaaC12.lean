/- Layer 3, blends: Lots moved, and more of them: lemmas for the rows of this seat. No conditions. -/
import Derived.Test.YtfjnnegaljfkgaaProg
import Derived.Test.YtfjnnegaljfkgaaBase
import Derived.Test.YtfjnnegaljfkgaaPlain
import Derived.Test.YtfjnnegaljfkgaaWA
import Derived.Test.YtfjnnegaljfkgaaSeg
import Derived.Test.YtfjnnegaljfkgaaKeys
import Derived.Test.YtfjnnegaljfkgaaW20
import Derived.Test.YtfjnnegaljfkgaaW21
import Derived.Test.YtfjnnegaljfkgaaW22
import Derived.Test.YtfjnnegaljfkgaaS1
import Derived.Test.YtfjnnegaljfkgaaS5
import Derived.Test.YtfjnnegaljfkgaaS12
import Derived.Test.YtfjnnegaljfkgaaTab
import Derived.Test.YtfjnnegaljfkgaaS14
import Derived.Test.YtfjnnegaljfkgaaArms
import Derived.Test.YtfjnnegaljfkgaaWE
import Derived.Test.YtfjnnegaljfkgaaB1
import Derived.Test.YtfjnnegaljfkgaaB2
import Derived.Test.YtfjnnegaljfkgaaB3
import Derived.Test.YtfjnnegaljfkgaaB4
import Derived.Test.YtfjnnegaljfkgaaB5
import Derived.Test.YtfjnnegaljfkgaaB6
import Derived.Test.YtfjnnegaljfkgaaB7
import Derived.Test.YtfjnnegaljfkgaaB8
import Derived.Test.YtfjnnegaljfkgaaB9
import Derived.Test.YtfjnnegaljfkgaaB10
import Derived.Test.YtfjnnegaljfkgaaB11
import Derived.Test.YtfjnnegaljfkgaaB12
import Derived.Test.YtfjnnegaljfkgaaB13
import Derived.Test.YtfjnnegaljfkgaaB14
import Derived.Test.YtfjnnegaljfkgaaC1
import Derived.Test.YtfjnnegaljfkgaaC2a
import Derived.Test.YtfjnnegaljfkgaaC2
import Derived.Test.YtfjnnegaljfkgaaL1
import Derived.Test.YtfjnnegaljfkgaaL2
import Derived.Test.YtfjnnegaljfkgaaC3a
import Derived.Test.YtfjnnegaljfkgaaC6
import Derived.Test.YtfjnnegaljfkgaaC7
import Derived.Test.YtfjnnegaljfkgaaC9
set_option linter.all false
namespace Go.Proofs.Ytfjnnegaljfkgaa
open Go.RowKit
/-! ## Lots moved, and more of them -/
/-- Lay theorems by their runs: lots as much sharper. -/
theorem shift_cheap {xs ys : List (Int × Int)} {t d N D : Int} (h : Cheap xs t N D) (hs : ∀ p ∈ xs, (p.1 + d, p.2) ∈ ys) (hs' : ∀ q ∈ ys, (q.1 - d, q.2) ∈ xs) : Cheap ys (t + d) N D := by
  obtain ⟨dd, s, k, hd, hl, he⟩ := h.low
  refine ⟨h.pos, ?_, dd, s - k * d, k, hd, fun q hq => ?_, by rw [← he]; grind⟩
  · obtain ⟨a, ha, b, hb, h1, h2, h3 | h3⟩ := h.wit
    · refine ⟨_, hs a ha, _, hs b hb, by dsimp only; omega, by dsimp only; omega, .inl ⟨by dsimp only; omega, ?_⟩⟩
      have := h3.2
      dsimp only
      grind
    · exact ⟨_, hs a ha, _, hs a ha, by dsimp only; omega, by dsimp only; omega, .inr ⟨by dsimp only; omega, h3.2⟩⟩
  · have := hl _ (hs' q hq)
    dsimp only at this
    grind
theorem shift_ch {xs ys : List (Int × Int)} (h : Good xs) (h' : Good ys) {d : Int} (hs : ∀ p ∈ xs, (p.1 + d, p.2) ∈ ys) (hs' : ∀ q ∈ ys, (q.1 - d, q.2) ∈ xs) (t : Int) : chR ys (t + d) = chR xs t := by
  cases hb : (chR xs t).2 with
  | true =>
    obtain ⟨h1, h2⟩ := h.ch_true hb
    rw [h'.ch_is h2 (shift_cheap h1 hs hs'), ← hb]
  | false =>
    obtain ⟨h1, h2⟩ := h.ch_false hb
    refine (h'.ch_not ?_).trans (by rw [← h2, ← hb])
    rintro ⟨a, ha, b, hb', g1, g2⟩
    exact h1 ⟨_, hs' a ha, _, hs' b hb', by dsimp only; omega, by dsimp only; omega⟩
/-- All Prices m times as great, and e more. -/
theorem scale_cheap {xs ys : List (Int × Int)} {t m e N D : Int} (hm : 0 < m) (h : Cheap xs t N D) (hs : ∀ p ∈ xs, (p.1, m * p.2 + e) ∈ ys) (hs' : ∀ q ∈ ys, ∃ p ∈ xs, q = (p.1, m * p.2 + e)) : Cheap ys t (m * N + e * D) D := by
  obtain ⟨dd, s, k, hd, hl, he⟩ := h.low
  refine ⟨h.pos, ?_, dd, m * s + e * dd, m * k, hd, fun q hq => ?_, ?_⟩
  · obtain ⟨a, ha, b, hb, h1, h2, h3 | h3⟩ := h.wit
    · refine ⟨_, hs a ha, _, hs b hb, h1, h2, .inl ⟨h3.1, ?_⟩⟩
      have := h3.2
      dsimp only
      grind
    · refine ⟨_, hs a ha, _, hs a ha, h1, by dsimp only; omega, .inr ⟨h3.1, ?_⟩⟩
      have := h3.2
      dsimp only
      grind
  · obtain ⟨p, hp, rfl⟩ := hs' q hq
    have h1 := Int.mul_le_mul_of_nonneg_left (hl p hp) (Int.le_of_lt hm)
    dsimp only
    grind
  · have : m * ((s + k * t) * D) = m * (N * dd) := by rw [he]
    grind
theorem scale_ch {xs ys : List (Int × Int)} (h : Good xs) (h' : Good ys) {m e : Int} (hm : 0 < m) (hs : ∀ p ∈ xs, (p.1, m * p.2 + e) ∈ ys) (hs' : ∀ q ∈ ys, ∃ p ∈ xs, q = (p.1, m * p.2 + e)) (t : Int) :
    (chR ys t).2 = (chR xs t).2 ∧ ((chR xs t).2 = true → (chR ys t).1 = rat (m * (chR xs t).1.1 + e * (chR xs t).1.2) (chR xs t).1.2) := by
  cases hb : (chR xs t).2 with
  | true =>
    obtain ⟨h1, h2⟩ := h.ch_true hb
    have h3 := scale_cheap hm h1 hs hs'
    have h4 := h'.ch_had h3.wit.had
    obtain ⟨h5, h6⟩ := h'.ch_true h4
    refine ⟨h4, fun _ => ?_⟩
    rw [← h6.red]
    exact rat_eq h5.pos h3.pos (h5.eq h3)
  | false =>
    obtain ⟨h1, _⟩ := h.ch_false hb
    refine ⟨?_, fun e => by cases e⟩
    rw [h'.ch_not]
    rintro ⟨a, ha, b, hb', g1, g2⟩
    obtain ⟨p, hp, rfl⟩ := hs' a ha
    obtain ⟨q, hq, rfl⟩ := hs' b hb'
    exact h1 ⟨p, hp, q, hq, g1, g2⟩
/-! ### no dearer lots -/
def Under (xs ys : List (Int × Int)) : Prop := ∀ p ∈ xs, ∃ q ∈ ys, q.1 = p.1 ∧ q.2 ≤ p.2
section
variable {xs ys : List (Int × Int)} {t : Int}
theorem Under.line (h : Under xs ys) {d s k : Int} (hd : 0 < d) (hl : LineBelow d s k ys) : LineBelow d s k xs := fun p hp => by
  obtain ⟨q, hq, e1, e2⟩ := h p hp
  have h1 := hl q hq
  have := Int.mul_le_mul_of_nonneg_right e2 (Int.le_of_lt hd)
  rw [e1] at h1
  omega
theorem Under.had (h : Under xs ys) (hh : Had xs t) : Had ys t := by
  obtain ⟨a, ha, b, hb, h1, h2⟩ := hh
  obtain ⟨a', ha', e1, _⟩ := h a ha
  obtain ⟨b', hb', e2, _⟩ := h b hb
  exact ⟨a', ha', b', hb', by omega, by omega⟩
theorem Under.cheap (h : Under xs ys) {N D N' D' : Int} (h1 : Cheap xs t N D) (h2 : Cheap ys t N' D') : less (N, D) (N', D') = false := by
  obtain ⟨d, s, k, hd, hl, he⟩ := h2.low
  have hw := h1.wit.weak h1.pos (h.line hd hl)
  refine decide_eq_false fun hlt => ?_
  dsimp only at hlt
  have m1 := Int.mul_le_mul_of_nonneg_right hw (Int.le_of_lt h2.pos)
  have m2 := Int.mul_lt_mul_of_pos_left hlt hd
  have e1 : (s + k * t) * D * D' = d * (N' * D) := by
    have : (s + k * t) * D * D' = (s + k * t) * D' * D := by grind
    rw [this, he]; grind
  have e2 : N * d * D' = d * (N * D') := by grind
  omega
theorem Under.least (h : Under xs ys) {N D N' D' : Int} (h1 : LeastIs xs t N D) (h2 : LeastIs ys t N' D') : less (N, D) (N', D') = false := by
  obtain ⟨d, s, k, hd, hk, hl, he⟩ := h2.low
  have hw := least_weak h1.wit h1.pos hk (h.line hd hl)
  refine decide_eq_false fun hlt => ?_
  dsimp only at hlt
  have m1 := Int.mul_le_mul_of_nonneg_right hw (Int.le_of_lt h2.pos)
  have m2 := Int.mul_lt_mul_of_pos_left hlt hd
  have e1 : (s + k * t) * D * D' = d * (N' * D) := by
    have : (s + k * t) * D * D' = (s + k * t) * D' * D := by grind
    rw [this, he]; grind
  have e2 : N * d * D' = d * (N * D') := by grind
  omega
/-- What noMore asks. -/
theorem Under.ch (h : Under xs ys) (g : Good xs) (g' : Good ys) : ((chR xs t).2 = true → (chR ys t).2 = true ∧ less (chR xs t).1 (chR ys t).1 = false) := by
  intro hb
  obtain ⟨h1, _⟩ := g.ch_true hb
  have h2 := g'.ch_had (h.had h1.wit.had)
  obtain ⟨h3, _⟩ := g'.ch_true h2
  exact ⟨h2, h.cheap h1 h3⟩
theorem Under.le (h : Under xs ys) (g : Good xs) (g' : Good ys) (ht : 0 ≤ t) : ((leR xs t).2 = true → (leR ys t).2 = true ∧ less (leR xs t).1 (leR ys t).1 = false) := by
  intro hb
  obtain ⟨h1, _⟩ := g.le_true ht hb
  have h2 : (leR ys t).2 = true := by
    rcases h1.wit with ⟨c, hc, hct, _⟩ | hw
    · obtain ⟨q, hq, e1, _⟩ := h c hc
      exact g'.le_had hq (by omega)
    · obtain ⟨_, _, b, hb', _, h4⟩ := hw.had
      obtain ⟨q, hq, e1, _⟩ := h b hb'
      exact g'.le_had hq (by omega)
  obtain ⟨h3, _⟩ := g'.le_true ht h2
  exact ⟨h2, h.least h1 h3⟩
end
end Go.Proofs.Ytfjnnegaljfkgaa
