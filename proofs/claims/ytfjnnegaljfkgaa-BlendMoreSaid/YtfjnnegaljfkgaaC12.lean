/- Layer 3, blends: Lots moved, and more of them: lemmas for the rows of this seat. No conditions. -/
import Derived.Test.YtfjnnegaljfkgaaProg
import Derived.Test.YtfjnnegaljfkgaaBase
import Derived.Test.YtfjnnegaljfkgaaPlain
import Derived.Test.YtfjnnegaljfkgaaWA
import Derived.Test.YtfjnnegaljfkgaaSeg
import Derived.Test.YtfjnnegaljfkgaaKeys
import Derived.Test.YtfjnnegaljfkgaaW20
import Derived.Test.YtfjnnegaljfkgaaW21
import Derived.Test.YtfjnnegaljfkgaaW22
import Derived.Test.YtfjnnegaljfkgaaS1
import Derived.Test.YtfjnnegaljfkgaaS5
import Derived.Test.YtfjnnegaljfkgaaS12
import Derived.Test.YtfjnnegaljfkgaaTab
import Derived.Test.YtfjnnegaljfkgaaS14
import Derived.Test.YtfjnnegaljfkgaaArms
import Derived.Test.YtfjnnegaljfkgaaWE
import Derived.Test.YtfjnnegaljfkgaaB1
import Derived.Test.YtfjnnegaljfkgaaB2
import Derived.Test.YtfjnnegaljfkgaaB3
import Derived.Test.YtfjnnegaljfkgaaB4
import Derived.Test.YtfjnnegaljfkgaaB5
import Derived.Test.YtfjnnegaljfkgaaB6
import Derived.Test.YtfjnnegaljfkgaaB7
import Derived.Test.YtfjnnegaljfkgaaB8
import Derived.Test.YtfjnnegaljfkgaaB9
import Derived.Test.YtfjnnegaljfkgaaB10
import Derived.Test.YtfjnnegaljfkgaaB11
import Derived.Test.YtfjnnegaljfkgaaB12
import Derived.Test.YtfjnnegaljfkgaaB13
import Derived.Test.YtfjnnegaljfkgaaB14
import Derived.Test.YtfjnnegaljfkgaaC1
import Derived.Test.YtfjnnegaljfkgaaC2a
import Derived.Test.YtfjnnegaljfkgaaC2
import Derived.Test.YtfjnnegaljfkgaaL1
import Derived.Test.YtfjnnegaljfkgaaL2
import Derived.Test.YtfjnnegaljfkgaaC3a
import Derived.Test.YtfjnnegaljfkgaaC6
import Derived.Test.YtfjnnegaljfkgaaC7
import Derived.Test.YtfjnnegaljfkgaaC9
set_option linter.all false
namespace Go.Proofs.Ytfjnnegaljfkgaa
open Go.RowKit
/-! ## Lots moved, and more of them -/
/-! ### no dearer lots -/
def Under (xs ys : List (Int × Int)) : Prop := ∀ p ∈ xs, ∃ q ∈ ys, q.1 = p.1 ∧ q.2 ≤ p.2
section
variable {xs ys : List (Int × Int)} {t : Int}
theorem Under.line (h : Under xs ys) {d s k : Int} (hd : 0 < d) (hl : LineBelow d s k ys) : LineBelow d s k xs := fun p hp => by
  obtain ⟨q, hq, e1, e2⟩ := h p hp
  have h1 := hl q hq
  have := Int.mul_le_mul_of_nonneg_right e2 (Int.le_of_lt hd)
  rw [e1] at h1
  omega
theorem Under.had (h : Under xs ys) (hh : Had xs t) : Had ys t := by
  obtain ⟨a, ha, b, hb, h1, h2⟩ := hh
  obtain ⟨a', ha', e1, _⟩ := h a ha
  obtain ⟨b', hb', e2, _⟩ := h b hb
  exact ⟨a', ha', b', hb', by omega, by omega⟩
theorem Under.cheap (h : Under xs ys) {N D N' D' : Int} (h1 : Cheap xs t N D) (h2 : Cheap ys t N' D') : less (N, D) (N', D') = false := by
  obtain ⟨d, s, k, hd, hl, he⟩ := h2.low
  have hw := h1.wit.weak h1.pos (h.line hd hl)
  refine decide_eq_false fun hlt => ?_
  dsimp only at hlt
  have m1 := Int.mul_le_mul_of_nonneg_right hw (Int.le_of_lt h2.pos)
  have m2 := Int.mul_lt_mul_of_pos_left hlt hd
  have e1 : (s + k * t) * D * D' = d * (N' * D) := by
    have : (s + k * t) * D * D' = (s + k * t) * D' * D := by grind
    rw [this, he]; grind
  have e2 : N * d * D' = d * (N * D') := by grind
  omega
theorem Under.least (h : Under xs ys) {N D N' D' : Int} (h1 : LeastIs xs t N D) (h2 : LeastIs ys t N' D') : less (N, D) (N', D') = false := by
  obtain ⟨d, s, k, hd, hk, hl, he⟩ := h2.low
  have hw := least_weak h1.wit h1.pos hk (h.line hd hl)
  refine decide_eq_false fun hlt => ?_
  dsimp only at hlt
  have m1 := Int.mul_le_mul_of_nonneg_right hw (Int.le_of_lt h2.pos)
  have m2 := Int.mul_lt_mul_of_pos_left hlt hd
  have e1 : (s + k * t) * D * D' = d * (N' * D) := by
    have : (s + k * t) * D * D' = (s + k * t) * D' * D := by grind
    rw [this, he]; grind
  have e2 : N * d * D' = d * (N * D') := by grind
  omega
/-- What noMore asks. -/
theorem Under.ch (h : Under xs ys) (g : Good xs) (g' : Good ys) : ((chR xs t).2 = true → (chR ys t).2 = true ∧ less (chR xs t).1 (chR ys t).1 = false) := by
  intro hb
  obtain ⟨h1, _⟩ := g.ch_true hb
  have h2 := g'.ch_had (h.had h1.wit.had)
  obtain ⟨h3, _⟩ := g'.ch_true h2
  exact ⟨h2, h.cheap h1 h3⟩
theorem Under.le (h : Under xs ys) (g : Good xs) (g' : Good ys) (ht : 0 ≤ t) : ((leR xs t).2 = true → (leR ys t).2 = true ∧ less (leR xs t).1 (leR ys t).1 = false) := by
  intro hb
  obtain ⟨h1, _⟩ := g.le_true ht hb
  have h2 : (leR ys t).2 = true := by
    rcases h1.wit with ⟨c, hc, hct, _⟩ | hw
    · obtain ⟨q, hq, e1, _⟩ := h c hc
      exact g'.le_had hq (by omega)
    · obtain ⟨_, _, b, hb', _, h4⟩ := hw.had
      obtain ⟨q, hq, e1, _⟩ := h b hb'
      exact g'.le_had hq (by omega)
  obtain ⟨h3, _⟩ := g'.le_true ht h2
  exact ⟨h2, h.least h1 h3⟩
end
end Go.Proofs.Ytfjnnegaljfkgaa
