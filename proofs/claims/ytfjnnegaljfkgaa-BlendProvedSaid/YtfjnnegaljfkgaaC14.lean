/- Layer 3, blends: Blends by numbers: lemmas for the rows of this seat. No conditions. -/
import Derived.Test.YtfjnnegaljfkgaaProg
import Derived.Test.YtfjnnegaljfkgaaBase
import Derived.Test.YtfjnnegaljfkgaaPlain
import Derived.Test.YtfjnnegaljfkgaaWA
import Derived.Test.YtfjnnegaljfkgaaSeg
import Derived.Test.YtfjnnegaljfkgaaKeys
import Derived.Test.YtfjnnegaljfkgaaW20
import Derived.Test.YtfjnnegaljfkgaaW21
import Derived.Test.YtfjnnegaljfkgaaW22
import Derived.Test.YtfjnnegaljfkgaaS1
import Derived.Test.YtfjnnegaljfkgaaS5
import Derived.Test.YtfjnnegaljfkgaaS12
import Derived.Test.YtfjnnegaljfkgaaTab
import Derived.Test.YtfjnnegaljfkgaaS14
import Derived.Test.YtfjnnegaljfkgaaArms
import Derived.Test.YtfjnnegaljfkgaaWE
import Derived.Test.YtfjnnegaljfkgaaB1
import Derived.Test.YtfjnnegaljfkgaaB2
import Derived.Test.YtfjnnegaljfkgaaB3
import Derived.Test.YtfjnnegaljfkgaaB4
import Derived.Test.YtfjnnegaljfkgaaB5
import Derived.Test.YtfjnnegaljfkgaaB6
import Derived.Test.YtfjnnegaljfkgaaB7
import Derived.Test.YtfjnnegaljfkgaaB8
import Derived.Test.YtfjnnegaljfkgaaB9
import Derived.Test.YtfjnnegaljfkgaaB10
import Derived.Test.YtfjnnegaljfkgaaB11
import Derived.Test.YtfjnnegaljfkgaaB12
import Derived.Test.YtfjnnegaljfkgaaB13
import Derived.Test.YtfjnnegaljfkgaaB14
import Derived.Test.YtfjnnegaljfkgaaC1
import Derived.Test.YtfjnnegaljfkgaaC2a
import Derived.Test.YtfjnnegaljfkgaaC2
import Derived.Test.YtfjnnegaljfkgaaL1
import Derived.Test.YtfjnnegaljfkgaaL2
import Derived.Test.YtfjnnegaljfkgaaC3a
import Derived.Test.YtfjnnegaljfkgaaC6
import Derived.Test.YtfjnnegaljfkgaaC7
import Derived.Test.YtfjnnegaljfkgaaC9
set_option linter.all false
namespace Go.Proofs.Ytfjnnegaljfkgaa
open Go.RowKit
/-! ## Blends by numbers -/
/-- Lay theorems by their runs: the parts of a blend, by numbers. -/
def mixAt (ps : List Int) (k : Nat) : Int := if ps.length = 0 then 0 else (ps[k % ps.length]?.getD 0).tmod 1001
def mixRaw (ps : List Int) : Nat → List Int
  | 0 => []
  | k + 1 => mixRaw ps k ++ [mixAt ps k]
def mixSum (ps : List Int) : Nat → Int
  | 0 => 0
  | k + 1 => mixSum ps k + mixAt ps k
def mixedOf (n : Nat) (ps : List Int) : List Int := if mixSum ps n = 0 then (mixRaw ps n).set 0 1 else mixRaw ps n
theorem mixRaw_length (ps : List Int) (k : Nat) : (mixRaw ps k).length = k := by
  induction k with
  | zero => rfl
  | succ k ih => simp [mixRaw, ih]
theorem mixRaw_get (ps : List Int) : ∀ k j, j < k → (mixRaw ps k)[j]?.getD 0 = mixAt ps j := by
  intro k
  induction k with
  | zero => intro j hj; omega
  | succ k ih =>
    intro j hj
    rw [mixRaw]
    by_cases e : j < k
    · rw [List.getElem?_append_left (by rw [mixRaw_length]; exact e)]; exact ih j e
    · obtain rfl : j = k := by omega
      rw [List.getElem?_append_right (by rw [mixRaw_length]; exact Nat.le_refl _), mixRaw_length, Nat.sub_self]; rfl
theorem mixAt_ok {ps : List Int} (hp : ∀ z ∈ ps, 0 ≤ z) (k : Nat) : 0 ≤ mixAt ps k ∧ mixAt ps k ≤ 1000 := by
  unfold mixAt
  split
  · omega
  · rename_i h
    have hk := Nat.mod_lt k (show 0 < ps.length by omega)
    have h0 := hp _ (List.getElem_mem hk)
    rw [List.getElem?_eq_getElem hk, Option.getD_some, Int.tmod_eq_emod_of_nonneg h0]
    have := Int.emod_nonneg (ps[k % ps.length]) (show (1001 : Int) ≠ 0 by decide)
    have := Int.emod_lt_of_pos (ps[k % ps.length]) (show (0 : Int) < 1001 by decide)
    omega
theorem mixSum_bd {ps : List Int} (hp : ∀ z ∈ ps, 0 ≤ z) : ∀ k, 0 ≤ mixSum ps k ∧ mixSum ps k ≤ k * 1000 := by
  intro k
  induction k with
  | zero => simp [mixSum]
  | succ k ih =>
    have := mixAt_ok hp k
    simp only [mixSum]
    omega
theorem mixSum_pos {ps : List Int} (hp : ∀ z ∈ ps, 0 ≤ z) : ∀ k, mixSum ps k ≠ 0 → ∃ j, j < k ∧ 0 < mixAt ps j := by
  intro k
  induction k with
  | zero => intro h; exact absurd rfl h
  | succ k ih =>
    intro h
    by_cases e : mixSum ps k = 0
    · have := mixAt_ok hp k
      simp only [mixSum, e] at h
      exact ⟨k, by omega, by omega⟩
    · obtain ⟨j, hj, h2⟩ := ih e
      exact ⟨j, by omega, h2⟩
theorem mixedOf_length (n : Nat) (ps : List Int) : (mixedOf n ps).length = n := by
  unfold mixedOf
  split <;> simp [mixRaw_length]
theorem mixedOf_ok {n : Nat} {ps : List Int} (hn : 0 < n) (hp : ∀ z ∈ ps, 0 ≤ z) : (∀ j, j < n → 0 ≤ (mixedOf n ps)[j]?.getD 0 ∧ (mixedOf n ps)[j]?.getD 0 ≤ 1000) ∧ ∃ j, j < n ∧ 0 < (mixedOf n ps)[j]?.getD 0 := by
  unfold mixedOf
  by_cases h : mixSum ps n = 0
  · rw [if_pos h]
    refine ⟨fun j hj => ?_, 0, hn, ?_⟩
    · by_cases e : j = 0
      · subst e
        rw [List.getElem?_set_self (by rw [mixRaw_length]; exact hn)]; simp
      · rw [List.getElem?_set_ne (fun h => e h.symm), mixRaw_get _ _ _ hj]
        exact mixAt_ok hp j
    · rw [List.getElem?_set_self (by rw [mixRaw_length]; exact hn)]; simp
  · rw [if_neg h]
    refine ⟨fun j hj => by rw [mixRaw_get _ _ _ hj]; exact mixAt_ok hp j, ?_⟩
    obtain ⟨j, hj, h2⟩ := mixSum_pos hp n h
    exact ⟨j, hj, by rw [mixRaw_get _ _ _ hj]; exact h2⟩
theorem allUpto_pos {l : List Int} : ∀ n, (∀ j, j < n → 0 ≤ l[j]?.getD 0) → 0 ≤ allUpto l n ∧ ((∃ j, j < n ∧ 0 < l[j]?.getD 0) → 0 < allUpto l n) := by
  intro n
  induction n with
  | zero => intro _; exact ⟨Int.le_refl _, fun ⟨j, hj, _⟩ => by omega⟩
  | succ n ih =>
    intro h
    obtain ⟨h1, h2⟩ := ih fun j hj => h j (by omega)
    have h3 := h n (by omega)
    simp only [allUpto]
    refine ⟨by omega, ?_⟩
    rintro ⟨j, hj, h4⟩
    by_cases e : j = n
    · subst e; omega
    · have := h2 ⟨j, by omega, h4⟩; omega
/-- The sums of a blend lie between what its parts allow; a line below the lots lies below the blend. -/
theorem blend_sums {xs : List (Int × Int)} (hG : Good xs) {l : List Int} : ∀ n, n ≤ xs.length → (∀ j, j < n → 0 ≤ l[j]?.getD 0 ∧ l[j]?.getD 0 ≤ 1000) →
    0 ≤ allUpto l n ∧ allUpto l n ≤ n * 1000 ∧ 0 ≤ sharpUpto xs l n ∧ sharpUpto xs l n ≤ 100 * allUpto l n ∧ 0 ≤ priceUpto xs l n ∧ priceUpto xs l n ≤ 1000 * allUpto l n ∧
    ∀ d s k : Int, LineBelow d s k xs → s * allUpto l n + k * sharpUpto xs l n ≤ priceUpto xs l n * d := by
  intro n
  induction n with
  | zero => intro _ _; refine ⟨by simp [allUpto], by simp [allUpto], by simp [sharpUpto], by simp [sharpUpto, allUpto], by simp [priceUpto], by simp [priceUpto, allUpto], fun d s k _ => by simp [allUpto, sharpUpto, priceUpto]⟩
  | succ n ih =>
    intro hn h
    obtain ⟨g1, g2, g3, g4, g5, g6, g7⟩ := ih (by omega) fun j hj => h j (by omega)
    have hl := h n (by omega)
    have hx := not_lotBad.1 (hG.lot n (by omega))
    have hmem := lotAt_mem (show n < xs.length by omega)
    simp only [allUpto, sharpUpto, priceUpto]
    change 0 ≤ (lotAt xs n).1 ∧ _ at hx
    have e : xs[n]?.getD (0, 0) = lotAt xs n := rfl
    rw [e]
    generalize lotAt xs n = p at *
    generalize l[n]?.getD 0 = q at *
    have m1 := mul_mono hl.1 hl.2 hx.1 hx.2.1
    have m2 := mul_mono hl.1 hl.2 hx.2.2.1 hx.2.2.2
    have m3 := Int.mul_le_mul_of_nonneg_left hx.2.1 hl.1
    have m4 := Int.mul_le_mul_of_nonneg_left hx.2.2.2 hl.1
    refine ⟨by omega, by omega, by omega, by omega, by omega, by omega, fun d s k hb => ?_⟩
    have h1 := g7 d s k hb
    have h2 := Int.mul_le_mul_of_nonneg_left (hb p hmem) hl.1
    grind
theorem sharp_top {xs : List (Int × Int)} {g : Int} (hg : ∀ p ∈ xs, p.1 ≤ g) {l : List Int} : ∀ n, n ≤ xs.length → (∀ j, j < n → 0 ≤ l[j]?.getD 0) → sharpUpto xs l n ≤ g * allUpto l n := by
  intro n
  induction n with
  | zero => intro _ _; simp [sharpUpto, allUpto]
  | succ n ih =>
    intro hn h
    have h1 := ih (by omega) fun j hj => h j (by omega)
    have h2 := h n (by omega)
    have h3 := hg _ (lotAt_mem (show n < xs.length by omega))
    simp only [allUpto, sharpUpto]
    have e : xs[n]?.getD (0, 0) = lotAt xs n := rfl
    rw [e]
    have m := Int.mul_le_mul_of_nonneg_left h3 h2
    rw [Int.mul_add, Int.mul_comm g (l[n]?.getD 0)]
    omega
/-- What is known of a blend by numbers. -/
structure BlendIs (xs : List (Int × Int)) (S P A : Int) : Prop where
  all : 0 < A ∧ A ≤ 8000
  sharp : 0 ≤ S ∧ S ≤ 100 * A
  price : 0 ≤ P ∧ P ≤ 1000 * A
  line : ∀ d s k : Int, LineBelow d s k xs → s * A + k * S ≤ P * d
  top : ∀ g : Int, (∀ p ∈ xs, p.1 ≤ g) → S ≤ g * A
theorem Good.mixed {xs : List (Int × Int)} (hG : Good xs) {ps : List Int} (hp : ∀ z ∈ ps, 0 ≤ z) : ∃ S P A, BlendIs xs S P A ∧ checkBlend xs (mixedOf xs.length ps) = (rat S A, rat P A, 0) := by
  have hn := hG.len
  obtain ⟨h1, h2⟩ := mixedOf_ok (show 0 < xs.length by omega) hp
  have hlen := mixedOf_length xs.length ps
  generalize mixedOf xs.length ps = l at *
  obtain ⟨g1, g2, g3, g4, g5, g6, g7⟩ := blend_sums hG xs.length (Nat.le_refl _) h1
  have hpos := (allUpto_pos xs.length fun j hj => (h1 j hj).1).2 h2
  refine ⟨_, _, _, ⟨⟨hpos, by omega⟩, ⟨g3, g4⟩, ⟨g5, g6⟩, g7, fun g hg => sharp_top hg xs.length (Nat.le_refl _) fun j hj => (h1 j hj).1⟩, ?_⟩
  unfold checkBlend
  rw [if_neg (by rw [hG.check]; simp), if_neg (by rw [hlen]; simp), if_neg, hlen, if_neg (by omega)]
  rw [any_not partBad l 0 fun j hj => partBad_no.2 (h1 j (by omega))]
  simp
theorem BlendIs.small {xs : List (Int × Int)} {S P A : Int} (h : BlendIs xs S P A) : SmallP (rat S A) ∧ SmallP (rat P A) :=
  ⟨small_rat h.all.1 (by have := h.all; omega) h.sharp.1 (by have := h.sharp; have := h.all; omega), small_rat h.all.1 (by have := h.all; omega) h.price.1 h.price.2⟩
theorem BlendIs.fits {xs : List (Int × Int)} {S P A : Int} (h : BlendIs xs S P A) : (0 ≤ (rat S A).1 ∧ (rat S A).1 ≤ 800000 ∧ 1 ≤ (rat S A).2 ∧ (rat S A).2 ≤ 8000) ∧ 0 ≤ (rat P A).1 ∧ (rat P A).1 ≤ 8000000 ∧ 1 ≤ (rat P A).2 ∧ (rat P A).2 ≤ 8000 := by
  have h1 := rat_bd S A (by have := h.all; omega)
  have h2 := rat_bd P A (by have := h.all; omega)
  have h3 := h.small
  have h4 := h.all
  have h5 := h.sharp
  have h6 := h.price
  have h7 := h3.1.2.2.1
  have h8 := h3.2.2.2.1
  omega
/-- A blend that is at least so sharp costs no less than the price at least. -/
theorem BlendIs.least {xs : List (Int × Int)} {S P A a : Int} (hG : Good xs) (ha : 0 ≤ a) (h : BlendIs xs S P A) (hl : less (rat S A) (a, 1) = false) : (leR xs a).2 = true ∧ less (rat P A) (leR xs a).1 = false := by
  have hA := h.all.1
  rw [← rat_one a, less_rat hA (by omega)] at hl
  have hl := of_decide_eq_false hl
  have h1 : (leR xs a).2 = true := by
    cases hb : (leR xs a).2 with
    | true => rfl
    | false =>
      have h2 := (hG.le_false hb).1
      have h3 := h.top (a - 1) fun p hp => by have := h2 p hp; omega
      rw [Int.sub_mul] at h3
      omega
  refine ⟨h1, ?_⟩
  obtain ⟨h2, h3⟩ := hG.le_true ha h1
  obtain ⟨d, s, k, hd, hk, hlb, he⟩ := h2.low
  have h4 := h.line d s k hlb
  rw [← h3.red, less_rat hA h2.pos]
  refine decide_eq_false fun hlt => ?_
  -- (s + k a) A ≤ s A + k S ≤ P d
  have m1 := Int.mul_le_mul_of_nonneg_left (show a * A ≤ S by omega) hk
  have m2 := Int.mul_le_mul_of_nonneg_left (show s * A + k * (a * A) ≤ P * d by omega) (Int.le_of_lt h2.pos)
  have m3 := Int.mul_lt_mul_of_pos_left hlt hd
  generalize (leR xs a).1 = r at *
  have e : r.2 * (s * A + k * (a * A)) = d * (r.1 * A) := by
    have : r.2 * (s * A + k * (a * A)) = ((s + k * a) * r.2) * A := by grind
    rw [this, he]; grind
  have e2 : r.2 * (P * d) = d * (P * r.2) := by grind
  omega
theorem least_mono {xs : List (Int × Int)} (hG : Good xs) {a b : Int} (ha : 0 ≤ a) (hab : a ≤ b) (hb : (leR xs b).2 = true) : (leR xs a).2 = true ∧ less (leR xs b).1 (leR xs a).1 = false := by
  obtain ⟨h2, o2⟩ := hG.le_true (by omega) hb
  have h1 : (leR xs a).2 = true := by
    rcases h2.wit with ⟨c, hc, hct, _⟩ | hw
    · exact hG.le_had hc (by omega)
    · obtain ⟨_, _, q, hq, _, h4⟩ := hw.had
      exact hG.le_had hq (by omega)
  refine ⟨h1, ?_⟩
  obtain ⟨h3, o3⟩ := hG.le_true ha h1
  obtain ⟨d, s, k, hd, hk, hlb, he⟩ := h3.low
  have hw := least_weak h2.wit h2.pos hk hlb
  rw [← o2.red, ← o3.red, less_rat h2.pos h3.pos]
  refine decide_eq_false fun hlt => ?_
  have m0 := Int.mul_le_mul_of_nonneg_left hab hk
  have m1 := Int.mul_le_mul_of_nonneg_right (show s + k * a ≤ s + k * b by omega) (Int.mul_nonneg (Int.le_of_lt h2.pos) (Int.le_of_lt h3.pos))
  have m2 := Int.mul_le_mul_of_nonneg_right hw (Int.le_of_lt h3.pos)
  have m3 := Int.mul_lt_mul_of_pos_left hlt hd
  generalize (leR xs a).1 = r at *
  generalize (leR xs b).1 = q at *
  have e : (s + k * a) * (q.2 * r.2) = d * (r.1 * q.2) := by
    have : (s + k * a) * (q.2 * r.2) = ((s + k * a) * r.2) * q.2 := by grind
    rw [this, he]; grind
  have e2 : q.1 * d * r.2 = d * (q.1 * r.2) := by grind
  have e3 : (s + k * b) * q.2 * r.2 = (s + k * b) * (q.2 * r.2) := by grind
  omega
theorem least_cheap {xs : List (Int × Int)} (hG : Good xs) {a : Int} (ha : 0 ≤ a) (hb : (chR xs a).2 = true) : (leR xs a).2 = true ∧ less (chR xs a).1 (leR xs a).1 = false := by
  obtain ⟨h2, o2⟩ := hG.ch_true hb
  have h1 : (leR xs a).2 = true := by
    obtain ⟨_, _, q, hq, _, h4⟩ := h2.wit.had
    exact hG.le_had hq h4
  refine ⟨h1, ?_⟩
  obtain ⟨h3, o3⟩ := hG.le_true ha h1
  have := h3.le (.inr h2.wit) h2.pos fun _ h => h
  rw [← o2.red, ← o3.red, less_rat h2.pos h3.pos]
  exact decide_eq_false (by omega)
end Go.Proofs.Ytfjnnegaljfkgaa
