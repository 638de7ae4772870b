/- Layer 3, blends: Blends and lines that are handed back, checked by the reference: lemmas for the rows of this seat. No conditions. -/
import Derived.Test.YtfjnnegaljfkgaaProg
import Derived.Test.YtfjnnegaljfkgaaBase
import Derived.Test.YtfjnnegaljfkgaaPlain
import Derived.Test.YtfjnnegaljfkgaaWA
import Derived.Test.YtfjnnegaljfkgaaSeg
import Derived.Test.YtfjnnegaljfkgaaKeys
import Derived.Test.YtfjnnegaljfkgaaW20
import Derived.Test.YtfjnnegaljfkgaaW21
import Derived.Test.YtfjnnegaljfkgaaW22
import Derived.Test.YtfjnnegaljfkgaaS1
import Derived.Test.YtfjnnegaljfkgaaS5
import Derived.Test.YtfjnnegaljfkgaaS12
import Derived.Test.YtfjnnegaljfkgaaTab
import Derived.Test.YtfjnnegaljfkgaaS14
import Derived.Test.YtfjnnegaljfkgaaArms
import Derived.Test.YtfjnnegaljfkgaaWE
import Derived.Test.YtfjnnegaljfkgaaB1
import Derived.Test.YtfjnnegaljfkgaaB2
import Derived.Test.YtfjnnegaljfkgaaB3
import Derived.Test.YtfjnnegaljfkgaaB4
import Derived.Test.YtfjnnegaljfkgaaB5
import Derived.Test.YtfjnnegaljfkgaaB6
import Derived.Test.YtfjnnegaljfkgaaB7
import Derived.Test.YtfjnnegaljfkgaaB8
import Derived.Test.YtfjnnegaljfkgaaB9
import Derived.Test.YtfjnnegaljfkgaaB10
import Derived.Test.YtfjnnegaljfkgaaB11
import Derived.Test.YtfjnnegaljfkgaaB12
import Derived.Test.YtfjnnegaljfkgaaB13
import Derived.Test.YtfjnnegaljfkgaaB14
import Derived.Test.YtfjnnegaljfkgaaL1
import Derived.Test.YtfjnnegaljfkgaaC1
set_option linter.all false
namespace Go.Proofs.Ytfjnnegaljfkgaa
open Go.RowKit
/-! ## Blends and lines that are handed back, checked by the reference -/
/-- Lay theorems by their runs: a sum of parts with weights. -/
def wsum (f : Nat → Int) (l : List Int) : Nat → Int
  | 0 => 0
  | k + 1 => wsum f l k + l[k]?.getD 0 * f k
theorem allUpto_w (l : List Int) (k : Nat) : allUpto l k = wsum (fun _ => 1) l k := by
  induction k with
  | zero => rfl
  | succ k ih => simp [allUpto, wsum, ih]
theorem sharpUpto_w (xs : List (Int × Int)) (l : List Int) (k : Nat) : sharpUpto xs l k = wsum (fun j => (lotAt xs j).1) l k := by
  induction k with
  | zero => rfl
  | succ k ih => simp [sharpUpto, wsum, ih, lotAt]
theorem priceUpto_w (xs : List (Int × Int)) (l : List Int) (k : Nat) : priceUpto xs l k = wsum (fun j => (lotAt xs j).2) l k := by
  induction k with
  | zero => rfl
  | succ k ih => simp [priceUpto, wsum, ih, lotAt]
theorem wsum_zero (f : Nat → Int) (n k : Nat) : wsum f (List.replicate n 0) k = 0 := by
  induction k with
  | zero => rfl
  | succ k ih =>
    have : (List.replicate n (0 : Int))[k]?.getD 0 = 0 := by rw [List.getElem?_replicate]; split <;> rfl
    simp [wsum, ih, this]
theorem wsum_add (f : Nat → Int) (l : List Int) (i : Nat) (q : Int) (hi : i < l.length) : ∀ k, wsum f (l.set i (l[i]?.getD 0 + q)) k = wsum f l k + if i < k then q * f i else 0 := by
  intro k
  induction k with
  | zero => simp [wsum]
  | succ k ih =>
    simp only [wsum, ih]
    by_cases e : i = k
    · subst e
      rw [List.getElem?_set_self hi, if_neg (by omega), if_pos (by omega)]
      simp only [Option.getD_some]
      grind
    · rw [List.getElem?_set_ne e]
      by_cases h : i < k
      · rw [if_pos h, if_pos (by omega)]; omega
      · rw [if_neg h, if_neg (by omega)]; omega
theorem partsOf_eq (n i1 i2 : Nat) (p q : Int) (h1 : i1 < n) : partsOf n i1 p i2 q = ((List.replicate n 0).set i1 ((List.replicate n 0)[i1]?.getD 0 + p)).set i2 (((List.replicate n 0).set i1 ((List.replicate n 0)[i1]?.getD 0 + p))[i2]?.getD 0 + q) := by
  have : (List.replicate n (0 : Int))[i1]?.getD 0 = 0 := by rw [List.getElem?_replicate, if_pos h1]; rfl
  unfold partsOf
  rw [this, Int.zero_add]
theorem wsum_parts (f : Nat → Int) (n i1 i2 : Nat) (p q : Int) (h1 : i1 < n) (h2 : i2 < n) : wsum f (partsOf n i1 p i2 q) n = p * f i1 + q * f i2 := by
  rw [partsOf_eq _ _ _ _ _ h1, wsum_add _ _ _ _ (by simpa using h2), wsum_add _ _ _ _ (by simpa using h1), wsum_zero, if_pos h1, if_pos h2]
  omega
theorem partsOf_len (n i1 i2 : Nat) (p q : Int) : (partsOf n i1 p i2 q).length = n := by simp [partsOf]
theorem partsOf_ok (n i1 i2 : Nat) (p q : Int) (hp : 0 ≤ p ∧ p ≤ 100) (hq : 0 ≤ q ∧ q ≤ 100) : ∀ x ∈ partsOf n i1 p i2 q, 0 ≤ x ∧ x ≤ 200 := by
  have h0 : ∀ x ∈ (List.replicate n (0 : Int)).set i1 p, 0 ≤ x ∧ x ≤ 100 := fun x hx => by
    rcases List.mem_or_eq_of_mem_set hx with h | rfl
    · have := List.eq_of_mem_replicate h; omega
    · omega
  intro x hx
  unfold partsOf at hx
  rcases List.mem_or_eq_of_mem_set hx with h | rfl
  · have := h0 x h; omega
  · cases he : ((List.replicate n (0 : Int)).set i1 p)[i2]? with
    | none => simp only [Option.getD_none]; omega
    | some y =>
      have := h0 y (List.mem_of_getElem? he)
      simp only [Option.getD_some]; omega
theorem countNZ_set (l : List Int) (i : Nat) (v : Int) : countNZ (l.set i v) ≤ countNZ l + 1 := by
  unfold countNZ
  by_cases h : i < l.length
  · rw [List.countP_set h]
    split <;> split <;> omega
  · rw [List.set_eq_of_length_le (by omega)]; omega
theorem partsOf_count (n i1 i2 : Nat) (p q : Int) : countNZ (partsOf n i1 p i2 q) ≤ 2 := by
  unfold partsOf
  have h1 := countNZ_set ((List.replicate n 0).set i1 p) i2 ((((List.replicate n 0).set i1 p)[i2]?.getD 0) + q)
  have h2 := countNZ_set (List.replicate n 0) i1 p
  have h3 : countNZ (List.replicate n 0) = 0 := by unfold countNZ; rw [List.countP_replicate]; simp
  omega
/-- The blend that is handed back: it is just so sharp, and has the price. -/
theorem Good.parts {xs : List (Int × Int)} (h : Good xs) {t : Int} {m : MixT} (hm : mixScan t none (chainOf xs) = some m) :
    checkBlend xs (partsOf xs.length m.1.2.2.toNat m.2.2.1 m.2.1.2.2.toNat m.2.2.2) = ((t, 1), rat (m.1.2.1 * m.2.2.1 + m.2.1.2.1 * m.2.2.2) (m.2.2.1 + m.2.2.2), 0) := by
  have hI := h.mixIs hm
  have hp := hI.parts
  obtain ⟨i1, e1, l1, f1, _⟩ := h.hull.lot _ hI.one
  obtain ⟨i2, e2, l2, f2, _⟩ := h.hull.lot _ hI.two
  have hok := partsOf_ok xs.length i1 i2 m.2.2.1 m.2.2.2 ⟨hp.1, hp.2.1⟩ ⟨hp.2.2.1, hp.2.2.2.1⟩
  have hlen := partsOf_len xs.length i1 i2 m.2.2.1 m.2.2.2
  rw [e1, e2]
  simp only [Int.toNat_natCast]
  have hw := fun f => wsum_parts f xs.length i1 i2 m.2.2.1 m.2.2.2 l1 l2
  generalize partsOf xs.length i1 m.2.2.1 i2 m.2.2.2 = l at *
  have hc : checkLots xs = 0 := by
    unfold checkLots
    rw [if_neg (by have := h.len; omega), if_neg]
    rw [any_not lotBad xs (0, 0) h.lot]; simp
  have hpb : l.any partBad = false := by
    rw [List.any_eq_false]
    intro x hx
    have := hok x hx
    rw [Bool.not_eq_true]
    exact partBad_no.2 (by omega)
  unfold checkBlend
  rw [if_neg (by rw [hc]; simp), if_neg (by rw [hlen]; simp), if_neg (by rw [hpb]; simp), hlen, allUpto_w, sharpUpto_w, priceUpto_w, hw, hw, hw, f1, f2]
  unfold pt
  dsimp only
  have e3 := hI.sharp
  rw [if_neg (by omega), e3, show m.2.2.1 * 1 + m.2.2.2 * 1 = m.2.2.1 + m.2.2.2 by omega, show m.2.2.1 * m.1.2.1 + m.2.2.2 * m.2.1.2.1 = m.1.2.1 * m.2.2.1 + m.2.1.2.1 * m.2.2.2 by grind]
  have e4 : rat ((m.2.2.1 + m.2.2.2) * t) (m.2.2.1 + m.2.2.2) = (t, 1) := by
    rw [← rat_one t]
    exact rat_eq (by omega) (by omega) (by grind)
  rw [e4]
theorem lineBelow_any {xs : List (Int × Int)} {d s k : Int} (h : LineBelow d s k xs) : xs.any (above d s k) = false := by
  rw [List.any_eq_false]
  intro p hp
  have := h p hp
  unfold above
  simp only [decide_eq_true_eq]
  omega
theorem checkLine_of {xs : List (Int × Int)} {t N D : Int} {o : Int × Int × Int} (hs : ¬ sharped xs t ≠ 0) (hl : 1 ≤ o.1 ∧ o.1 ≤ 100 ∧ -200000 ≤ o.2.1 ∧ o.2.1 ≤ 200000 ∧ -1000 ≤ o.2.2 ∧ o.2.2 ≤ 1000) (hb : LineBelow o.1 o.2.1 o.2.2 xs) (hD : 0 < D) (hv : (o.2.1 + o.2.2 * t) * D = N * o.1) :
    refCheckLine xs o.1 o.2.1 o.2.2 t = (rat N D, 0) := by
  unfold refCheckLine
  rw [if_neg hs, if_neg (by rw [show isLine o.1 o.2.1 o.2.2 = true from decide_eq_true (by omega)]; simp), if_neg (by rw [lineBelow_any hb]; simp), rat_eq (by omega) hD hv]
/-! ## Corners -/
/-- Lay theorems by their runs: a line that touches the lots at one corner alone. -/
theorem Good.strict {xs : List (Int × Int)} (h : Good xs) {c : Corner} (hc : c ∈ chainOf xs) : ∃ d s k : Int, 0 < d ∧ s + k * c.1 = c.2.1 * d ∧ ∀ q ∈ xs, q ≠ pt c → s + k * q.1 < q.2 * d := by
  have hH := h.hull
  have hso := hH.sorted
  have he := fun q (hq : q ∈ xs) => h.ends hq
  obtain ⟨u, v, huv⟩ := List.append_of_mem hc
  have hne : ∀ q : Int × Int, q ≠ pt c → q.1 = c.1 → q.2 ≠ c.2.1 := fun q h1 h2 h3 => h1 (Prod.ext h2 h3)
  have hleft : u = [] → ∀ q ∈ xs, c.1 ≤ q.1 := fun hu q hq => by
    obtain ⟨⟨c', h1, h2⟩, _⟩ := he q hq
    rw [huv, hu] at h1
    cases h1
    exact h2
  have hright : v = [] → ∀ q ∈ xs, q.1 ≤ c.1 := fun hv q hq => by
    obtain ⟨_, d, hd, hdt⟩ := he q hq
    rw [huv, hv] at hd hso
    rcases List.mem_append.1 hd with h1 | h1
    · have := (List.pairwise_append.1 hso).2.2 d h1 c (.head _)
      omega
    · rw [List.mem_singleton] at h1; subst h1; exact hdt
  cases v with
  | nil =>
    rcases List.eq_nil_or_concat u with hu | ⟨u', x, hu⟩
    · subst hu
      refine ⟨1, c.2.1, 0, by omega, by omega, fun q hq hqn => ?_⟩
      have h1 := hleft rfl q hq
      have h2 := hright rfl q hq
      have h3 := hne q hqn (by omega)
      have h4 := hH.dom q hq 1 c.2.1 0 (by omega) fun r hr => by
        rw [huv] at hr
        obtain rfl : r = pt c := by simpa using hr
        simp [pt]
      omega
    · obtain ⟨hlt, hb⟩ := hH.thru (u := u') (v := []) (x := x) (y := c) (by rw [huv, hu]; simp)
      refine ⟨(thruL x c).1, (thruL x c).2.1 - c.1, (thruL x c).2.2 + 1, by unfold thruL; dsimp only; omega, by unfold thruL; dsimp only; grind, fun q hq hqn => ?_⟩
      have h1 := hb q hq
      have h2 := hright rfl q hq
      have h3 := hne q hqn
      have hd : 0 < (thruL x c).1 := by unfold thruL; dsimp only; omega
      have hon : (thruL x c).2.1 + (thruL x c).2.2 * c.1 = c.2.1 * (thruL x c).1 := by unfold thruL; dsimp only; grind
      generalize thruL x c = o at *
      by_cases e : q.1 = c.1
      · have h4 := h3 e
        rw [e] at h1 ⊢
        have h5 : c.2.1 * o.1 ≤ q.2 * o.1 := by omega
        have h6 : c.2.1 ≤ q.2 := Int.le_of_mul_le_mul_right h5 hd
        have h7 := Int.mul_lt_mul_of_pos_right (show c.2.1 < q.2 by omega) hd
        rw [Int.add_mul]
        omega
      · rw [Int.add_mul]
        omega
  | cons y v =>
    rcases List.eq_nil_or_concat u with hu | ⟨u', x, hu⟩
    · subst hu
      obtain ⟨hlt, hb⟩ := hH.thru (u := []) (v := v) (x := c) (y := y) (by rw [huv])
      refine ⟨(thruL c y).1, (thruL c y).2.1 + c.1, (thruL c y).2.2 - 1, by unfold thruL; dsimp only; omega, by unfold thruL; dsimp only; grind, fun q hq hqn => ?_⟩
      have h1 := hb q hq
      have h2 := hleft rfl q hq
      have h3 := hne q hqn
      have hd : 0 < (thruL c y).1 := by unfold thruL; dsimp only; omega
      have hon : (thruL c y).2.1 + (thruL c y).2.2 * c.1 = c.2.1 * (thruL c y).1 := by unfold thruL; dsimp only; grind
      generalize thruL c y = o at *
      by_cases e : q.1 = c.1
      · have h4 := h3 e
        rw [e] at h1 ⊢
        have h5 : c.2.1 * o.1 ≤ q.2 * o.1 := by omega
        have h6 : c.2.1 ≤ q.2 := Int.le_of_mul_le_mul_right h5 hd
        have h7 := Int.mul_lt_mul_of_pos_right (show c.2.1 < q.2 by omega) hd
        rw [Int.sub_mul]
        omega
      · rw [Int.sub_mul]
        omega
    · obtain ⟨hlt1, hb1⟩ := hH.thru (u := u') (v := y :: v) (x := x) (y := c) (by rw [huv, hu]; simp)
      obtain ⟨hlt2, hb2⟩ := hH.thru (u := u) (v := v) (x := c) (y := y) huv
      have hcr : 0 < cross (pt x) (pt c) (pt y) := by
        have hcv := hH.conv
        have e2 : ((chainOf xs).reverse).map pt = (v.reverse.map pt ++ [pt y]) ++ pt c :: pt x :: (u'.reverse.map pt) := by rw [huv, hu]; simp
        rw [e2] at hcv
        exact (hcv.adj.2.1 (pt y) (by simp)).2
      refine ⟨(thruL x c).1 + (thruL c y).1, (thruL x c).2.1 + (thruL c y).2.1, (thruL x c).2.2 + (thruL c y).2.2, by unfold thruL; dsimp only; omega, by unfold thruL; dsimp only; grind, fun q hq hqn => ?_⟩
      have h1 := hb1 q hq
      have h2 := hb2 q hq
      have h3 := hne q hqn
      rcases Int.lt_or_le ((thruL x c).2.1 + (thruL c y).2.1 + ((thruL x c).2.2 + (thruL c y).2.2) * q.1) (q.2 * ((thruL x c).1 + (thruL c y).1)) with g | g
      · exact g
      · exfalso
        rw [Int.add_mul, Int.mul_add] at g
        have g1 : (thruL x c).2.1 + (thruL x c).2.2 * q.1 = q.2 * (thruL x c).1 := by omega
        have g2 : (thruL c y).2.1 + (thruL c y).2.2 * q.1 = q.2 * (thruL c y).1 := by omega
        unfold thruL at g1 g2
        unfold cross pt at hcr
        dsimp only at g1 g2 hcr
        have g3 : ((y.2.1 - x.2.1) * (c.1 - x.1) - (c.2.1 - x.2.1) * (y.1 - x.1)) * (q.1 - c.1) = 0 := by grind
        have g4 : q.1 = c.1 := by
          rcases Int.mul_eq_zero.1 g3 with h | h <;> omega
        have g5 : (q.2 - c.2.1) * (c.1 - x.1) = 0 := by grind
        rcases Int.mul_eq_zero.1 g5 with h | h
        · exact h3 g4 (by omega)
        · omega
theorem Wit.strict {xs : List (Int × Int)} {t N D d s k : Int} (h : Wit xs t N D) (hD : 0 < D) (hl : ∀ q ∈ xs, s + k * q.1 < q.2 * d) : (s + k * t) * D < N * d := by
  have h1 := h.weak hD (d := d) (s := s + 1) (k := k) fun q hq => by have := hl q hq; omega
  have e : (s + 1 + k * t) * D = (s + k * t) * D + D := by grind
  omega
/-- A mix's price is had by any lots that have its two. -/
theorem mix_wit {xs : List (Int × Int)} {t : Int} {m : MixT} (hg : Good xs) (hm : mixScan t none (chainOf xs) = some m) {ys : List (Int × Int)} (h1 : pt m.1 ∈ ys) (h2 : pt m.2.1 ∈ ys) :
    Wit ys t (m.1.2.1 * m.2.2.1 + m.2.1.2.1 * m.2.2.2) (m.2.2.1 + m.2.2.2) := by
  have hI := hg.mixIs hm
  have hp := hI.parts
  have hs := hI.sharp
  obtain ⟨a, b, p, q⟩ := m
  dsimp only at *
  have hcase : (∃ c, mixScan t none (chainOf xs) = some (c, c, 1, 0) ∧ c.1 = t) ∨ (a.1 < t ∧ t < b.1 ∧ p = b.1 - t ∧ q = t - a.1) := by
    have : ∀ (l : List Corner) (la : Option Corner), l.Pairwise (fun a b => a.1 < b.1) → (∀ c, la = some c → c.1 < t) → mixScan t la l = some (a, b, p, q) → (a = b ∧ p = 1 ∧ q = 0 ∧ a.1 = t) ∨ (a.1 < t ∧ t < b.1 ∧ p = b.1 - t ∧ q = t - a.1) := by
      intro l
      induction l with
      | nil => intro la _ _ h; cases h
      | cons c l ih =>
        intro la hs hla h
        unfold mixScan at h
        by_cases e1 : c.1 = t
        · rw [if_pos e1] at h; cases h
          exact .inl ⟨rfl, rfl, rfl, e1⟩
        · rw [if_neg e1] at h
          by_cases e2 : t < c.1
          · rw [if_pos e2] at h
            cases la with
            | none => cases h
            | some b' =>
              cases h
              exact .inr ⟨hla _ rfl, e2, rfl, rfl⟩
          · rw [if_neg e2] at h
            exact ih (some c) (List.pairwise_cons.1 hs).2 (fun d hd => by cases hd; omega) h
    rcases this _ none hg.hull.sorted (fun c h => by cases h) hm with ⟨rfl, rfl, rfl, h⟩ | h
    · exact .inl ⟨a, hm, h⟩
    · exact .inr h
  rcases hcase with ⟨c, hc, hct⟩ | ⟨g1, g2, rfl, rfl⟩
  · rw [hm] at hc
    cases hc
    exact ⟨pt a, h1, pt a, h1, by unfold pt; dsimp only; omega, by unfold pt; dsimp only; omega, .inr ⟨hct, by unfold pt; dsimp only; omega⟩⟩
  · refine ⟨pt a, h1, pt b, h2, by unfold pt; dsimp only; omega, by unfold pt; dsimp only; omega, .inl ⟨by unfold pt; dsimp only; omega, ?_⟩⟩
    unfold pt; dsimp only; grind
theorem Good.corner_cheap {xs : List (Int × Int)} (h : Good xs) {c : Corner} (hc : c ∈ chainOf xs) : Cheap xs c.1 c.2.1 1 := by
  obtain ⟨d, s, k, hd, h1, h2⟩ := h.strict hc
  have hm := h.hull.lot_mem hc
  refine ⟨by omega, ⟨_, hm, _, hm, by unfold pt; dsimp only; omega, by unfold pt; dsimp only; omega, .inr ⟨rfl, by unfold pt; dsimp only; omega⟩⟩, d, s, k, hd, fun q hq => ?_, by omega⟩
  by_cases e : q = pt c
  · subst e
    unfold pt; dsimp only; omega
  · exact Int.le_of_lt (h2 q hq e)
theorem mem_others {xs : List (Int × Int)} {l q : Int × Int} : q ∈ othersOf xs l ↔ q ∈ xs ∧ q ≠ l := by
  unfold othersOf
  rw [List.mem_filter]
  constructor
  · rintro ⟨h1, h2⟩
    exact ⟨h1, fun e => by rw [e, neLot_self] at h2; cases h2⟩
  · rintro ⟨h1, h2⟩
    exact ⟨h1, neLot_true h2⟩
theorem Good.isCorner_iff {xs : List (Int × Int)} (h : Good xs) {i : Nat} (hi : i < xs.length) : isCorner xs i = true ↔ ∃ c ∈ chainOf xs, c.2.2 = (i : Int) := by
  constructor
  · intro hc
    unfold isCorner at hc
    split at hc
    · cases hc
    · rename_i hfirst
      unfold isCornerTail at hc
      simp only [Bool.and_eq_true, decide_eq_true_eq] at hc
      obtain ⟨h1, h2⟩ := hc
      have hp := lotAt_mem hi
      obtain ⟨m, hm⟩ := h.had ⟨_, hp, _, hp, Int.le_refl _, Int.le_refl _⟩
      have hI := h.mixIs hm
      have hch := hI.cheap
      rw [hch.ref] at h1 h2
      simp only [Option.getD_some] at h1 h2
      have hin : ∃ c ∈ chainOf xs, pt c = lotAt xs i := by
        refine Classical.byContradiction fun hno => ?_
        have hw := mix_wit h hm (ys := othersOf xs (lotAt xs i)) (mem_others.2 ⟨h.hull.lot_mem hI.one, fun e => hno ⟨_, hI.one, e⟩⟩) (mem_others.2 ⟨h.hull.lot_mem hI.two, fun e => hno ⟨_, hI.two, e⟩⟩)
        have hcd := wit_cand hch.pos hw
        obtain ⟨b1, b2⟩ := cheapest_best (othersOf xs (lotAt xs i)) (lotAt xs i).1
        cases he : cheapestOf (othersOf xs (lotAt xs i)) (lotAt xs i).1 with
        | none => exact b1 he _ hcd
        | some y =>
          rw [he] at h2
          have h3 := (b2 y he).2 _ hcd
          dsimp only at h2
          rw [h3] at h2
          cases h2
      obtain ⟨c, hc, hpt⟩ := hin
      obtain ⟨j, e1, l1, e2, e3⟩ := h.hull.lot c hc
      refine ⟨c, hc, ?_⟩
      rw [e1]
      congr 1
      rcases Nat.lt_trichotomy j i with h4 | h4 | h4
      · exfalso
        refine hfirst (any_take _ xs i j (0, 0) h4 (by omega) ?_)
        exact decide_eq_true ((show lotAt xs j = pt c from e2).trans hpt)
      · exact h4
      · exact absurd hpt.symm (e3 i h4)
  · rintro ⟨c, hc, e⟩
    obtain ⟨j, e1, l1, e2, e3⟩ := h.hull.lot c hc
    obtain rfl : j = i := by omega
    have hcc := h.corner_cheap hc
    unfold isCorner
    rw [if_neg, e2]
    · unfold isCornerTail
      have hx : (pt c).1 = c.1 := rfl
      have hy : (pt c).2 = c.2.1 := rfl
      rw [hx, hy, hcc.ref]
      simp only [Option.getD_some, decide_true, Bool.true_and]
      obtain ⟨b1, b2⟩ := cheapest_best (othersOf xs (pt c)) c.1
      cases he : cheapestOf (othersOf xs (pt c)) c.1 with
      | none => rfl
      | some y =>
        obtain ⟨⟨a, ha, b, hb, hcd⟩, _⟩ := b2 y he
        obtain ⟨N, D, hD, hw, rfl⟩ := cand_wit ha hb hcd
        obtain ⟨d, s, k, hd, h1, h2⟩ := h.strict hc
        have h3 := hw.strict hD (d := d) (s := s) (k := k) fun q hq => h2 q (mem_others.1 hq).1 (mem_others.1 hq).2
        dsimp only
        rw [less_rat (by omega) hD]
        refine decide_eq_true ?_
        rw [h1] at h3
        refine Int.lt_of_mul_lt_mul_right (a := d) ?_ (Int.le_of_lt hd)
        grind
    · rw [any_take_not _ xs j (0, 0) (by omega) fun q hq => ?_]
      · simp
      · refine decide_eq_false fun h => e3 q hq ?_
        exact (show lotAt xs q = lotAt xs j from h).trans e2
theorem idxs_one {p : Nat → Bool} {i0 : Nat} : ∀ n, (∀ i, i < n → (p i = true ↔ i = i0)) → idxs p n = if i0 < n then [(i0 : Int)] else [] := by
  intro n
  induction n with
  | zero => intro _; rfl
  | succ n ih =>
    intro h
    rw [idxs_succ, ih fun i hi => h i (by omega)]
    have hn := h n (by omega)
    by_cases e : n = i0
    · subst e
      rw [if_pos (hn.2 rfl), if_neg (Nat.lt_irrefl _), if_pos (Nat.lt_succ_self _)]; rfl
    · have : p n = false := by
        cases hp : p n
        · rfl
        · exact absurd (hn.1 hp) e
      rw [this]
      by_cases h2 : i0 < n
      · rw [if_pos h2, if_pos (show i0 < n + 1 by omega)]; simp
      · rw [if_neg h2, if_neg (show ¬ i0 < n + 1 by omega)]; simp
theorem idxs_none {p : Nat → Bool} : ∀ n, (∀ i, i < n → p i = false) → idxs p n = [] := by
  intro n
  induction n with
  | zero => intro _; rfl
  | succ n ih =>
    intro h
    rw [idxs_succ, ih fun i hi => h i (by omega), h n (by omega)]; simp
theorem filter_split (s : Int) : ∀ l : List Corner, l.Pairwise (fun a b => a.1 < b.1) → l.filter (fun c => decide (c.1 < s + 1)) = l.filter (fun c => decide (c.1 < s)) ++ l.filter (fun c => decide (c.1 = s)) := by
  intro l
  induction l with
  | nil => intro _; rfl
  | cons c l ih =>
    intro h
    have h1 := List.pairwise_cons.1 h
    have hh := ih h1.2
    by_cases e1 : c.1 < s
    · rw [List.filter_cons_of_pos (by simp; omega), List.filter_cons_of_pos (by simp; omega), List.filter_cons_of_neg (by simp; omega), hh]
      rfl
    · have hn : l.filter (fun c => decide (c.1 < s)) = [] := by
        rw [List.filter_eq_nil_iff]
        intro d hd
        have := h1.1 d hd
        simp; omega
      rw [hn] at hh
      by_cases e2 : c.1 = s
      · rw [List.filter_cons_of_pos (by simp; omega), List.filter_cons_of_neg (by simp; omega), List.filter_cons_of_pos (by simp; omega), hh, hn]
        rfl
      · rw [List.filter_cons_of_neg (by simp; omega), List.filter_cons_of_neg (by simp; omega), List.filter_cons_of_neg (by simp; omega), hh, hn]
theorem uniq_sharp {l : List Corner} (h : l.Pairwise (fun a b => a.1 < b.1)) {c : Corner} (hc : c ∈ l) : l.filter (fun d => decide (d.1 = c.1)) = [c] := by
  induction l with
  | nil => cases hc
  | cons x l ih =>
    have h1 := List.pairwise_cons.1 h
    rcases List.mem_cons.1 hc with rfl | hc
    · rw [List.filter_cons_of_pos (by simp)]
      congr 1
      rw [List.filter_eq_nil_iff]
      intro d hd
      have := h1.1 d hd
      simp; omega
    · have := h1.1 c hc
      rw [List.filter_cons_of_neg (by simp; omega)]
      exact ih h1.2 hc
theorem Good.cornersUpto_eq {xs : List (Int × Int)} (h : Good xs) : ∀ s : Nat, cornersUpto xs s = ((chainOf xs).filter (fun c => decide (c.1 < (s : Int)))).map (fun c => c.2.2) := by
  intro s
  have hso := h.hull.sorted
  induction s with
  | zero =>
    rw [List.filter_eq_nil_iff.2]
    · rfl
    · intro c hc
      have := h.mem (h.hull.lot_mem hc)
      unfold pt at this
      simp at this ⊢
      omega
  | succ s ih =>
    rw [cornersUpto, ih]
    have hsp := filter_split (s : Int) (chainOf xs) hso
    rw [show ((s + 1 : Nat) : Int) = (s : Int) + 1 by omega, hsp, List.map_append]
    congr 1
    have hiff : ∀ i, i < xs.length → (cornerAt xs s i = true ↔ ∃ c ∈ chainOf xs, c.1 = s ∧ c.2.2 = (i : Int)) := by
      intro i hi
      unfold cornerAt
      rw [Bool.and_eq_true, decide_eq_true_eq, h.isCorner_iff hi]
      constructor
      · rintro ⟨h1, c, hc, e⟩
        obtain ⟨j, e1, _, e2, _⟩ := h.hull.lot c hc
        obtain rfl : j = i := by omega
        exact ⟨c, hc, by rw [e2] at h1; exact h1, e⟩
      · rintro ⟨c, hc, h1, e⟩
        obtain ⟨j, e1, _, e2, _⟩ := h.hull.lot c hc
        obtain rfl : j = i := by omega
        exact ⟨by rw [e2]; exact h1, c, hc, e⟩
    by_cases hex : ∃ c ∈ chainOf xs, c.1 = s
    · obtain ⟨c, hc, hcs⟩ := hex
      obtain ⟨j, e1, l1, e2, _⟩ := h.hull.lot c hc
      rw [← hcs, uniq_sharp hso hc]
      rw [idxs_one (i0 := j) xs.length fun i hi => ?_, if_pos l1]
      · simp [e1]
      · rw [hiff i hi]
        constructor
        · rintro ⟨c', hc', h1, h2⟩
          have hu := uniq_sharp hso hc
          have : c' ∈ (chainOf xs).filter (fun d => decide (d.1 = c.1)) := List.mem_filter.2 ⟨hc', by simp; omega⟩
          rw [hu, List.mem_singleton] at this
          subst this
          omega
        · rintro rfl
          exact ⟨c, hc, hcs, e1⟩
    · rw [idxs_none _ fun i hi => ?_]
      · rw [List.filter_eq_nil_iff.2]
        · rfl
        · intro c hc
          simp only [decide_eq_true_eq]
          exact fun e => hex ⟨c, hc, e⟩
      · cases hp : cornerAt xs s i
        · rfl
        · obtain ⟨c, hc, h1, _⟩ := (hiff i hi).1 hp
          exact absurd ⟨c, hc, h1⟩ hex
theorem corners_eq (xs : List (Int × Int)) : cornersP xs = refCorners xs := by
  unfold cornersP refCorners
  rw [openErr_nil]
  split
  · rfl
  · rename_i hz
    have h := Good.of (xs := xs) (by omega)
    rw [h.cornersUpto_eq, List.filter_eq_self.2]
    intro c hc
    have := h.mem (h.hull.lot_mem hc)
    unfold pt at this
    simp at this ⊢; omega
/-! ## Idle lots, and the last day -/
/-- Lay theorems by their runs: a lot's own cheapest price. -/
theorem Good.priced {xs : List (Int × Int)} (h : Good xs) {p : Int × Int} (hp : p ∈ xs) : cheapestOf xs p.1 = some (priceAt xs p) ∧ 0 < (priceAt xs p).2 := by
  obtain ⟨m, hm⟩ := h.had ⟨p, hp, p, hp, Int.le_refl _, Int.le_refl _⟩
  have hI := h.mixIs hm
  have e : priceAt xs p = rat (m.1.2.1 * m.2.2.1 + m.2.1.2.1 * m.2.2.2) (m.2.2.1 + m.2.2.2) := by
    unfold priceAt
    rw [hm]
    rfl
  rw [e]
  exact ⟨hI.cheap.ref, rat_pos hI.cheap.pos⟩
theorem priced_has (xs : List (Int × Int)) : ∀ k j, j < k → ∃ v, (lotAt xs j, v) ∈ pricedUpto xs k := by
  intro k
  induction k with
  | zero => intro j hj; omega
  | succ k ih =>
    intro j hj
    unfold pricedUpto putL
    by_cases e : lotAt xs j = lotAt xs k
    · rw [e]
      by_cases hany : (pricedUpto xs k).any (fun p => decide (p.1 = lotAt xs k)) = true
      · rw [if_pos hany]
        obtain ⟨p, hp, h2⟩ := List.any_eq_true.1 hany
        have h2 : p.1 = lotAt xs k := by simpa using h2
        exact ⟨_, List.mem_map.2 ⟨p, hp, by rw [if_pos h2]⟩⟩
      · rw [if_neg hany]
        exact ⟨_, List.mem_append_right _ (.head _)⟩
    · have hjk : j ≠ k := fun h => e (by rw [h])
      obtain ⟨v, hv⟩ := ih j (by omega)
      split
      · refine ⟨v, List.mem_map.2 ⟨_, hv, ?_⟩⟩
        rw [if_neg e]
      · exact ⟨v, List.mem_append_left _ hv⟩
theorem badKV_lot (l u : Int × Int) : badKV (lotE l) (ratV u) = decide (u.1 < l.2 * u.2) := rfl
theorem lookL_isSome {κ : Type} [DecidableEq κ] (L : List (κ × Value)) (k : κ) : (lookL L k).isSome = true ↔ ∃ v, (k, v) ∈ L := by
  unfold lookL
  rw [Option.isSome_map]
  constructor
  · intro h
    obtain ⟨p, hp⟩ := Option.isSome_iff_exists.1 h
    have h1 := List.mem_of_find?_eq_some hp
    have h2 := List.find?_some hp
    have h2 : p.1 = k := by simpa using h2
    exact ⟨p.2, h2 ▸ h1⟩
  · rintro ⟨v, hv⟩
    rw [List.find?_isSome]
    exact ⟨_, hv, by simp⟩
theorem Good.idleB_eq {xs : List (Int × Int)} (h : Good xs) {j : Nat} (hj : j < xs.length) : idleB xs j = idleAt xs j := by
  obtain ⟨h1, h2⟩ := h.priced (lotAt_mem hj)
  have hid : idleAt xs j = decide ((priceAt xs (lotAt xs j)).1 < (lotAt xs j).2 * (priceAt xs (lotAt xs j)).2) := by
    unfold idleAt
    rw [h1, rat_one]
    unfold less
    simp only [Option.getD_some, Int.mul_one]
  have hsome : (lookL (usefulOf xs) (lotAt xs j)).isSome = !decide ((priceAt xs (lotAt xs j)).1 < (lotAt xs j).2 * (priceAt xs (lotAt xs j)).2) := by
    rw [Bool.eq_iff_iff, lookL_isSome, ← badKV_lot]
    unfold usefulOf
    constructor
    · rintro ⟨v, hv⟩
      obtain ⟨g1, g2⟩ := List.mem_filter.1 hv
      obtain ⟨i, hi, e1, e2⟩ := priced_mem _ _ g1
      dsimp only at e1 e2 g2
      rw [← e1] at e2
      rw [← e2]; exact g2
    · intro hb
      obtain ⟨v, hv⟩ := priced_has xs xs.length j hj
      obtain ⟨i, hi, e1, e2⟩ := priced_mem _ _ hv
      dsimp only at e1 e2
      rw [← e1] at e2
      exact ⟨v, List.mem_filter.2 ⟨hv, by rw [e2]; exact hb⟩⟩
  unfold idleB
  rw [hsome, hid, Bool.not_not]
theorem Good.idleUpto_eq {xs : List (Int × Int)} (h : Good xs) : ∀ k, k ≤ xs.length → idleUpto xs k = idxs (idleAt xs) k := by
  intro k
  induction k with
  | zero => intro _; rfl
  | succ k ih =>
    intro hk
    rw [idxs_succ, ← ih (by omega), ← h.idleB_eq (by omega)]
    rw [show idleUpto xs (k + 1) = if idleB xs k then idleUpto xs k ++ [(k : Int)] else idleUpto xs k from rfl]
    cases idleB xs k <;> simp
theorem idle_eq (xs : List (Int × Int)) : idleP xs = refIdle xs := by
  unfold idleP refIdle
  rw [openErr_nil]
  split
  · rfl
  · rename_i hz
    have h := Good.of (xs := xs) (by omega)
    rw [h.idleUpto_eq _ (Nat.le_refl _)]
end Go.Proofs.Ytfjnnegaljfkgaa
