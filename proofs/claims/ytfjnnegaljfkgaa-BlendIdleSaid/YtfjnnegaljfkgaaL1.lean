/- Layer 3, blends: Lines and mixtures: plain geometry: lemmas for the rows of this seat. No conditions. -/
import Derived.Test.YtfjnnegaljfkgaaProg
import Derived.Test.YtfjnnegaljfkgaaBase
import Derived.Test.YtfjnnegaljfkgaaPlain
import Derived.Test.YtfjnnegaljfkgaaWA
import Derived.Test.YtfjnnegaljfkgaaSeg
import Derived.Test.YtfjnnegaljfkgaaKeys
import Derived.Test.YtfjnnegaljfkgaaW20
import Derived.Test.YtfjnnegaljfkgaaW21
import Derived.Test.YtfjnnegaljfkgaaW22
import Derived.Test.YtfjnnegaljfkgaaS1
import Derived.Test.YtfjnnegaljfkgaaS5
import Derived.Test.YtfjnnegaljfkgaaS12
import Derived.Test.YtfjnnegaljfkgaaTab
import Derived.Test.YtfjnnegaljfkgaaS14
import Derived.Test.YtfjnnegaljfkgaaArms
import Derived.Test.YtfjnnegaljfkgaaWE
import Derived.Test.YtfjnnegaljfkgaaB1
import Derived.Test.YtfjnnegaljfkgaaB2
import Derived.Test.YtfjnnegaljfkgaaB3
import Derived.Test.YtfjnnegaljfkgaaB4
import Derived.Test.YtfjnnegaljfkgaaB5
import Derived.Test.YtfjnnegaljfkgaaB6
import Derived.Test.YtfjnnegaljfkgaaB7
import Derived.Test.YtfjnnegaljfkgaaB8
import Derived.Test.YtfjnnegaljfkgaaB9
import Derived.Test.YtfjnnegaljfkgaaB14
set_option linter.all false
namespace Go.Proofs.Ytfjnnegaljfkgaa
open Go.RowKit
/-! ## Lines and mixtures: plain geometry -/
/-- Lay theorems by their runs: the line (s + k x)/d lies below lots. -/
def LineBelow (d s k : Int) (xs : List (Int × Int)) : Prop := ∀ p ∈ xs, s + k * p.1 ≤ p.2 * d
def cross (a b c : Int × Int) : Int := (c.2 - a.2) * (b.1 - a.1) - (b.2 - a.2) * (c.1 - a.1)
theorem cross_cyc (a b c : Int × Int) : cross a b c = cross c a b := by unfold cross; grind
theorem pos_of_mul {x y : Int} (hx : 0 < x) (h : 0 < x * y) : 0 < y := by
  rcases Int.lt_or_le 0 y with h1 | h1
  · exact h1
  · have := Int.mul_le_mul_of_nonneg_left h1 (Int.le_of_lt hx); omega
theorem le_of_mul {x y z : Int} (hx : 0 < x) (h : x * y ≤ x * z) : y ≤ z := Int.le_of_mul_le_mul_left h hx
theorem cross_far {a b c d : Int × Int} (h1 : a.1 < b.1) (h2 : b.1 < c.1) (h3 : c.1 < d.1) (ha : 0 < cross a b c) (hb : 0 < cross b c d) : 0 < cross a b d := by
  refine pos_of_mul (x := c.1 - b.1) (by omega) ?_
  have e : (c.1 - b.1) * cross a b d = (d.1 - b.1) * cross a b c + (b.1 - a.1) * cross b c d := by unfold cross; grind
  have m1 := Int.mul_pos (show 0 < d.1 - b.1 by omega) ha
  have m2 := Int.mul_pos (show 0 < b.1 - a.1 by omega) hb
  omega
theorem cross_far' {a b c d : Int × Int} (h1 : a.1 < b.1) (h2 : b.1 < c.1) (h3 : c.1 < d.1) (ha : 0 < cross a b c) (hb : 0 < cross b c d) : 0 < cross a c d := by
  refine pos_of_mul (x := c.1 - b.1) (by omega) ?_
  have e : (c.1 - b.1) * cross a c d = (c.1 - a.1) * cross b c d + (d.1 - c.1) * cross a b c := by unfold cross; grind
  have m1 := Int.mul_pos (show 0 < c.1 - a.1 by omega) hb
  have m2 := Int.mul_pos (show 0 < d.1 - c.1 by omega) ha
  omega
/-- A list of corners, the last one first, each strictly below the line of its neighbours. -/
def Conv : List (Int × Int) → Prop
  | [] => True
  | c :: l => (∀ b ∈ l, b.1 < c.1) ∧ l.Pairwise (fun b a => 0 < cross a b c) ∧ Conv l
theorem Conv.adj {b a : Int × Int} {v : List (Int × Int)} : ∀ {u : List (Int × Int)}, Conv (u ++ b :: a :: v) → a.1 < b.1 ∧ (∀ c ∈ u, b.1 < c.1 ∧ 0 < cross a b c) ∧ ∀ e ∈ v, e.1 < a.1 ∧ 0 < cross e a b := by
  intro u
  induction u with
  | nil =>
    intro h
    obtain ⟨h1, h2, h3, _⟩ := h
    exact ⟨h1 a (.head _), by simp, fun e he => ⟨h3 e he, (List.pairwise_cons.1 h2).1 e he⟩⟩
  | cons c u ih =>
    intro h
    obtain ⟨h1, h2, h3⟩ := h
    obtain ⟨i1, i2, i3⟩ := ih h3
    refine ⟨i1, fun d hd => ?_, i3⟩
    rcases List.mem_cons.1 hd with rfl | hd
    · refine ⟨h1 b (by simp), ?_⟩
      have : (b :: a :: v).Pairwise (fun b a => 0 < cross a b d) := h2.sublist (List.sublist_append_right _ _)
      exact (List.pairwise_cons.1 this).1 a (.head _)
    · exact i2 d hd
/-- Above all lines that lie below the list. -/
def Dom (l : List (Int × Int)) (p : Int × Int) : Prop := ∀ d s k, 0 < d → LineBelow d s k l → s + k * p.1 ≤ p.2 * d
theorem Dom.mem {l : List (Int × Int)} {p : Int × Int} (h : p ∈ l) : Dom l p := fun _ _ _ _ hl => hl p h
theorem Dom.mono {l l' : List (Int × Int)} {p : Int × Int} (h : Dom l p) (hs : ∀ q ∈ l, Dom l' q) : Dom l' p := fun d s k hd hl => h d s k hd fun q hq => hs q hq d s k hd hl
theorem Dom.up {l : List (Int × Int)} {x y z : Int} (h : Dom l (x, y)) (hz : y ≤ z) : Dom l (x, z) := fun d s k hd hl => by
  have h1 := h d s k hd hl
  have := Int.mul_le_mul_of_nonneg_right hz (Int.le_of_lt hd)
  dsimp only at *
  omega
/-- A point that does not lie below the line of two others. -/
theorem Dom.pop {a b c : Int × Int} {l : List (Int × Int)} (h1 : a.1 < b.1) (h2 : b.1 < c.1) (hc : cross a b c ≤ 0) (ha : a ∈ l) (hcl : c ∈ l) : Dom l b := fun d s k hd hl => by
  have g1 := hl a ha
  have g2 := hl c hcl
  refine le_of_mul (x := c.1 - a.1) (by omega) ?_
  have m1 := Int.mul_le_mul_of_nonneg_left g1 (show 0 ≤ c.1 - b.1 by omega)
  have m2 := Int.mul_le_mul_of_nonneg_left g2 (show 0 ≤ b.1 - a.1 by omega)
  have m3 := Int.mul_le_mul_of_nonneg_left hc (Int.le_of_lt hd)
  have e1 : (c.1 - a.1) * (s + k * b.1) = (c.1 - b.1) * (s + k * a.1) + (b.1 - a.1) * (s + k * c.1) := by grind
  have e2 : (c.1 - a.1) * (b.2 * d) = (c.1 - b.1) * (a.2 * d) + (b.1 - a.1) * (c.2 * d) - d * cross a b c := by unfold cross; grind
  omega
/-! ### mixtures -/
/-- The price N/D is had at t, by one lot or by two. -/
def Wit (xs : List (Int × Int)) (t N D : Int) : Prop :=
  ∃ a ∈ xs, ∃ b ∈ xs, a.1 ≤ t ∧ t ≤ b.1 ∧ ((a.1 < b.1 ∧ N * (b.1 - a.1) = D * (a.2 * (b.1 - t) + b.2 * (t - a.1))) ∨ (a.1 = t ∧ N = D * a.2))
/-- A line below the lots is N/D at t. -/
def Low (xs : List (Int × Int)) (t N D : Int) : Prop := ∃ d s k, 0 < d ∧ LineBelow d s k xs ∧ (s + k * t) * D = N * d
structure Cheap (xs : List (Int × Int)) (t N D : Int) : Prop where
  pos : 0 < D
  wit : Wit xs t N D
  low : Low xs t N D
/-- No mixture is cheaper than a line below the lots. -/
theorem Wit.weak {xs : List (Int × Int)} {t N D d s k : Int} (h : Wit xs t N D) (hD : 0 < D) (hl : LineBelow d s k xs) : (s + k * t) * D ≤ N * d := by
  obtain ⟨a, ha, b, hb, h1, h2, h | h⟩ := h
  · have g1 := hl a ha
    have g2 := hl b hb
    refine le_of_mul (x := b.1 - a.1) (by omega) ?_
    have m1 := Int.mul_le_mul_of_nonneg_left g1 (Int.mul_nonneg (Int.le_of_lt hD) (show 0 ≤ b.1 - t by omega))
    have m2 := Int.mul_le_mul_of_nonneg_left g2 (Int.mul_nonneg (Int.le_of_lt hD) (show 0 ≤ t - a.1 by omega))
    have e0 := h.2
    have e1 : (b.1 - a.1) * ((s + k * t) * D) = D * (b.1 - t) * (s + k * a.1) + D * (t - a.1) * (s + k * b.1) := by grind
    have e2 : (b.1 - a.1) * (N * d) = D * (b.1 - t) * (a.2 * d) + D * (t - a.1) * (b.2 * d) := by grind
    omega
  · have g1 := hl a ha
    have m1 := Int.mul_le_mul_of_nonneg_left g1 (Int.le_of_lt hD)
    obtain ⟨rfl, rfl⟩ := h
    grind
theorem Cheap.le {xs ys : List (Int × Int)} {t N D N' D' : Int} (h : Low xs t N D) (hD : 0 < D) (h' : Wit ys t N' D') (hD' : 0 < D') (hs : ∀ p ∈ ys, p ∈ xs) : N * D' ≤ N' * D := by
  obtain ⟨d, s, k, hd, hl, he⟩ := h
  have h1 := h'.weak hD' (fun p hp => hl p (hs p hp))
  refine le_of_mul (x := d) hd ?_
  have m := Int.mul_le_mul_of_nonneg_left h1 (Int.le_of_lt hD)
  have e1 : d * (N * D') = D * ((s + k * t) * D') := by grind
  have e2 : d * (N' * D) = D * (N' * d) := by grind
  omega
theorem Cheap.eq {xs : List (Int × Int)} {t N D N' D' : Int} (h : Cheap xs t N D) (h' : Cheap xs t N' D') : N * D' = N' * D := by
  have h1 := Cheap.le h.low h.pos h'.wit h'.pos fun _ h => h
  have h2 := Cheap.le h'.low h'.pos h.wit h.pos fun _ h => h
  omega
/-! ## The chain of corners is the lower hull -/
/-- Lay theorems by their runs: a corner's point. -/
def pt (c : Corner) : Int × Int := (c.1, c.2.1)
theorem belowC_cross (a b c : Corner) : belowC a b c = decide (0 < cross (pt a) (pt b) (pt c)) := by
  unfold belowC cross pt
  congr 1
  apply propext
  dsimp only
  constructor <;> intro h <;> grind
theorem popAll_sub (c : Corner) (s : List Corner) : ∀ x ∈ popAll c s, x ∈ s := fun x hx => by
  obtain ⟨r, hr⟩ := popAll_suffix c s
  rw [hr]; exact List.mem_append_right _ hx
theorem Conv.tail {c : Int × Int} {l : List (Int × Int)} (h : Conv (c :: l)) : Conv l := h.2.2
theorem pop_conv (c : Corner) : ∀ st : List Corner, Conv (st.map pt) → (∀ b ∈ st, b.1 < c.1) → Conv (pt c :: (popAll c st).map pt) := by
  intro st
  induction st with
  | nil => intro _ _; exact ⟨by simp [popAll], by simp [popAll], by simp [popAll, Conv]⟩
  | cons q st ih =>
    intro hc hb
    cases st with
    | nil =>
      have := hb q (.head _)
      exact ⟨by simp [popAll, pt, this], by simp [popAll], hc⟩
    | cons p r =>
      by_cases h : belowC p q c = true
      · have e : popAll c (q :: p :: r) = q :: p :: r := by simp [popAll, h]
        rw [e]
        rw [belowC_cross] at h
        have hpq : 0 < cross (pt p) (pt q) (pt c) := of_decide_eq_true h
        obtain ⟨h1, h2, h3⟩ := hc
        have hqc : (pt q).1 < (pt c).1 := hb q (.head _)
        have hq : ∀ a ∈ (p :: r).map pt, 0 < cross a (pt q) (pt c) := by
          intro a ha
          rcases List.mem_cons.1 ha with rfl | ha
          · exact hpq
          · exact cross_far' (h3.1 a ha) (h1 (pt p) (.head _)) hqc ((List.pairwise_cons.1 h2).1 a ha) hpq
        refine ⟨fun b hb' => ?_, .cons hq ?_, h1, h2, h3⟩
        · obtain ⟨b0, hb0, rfl⟩ := List.mem_map.1 hb'
          exact hb b0 hb0
        · have hs : ((p :: r).map pt).Pairwise (fun b a => a.1 < b.1) := by
            have : ∀ l, Conv l → l.Pairwise (fun (b a : Int × Int) => a.1 < b.1) := by
              intro l
              induction l with
              | nil => intro _; exact .nil
              | cons x l ih => intro h; exact .cons h.1 (ih h.2.2)
            exact this _ h3
          refine (h2.and hs).imp_of_mem fun {b a} hb' ha' hx => ?_
          exact cross_far hx.2 (h1 b hb') hqc hx.1 (hq b hb')
      · have e : popAll c (q :: p :: r) = popAll c (p :: r) := by simp [popAll, h]
        rw [e]
        exact ih hc.tail fun b hb' => hb b (.tail _ hb')
theorem pop_dom (c : Corner) : ∀ st : List Corner, Conv (st.map pt) → (∀ b ∈ st, b.1 < c.1) → ∀ p, Dom (pt c :: st.map pt) p → Dom (pt c :: (popAll c st).map pt) p := by
  intro st
  induction st with
  | nil => intro _ _ p h; exact h
  | cons q st ih =>
    intro hc hb x hx
    cases st with
    | nil => exact hx
    | cons p r =>
      by_cases h : belowC p q c = true
      · have e : popAll c (q :: p :: r) = q :: p :: r := by simp [popAll, h]
        rw [e]; exact hx
      · have e : popAll c (q :: p :: r) = popAll c (p :: r) := by simp [popAll, h]
        rw [e]
        refine ih hc.tail (fun b hb' => hb b (.tail _ hb')) x (hx.mono fun y hy => ?_)
        rw [belowC_cross] at h
        have hpq : cross (pt p) (pt q) (pt c) ≤ 0 := by
          have h2 : ¬ 0 < cross (pt p) (pt q) (pt c) := fun h3 => h (decide_eq_true h3)
          omega
        rcases List.mem_cons.1 hy with rfl | hy
        · exact Dom.mem (.head _)
        · rcases List.mem_cons.1 hy with rfl | hy
          · exact Dom.pop (b := pt q) (c := pt c) (hc.1 (pt p) (.head _)) (hb q (.head _)) hpq (.tail _ (.head _)) (.head _)
          · exact Dom.mem (.tail _ hy)
theorem chain_inv (L : List Int) (F : List ((Int × Int) × Nat)) : ∀ s : Nat, Conv ((chainUpto L F s).map pt) ∧
    (∀ c ∈ chainUpto L F s, ∃ t : Nat, t < s ∧ c = ((t : Int), L[t]?.getD 0, (firstIn F ((t : Int), L[t]?.getD 0) : Int)) ∧ L[t]?.getD 0 ≠ 1001) ∧
    ∀ t : Nat, t < s → L[t]?.getD 0 ≠ 1001 → Dom ((chainUpto L F s).map pt) ((t : Int), L[t]?.getD 0) := by
  intro s
  induction s with
  | zero => exact ⟨trivial, (fun c hc => by cases hc), fun t ht => by omega⟩
  | succ s ih =>
    obtain ⟨i1, i2, i3⟩ := ih
    unfold chainUpto
    split
    · rename_i h
      refine ⟨i1, fun c hc => ?_, fun t ht hL => ?_⟩
      · obtain ⟨t, h1, h2⟩ := i2 c hc
        exact ⟨t, by omega, h2⟩
      · exact i3 t (by have : t ≠ s := fun e => hL (e ▸ h); omega) hL
    · rename_i hne
      generalize hc : ((s : Int), L[s]?.getD 0, (firstIn F ((s : Int), L[s]?.getD 0) : Int)) = c
      have hlt : ∀ b ∈ chainUpto L F s, b.1 < c.1 := fun b hb => by
        obtain ⟨t, h1, rfl, _⟩ := i2 b hb
        rw [← hc]; dsimp only; omega
      refine ⟨pop_conv c _ i1 hlt, fun d hd => ?_, fun t ht hL => ?_⟩
      · rcases List.mem_cons.1 hd with rfl | hd
        · exact ⟨s, by omega, hc.symm, hne⟩
        · obtain ⟨t, h1, h2⟩ := i2 d (popAll_sub c _ d hd)
          exact ⟨t, by omega, h2⟩
      · refine pop_dom c _ i1 hlt _ ?_
        by_cases e : t = s
        · subst e
          refine Dom.mem ?_
          rw [← hc]
          exact .head _
        · exact (i3 t (by omega) hL).mono fun q hq => Dom.mem (.tail _ hq)
/-! ### the least prices are those of lots -/
theorem leastUpto_mem {xs : List (Int × Int)} (hg : ∀ j, j < xs.length → lotBad (lotAt xs j) = false) : ∀ k, k ≤ xs.length → ∀ t : Nat, t < 101 → (leastUpto xs k)[t]?.getD 0 ≠ 1001 → ∃ j, j < k ∧ lotAt xs j = ((t : Int), (leastUpto xs k)[t]?.getD 0) := by
  intro k
  induction k with
  | zero =>
    intro _ t ht h
    simp only [leastUpto] at h
    rw [List.getElem?_replicate, if_pos ht] at h
    exact absurd rfl h
  | succ k ih =>
    intro hk t ht h
    have h1 := not_lotBad.1 (hg k (by omega))
    simp only [leastUpto, leastStep] at h ⊢
    by_cases e : (lotAt xs k).1.toNat = t
    · rw [e, List.getElem?_set_self (by rw [leastUpto_length]; omega)] at h ⊢
      simp only [Option.getD_some] at h ⊢
      by_cases h2 : (leastUpto xs k)[t]?.getD 0 ≤ (lotAt xs k).2
      · rw [Int.min_eq_left h2] at h ⊢
        obtain ⟨j, hj, he⟩ := ih (by omega) t ht h
        exact ⟨j, by omega, he⟩
      · rw [Int.min_eq_right (by omega)]
        exact ⟨k, by omega, Prod.ext (by dsimp only; omega) rfl⟩
    · rw [List.getElem?_set_ne e] at h ⊢
      obtain ⟨j, hj, he⟩ := ih (by omega) t ht h
      exact ⟨j, by omega, he⟩
theorem first_spec (xs : List (Int × Int)) : ∀ k, ∀ l, (∀ p, (firstUpto xs k).find? (fun p => decide (p.1 = l)) = some p → p.1 = l ∧ p.2 < k ∧ lotAt xs p.2 = l ∧ ∀ j, j < p.2 → lotAt xs j ≠ l) ∧
    ((firstUpto xs k).find? (fun p => decide (p.1 = l)) = none → ∀ j, j < k → lotAt xs j ≠ l) := by
  intro k
  induction k with
  | zero => intro l; exact ⟨(fun p h => by cases h), fun _ j h => by omega⟩
  | succ k ih =>
    intro l
    obtain ⟨i1, i2⟩ := ih l
    unfold firstUpto
    split
    · rename_i hany
      refine ⟨fun p h => ?_, fun h j hj => ?_⟩
      · obtain ⟨a, b, c, d⟩ := i1 p h
        exact ⟨a, by omega, c, d⟩
      · by_cases e : j = k
        · subst e
          intro he
          rw [List.find?_eq_none] at h
          obtain ⟨q, hq, hq2⟩ := List.any_eq_true.1 hany
          have := h q hq
          rw [← he] at this
          exact absurd hq2 this
        · exact i2 h j (by omega)
    · rename_i hany
      rw [List.find?_append]
      cases hf : (firstUpto xs k).find? (fun p => decide (p.1 = l)) with
      | some p =>
        simp only [Option.some_or]
        refine ⟨fun q hq => ?_, fun h => by cases h⟩
        cases hq
        obtain ⟨a, b, c, d⟩ := i1 p hf
        exact ⟨a, by omega, c, d⟩
      | none =>
        simp only [Option.none_or, List.find?_cons, List.find?_nil]
        by_cases e : lotAt xs k = l
        · simp only [e, decide_true]
          refine ⟨fun q hq => ?_, fun h => by cases h⟩
          cases hq
          exact ⟨rfl, by omega, e, fun j hj => i2 hf j hj⟩
        · simp only [e, decide_false]
          refine ⟨(fun q hq => by cases hq), fun _ j hj => ?_⟩
          by_cases e2 : j = k
          · subst e2; exact e
          · exact i2 hf j (by omega)
theorem lotAt_mem {xs : List (Int × Int)} {j : Nat} (h : j < xs.length) : lotAt xs j ∈ xs := by
  unfold lotAt; rw [List.getElem?_eq_getElem h]; exact List.getElem_mem h
theorem mem_lotAt {xs : List (Int × Int)} {p : Int × Int} (h : p ∈ xs) : ∃ j, j < xs.length ∧ lotAt xs j = p := by
  obtain ⟨j, hj, rfl⟩ := List.mem_iff_getElem.1 h
  exact ⟨j, hj, by unfold lotAt; rw [List.getElem?_eq_getElem hj]; rfl⟩
theorem Good.mem {xs : List (Int × Int)} (h : Good xs) {p : Int × Int} (hp : p ∈ xs) : 0 ≤ p.1 ∧ p.1 ≤ 100 ∧ 0 ≤ p.2 ∧ p.2 ≤ 1000 := by
  obtain ⟨j, hj, rfl⟩ := mem_lotAt hp
  exact not_lotBad.1 (h.lot j hj)
/-- What is known of the corners: they are lots, by their first indices; all lots lie above them. -/
structure Hull (xs : List (Int × Int)) (l : List Corner) : Prop where
  conv : Conv ((l.reverse).map pt)
  lot : ∀ c ∈ l, ∃ i : Nat, c.2.2 = (i : Int) ∧ i < xs.length ∧ lotAt xs i = pt c ∧ ∀ j, j < i → lotAt xs j ≠ pt c
  dom : ∀ p ∈ xs, Dom (l.map pt) p
theorem Dom.rev {l : List (Int × Int)} {p : Int × Int} (h : Dom l p) : Dom l.reverse p := h.mono fun q hq => Dom.mem (List.mem_reverse.2 hq)
theorem Good.hull {xs : List (Int × Int)} (h : Good xs) : Hull xs (chainOf xs) := by
  obtain ⟨h1, h2, h3⟩ := chain_inv (leastOf xs) (firstUpto xs xs.length) 101
  refine ⟨by unfold chainOf; rw [List.reverse_reverse]; exact h1, fun c hc => ?_, fun p hp => ?_⟩
  · obtain ⟨t, ht, rfl, hne⟩ := h2 c (List.mem_reverse.1 hc)
    obtain ⟨j, hj, he⟩ := leastUpto_mem h.lot xs.length (Nat.le_refl _) t ht hne
    refine ⟨_, rfl, ?_⟩
    unfold firstIn pt
    dsimp only
    change lotAt xs j = ((t : Int), (leastOf xs)[t]?.getD 0) at he
    cases hf : (firstUpto xs xs.length).find? (fun p => decide (p.1 = ((t : Int), (leastOf xs)[t]?.getD 0))) with
    | none => exact absurd he ((first_spec xs xs.length _).2 hf j hj)
    | some q =>
      obtain ⟨a, b, c, d⟩ := (first_spec xs xs.length _).1 q hf
      exact ⟨b, c, d⟩
  · obtain ⟨j, hj, rfl⟩ := mem_lotAt hp
    have hm := h.mem hp
    have hle := leastUpto_le h.lot xs.length (Nat.le_refl _) j hj
    have hd := h3 (lotAt xs j).1.toNat (by omega) (by unfold leastOf; omega)
    rw [Int.toNat_of_nonneg hm.1] at hd
    have hd2 := hd.up hle
    unfold chainOf
    rw [List.map_reverse]
    exact hd2.rev
/-! ## The mix and the line of a sharpness -/
/-- Lay theorems by their runs: the line through two points. -/
def thruL (x y : Corner) : Int × Int × Int := (y.1 - x.1, x.2.1 * (y.1 - x.1) - (y.2.1 - x.2.1) * x.1, y.2.1 - x.2.1)
theorem conv_sorted : ∀ l : List (Int × Int), Conv l → l.Pairwise (fun b a => a.1 < b.1) := by
  intro l
  induction l with
  | nil => intro _; exact .nil
  | cons x l ih => intro h; exact .cons h.1 (ih h.2.2)
section
variable {xs : List (Int × Int)} {l : List Corner}
theorem Hull.sorted (h : Hull xs l) : l.Pairwise (fun a b => a.1 < b.1) := by
  have h1 := conv_sorted _ h.conv
  rw [List.pairwise_map, List.pairwise_reverse] at h1
  exact h1
theorem Hull.thru (h : Hull xs l) {u v : List Corner} {x y : Corner} (e : l = u ++ x :: y :: v) : x.1 < y.1 ∧ LineBelow (thruL x y).1 (thruL x y).2.1 (thruL x y).2.2 xs := by
  have hc := h.conv
  have e2 : (l.reverse).map pt = (v.reverse.map pt) ++ pt y :: pt x :: (u.reverse.map pt) := by rw [e]; simp
  rw [e2] at hc
  obtain ⟨h1, h2, h3⟩ := hc.adj
  have hlt : x.1 < y.1 := h1
  have key : ∀ c : Int × Int, 0 ≤ cross (pt x) (pt y) c → (thruL x y).2.1 + (thruL x y).2.2 * c.1 ≤ c.2 * (thruL x y).1 := by
    intro c hc
    unfold cross pt at hc
    unfold thruL
    dsimp only at hc ⊢
    grind
  refine ⟨hlt, fun p hp => h.dom p hp _ _ _ (by unfold thruL; dsimp only; omega) fun q hq => key q ?_⟩
  rw [e] at hq
  simp only [List.map_append, List.map_cons, List.mem_append, List.mem_cons] at hq
  rcases hq with hq | rfl | rfl | hq
  · rw [cross_cyc]
    exact Int.le_of_lt (h3 q (by rw [List.map_reverse]; exact List.mem_reverse.2 hq)).2
  · have : cross (pt x) (pt y) (pt x) = 0 := by unfold cross; grind
    omega
  · have : cross (pt x) (pt y) (pt y) = 0 := by unfold cross; grind
    omega
  · exact Int.le_of_lt (h2 q (by rw [List.map_reverse]; exact List.mem_reverse.2 hq)).2
theorem scan_line (t : Int) : ∀ (l : List Corner) (a : Corner) (la : Option Corner) (o : Int × Int × Int), l ≠ [] → (a :: l).Pairwise (fun a b => a.1 < b.1) → a.1 ≤ t → ∀ m, mixScan t la (a :: l) = some m →
    ∃ u x y v, a :: l = u ++ x :: y :: v ∧ lineScan t o (a :: l) = thruL x y ∧ x.1 ≤ t ∧ t ≤ y.1 ∧ ((m = (x, y, y.1 - t, t - x.1) ∧ x.1 < t ∧ t < y.1) ∨ (m = (x, x, 1, 0) ∧ x.1 = t) ∨ (m = (y, y, 1, 0) ∧ y.1 = t)) := by
  intro l
  induction l with
  | nil => intro a la o h; exact absurd rfl h
  | cons b l ih =>
    intro a la o _ hs ha m hm
    have hab : a.1 < b.1 := (List.pairwise_cons.1 hs).1 b (.head _)
    by_cases hb : t ≤ b.1
    · refine ⟨[], a, b, l, rfl, by simp only [lineScan, if_pos hb, thruL], ha, hb, ?_⟩
      unfold mixScan at hm
      by_cases e1 : a.1 = t
      · rw [if_pos e1] at hm; cases hm
        exact .inr (.inl ⟨rfl, e1⟩)
      · rw [if_neg e1, if_neg (by omega)] at hm
        unfold mixScan at hm
        by_cases e2 : b.1 = t
        · rw [if_pos e2] at hm; cases hm
          exact .inr (.inr ⟨rfl, e2⟩)
        · rw [if_neg e2, if_pos (by omega)] at hm; cases hm
          exact .inl ⟨rfl, by omega, by omega⟩
    · have hm2 : mixScan t (some a) (b :: l) = some m := by
        unfold mixScan at hm
        rwa [if_neg (by omega), if_neg (by omega)] at hm
      have hl : l ≠ [] := fun e => by
        subst e
        unfold mixScan at hm2
        rw [if_neg (by omega), if_neg (by omega)] at hm2
        simp [mixScan] at hm2
      obtain ⟨u, x, y, v, h1, h2, h3⟩ := ih b (some a) (b.1 - a.1, a.2.1 * (b.1 - a.1) - (b.2.1 - a.2.1) * a.1, b.2.1 - a.2.1) hl (List.pairwise_cons.1 hs).2 (by omega) m hm2
      exact ⟨a :: u, x, y, v, by rw [h1]; rfl, by rw [← h2]; simp only [lineScan, if_neg hb], h3⟩
theorem scan_first {t : Int} {a : Corner} {l : List Corner} (h : t < a.1) : mixScan t none (a :: l) = none := by
  unfold mixScan
  rw [if_neg (by omega), if_pos h]
/-- What is known of a mix: it is made of corners, and costs what the line is. -/
structure MixIs (xs : List (Int × Int)) (t : Int) (m : MixT) (o : Int × Int × Int) : Prop where
  one : m.1 ∈ chainOf xs
  two : m.2.1 ∈ chainOf xs
  parts : 0 ≤ m.2.2.1 ∧ m.2.2.1 ≤ 100 ∧ 0 ≤ m.2.2.2 ∧ m.2.2.2 ≤ 100 ∧ 1 ≤ m.2.2.1 + m.2.2.2
  sharp : m.2.2.1 * m.1.1 + m.2.2.2 * m.2.1.1 = (m.2.2.1 + m.2.2.2) * t
  cheap : Cheap xs t (m.1.2.1 * m.2.2.1 + m.2.1.2.1 * m.2.2.2) (m.2.2.1 + m.2.2.2)
  line : 1 ≤ o.1 ∧ o.1 ≤ 100 ∧ -200000 ≤ o.2.1 ∧ o.2.1 ≤ 200000 ∧ -1000 ≤ o.2.2 ∧ o.2.2 ≤ 1000
  below : LineBelow o.1 o.2.1 o.2.2 xs
  val : (o.2.1 + o.2.2 * t) * (m.2.2.1 + m.2.2.2) = (m.1.2.1 * m.2.2.1 + m.2.1.2.1 * m.2.2.2) * o.1
theorem Hull.lot_mem (h : Hull xs l) {c : Corner} (hc : c ∈ l) : pt c ∈ xs := by
  obtain ⟨i, _, h1, h2, _⟩ := h.lot c hc
  rw [← h2]; exact lotAt_mem h1
theorem Good.mixIs (h : Good xs) {t : Int} {m : MixT} (hm : mixScan t none (chainOf xs) = some m) : MixIs xs t m (lineOf xs t) := by
  have hH := h.hull
  have hok : ∀ c ∈ chainOf xs, 0 ≤ c.1 ∧ c.1 ≤ 100 ∧ 0 ≤ c.2.1 ∧ c.2.1 ≤ 1000 := fun c hc => h.mem (hH.lot_mem hc)
  unfold lineOf
  cases hch : chainOf xs with
  | nil => rw [hch] at hm; simp [mixScan] at hm
  | cons a l =>
    have hcc := hch
    rw [hch] at hm hH hok
    have ha : a.1 ≤ t := by
      rcases Int.lt_or_le t a.1 with h1 | h1
      · rw [scan_first h1] at hm; cases hm
      · exact h1
    cases l with
    | nil =>
      unfold mixScan at hm
      by_cases e1 : a.1 = t
      · rw [if_pos e1] at hm; cases hm
        have hk := hok a (.head _)
        have hb : LineBelow 1 a.2.1 0 xs := fun p hp => hH.dom p hp 1 a.2.1 0 (by omega) fun q hq => by
          obtain rfl : q = pt a := by simpa using hq
          simp [pt]
        have hpt := hH.lot_mem (.head _ : a ∈ [a])
        refine ⟨by rw [hcc]; exact .head _, by rw [hcc]; exact .head _, by simp, by dsimp only; omega, ⟨by dsimp only; omega, ⟨pt a, hpt, pt a, hpt, by unfold pt; dsimp only; omega, by unfold pt; dsimp only; omega, .inr ⟨e1, by unfold pt; dsimp only; omega⟩⟩, 1, a.2.1, 0, by omega, hb, by dsimp only; omega⟩, ?_, ?_, ?_⟩
        · simp [lineScan]; omega
        · simpa [lineScan] using hb
        · simp [lineScan]
      · rw [if_neg e1, if_neg (by omega)] at hm; simp [mixScan] at hm
    | cons b l =>
      obtain ⟨u, x, y, v, h1, h2, h3, h4, h5⟩ := scan_line t (b :: l) a none (1, ((a :: b :: l)[0]?.getD (0, 0, 0)).2.1, 0) (by simp) hH.sorted ha m hm
      obtain ⟨hlt, hb⟩ := hH.thru h1
      rw [h2]
      have hx : x ∈ a :: b :: l := by rw [h1]; simp
      have hy : y ∈ a :: b :: l := by rw [h1]; simp
      have kx := hok x hx
      have ky := hok y hy
      have px := hH.lot_mem hx
      have py := hH.lot_mem hy
      have hline : 1 ≤ (thruL x y).1 ∧ (thruL x y).1 ≤ 100 ∧ -200000 ≤ (thruL x y).2.1 ∧ (thruL x y).2.1 ≤ 200000 ∧ -1000 ≤ (thruL x y).2.2 ∧ (thruL x y).2.2 ≤ 1000 := by
        have m1 := mul_mono (a := x.2.1) (b := y.1 - x.1) (A := 1000) (B := 100) (by omega) (by omega) (by omega) (by omega)
        have m2 := mul_abs (x := y.2.1 - x.2.1) (y := x.1) (A := 1000) (B := 100) (by omega) (by omega) (by omega) (by omega)
        unfold thruL
        dsimp only
        omega
      rcases h5 with ⟨rfl, g1, g2⟩ | ⟨rfl, g1⟩ | ⟨rfl, g1⟩
      · have hv : ((thruL x y).2.1 + (thruL x y).2.2 * t) * ((y.1 - t) + (t - x.1)) = (x.2.1 * (y.1 - t) + y.2.1 * (t - x.1)) * (thruL x y).1 := by
          unfold thruL; dsimp only; grind
        refine ⟨by rw [hcc]; exact hx, by rw [hcc]; exact hy, by dsimp only; omega, by dsimp only; grind, ⟨by dsimp only; omega, ⟨pt x, px, pt y, py, h3, h4, .inl ⟨hlt, ?_⟩⟩, _, _, _, by omega, hb, hv⟩, hline, hb, hv⟩
        unfold pt; dsimp only; grind
      · have hv : ((thruL x y).2.1 + (thruL x y).2.2 * t) * (1 + 0) = (x.2.1 * 1 + x.2.1 * 0) * (thruL x y).1 := by
          unfold thruL; dsimp only; grind
        refine ⟨by rw [hcc]; exact hx, by rw [hcc]; exact hx, by simp, by dsimp only; omega, ⟨by dsimp only; omega, ⟨pt x, px, pt x, px, h3, by unfold pt; dsimp only; omega, .inr ⟨g1, ?_⟩⟩, _, _, _, by omega, hb, hv⟩, hline, hb, hv⟩
        unfold pt; dsimp only; omega
      · have hv : ((thruL x y).2.1 + (thruL x y).2.2 * t) * (1 + 0) = (y.2.1 * 1 + y.2.1 * 0) * (thruL x y).1 := by
          unfold thruL; dsimp only; grind
        refine ⟨by rw [hcc]; exact hy, by rw [hcc]; exact hy, by simp, by dsimp only; omega, ⟨by dsimp only; omega, ⟨pt y, py, pt y, py, by unfold pt; dsimp only; omega, h4, .inr ⟨g1, ?_⟩⟩, _, _, _, by omega, hb, hv⟩, hline, hb, hv⟩
        unfold pt; dsimp only; omega
end
/-! ## Fractions in least terms; the reference's cheapest price -/
/-- Lay theorems by their runs: a fraction is its least terms, some times. -/
theorem rat_spec (N D : Int) (hD : 0 < D) : ∃ g : Int, 0 < g ∧ N = g * (rat N D).1 ∧ D = g * (rat N D).2 ∧ 0 < (rat N D).2 := by
  have hgp : 0 < Int.gcd N D := Int.gcd_pos_of_ne_zero_right _ (by omega)
  have h1 : ((Int.gcd N D : Nat) : Int) ∣ N := Int.gcd_dvd_left N D
  have h2 : ((Int.gcd N D : Nat) : Int) ∣ D := Int.gcd_dvd_right N D
  have e1 := Int.mul_ediv_cancel' h1
  have e2 := Int.mul_ediv_cancel' h2
  refine ⟨(Int.gcd N D : Nat), by omega, e1.symm, e2.symm, ?_⟩
  exact pos_of_mul (x := (Int.gcd N D : Nat)) (by omega) (by unfold rat; rw [e2]; exact hD)
theorem rat_mul (k N D : Int) (hk : 0 < k) (hD : 0 < D) : rat (k * N) (k * D) = rat N D := by
  have hgp : 0 < Int.gcd N D := Int.gcd_pos_of_ne_zero_right _ (by omega)
  have e : ((Int.gcd (k * N) (k * D) : Nat) : Int) = k * (Int.gcd N D : Nat) := by
    rw [Int.gcd_mul_left, Int.natCast_mul, Int.natAbs_of_nonneg (Int.le_of_lt hk)]
  unfold rat
  rw [e, Int.mul_ediv_mul_of_pos _ _ hk, Int.mul_ediv_mul_of_pos _ _ hk]
theorem rat_eq {N D N' D' : Int} (hD : 0 < D) (hD' : 0 < D') (h : N * D' = N' * D) : rat N D = rat N' D' := by
  rw [← rat_mul D' N D hD' hD, ← rat_mul D N' D' hD hD', show D' * N = D * N' by grind, Int.mul_comm D' D]
theorem less_rat {N D N' D' : Int} (hD : 0 < D) (hD' : 0 < D') : less (rat N D) (rat N' D') = decide (N * D' < N' * D) := by
  obtain ⟨g, hg, h1, h2, h5⟩ := rat_spec N D hD
  obtain ⟨g', hg', h3, h4, h6⟩ := rat_spec N' D' hD'
  generalize rat N D = r at *
  generalize rat N' D' = r' at *
  unfold less
  have e1 : N * D' = (g * g') * (r.1 * r'.2) := by rw [h1, h4]; grind
  have e2 : N' * D = (g * g') * (r'.1 * r.2) := by rw [h3, h2]; grind
  have e3 := Int.mul_lt_mul_left (b := r.1 * r'.2) (c := r'.1 * r.2) (Int.mul_pos hg hg')
  rw [← e1, ← e2] at e3
  simp only [e3]
theorem rat_one (N : Int) : rat N 1 = (N, 1) := by simp [rat]
theorem rat_rat {N D : Int} (hD : 0 < D) : rat (rat N D).1 (rat N D).2 = rat N D := by
  obtain ⟨g, hg, h1, h2, h5⟩ := rat_spec N D hD
  refine rat_eq h5 hD ?_
  generalize rat N D = r at *
  subst h1 h2
  grind
theorem less_trans {x y z : Int × Int} (hx : 0 < x.2) (hy : 0 < y.2) (hz : 0 < z.2) (h1 : less x y = true) (h2 : less z y = false) : less z x = false := by
  unfold less at *
  have h1 := of_decide_eq_true h1
  have h2 := of_decide_eq_false h2
  refine decide_eq_false fun h3 => ?_
  have m1 := (Int.mul_lt_mul_left (a := z.2) hz).2 h1
  have m2 := (Int.mul_lt_mul_left (a := y.2) hy).2 h3
  have m3 := Int.mul_le_mul_of_nonneg_left (show y.1 * z.2 ≤ z.1 * y.2 by omega) (Int.le_of_lt hx)
  have e1 : z.2 * (x.1 * y.2) = y.2 * (x.1 * z.2) := by grind
  have e2 : z.2 * (y.1 * x.2) = x.2 * (y.1 * z.2) := by grind
  have e3 : x.2 * (z.1 * y.2) = y.2 * (z.1 * x.2) := by grind
  omega
theorem less_self (x : Int × Int) : less x x = false := by unfold less; simp
/-! ### the least of candidates -/
/-- The state holds the least of the candidates. -/
def BestIs (C : Int × Int → Prop) (st : Option (Int × Int)) : Prop := (st = none → ∀ x, ¬ C x) ∧ ∀ y, st = some y → C y ∧ ∀ x, C x → less x y = false
theorem BestIs.add {C : Int × Int → Prop} {st : Option (Int × Int)} (h : BestIs C st) (hC : ∀ x, C x → 0 < x.2) {x : Int × Int} (hx : 0 < x.2) : BestIs (fun z => C z ∨ z = x) (better st x) := by
  cases st with
  | none =>
    refine ⟨(fun e => by cases e), fun y hy => ?_⟩
    cases hy
    refine ⟨.inr rfl, fun z hz => ?_⟩
    rcases hz with hz | rfl
    · exact absurd hz (h.1 rfl z)
    · exact less_self _
  | some y =>
    obtain ⟨h1, h2⟩ := h.2 y rfl
    simp only [better]
    by_cases hl : less x y = true
    · rw [if_pos hl]
      refine ⟨(fun e => by cases e), fun y' hy => ?_⟩
      cases hy
      refine ⟨.inr rfl, fun z hz => ?_⟩
      rcases hz with hz | rfl
      · exact less_trans hx (hC _ h1) (hC _ hz) hl (h2 z hz)
      · exact less_self _
    · rw [if_neg hl]
      refine ⟨(fun e => by cases e), fun y' hy => ?_⟩
      cases hy
      refine ⟨.inl h1, fun z hz => ?_⟩
      rcases hz with hz | rfl
      · exact h2 z hz
      · simpa using hl
theorem BestIs.congr {C C' : Int × Int → Prop} {st : Option (Int × Int)} (h : BestIs C st) (hc : ∀ x, C x ↔ C' x) : BestIs C' st :=
  ⟨fun e x hx => h.1 e x ((hc x).2 hx), fun y hy => ⟨(hc y).1 (h.2 y hy).1, fun x hx => (h.2 y hy).2 x ((hc x).2 hx)⟩⟩
/-- A pair of lots about a sharpness. -/
def CandP (t : Int) (a b x : Int × Int) : Prop := a.1 ≤ t ∧ t ≤ b.1 ∧ x = pairPrice a b t
theorem pairPrice_pos {a b : Int × Int} {t : Int} : 0 < (pairPrice a b t).2 := by
  unfold pairPrice
  split
  · exact (rat_spec _ _ (by omega)).choose_spec.2.2.2
  · split <;> exact (rat_spec _ _ (by omega)).choose_spec.2.2.2
theorem cstep_best {C : Int × Int → Prop} {st : Option (Int × Int)} {a b : Int × Int} {t : Int} (h : BestIs C st) (hC : ∀ x, C x → 0 < x.2) : BestIs (fun x => C x ∨ CandP t a b x) (cstep a b t st) := by
  unfold cstep
  split
  · rename_i hn
    exact h.congr fun x => ⟨.inl, fun hx => hx.resolve_right fun hc => by unfold CandP at hc; omega⟩
  · rename_i hn
    refine (h.add hC pairPrice_pos).congr fun x => ?_
    constructor
    · rintro (h | rfl)
      · exact .inl h
      · exact .inr ⟨by omega, by omega, rfl⟩
    · rintro (h | ⟨_, _, rfl⟩)
      · exact .inl h
      · exact .inr rfl
theorem cinner_best {xs : List (Int × Int)} {t : Int} {i : Nat} {C : Int × Int → Prop} {st : Option (Int × Int)} (h : BestIs C st) (hC : ∀ x, C x → 0 < x.2) : ∀ k, BestIs (fun x => C x ∨ ∃ j, j < k ∧ CandP t (lotAt xs i) (lotAt xs j) x) (cinner xs t i st k) := by
  intro k
  induction k with
  | zero => exact h.congr fun x => ⟨.inl, fun hx => hx.resolve_right fun ⟨j, hj, _⟩ => by omega⟩
  | succ k ih =>
    refine (cstep_best ih fun x hx => ?_).congr fun x => ?_
    · rcases hx with hx | ⟨j, _, _, _, rfl⟩
      · exact hC x hx
      · exact pairPrice_pos
    · constructor
      · rintro ((h | ⟨j, hj, hc⟩) | hc)
        · exact .inl h
        · exact .inr ⟨j, by omega, hc⟩
        · exact .inr ⟨k, by omega, hc⟩
      · rintro (h | ⟨j, hj, hc⟩)
        · exact .inl (.inl h)
        · by_cases e : j = k
          · subst e; exact .inr hc
          · exact .inl (.inr ⟨j, by omega, hc⟩)
theorem couter_best {xs : List (Int × Int)} {t : Int} : ∀ i, BestIs (fun x => ∃ k, k < i ∧ ∃ j, j < xs.length ∧ CandP t (lotAt xs k) (lotAt xs j) x) (couter xs t i) := by
  intro i
  induction i with
  | zero => exact ⟨fun _ x ⟨k, hk, _⟩ => by omega, fun y hy => by cases hy⟩
  | succ i ih =>
    refine (cinner_best ih (fun x hx => ?_) xs.length).congr fun x => ?_
    · obtain ⟨_, _, _, _, _, _, rfl⟩ := hx
      exact pairPrice_pos
    · constructor
      · rintro (⟨k, hk, h⟩ | h)
        · exact ⟨k, by omega, h⟩
        · exact ⟨i, by omega, h⟩
      · rintro ⟨k, hk, h⟩
        by_cases e : k = i
        · subst e; exact .inr h
        · exact .inl ⟨k, by omega, h⟩
theorem cheapest_best (xs : List (Int × Int)) (t : Int) : BestIs (fun x => ∃ a ∈ xs, ∃ b ∈ xs, CandP t a b x) (cheapestOf xs t) := by
  refine (couter_best (xs := xs) (t := t) xs.length).congr fun x => ?_
  constructor
  · rintro ⟨k, hk, j, hj, h⟩
    exact ⟨_, lotAt_mem hk, _, lotAt_mem hj, h⟩
  · rintro ⟨a, ha, b, hb, h⟩
    obtain ⟨k, hk, rfl⟩ := mem_lotAt ha
    obtain ⟨j, hj, rfl⟩ := mem_lotAt hb
    exact ⟨k, hk, j, hj, h⟩
theorem cand_wit {xs : List (Int × Int)} {t : Int} {a b x : Int × Int} (ha : a ∈ xs) (hb : b ∈ xs) (h : CandP t a b x) : ∃ N D, 0 < D ∧ Wit xs t N D ∧ x = rat N D := by
  obtain ⟨h1, h2, rfl⟩ := h
  unfold pairPrice
  split
  · exact ⟨_, _, by omega, ⟨a, ha, b, hb, h1, h2, .inl ⟨by omega, Int.mul_comm _ _⟩⟩, rfl⟩
  · have e1 : a.1 = t := by omega
    have e2 : b.1 = t := by omega
    split
    · exact ⟨b.2, 1, by omega, ⟨b, hb, b, hb, by omega, by omega, .inr ⟨e2, by omega⟩⟩, rfl⟩
    · exact ⟨a.2, 1, by omega, ⟨a, ha, a, ha, by omega, by omega, .inr ⟨e1, by omega⟩⟩, rfl⟩
theorem wit_cand {xs : List (Int × Int)} {t N D : Int} (hD : 0 < D) (h : Wit xs t N D) : ∃ a ∈ xs, ∃ b ∈ xs, CandP t a b (rat N D) := by
  obtain ⟨a, ha, b, hb, h1, h2, h | h⟩ := h
  · refine ⟨a, ha, b, hb, h1, h2, ?_⟩
    unfold pairPrice
    rw [if_pos h.1]
    exact rat_eq hD (by omega) (by rw [h.2]; grind)
  · refine ⟨a, ha, a, ha, h1, by omega, ?_⟩
    unfold pairPrice
    rw [if_neg (by omega), if_neg (by omega)]
    exact rat_eq hD (by omega) (by rw [h.2]; grind)
/-- The reference's answer is the cheapest price. -/
theorem Cheap.ref {xs : List (Int × Int)} {t N D : Int} (h : Cheap xs t N D) : cheapestOf xs t = some (rat N D) := by
  obtain ⟨h1, h2⟩ := cheapest_best xs t
  have hc := wit_cand h.pos h.wit
  cases he : cheapestOf xs t with
  | none => exact absurd hc (h1 he _)
  | some y =>
    obtain ⟨⟨a, ha, b, hb, hy⟩, hmin⟩ := h2 y he
    obtain ⟨N', D', hD', hw, rfl⟩ := cand_wit ha hb hy
    have e1 := Cheap.le h.low h.pos hw hD' fun _ h => h
    have e2 := hmin _ hc
    rw [less_rat h.pos hD'] at e2
    have e2 := of_decide_eq_false e2
    rw [rat_eq hD' h.pos (show N' * D = N * D' by omega)]
/-- A sharpness between those of two lots. -/
def Had (xs : List (Int × Int)) (t : Int) : Prop := ∃ a ∈ xs, ∃ b ∈ xs, a.1 ≤ t ∧ t ≤ b.1
theorem Wit.had {xs : List (Int × Int)} {t N D : Int} (h : Wit xs t N D) : Had xs t := by
  obtain ⟨a, ha, b, hb, h1, h2, _⟩ := h
  exact ⟨a, ha, b, hb, h1, h2⟩
theorem ref_none {xs : List (Int × Int)} {t : Int} : cheapestOf xs t = none ↔ ¬ Had xs t := by
  obtain ⟨h1, h2⟩ := cheapest_best xs t
  constructor
  · rintro he ⟨a, ha, b, hb, h3, h4⟩
    exact h1 he _ ⟨a, ha, b, hb, h3, h4, rfl⟩
  · intro h
    cases he : cheapestOf xs t with
    | none => rfl
    | some y =>
      obtain ⟨⟨a, ha, b, hb, h3, h4, _⟩, _⟩ := h2 y he
      exact absurd ⟨a, ha, b, hb, h3, h4⟩ h
/-! ## What the program hands back is what the reference does: prices -/
/-- Lay theorems by their runs: the ends of the chain. -/
theorem Good.ends {xs : List (Int × Int)} (h : Good xs) {p : Int × Int} (hp : p ∈ xs) : (∃ c, (chainOf xs).head? = some c ∧ c.1 ≤ p.1) ∧ ∃ d ∈ chainOf xs, p.1 ≤ d.1 := by
  obtain ⟨j, hj, rfl⟩ := mem_lotAt hp
  have h1 := not_lotBad.1 (h.lot j hj)
  have h2 := leastUpto_le h.lot xs.length (Nat.le_refl _) j hj
  obtain ⟨⟨c, hc, hct⟩, d, hd, hdt⟩ := chain_ends (leastOf xs) (firstUpto xs xs.length) 101 (lotAt xs j).1.toNat (by omega) (by unfold leastOf; omega)
  refine ⟨⟨c, ?_, by omega⟩, d, List.mem_reverse.2 hd, by omega⟩
  unfold chainOf
  rw [List.head?_reverse]
  exact hc
theorem Good.had {xs : List (Int × Int)} (h : Good xs) {t : Int} (hh : Had xs t) : ∃ m, mixScan t none (chainOf xs) = some m := by
  obtain ⟨a, ha, b, hb, h1, h2⟩ := hh
  obtain ⟨⟨c, hc, hct⟩, _⟩ := h.ends ha
  obtain ⟨_, d, hd, hdt⟩ := h.ends hb
  exact mixScan_some _ none ⟨d, hd, by omega⟩ (.inr ⟨c, hc, by omega⟩)
theorem Good.mix_none {xs : List (Int × Int)} (h : Good xs) {t : Int} : mixScan t none (chainOf xs) = none ↔ ¬ Had xs t := by
  constructor
  · intro h1 h2
    obtain ⟨m, hm⟩ := h.had h2
    rw [h1] at hm; cases hm
  · intro h1
    cases hm : mixScan t none (chainOf xs) with
    | none => rfl
    | some m => exact absurd (h.mixIs hm).cheap.wit.had h1
theorem sharped_good {xs : List (Int × Int)} {t : Int} (h : ¬ sharped xs t ≠ 0) : Good xs ∧ 0 ≤ t ∧ t ≤ 100 := by
  obtain ⟨h1, h2⟩ := sharped_zero (show sharped xs t = 0 by simpa using h)
  exact ⟨Good.of h1, h2⟩
theorem cheapest_eq (xs : List (Int × Int)) (t : Int) : cheapestP xs t = refCheapest xs t := by
  unfold cheapestP refCheapest
  rw [openErr_sharped]
  split
  · rfl
  · rename_i hs
    obtain ⟨hg, ht⟩ := sharped_good hs
    cases hm : mixScan t none (chainOf xs) with
    | none => rw [ref_none.2 (hg.mix_none.1 hm)]
    | some m => rw [(hg.mixIs hm).cheap.ref]; rfl
/-! ### the price at least -/
structure LeastIs (xs : List (Int × Int)) (t N D : Int) : Prop where
  pos : 0 < D
  wit : (∃ c ∈ xs, t ≤ c.1 ∧ N = D * c.2) ∨ Wit xs t N D
  low : ∃ d s k, 0 < d ∧ 0 ≤ k ∧ LineBelow d s k xs ∧ (s + k * t) * D = N * d
theorem least_weak {xs : List (Int × Int)} {t N D d s k : Int} (h : (∃ c ∈ xs, t ≤ c.1 ∧ N = D * c.2) ∨ Wit xs t N D) (hD : 0 < D) (hk : 0 ≤ k) (hl : LineBelow d s k xs) : (s + k * t) * D ≤ N * d := by
  rcases h with ⟨c, hc, h1, rfl⟩ | h
  · have h2 := hl c hc
    have m1 := Int.mul_le_mul_of_nonneg_left h1 hk
    have m2 := Int.mul_le_mul_of_nonneg_left (show s + k * t ≤ c.2 * d by omega) (Int.le_of_lt hD)
    grind
  · exact h.weak hD hl
theorem LeastIs.le {xs ys : List (Int × Int)} {t N D N' D' : Int} (h : LeastIs xs t N D) (h' : (∃ c ∈ ys, t ≤ c.1 ∧ N' = D' * c.2) ∨ Wit ys t N' D') (hD' : 0 < D') (hs : ∀ p ∈ ys, p ∈ xs) : N * D' ≤ N' * D := by
  obtain ⟨d, s, k, hd, hk, hl, he⟩ := h.low
  have h1 := least_weak h' hD' hk (fun p hp => hl p (hs p hp))
  refine le_of_mul (x := d) hd ?_
  have m := Int.mul_le_mul_of_nonneg_left h1 (Int.le_of_lt h.pos)
  have e1 : d * (N * D') = D * ((s + k * t) * D') := by grind
  have e2 : d * (N' * D) = D * (N' * d) := by grind
  omega
theorem LeastIs.eq {xs : List (Int × Int)} {t N D N' D' : Int} (h : LeastIs xs t N D) (h' : LeastIs xs t N' D') : N * D' = N' * D := by
  have h1 := h.le h'.wit h'.pos fun _ h => h
  have h2 := h'.le h.wit h.pos fun _ h => h
  omega
theorem rat_pos {N D : Int} (hD : 0 < D) : 0 < (rat N D).2 := by
  obtain ⟨g, hg, h1, h2, h3⟩ := rat_spec N D hD
  exact h3
theorem atLeast_best (xs : List (Int × Int)) (t : Int) : ∀ k, BestIs (fun x => (∃ a ∈ xs, ∃ b ∈ xs, CandP t a b x) ∨ ∃ j, j < k ∧ t ≤ (lotAt xs j).1 ∧ x = rat (lotAt xs j).2 1) (atLeastUpto xs t k) := by
  intro k
  induction k with
  | zero => exact (cheapest_best xs t).congr fun x => ⟨.inl, fun h => h.resolve_right fun ⟨j, hj, _⟩ => by omega⟩
  | succ k ih =>
    simp only [atLeastUpto]
    split
    · rename_i hk
      refine (ih.add (fun x hx => ?_) (x := rat (lotAt xs k).2 1) (rat_pos (by omega))).congr fun x => ?_
      · rcases hx with ⟨_, _, _, _, _, _, rfl⟩ | ⟨_, _, _, rfl⟩
        · exact pairPrice_pos
        · exact rat_pos (by omega)
      · constructor
        · rintro ((h | ⟨j, hj, h⟩) | rfl)
          · exact .inl h
          · exact .inr ⟨j, by omega, h⟩
          · exact .inr ⟨k, by omega, hk, rfl⟩
        · rintro (h | ⟨j, hj, h⟩)
          · exact .inl (.inl h)
          · by_cases e : j = k
            · subst e; exact .inr h.2
            · exact .inl (.inr ⟨j, by omega, h⟩)
    · rename_i hk
      refine ih.congr fun x => ?_
      constructor
      · rintro (h | ⟨j, hj, h⟩)
        · exact .inl h
        · exact .inr ⟨j, by omega, h⟩
      · rintro (h | ⟨j, hj, h⟩)
        · exact .inl h
        · by_cases e : j = k
          · subst e; exact absurd h.1 hk
          · exact .inr ⟨j, by omega, h⟩
theorem LeastIs.ref {xs : List (Int × Int)} {t N D : Int} (h : LeastIs xs t N D) : atLeastUpto xs t xs.length = some (rat N D) := by
  obtain ⟨h1, h2⟩ := atLeast_best xs t xs.length
  have hc : (∃ a ∈ xs, ∃ b ∈ xs, CandP t a b (rat N D)) ∨ ∃ j, j < xs.length ∧ t ≤ (lotAt xs j).1 ∧ rat N D = rat (lotAt xs j).2 1 := by
    rcases h.wit with ⟨c, hc, hct, hN⟩ | hw
    · obtain ⟨j, hj, rfl⟩ := mem_lotAt hc
      exact .inr ⟨j, hj, hct, rat_eq h.pos (by omega) (by rw [hN]; grind)⟩
    · exact .inl (wit_cand h.pos hw)
  cases he : atLeastUpto xs t xs.length with
  | none => exact absurd hc (h1 he _)
  | some y =>
    obtain ⟨hy, hmin⟩ := h2 y he
    obtain ⟨N', D', hD', hw, rfl⟩ : ∃ N' D', 0 < D' ∧ ((∃ c ∈ xs, t ≤ c.1 ∧ N' = D' * c.2) ∨ Wit xs t N' D') ∧ y = rat N' D' := by
      rcases hy with ⟨a, ha, b, hb, hy⟩ | ⟨j, hj, hjt, rfl⟩
      · obtain ⟨N', D', hD', hw, e⟩ := cand_wit ha hb hy
        exact ⟨N', D', hD', .inr hw, e⟩
      · exact ⟨_, _, (by omega : (0 : Int) < 1), .inl ⟨_, lotAt_mem hj, hjt, by omega⟩, rfl⟩
    have e1 := h.le hw hD' fun _ h => h
    have e2 := hmin _ hc
    rw [less_rat h.pos hD'] at e2
    have e2 := of_decide_eq_false e2
    rw [rat_eq hD' h.pos (show N' * D = N * D' by omega)]
theorem least_none {xs : List (Int × Int)} {t : Int} : atLeastUpto xs t xs.length = none ↔ ∀ c ∈ xs, c.1 < t := by
  obtain ⟨h1, h2⟩ := atLeast_best xs t xs.length
  constructor
  · intro he c hc
    rcases Int.lt_or_le c.1 t with h | h
    · exact h
    · obtain ⟨j, hj, rfl⟩ := mem_lotAt hc
      exact absurd (.inr ⟨j, hj, h, rfl⟩) (h1 he (rat (lotAt xs j).2 1))
  · intro h
    cases he : atLeastUpto xs t xs.length with
    | none => rfl
    | some y =>
      obtain ⟨⟨_, _, b, hb, _, h3, _⟩ | ⟨j, hj, h3, _⟩, _⟩ := h2 y he
      · have := h b hb; omega
      · have := h _ (lotAt_mem hj); omega
theorem bestOf_le : ∀ (l : List Corner) (o : Corner), (bestOf o l).2.1 ≤ o.2.1 ∧ ∀ c ∈ l, (bestOf o l).2.1 ≤ c.2.1 := by
  intro l
  induction l with
  | nil => intro o; exact ⟨Int.le_refl _, fun c hc => by cases hc⟩
  | cons x l ih =>
    intro o
    simp only [bestOf]
    obtain ⟨h1, h2⟩ := ih (if x.2.1 < o.2.1 then x else o)
    split at h1
    · rename_i hx
      rw [if_pos hx] at h2 ⊢
      refine ⟨by omega, fun c hc => ?_⟩
      rcases List.mem_cons.1 hc with rfl | hc
      · exact h1
      · exact h2 c hc
    · rename_i hx
      rw [if_neg hx] at h2 ⊢
      refine ⟨h1, fun c hc => ?_⟩
      rcases List.mem_cons.1 hc with rfl | hc
      · omega
      · exact h2 c hc
theorem Good.cheap_le {xs : List (Int × Int)} (h : Good xs) : ∀ c ∈ chainOf xs, (cheapC xs).2.1 ≤ c.2.1 := by
  have hc := h.chain
  unfold cheapC
  cases hl : chainOf xs with
  | nil => rw [hl] at hc; simp at hc
  | cons c l =>
    obtain ⟨h1, h2⟩ := bestOf_le l c
    intro d hd
    rcases List.mem_cons.1 hd with rfl | hd
    · simpa using h1
    · simpa using h2 d hd
theorem Good.flat {xs : List (Int × Int)} (h : Good xs) : LineBelow 1 (cheapC xs).2.1 0 xs := fun p hp => h.hull.dom p hp 1 _ 0 (by omega) fun q hq => by
  obtain ⟨c, hc, rfl⟩ := List.mem_map.1 hq
  have := h.cheap_le c hc
  unfold pt; dsimp only; omega
theorem mixScan_corner : ∀ (l : List Corner) (la : Option Corner) (c : Corner), l.Pairwise (fun a b => a.1 < b.1) → c ∈ l → mixScan c.1 la l = some (c, c, 1, 0) := by
  intro l
  induction l with
  | nil => intro la c _ hc; cases hc
  | cons d l ih =>
    intro la c hs hc
    unfold mixScan
    rcases List.mem_cons.1 hc with rfl | hc
    · rw [if_pos rfl]
    · have := (List.pairwise_cons.1 hs).1 c hc
      rw [if_neg (by omega), if_neg (by omega)]
      exact ih (some d) c (List.pairwise_cons.1 hs).2 hc
/-- The line that Floor hands back, and what it proves. -/
structure FloorIs (xs : List (Int × Int)) (t : Int) (m : MixT) (o : Int × Int × Int) : Prop where
  least : LeastIs xs t (m.1.2.1 * m.2.2.1 + m.2.1.2.1 * m.2.2.2) (m.2.2.1 + m.2.2.2)
  line : 1 ≤ o.1 ∧ o.1 ≤ 100 ∧ -200000 ≤ o.2.1 ∧ o.2.1 ≤ 200000 ∧ 0 ≤ o.2.2 ∧ o.2.2 ≤ 1000
  below : LineBelow o.1 o.2.1 o.2.2 xs
  val : (o.2.1 + o.2.2 * t) * (m.2.2.1 + m.2.2.2) = (m.1.2.1 * m.2.2.1 + m.2.1.2.1 * m.2.2.2) * o.1
def floorO (xs : List (Int × Int)) (t : Int) (m : MixT) : Int × Int × Int := if t < riseOf xs t ∨ riseOf xs t = riseOf xs 0 then (1, m.1.2.1, 0) else lineOf xs (riseOf xs t)
theorem Good.floorIs {xs : List (Int × Int)} (h : Good xs) {t : Int} (ht : 0 ≤ t) {m : MixT} (hm : mixScan (riseOf xs t) none (chainOf xs) = some m) : FloorIs xs t m (floorO xs t m) := by
  have hc := h.cheap
  have hcl := h.hull.lot_mem hc
  have hcm := h.mem hcl
  have hflat := h.flat
  have hcle := h.cheap_le
  have hr0 : riseOf xs 0 = (cheapC xs).1 := by
    unfold riseOf
    unfold pt at hcm; dsimp only at hcm
    omega
  by_cases hle : t ≤ (cheapC xs).1
  · have hr : riseOf xs t = (cheapC xs).1 := by unfold riseOf; omega
    rw [hr, mixScan_corner _ _ _ h.hull.sorted hc] at hm
    cases hm
    unfold floorO
    rw [if_pos (.inr (by rw [hr, hr0]))]
    generalize cheapC xs = c at *
    unfold pt at hcl hcm
    dsimp only at hcm
    refine ⟨⟨by dsimp only; omega, .inl ⟨_, hcl, hle, by dsimp only; omega⟩, 1, c.2.1, 0, by omega, by omega, hflat, by dsimp only; omega⟩, by dsimp only; omega, hflat, by dsimp only; omega⟩
  · have hr : riseOf xs t = t := by unfold riseOf; omega
    rw [hr] at hm
    have hI := h.mixIs hm
    unfold floorO
    rw [if_neg (by rw [hr, hr0]; omega), hr]
    have hk : 0 ≤ (lineOf xs t).2.2 := by
      have h1 := hI.below _ hcl
      have h2 := hI.val
      have h3 := hI.parts
      have m1 := Int.mul_le_mul_of_nonneg_right (hcle _ hI.one) h3.1
      have m2 := Int.mul_le_mul_of_nonneg_right (hcle _ hI.two) h3.2.2.1
      have hl := hI.line
      generalize lineOf xs t = o at *
      obtain ⟨d, s, k⟩ := o
      generalize cheapC xs = c at *
      obtain ⟨a, b, p, q⟩ := m
      unfold pt at h1
      dsimp only at *
      rcases Int.lt_or_le k 0 with hk | hk
      · have g1 : c.2.1 * d ≤ s + k * t := by
          refine le_of_mul (x := p + q) (by omega) ?_
          have m3 := Int.mul_le_mul_of_nonneg_right (show c.2.1 * (p + q) ≤ a.2.1 * p + b.2.1 * q by rw [Int.mul_add]; omega) (show 0 ≤ d by omega)
          grind
        have g2 := Int.mul_lt_mul_of_neg_left (show c.1 < t by omega) hk
        omega
      · exact hk
    refine ⟨⟨by have := hI.parts; omega, .inr hI.cheap.wit, _, _, _, by have := hI.line; omega, hk, hI.below, hI.val⟩, by have := hI.line; omega, hI.below, hI.val⟩
theorem Good.rise_none {xs : List (Int × Int)} (h : Good xs) {t : Int} (hm : mixScan (riseOf xs t) none (chainOf xs) = none) : ∀ c ∈ xs, c.1 < t := by
  have hc := h.cheap
  have hcl := h.hull.lot_mem hc
  by_cases hle : t ≤ (cheapC xs).1
  · have hr : riseOf xs t = (cheapC xs).1 := by unfold riseOf; omega
    rw [hr, mixScan_corner _ _ _ h.hull.sorted hc] at hm
    cases hm
  · have hr : riseOf xs t = t := by unfold riseOf; omega
    rw [hr] at hm
    intro c hcx
    rcases Int.lt_or_le c.1 t with h1 | h1
    · exact h1
    · exact absurd ⟨_, hcl, c, hcx, by unfold pt; dsimp only; omega, h1⟩ (h.mix_none.1 hm)
theorem atLeast_eq (xs : List (Int × Int)) (t : Int) : atLeastP xs t = refAtLeast xs t := by
  unfold atLeastP refAtLeast
  rw [openErr_sharped]
  split
  · rfl
  · rename_i hs
    obtain ⟨hg, ht⟩ := sharped_good hs
    cases hm : mixScan (riseOf xs t) none (chainOf xs) with
    | none => rw [least_none.2 (hg.rise_none hm)]
    | some m => rw [(hg.floorIs ht.1 hm).least.ref]; rfl
end Go.Proofs.Ytfjnnegaljfkgaa
