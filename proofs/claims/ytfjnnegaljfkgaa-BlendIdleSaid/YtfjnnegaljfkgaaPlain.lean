/- Layer 3, blends: The plain functions of layer 3: lemmas for the rows of this seat. No conditions. -/
import Derived.WalkKit
import Derived.WalkSpells
import Derived.WalkLawsBesides
import Derived.Lib.Hide
import Derived.Deep.AppendLies
import Derived.Deep.Draws
import Derived.Maps.AppendAt
import Derived.RegionTactic
import Derived.OwnWalk
import Derived.Deep.QuietTactic
import Derived.BigQuiet
import Derived.Deep.DeepFit
import Derived.Deep.LoopGhost
import Derived.Deep.DeepMust
import Derived.Deep.DeepCutAuto
import Derived.StillTail
import Derived.Deep.Quiet
import Derived.Deep.RegionHeld3
import Derived.Deep.RegionWith
import Derived.Deep.RegionLaw
import Derived.Maps.OwnOps
import Derived.Maps.OwnSet
import Derived.Maps.OwnRows
import Derived.Maps.RangeWalk
import Derived.Carry
import Derived.Test.YtfjnnegaljfkgaaBase
set_option linter.all false
namespace Go.Proofs.Ytfjnnegaljfkgaa
open Go.RowKit
/-! ## The plain functions of layer 3 -/
/-- A fraction in least terms. -/
def rat (n d : Int) : Int × Int := (n / (Int.gcd n d : Int), d / (Int.gcd n d : Int))
def less (a b : Int × Int) : Bool := decide (a.1 * b.2 < b.1 * a.2)
def lotBad (p : Int × Int) : Bool := decide (p.1 < 0 ∨ 100 < p.1 ∨ p.2 < 0 ∨ 1000 < p.2)
def checkLots (xs : List (Int × Int)) : Int := if xs.length < 1 ∨ 8 < xs.length then 6 else if xs.any lotBad then 3 else 0
def isLine (d s t : Int) : Bool := decide (1 ≤ d ∧ d ≤ 100 ∧ -1048576 ≤ s ∧ s ≤ 1048576 ∧ -1048576 ≤ t ∧ t ≤ 1048576)
def sharped (xs : List (Int × Int)) (t : Int) : Int := if checkLots xs ≠ 0 then checkLots xs else if t < 0 ∨ 100 < t then 3 else 0
theorem not_lotBad {p : Int × Int} : lotBad p = false ↔ 0 ≤ p.1 ∧ p.1 ≤ 100 ∧ 0 ≤ p.2 ∧ p.2 ≤ 1000 := by
  simp [lotBad]
theorem any_of {α : Type} (p : α → Bool) (xs : List α) (k : Nat) (d : α) (hk : k < xs.length) (h : p (xs[k]?.getD d) = true) : xs.any p = true := by
  rw [List.any_eq_true]
  exact ⟨xs[k], List.getElem_mem hk, by simpa [List.getElem?_eq_getElem hk] using h⟩
theorem any_not {α : Type} (p : α → Bool) (xs : List α) (d : α) (h : ∀ j, j < xs.length → p (xs[j]?.getD d) = false) : xs.any p = false := by
  rw [List.any_eq_false]
  intro x hx
  obtain ⟨j, hj, rfl⟩ := List.mem_iff_getElem.1 hx
  have := h j hj
  rw [List.getElem?_eq_getElem hj] at this
  simpa using this
def partBad (n : Int) : Bool := decide (n < 0 ∨ 1000 < n)
def allUpto (ps : List Int) : Nat → Int
  | 0 => 0
  | k + 1 => allUpto ps k + ps[k]?.getD 0
def sharpUpto (xs : List (Int × Int)) (ps : List Int) : Nat → Int
  | 0 => 0
  | k + 1 => sharpUpto xs ps k + ps[k]?.getD 0 * (xs[k]?.getD (0, 0)).1
def priceUpto (xs : List (Int × Int)) (ps : List Int) : Nat → Int
  | 0 => 0
  | k + 1 => priceUpto xs ps k + ps[k]?.getD 0 * (xs[k]?.getD (0, 0)).2
def checkBlend (xs : List (Int × Int)) (ps : List Int) : (Int × Int) × (Int × Int) × Int :=
  if checkLots xs ≠ 0 then ((0, 0), (0, 0), checkLots xs)
  else if ps.length ≠ xs.length then ((0, 0), (0, 0), 15)
  else if ps.any partBad then ((0, 0), (0, 0), 3)
  else if allUpto ps ps.length = 0 then ((0, 0), (0, 0), 6)
  else (rat (sharpUpto xs ps ps.length) (allUpto ps ps.length), rat (priceUpto xs ps ps.length) (allUpto ps ps.length), 0)

theorem checkLots_zero {xs : List (Int × Int)} (h : checkLots xs = 0) : 1 ≤ xs.length ∧ xs.length ≤ 8 ∧ ∀ j, j < xs.length → lotBad (xs[j]?.getD (0, 0)) = false := by
  unfold checkLots at h
  split at h
  · omega
  · split at h
    · omega
    · rename_i h1 h2
      refine ⟨by omega, by omega, fun j hj => ?_⟩
      cases hb : lotBad (xs[j]?.getD (0, 0))
      · rfl
      · exact absurd (any_of lotBad xs j (0, 0) hj hb) h2
theorem partBad_no {n : Int} : partBad n = false ↔ 0 ≤ n ∧ n ≤ 1000 := by simp [partBad]
theorem mul_mono {a b A B : Int} (h1 : 0 ≤ a) (h2 : a ≤ A) (h3 : 0 ≤ b) (h4 : b ≤ B) : 0 ≤ a * b ∧ a * b ≤ A * B :=
  ⟨Int.mul_nonneg h1 h3, Int.mul_le_mul h2 h4 h3 (by omega)⟩
theorem allUpto_bd (ps : List Int) (n : Nat) (h : ∀ j, j < n → partBad (ps[j]?.getD 0) = false) : ∀ k, k ≤ n → 0 ≤ allUpto ps k ∧ allUpto ps k ≤ k * 1000 := by
  intro k
  induction k with
  | zero => intro _; simp [allUpto]
  | succ k ih =>
    intro hk
    have := ih (by omega)
    have h1 := partBad_no.1 (h k (by omega))
    simp only [allUpto]
    omega
theorem sharpUpto_bd (xs : List (Int × Int)) (ps : List Int) (n : Nat) (hx : ∀ j, j < n → lotBad (xs[j]?.getD (0, 0)) = false) (h : ∀ j, j < n → partBad (ps[j]?.getD 0) = false) : ∀ k, k ≤ n → 0 ≤ sharpUpto xs ps k ∧ sharpUpto xs ps k ≤ k * 100000 := by
  intro k
  induction k with
  | zero => intro _; simp [sharpUpto]
  | succ k ih =>
    intro hk
    have := ih (by omega)
    have h1 := partBad_no.1 (h k (by omega))
    have h2 := not_lotBad.1 (hx k (by omega))
    have h3 := mul_mono h1.1 h1.2 h2.1 h2.2.1
    simp only [sharpUpto]
    omega
theorem priceUpto_bd (xs : List (Int × Int)) (ps : List Int) (n : Nat) (hx : ∀ j, j < n → lotBad (xs[j]?.getD (0, 0)) = false) (h : ∀ j, j < n → partBad (ps[j]?.getD 0) = false) : ∀ k, k ≤ n → 0 ≤ priceUpto xs ps k ∧ priceUpto xs ps k ≤ k * 1000000 := by
  intro k
  induction k with
  | zero => intro _; simp [priceUpto]
  | succ k ih =>
    intro hk
    have := ih (by omega)
    have h1 := partBad_no.1 (h k (by omega))
    have h2 := not_lotBad.1 (hx k (by omega))
    have h3 := mul_mono h1.1 h1.2 h2.2.2.1 h2.2.2.2
    simp only [priceUpto]
    omega
/-! ### the cheapest price, by all pairs -/
def lotAt (xs : List (Int × Int)) (k : Nat) : Int × Int := xs[k]?.getD (0, 0)
def pairPrice (a b : Int × Int) (t : Int) : Int × Int :=
  if a.1 < b.1 then rat (a.2 * (b.1 - t) + b.2 * (t - a.1)) (b.1 - a.1) else if b.2 < a.2 then rat b.2 1 else rat a.2 1
def better (st : Option (Int × Int)) (x : Int × Int) : Option (Int × Int) :=
  match st with
  | none => some x
  | some y => if less x y then some x else some y
def cstep (a b : Int × Int) (t : Int) (st : Option (Int × Int)) : Option (Int × Int) :=
  if t < a.1 ∨ b.1 < t then st else better st (pairPrice a b t)
def cinner (xs : List (Int × Int)) (t : Int) (i : Nat) (st : Option (Int × Int)) : Nat → Option (Int × Int)
  | 0 => st
  | k + 1 => cstep (lotAt xs i) (lotAt xs k) t (cinner xs t i st k)
def couter (xs : List (Int × Int)) (t : Int) : Nat → Option (Int × Int)
  | 0 => none
  | i + 1 => cinner xs t i (couter xs t i) xs.length
def cheapestOf (xs : List (Int × Int)) (t : Int) : Option (Int × Int) := couter xs t xs.length

theorem rat_bd (n d : Int) (hd : 1 ≤ d) : 1 ≤ (rat n d).2 ∧ (rat n d).2 ≤ d ∧ -(n.natAbs : Int) ≤ (rat n d).1 ∧ (rat n d).1 ≤ n.natAbs := by
  have hgp : 0 < Int.gcd n d := Int.gcd_pos_of_ne_zero_right _ (by omega)
  obtain ⟨k, hk⟩ := Int.gcd_dvd_left n d
  obtain ⟨m, hm⟩ := Int.gcd_dvd_right n d
  have e1 : (rat n d).1 = k := by
    exact Int.ediv_eq_of_eq_mul_right (by omega) hk
  have e2 : (rat n d).2 = m := by
    exact Int.ediv_eq_of_eq_mul_right (by omega) hm
  rw [e1, e2]
  generalize Int.gcd n d = G at *
  have hG : (1 : Int) ≤ G := by omega
  have hm1 : 1 ≤ m := by
    rcases Int.lt_or_le m 1 with h | h
    · have : (G : Int) * m ≤ 0 := Int.mul_nonpos_of_nonneg_of_nonpos (by omega) (by omega)
      omega
    · exact h
  have h2 : m ≤ (G : Int) * m := by
    have := Int.mul_le_mul_of_nonneg_right hG (by omega : 0 ≤ m); omega
  have h3 : (k.natAbs : Int) ≤ n.natAbs := by
    have : n.natAbs = G * k.natAbs := by rw [hk, Int.natAbs_mul]; simp
    have h4 : k.natAbs ≤ G * k.natAbs := Nat.le_mul_of_pos_left _ hgp
    omega
  omega
def refCheapest (xs : List (Int × Int)) (t : Int) : (Int × Int) × Int :=
  if sharped xs t ≠ 0 then ((0, 0), sharped xs t) else match cheapestOf xs t with
    | none => ((0, 0), 19)
    | some x => (x, 0)
def atLeastUpto (xs : List (Int × Int)) (t : Int) : Nat → Option (Int × Int)
  | 0 => cheapestOf xs t
  | k + 1 => if t ≤ (lotAt xs k).1 then better (atLeastUpto xs t k) (rat (lotAt xs k).2 1) else atLeastUpto xs t k
def refAtLeast (xs : List (Int × Int)) (t : Int) : (Int × Int) × Int :=
  if sharped xs t ≠ 0 then ((0, 0), sharped xs t) else match atLeastUpto xs t xs.length with
    | none => ((0, 0), 19)
    | some x => (x, 0)
/-- The line lies above a lot. -/
def above (d s st : Int) (p : Int × Int) : Bool := decide (p.2 * d < s + st * p.1)
def refCheckLine (xs : List (Int × Int)) (d s st : Int) (t : Int) : (Int × Int) × Int :=
  if sharped xs t ≠ 0 then ((0, 0), sharped xs t) else if isLine d s st = false then ((0, 0), 3) else if xs.any (above d s st) then ((0, 0), 16) else (rat (s + st * t) d, 0)
theorem sharped_zero {xs : List (Int × Int)} {t : Int} (h : sharped xs t = 0) : checkLots xs = 0 ∧ 0 ≤ t ∧ t ≤ 100 := by
  unfold sharped at h
  split at h
  · rename_i h1; exact absurd h h1
  · split at h
    · omega
    · rename_i h1 h2; exact ⟨by simpa using h1, by omega, by omega⟩
theorem isLine_true {d s t : Int} (h : isLine d s t = true) : 1 ≤ d ∧ d ≤ 100 ∧ -1048576 ≤ s ∧ s ≤ 1048576 ∧ -1048576 ≤ t ∧ t ≤ 1048576 := of_decide_eq_true h
def neLot (l x : Int × Int) : Bool := !(decide (x.1 = l.1) && decide (x.2 = l.2))
def othersOf (xs : List (Int × Int)) (l : Int × Int) : List (Int × Int) := xs.filter (neLot l)
theorem neLot_true {l x : Int × Int} (h : x ≠ l) : neLot l x = true := by
  obtain ⟨a, b⟩ := l; obtain ⟨c, d⟩ := x
  simp only [neLot, ne_eq, Prod.mk.injEq, not_and] at *
  by_cases h1 : c = a
  · have := h h1; simp [this]
  · simp [h1]
theorem neLot_self (l : Int × Int) : neLot l l = false := by simp [neLot]
def isCornerTail (xs : List (Int × Int)) (l : Int × Int) : Bool :=
  decide ((cheapestOf xs l.1).getD (0, 0) = rat l.2 1) &&
    (match cheapestOf (othersOf xs l) l.1 with
    | none => true
    | some y => less ((cheapestOf xs l.1).getD (0, 0)) y)
def isCorner (xs : List (Int × Int)) (i : Nat) : Bool :=
  if (xs.take i).any (fun x => decide (x = lotAt xs i)) then false else isCornerTail xs (lotAt xs i)
theorem any_take {α : Type} (p : α → Bool) (xs : List α) (i k : Nat) (d : α) (hk : k < i) (hi : i ≤ xs.length) (h : p (xs[k]?.getD d) = true) : (xs.take i).any p = true := by
  refine any_of p (xs.take i) k d (by simp; omega) ?_
  rw [List.getElem?_take_of_lt hk]
  exact h
theorem any_take_not {α : Type} (p : α → Bool) (xs : List α) (i : Nat) (d : α) (hi : i ≤ xs.length) (h : ∀ j, j < i → p (xs[j]?.getD d) = false) : (xs.take i).any p = false := by
  refine any_not p (xs.take i) d fun j hj => ?_
  have hj' : j < i := by simp at hj; omega
  rw [List.getElem?_take_of_lt hj']
  exact h j hj'
def idleAt (xs : List (Int × Int)) (i : Nat) : Bool := less ((cheapestOf xs (lotAt xs i).1).getD (0, 0)) (rat (lotAt xs i).2 1)
def idxs (p : Nat → Bool) (k : Nat) : List Int := ((List.range k).filter p).map Int.ofNat
def refIdle (xs : List (Int × Int)) : List Int × Int := if checkLots xs ≠ 0 then ([], checkLots xs) else (idxs (idleAt xs) xs.length, 0)
def cornerAt (xs : List (Int × Int)) (s : Nat) (i : Nat) : Bool := decide ((lotAt xs i).1 = s) && isCorner xs i
def cornersUpto (xs : List (Int × Int)) : Nat → List Int
  | 0 => []
  | s + 1 => cornersUpto xs s ++ idxs (cornerAt xs s) xs.length
def refCorners (xs : List (Int × Int)) : List Int × Int := if checkLots xs ≠ 0 then ([], checkLots xs) else (cornersUpto xs 101, 0)
theorem idxs_succ (p : Nat → Bool) (k : Nat) : idxs p (k + 1) = idxs p k ++ (if p k then [(k : Int)] else []) := by
  unfold idxs
  rw [List.range_succ, List.filter_append, List.map_append]
  by_cases h : p k <;> simp [h]
theorem idxs_length (p : Nat → Bool) (k : Nat) : (idxs p k).length ≤ k := by
  unfold idxs
  rw [List.length_map]
  exact Nat.le_trans (List.length_filter_le _ _) (by simp)
/-! ### the program's side -/
def badIn (lo hi : Int) (n : Int) : Bool := decide (n < lo) || decide (hi < n)
def within (lo hi : Int) (l : List Int) : Bool := !l.any (badIn lo hi)
theorem within_one (lo hi n : Int) : within lo hi [n] = (decide (lo ≤ n) && decide (n ≤ hi)) := by
  rw [Bool.eq_iff_iff]
  simp [within, badIn]
theorem lotBad_eq (s p : Int) : lotBad (s, p) = (!(decide (0 ≤ s) && decide (s ≤ 100)) || !(decide (0 ≤ p) && decide (p ≤ 1000))) := by
  rw [Bool.eq_iff_iff, lotBad]
  simp
  omega
/-! ### the shelf -/
abbrev Corner := Int × Int × Int
def leastStep (L : List Int) (p : Int × Int) : List Int := L.set p.1.toNat (min (L[p.1.toNat]?.getD 0) p.2)
def leastUpto (xs : List (Int × Int)) : Nat → List Int
  | 0 => List.replicate 101 1001
  | k + 1 => leastStep (leastUpto xs k) (lotAt xs k)
def leastOf (xs : List (Int × Int)) : List Int := leastUpto xs xs.length
def firstUpto (xs : List (Int × Int)) : Nat → List ((Int × Int) × Nat)
  | 0 => []
  | k + 1 => if (firstUpto xs k).any (fun p => decide (p.1 = lotAt xs k)) then firstUpto xs k else firstUpto xs k ++ [(lotAt xs k, k)]
def firstIn (F : List ((Int × Int) × Nat)) (l : Int × Int) : Nat := ((F.find? (fun p => decide (p.1 = l))).map (·.2)).getD 0
def belowC (a b c : Corner) : Bool := decide ((b.2.1 - a.2.1) * (c.1 - a.1) < (c.2.1 - a.2.1) * (b.1 - a.1))
/-- The corners so far, the last one first. -/
def popAll (c : Corner) : List Corner → List Corner
  | q :: p :: r => if belowC p q c then q :: p :: r else popAll c (p :: r)
  | s => s
def chainUpto (L : List Int) (F : List ((Int × Int) × Nat)) : Nat → List Corner
  | 0 => []
  | s + 1 => if L[s]?.getD 0 = 1001 then chainUpto L F s else ((s : Int), L[s]?.getD 0, (firstIn F ((s : Int), L[s]?.getD 0) : Int)) :: popAll ((s : Int), L[s]?.getD 0, (firstIn F ((s : Int), L[s]?.getD 0) : Int)) (chainUpto L F s)
def chainOf (xs : List (Int × Int)) : List Corner := (chainUpto (leastOf xs) (firstUpto xs xs.length) 101).reverse

theorem leastUpto_length (xs : List (Int × Int)) (k : Nat) : (leastUpto xs k).length = 101 := by
  induction k with
  | zero => simp [leastUpto]
  | succ k ih => simp [leastUpto, leastStep, ih]
theorem popAll_suffix (c : Corner) : ∀ s : List Corner, ∃ r, s = r ++ popAll c s := by
  intro s
  induction s with
  | nil => exact ⟨[], rfl⟩
  | cons q s ih =>
    cases s with
    | nil => exact ⟨[], rfl⟩
    | cons p r =>
      by_cases h : belowC p q c = true
      · exact ⟨[], by simp [popAll, h]⟩
      · obtain ⟨r', hr⟩ := ih
        exact ⟨q :: r', by simp only [popAll, h]; exact congrArg (List.cons q) hr⟩
theorem chainUpto_length (L : List Int) (F : List ((Int × Int) × Nat)) (s : Nat) : (chainUpto L F s).length ≤ s := by
  induction s with
  | zero => simp [chainUpto]
  | succ s ih =>
    unfold chainUpto
    split
    · omega
    · obtain ⟨r, hr⟩ := popAll_suffix ((s : Int), L[s]?.getD 0, (firstIn F ((s : Int), L[s]?.getD 0) : Int)) (chainUpto L F s)
      have := congrArg List.length hr
      simp at this
      simp
      omega
/-- All numbers of a shelf fit. -/
def okLeast (L : List Int) : Prop := ∀ t, t < 101 → 0 ≤ L[t]?.getD 0 ∧ L[t]?.getD 0 ≤ 1001
def okCorner (c : Corner) : Prop := 0 ≤ c.1 ∧ c.1 ≤ 100 ∧ 0 ≤ c.2.1 ∧ c.2.1 ≤ 1001
theorem okLeast_upto {xs : List (Int × Int)} (hg : ∀ j, j < xs.length → lotBad (lotAt xs j) = false) : ∀ k, k ≤ xs.length → okLeast (leastUpto xs k) := by
  intro k
  induction k with
  | zero =>
    intro _ t ht
    simp only [leastUpto]
    rw [List.getElem?_replicate, if_pos ht]
    simp
  | succ k ih =>
    intro hk t ht
    have h1 := not_lotBad.1 (hg k (by omega))
    have h2 := ih (by omega)
    simp only [leastUpto, leastStep]
    by_cases e : (lotAt xs k).1.toNat = t
    · subst e
      have h3 := h2 (lotAt xs k).1.toNat (by omega)
      rw [List.getElem?_set_self (by rw [leastUpto_length]; omega)]
      simp only [Option.getD_some]
      omega
    · rw [List.getElem?_set_ne e]
      exact h2 t ht
theorem okChain {L : List Int} {F : List ((Int × Int) × Nat)} (hL : okLeast L) : ∀ s, s ≤ 101 → ∀ c ∈ chainUpto L F s, okCorner c := by
  intro s
  induction s with
  | zero => intro _ c hc; cases hc
  | succ s ih =>
    intro hs c hc
    unfold chainUpto at hc
    split at hc
    · exact ih (by omega) c hc
    · rcases List.mem_cons.1 hc with rfl | hc
      · have := hL s (by omega)
        unfold okCorner
        dsimp only
        omega
      · obtain ⟨r, hr⟩ := popAll_suffix ((s : Int), L[s]?.getD 0, (firstIn F ((s : Int), L[s]?.getD 0) : Int)) (chainUpto L F s)
        exact ih (by omega) c (by rw [hr]; exact List.mem_append_right _ hc)

/-- The cells of corners. -/
def tripleCells : List Corner → List Value
  | [] => []
  | c :: l => .int .i64 c.1 :: .int .i64 c.2.1 :: .int .i64 c.2.2 :: tripleCells l
theorem tripleCells_length (l : List Corner) : (tripleCells l).length = l.length * 3 := by
  induction l with
  | nil => rfl
  | cons c l ih => simp [tripleCells, ih]; omega
theorem tripleCells_append (l m : List Corner) : tripleCells (l ++ m) = tripleCells l ++ tripleCells m := by
  induction l with
  | nil => rfl
  | cons c l ih => simp [tripleCells, ih]
theorem tripleCells_get (l : List Corner) (k : Nat) (hk : k < l.length) :
    (tripleCells l)[k * 3]? = some (.int .i64 (l[k]?.getD (0, 0, 0)).1) ∧ (tripleCells l)[k * 3 + 1]? = some (.int .i64 (l[k]?.getD (0, 0, 0)).2.1) ∧ (tripleCells l)[k * 3 + 2]? = some (.int .i64 (l[k]?.getD (0, 0, 0)).2.2) := by
  induction l generalizing k with
  | nil => simp at hk
  | cons c l ih =>
    cases k with
    | zero => simp [tripleCells]
    | succ k =>
      have := ih k (by simpa using hk)
      rw [show (k + 1) * 3 = k * 3 + 1 + 1 + 1 from by omega]
      simpa [tripleCells] using this
theorem triple_oneCell (l : List Corner) : ∀ u ∈ tripleCells l, u.oneCell' = true := by
  induction l with
  | nil => intro u hu; cases hu
  | cons c l ih =>
    intro u hu
    simp only [tripleCells, List.mem_cons] at hu
    rcases hu with rfl | rfl | rfl | hu
    · rfl
    · rfl
    · rfl
    · exact ih u hu

/-- The cells of a shelf: its lots, the least prices, its corners. -/
def shelfCells (v : Value) (L : List Int) (c : Value) : Array Value := (v :: (i64s L ++ [c])).toArray
theorem shelf_lots (v : Value) (L : List Int) (c : Value) : (shelfCells v L c)[0]? = some v := by simp [shelfCells]
theorem shelf_least (v : Value) (L : List Int) (c : Value) (i : Nat) (h : i < L.length) : (shelfCells v L c)[1 + i]? = some (.int .i64 (L[i]?.getD 0)) := by
  rw [Nat.add_comm]
  simp [shelfCells, i64s, List.getElem?_append, h]
theorem shelf_chain (v : Value) (L : List Int) (c : Value) (h : L.length = 101) : (shelfCells v L c)[102]? = some c := by
  simp [shelfCells, i64s, h]
theorem shelf_set (v : Value) (L : List Int) (c : Value) (i : Nat) (x : Int) (h : i < L.length) : (shelfCells v L c).setIfInBounds (1 + i) (.int .i64 x) = shelfCells v (L.set i x) c := by
  rw [Nat.add_comm]
  simp [shelfCells, i64s, h, List.map_set]
theorem shelf_set_chain (v : Value) (L : List Int) (c c' : Value) (h : L.length = 101) : (shelfCells v L c).setIfInBounds 102 c' = shelfCells v L c' := by
  simp [shelfCells, i64s, h]
end Go.Proofs.Ytfjnnegaljfkgaa
