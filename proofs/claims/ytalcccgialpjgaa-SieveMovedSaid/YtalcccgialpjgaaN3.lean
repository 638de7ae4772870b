/- Which numbers are a truth: lemmas for the rows of this seat. No conditions. -/
import Derived.Test.YtalcccgialpjgaaN2
import Derived.Test.YtalcccgialpjgaaP1
set_option linter.all false
namespace Go.Proofs.Ytalcccgialpjgaa
open Go.RowKit
/-! ## Which numbers are a truth -/
def nAt (L : List (List Int)) (i k : Nat) : Int := (L[i]?.getD [])[k]?.getD 0
def allB (n : Nat) (p : Nat → Bool) : Bool := (List.range n).all p
theorem allB_true {n : Nat} {p : Nat → Bool} : allB n p = true ↔ ∀ i, i < n → p i = true := by
 unfold allB
 rw [List.all_eq_true]
 exact ⟨fun h i hi => h i (List.mem_range.2 hi), fun h i hi => h i (List.mem_range.1 hi)⟩
theorem allB_false {n i : Nat} {p : Nat → Bool} (hi : i < n) (h : p i = false) : allB n p = false := by
 cases hb : allB n p with
 | false => rfl
 | true => rw [allB_true] at hb; rw [hb i hi] at h; cases h
def rowS (L : List (List Int)) (m i : Nat) : Int := sm (fun k => nAt L i k) m
def colS (L : List (List Int)) (n k : Nat) : Int := sm (fun i => nAt L i k) n
def chkTru (R C : List R2) (X : List (List R2)) (L : List (List Int)) : Int :=
 if chkTab R C X ≠ 0 then chkTab R C X
 else if L.length ≠ R.length then 15
 else if L.any (fun s => decide ((s.length : Int) ≠ C.length)) = true then 15
 else if allB R.length (fun i => allB C.length fun k => inR (xAt X i k) (nAt L i k)) = false then 3
 else if allB R.length (fun i => inR (rAt R i) (rowS L C.length i)) = false then 20
 else if allB C.length (fun k => inR (rAt C k) (colS L R.length k)) = false then 20
 else 0
theorem any_lenI (L : List (List Int)) (m : Nat) : L.any (fun s => decide ((s.length : Int) ≠ m)) = false ↔ ∀ s ∈ L, s.length = m := by
 rw [List.any_eq_false]
 constructor
 ·intro h s hs
  have := h s hs
  simp at this; omega
 ·intro h s hs
  have := h s hs
  simp; omega
section
variable {R C : List R2} {X : List (List R2)} {L : List (List Int)}
theorem truV (h : chkTab R C X = 0) (hl : L.length = R.length) (hs : ∀ s ∈ L, s.length = C.length) : chkTru R C X L = if allB R.length (fun i => allB C.length fun k => inR (xAt X i k) (nAt L i k)) = false then 3
 else if allB R.length (fun i => inR (rAt R i) (rowS L C.length i)) = false then 20
 else if allB C.length (fun k => inR (rAt C k) (colS L R.length k)) = false then 20
 else 0 := by
 unfold chkTru
 rw [if_neg (by omega), if_neg (by omega), if_neg (by rw [(any_lenI L _).2 hs]; simp)]
theorem tru15 (h : chkTab R C X = 0) (h2 : L.length ≠ R.length ∨ ∃ s ∈ L, s.length ≠ C.length) : chkTru R C X L = 15 := by
 unfold chkTru
 rw [if_neg (by omega)]
 split
 ·rfl
 ·rename_i h3
  rw [if_pos]
  rcases h2 with h2 | ⟨s, hs, h2⟩
  ·exact absurd h2 h3
  ·rw [List.any_eq_true]
   exact ⟨s, hs, by simp; omega⟩
theorem tru3 (h : chkTab R C X = 0) (hl : L.length = R.length) (hs : ∀ s ∈ L, s.length = C.length) {i k : Nat} (hi : i < R.length) (hk : k < C.length) (hb : inR (xAt X i k) (nAt L i k) = false) : chkTru R C X L = 3 := by
 rw [truV h hl hs, if_pos]
 exact allB_false hi (allB_false hk hb)
theorem tru20 (h : chkTab R C X = 0) (hl : L.length = R.length) (hs : ∀ s ∈ L, s.length = C.length) (hX : ∀ i k, i < R.length → k < C.length → inR (xAt X i k) (nAt L i k) = true)
  (h3 : (∃ i, i < R.length ∧ inR (rAt R i) (rowS L C.length i) = false) ∨ ∃ k, k < C.length ∧ inR (rAt C k) (colS L R.length k) = false) : chkTru R C X L = 20 := by
 rw [truV h hl hs, if_neg (by rw [allB_true.2 fun i hi => allB_true.2 fun k hk => hX i k hi hk]; simp)]
 split
 ·rfl
 ·rename_i h4
  rw [if_pos]
  rcases h3 with ⟨i, hi, hb⟩ | ⟨k, hk, hb⟩
  ·exact absurd (allB_false (p := fun i => inR (rAt R i) (rowS L C.length i)) hi hb) h4
  ·exact allB_false hk hb
theorem tru0 (h : chkTab R C X = 0) (hl : L.length = R.length) (hs : ∀ s ∈ L, s.length = C.length) (hX : ∀ i k, i < R.length → k < C.length → inR (xAt X i k) (nAt L i k) = true)
  (hR : ∀ i, i < R.length → inR (rAt R i) (rowS L C.length i) = true) (hC : ∀ k, k < C.length → inR (rAt C k) (colS L R.length k) = true) : chkTru R C X L = 0 := by
 rw [truV h hl hs, if_neg (by rw [allB_true.2 fun i hi => allB_true.2 fun k hk => hX i k hi hk]; simp), if_neg (by rw [allB_true.2 hR]; simp), if_neg (by rw [allB_true.2 hC]; simp)]
end
theorem num_cell {w : World} {nb no : Nat} {L : List (List Int)} (hN : NestR w 1 (some ⟨nb, no, none⟩) (nestI L)) {i k : Nat} (hi : i < L.length) (hk : k < L[i].length) :
  ∃ B2 o2 c', (∀ Ch, CellAt w Ch nb (no + i * 1) (.slice (some ⟨B2, o2, none⟩) L[i].length c')) ∧ ∀ Ch, CellAt w Ch B2 (o2 + k * 1) (.int .i64 (nAt L i k)) := by
 obtain ⟨b, o, he, B, c, h1, h2⟩ := nest_gen hN hi
 cases he
 obtain ⟨b2, o2, rfl, _⟩ := h2.2 (by omega)
 refine ⟨b2, o2, c, h1, fun Ch => ?_⟩
 have := int_cell h2 hk Ch
 unfold nAt
 rw [List.getElem?_eq_getElem hi, Option.getD_some]
 exact this
theorem inR_valid {R C : List R2} {X : List (List R2)} (h : Valid R C X) {i k : Nat} (hi : i < R.length) (hk : k < C.length) {n : Int} (hb : inR (xAt X i k) n = true) : 0 ≤ n ∧ n ≤ 12 := by
 have h1 := h.xr i k hi hk
 unfold inR at hb
 unfold rangeB at h1
 simp only [decide_eq_true_eq] at hb h1
 omega
end Go.Proofs.Ytalcccgialpjgaa
