/- Wider ranges, plainly: lemmas for the rows of this seat. No conditions. -/
import Derived.Test.YtalcccgialpjgaaN16
set_option linter.all false
namespace Go.Proofs.Ytalcccgialpjgaa
open Go.RowKit
/-! ## Wider ranges, plainly -/
section
variable {R C : List R2} {X : List (List R2)}
/-! ### Wider ranges -/
theorem RngP.wider {P P' : Int → Prop} {r s : R2} (h : RngP P r) (h' : RngP P' s) (hp : ∀ x, P x → P' x) : s.1 ≤ r.1 ∧ r.2 ≤ s.2 := ⟨(h'.all _ (hp _ h.lo)).1, (h'.all _ (hp _ h.hi)).2⟩
theorem RngP.moved {P P' : Int → Prop} {r s : R2} {d : Int} (h : RngP P r) (h' : RngP P' s) (hp : ∀ x, P x ↔ P' (x + d)) : s = (r.1 + d, r.2 + d) := by
 have h1 := h'.all _ ((hp _).1 h.lo)
 have h2 := h'.all _ ((hp _).1 h.hi)
 have h3 := h.all (s.1 - d) ((hp _).2 (by rw [show s.1 - d + d = s.1 by omega]; exact h'.lo))
 have h4 := h.all (s.2 - d) ((hp _).2 (by rw [show s.2 - d + d = s.2 by omega]; exact h'.hi))
 exact Prod.ext (by dsimp only; omega) (by dsimp only; omega)
theorem RngP.le {P : Int → Prop} {r : R2} (h : RngP P r) : r.1 ≤ r.2 := (h.all _ h.lo).2
theorem cellR_inP (hH : HasT R C X) {i k : Nat} (hi : i < R.length) (hk : k < C.length) : (xAt X i k).1 ≤ (cellR R C X i k).1 ∧ (cellR R C X i k).1 ≤ (cellR R C X i k).2 ∧ (cellR R C X i k).2 ≤ (xAt X i k).2 := by
 have hok := cellR_ok hH hi hk
 obtain ⟨f, hf, e1⟩ := hok.lo
 obtain ⟨f', hf', e2⟩ := hok.hi
 have := hf.x i k hi hk
 have := hf'.x i k hi hk
 have := hok.le
 omega
theorem isT_setX2 (hV : Valid R C X) {i k : Nat} (hi : i < R.length) (hk : k < C.length) {a b : Int} (ha : (xAt X i k).1 ≤ a) (hb : b ≤ (xAt X i k).2) (f : Nat → Nat → Int) : IsT R C (setX X i k (a, b)) f ↔ IsT R C X f ∧ a ≤ f i k ∧ f i k ≤ b := by
 have hxl := hV.x
 constructor
 ·intro h
  have h0 := h.x i k hi hk
  rw [setX_at _ hV.xs (by omega) hk, if_pos ⟨rfl, rfl⟩] at h0
  dsimp only at h0
  refine ⟨⟨fun a b ha hb => ?_, h.r, h.c⟩, by omega⟩
  have h1 := h.x a b ha hb
  rw [setX_at _ hV.xs (by omega) hk] at h1
  by_cases e : a = i ∧ b = k
  ·rw [e.1, e.2]; omega
  ·rwa [if_neg e] at h1
 ·rintro ⟨h, e⟩
  refine ⟨fun a b ha hb => ?_, h.r, h.c⟩
  rw [setX_at _ hV.xs (by omega) hk]
  split
  ·rename_i e'
   rw [e'.1, e'.2]; dsimp only; omega
  ·exact h.x a b ha hb
/-- Less than the least, or more than the greatest, is of no truth. -/
theorem out_no (hV : Valid R C X) (hH : HasT R C X) {i k : Nat} (hi : i < R.length) (hk : k < C.length) {a b : Int} (ha : (xAt X i k).1 ≤ a) (hb : b ≤ (xAt X i k).2) (h : b < (cellR R C X i k).1 ∨ (cellR R C X i k).2 < a) : ¬HasT R C (setX X i k (a, b)) := fun ⟨f, hf⟩ => by
 obtain ⟨h1, h2⟩ := (isT_setX2 hV hi hk ha hb f).1 hf
 have := (cellR_ok hH hi hk).all _ ⟨f, h1, rfl⟩
 omega
end
end Go.Proofs.Ytalcccgialpjgaa
