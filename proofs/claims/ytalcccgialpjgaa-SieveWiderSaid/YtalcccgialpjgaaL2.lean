/- A table around numbers, plainly: lemmas for the rows of this seat. No conditions. -/
import Derived.Test.YtalcccgialpjgaaN29
import Derived.Test.YtalcccgialpjgaaL1
set_option linter.all false
namespace Go.Proofs.Ytalcccgialpjgaa
open Go.RowKit
/-! ## A table around numbers, plainly -/
section
variable {R C : List R2} {X : List (List R2)}
theorem giv_fill (hV : Valid R C X) (by_ : List Int) : FillN R.length C.length (givL C.length X by_ R.length) :=
 ⟨givL_len _ _ _, givL_rows, fun i k hi hk => by have := giv_in hV by_ i k hi hk; have := hV.rX hi hk; omega⟩
/-! ### A table around numbers -/
def arR (R C : List R2) (L : List (List Int)) : List R2 := arS R (rowS L C.length) R.length
def arC (R C : List R2) (L : List (List Int)) : List R2 := arS C (colS L R.length) C.length
theorem arR_len (L : List (List Int)) : (arR R C L).length = R.length := arS_len _ _ _
theorem arC_len (L : List (List Int)) : (arC R C L).length = C.length := arS_len _ _ _
theorem mn_le (a b : Int) : mn a b ≤ a ∧ mn a b ≤ b ∧ (mn a b = a ∨ mn a b = b) := by unfold mn; split <;> omega
theorem le_mx (a b : Int) : a ≤ mx a b ∧ b ≤ mx a b ∧ (mx a b = a ∨ mx a b = b) := by unfold mx; split <;> omega
theorem ar_valid (hV : Valid R C X) {L : List (List Int)} (hX : ∀ i k, i < R.length → k < C.length → (xAt X i k).1 ≤ nAt L i k ∧ nAt L i k ≤ (xAt X i k).2) : Valid (arR R C L) (arC R C L) X := by
 have hn := hV.r4
 have hm := hV.c4
 refine ⟨by rw [arR_len]; exact hV.r1, by rw [arR_len]; exact hV.r4, by rw [arC_len]; exact hV.c1, by rw [arC_len]; exact hV.c4, by rw [arR_len]; exact hV.x, fun s hs => by rw [arC_len]; exact hV.xs s hs, fun i hi => ?_, fun k hk => ?_, fun i k hi hk => ?_⟩
 ·rw [arR_len] at hi
  have h0 := hV.rR hi
  have h1 : 0 ≤ rowS L C.length i := sm_nonneg fun k hk => by have := hX i k hi hk; have := hV.rX hi hk; omega
  have h2 : rowS L C.length i ≤ 12 * C.length := sm_bound fun k hk => by have := hX i k hi hk; have := hV.rX hi hk; omega
  unfold arR
  rw [arS_at _ _ _ (Nat.le_refl _), if_pos hi, rangeB_iff]
  have := mn_le (rowS L C.length i) (rAt R i).1
  have := le_mx (rowS L C.length i) (rAt R i).2
  dsimp only; omega
 ·rw [arC_len] at hk
  have h0 := hV.rC hk
  have h1 : 0 ≤ colS L R.length k := sm_nonneg fun i hi => by have := hX i k hi hk; have := hV.rX hi hk; omega
  have h2 : colS L R.length k ≤ 12 * R.length := sm_bound fun i hi => by have := hX i k hi hk; have := hV.rX hi hk; omega
  unfold arC
  rw [arS_at _ _ _ (Nat.le_refl _), if_pos hk, rangeB_iff]
  have := mn_le (colS L R.length k) (rAt C k).1
  have := le_mx (colS L R.length k) (rAt C k).2
  dsimp only; omega
 ·rw [arR_len] at hi; rw [arC_len] at hk
  exact hV.xr i k hi hk
theorem ar_isT {L : List (List Int)} (hX : ∀ i k, i < R.length → k < C.length → (xAt X i k).1 ≤ nAt L i k ∧ nAt L i k ≤ (xAt X i k).2) : IsT (arR R C L) (arC R C L) X (nAt L) := by
 refine ⟨fun i k hi hk => ?_, fun i hi => ?_, fun k hk => ?_⟩
 ·rw [arR_len] at hi; rw [arC_len] at hk
  exact hX i k hi hk
 ·rw [arR_len] at hi
  rw [arC_len]
  unfold arR
  rw [arS_at _ _ _ (Nat.le_refl _), if_pos hi]
  exact ⟨(mn_le _ _).1, (le_mx _ _).1⟩
 ·rw [arC_len] at hk
  rw [arR_len]
  unfold arC
  rw [arS_at _ _ _ (Nat.le_refl _), if_pos hk]
  exact ⟨(mn_le _ _).1, (le_mx _ _).1⟩
end
/-! ## Tables that a law makes -/
section
variable (RA : Option Addr) (rc : Nat) (CA : Option Addr) (cc : Nat) (XA : Option Addr) (xc : Nat) (R C : List R2) (X : List (List R2)) (w : World) (hT : TabR w RA CA XA R C X)
include hT
theorem with_anyN (hV : Valid R C X) (i k : Nat) (hi : i < R.length) (hk : k < C.length) (r : R2) : Calls Try.prog 47 #[tabV RA rc CA cc XA xc R C X, .int .i64 (i : Int), .int .i64 (k : Int), .agg #[.int .i64 r.1, .int .i64 r.2]] w fun e w' => ∃ x : TabX, e = .returned (tabX x R C (setX X i k r)) ∧ x.xs.length = (setX X i k r).length ∧ St w ([] ++ tabCh R C (setX X i k r) x) w' := with_any RA rc CA cc XA xc R C X w hT hV i k hi hk r
theorem around_anyN (hV : Valid R C X) (NA : Option Addr) (nc : Nat) (L : List (List Int)) (hN : NestR w 1 NA (nestI L)) (hL : FillN R.length C.length L) :
  Calls Try.prog 45 #[tabV RA rc CA cc XA xc R C X, .slice NA L.length nc] w fun e w' => ∃ x : TabX, e = .returned (tabX x (arR R C L) (arC R C L) X) ∧ x.xs.length = X.length ∧ St w ([] ++ tabCh (arR R C L) (arC R C L) X x) w' := around_any RA rc CA cc XA xc R C X w hT hV NA nc L hN hL
end
end Go.Proofs.Ytalcccgialpjgaa
