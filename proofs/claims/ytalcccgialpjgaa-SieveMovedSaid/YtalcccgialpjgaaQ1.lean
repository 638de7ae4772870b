/- What the laws say, plainly: truths as lists, proofs as lists: lemmas for the rows of this seat. No conditions. -/
import Derived.Test.YtalcccgialpjgaaN17
import Derived.Test.YtalcccgialpjgaaN22
set_option linter.all false
namespace Go.Proofs.Ytalcccgialpjgaa
open Go.RowKit
/-! ## What the laws say, plainly: truths as lists, proofs as lists -/
section
variable {R C : List R2} {X : List (List R2)}
theorem IsT.congr {f g : Nat → Nat → Int} (h : IsT R C X f) (e : ∀ i k, i < R.length → k < C.length → f i k = g i k) : IsT R C X g :=
 ⟨fun i k hi hk => by rw [← e i k hi hk]; exact h.x i k hi hk,
 fun i hi => by rw [← sm_congr (f := fun k => f i k) fun k hk => e i k hi hk]; exact h.r i hi,
 fun k hk => by rw [← sm_congr (f := fun i => f i k) fun i hi => e i k hi hk]; exact h.c k hk⟩
theorem inR_iff {x : R2} {n : Int} : inR x n = true ↔ x.1 ≤ n ∧ n ≤ x.2 := by unfold inR; simp
/-- CheckTruth, plainly. -/
theorem tru_iff (hV : Valid R C X) {L : List (List Int)} (hl : L.length = R.length) (hs : ∀ s ∈ L, s.length = C.length) : chkTru R C X L = 0 ↔ IsT R C X (nAt L) := by
 constructor
 ·intro h
  rw [truV (chk0 hV) hl hs] at h
  by_cases h1 : allB R.length (fun i => allB C.length fun k => inR (xAt X i k) (nAt L i k)) = false
  ·rw [if_pos h1] at h; omega
  by_cases h2 : allB R.length (fun i => inR (rAt R i) (rowS L C.length i)) = false
  ·rw [if_neg h1, if_pos h2] at h; omega
  by_cases h3 : allB C.length (fun k => inR (rAt C k) (colS L R.length k)) = false
  ·rw [if_neg h1, if_neg h2, if_pos h3] at h; omega
  rw [Bool.not_eq_false] at h1 h2 h3
  exact ⟨fun i k hi hk => inR_iff.1 (allB_true.1 (allB_true.1 h1 i hi) k hk), fun i hi => inR_iff.1 (allB_true.1 h2 i hi), fun k hk => inR_iff.1 (allB_true.1 h3 k hk)⟩
 ·intro h
  exact tru0 (chk0 hV) hl hs (fun i k hi hk => inR_iff.2 (h.x i k hi hk)) (fun i hi => inR_iff.2 (h.r i hi)) (fun k hk => inR_iff.2 (h.c k hk))
/-- Numbers within their cells: a truth, or not. -/
theorem tru_in (hV : Valid R C X) {L : List (List Int)} (hl : L.length = R.length) (hs : ∀ s ∈ L, s.length = C.length) (hX : ∀ i k, i < R.length → k < C.length → (xAt X i k).1 ≤ nAt L i k ∧ nAt L i k ≤ (xAt X i k).2) : chkTru R C X L = 0 ∨ chkTru R C X L = 20 := by
 rw [truV (chk0 hV) hl hs, if_neg (by rw [allB_true.2 fun i hi => allB_true.2 fun k hk => inR_iff.2 (hX i k hi hk)]; simp)]
 split
 ·exact .inr rfl
 ·split
  ·exact .inr rfl
  ·exact .inl rfl
theorem rowT_isT {Y : List (List R2)} (hV : Valid R C Y) (hT : HasT R C Y) {i : Nat} (hi : i < R.length) (f : Nat → Nat → Int) : ∀ k, k ≤ C.length → IsT R C (rowT R C Y i k) f → IsT R C Y f ∧ ∀ j, j < k → f i j = (cellR R C (rowT R C Y i j) i j).1
 | 0, _, h => ⟨h, fun j hj => absurd hj (Nat.not_lt_zero _)⟩
 | k + 1, hk, h => by
  obtain ⟨h1, h2⟩ := rowT_ok hV hT hi k (by omega)
  have h3 := cellR_ok h2 hi (show k < C.length by omega)
  obtain ⟨f0, hf0, e0⟩ := h3.lo
  have h4 := hf0.x i k hi (by omega)
  rw [rowT, isT_setX h1 hi (by omega) (by omega)] at h
  obtain ⟨h5, h6⟩ := rowT_isT hV hT hi f k (by omega) h.1
  refine ⟨h5, fun j hj => ?_⟩
  by_cases e : j = k
  ·rw [e]; exact h.2
  ·exact h6 j (by omega)
theorem map_range_at {α : Type} (f : Nat → α) {n i : Nat} (h : i < n) : ((List.range n).map f)[i]? = some (f i) := by simp [h]
theorem nAt_truL {n i k : Nat} (hi : i < n) (hk : k < C.length) : nAt (truL R C X n) i k = (cellR R C (rowT R C (allT R C X i) i k) i k).1 := by
 unfold nAt truL
 rw [map_range_at _ hi]
 show (rowN R C (allT R C X i) i C.length)[k]?.getD 0 = _
 unfold rowN
 rw [map_range_at _ hk]; rfl
theorem allT_isT (hV : Valid R C X) (hT : HasT R C X) (f : Nat → Nat → Int) : ∀ i, i ≤ R.length → IsT R C (allT R C X i) f → IsT R C X f ∧ ∀ a k, a < i → k < C.length → f a k = (cellR R C (rowT R C (allT R C X a) a k) a k).1
 | 0, _, h => ⟨h, fun j _ hj => absurd hj (Nat.not_lt_zero _)⟩
 | i + 1, hi, h => by
  obtain ⟨h1, h2⟩ := allT_ok hV hT i (by omega)
  rw [allT] at h
  obtain ⟨h3, h4⟩ := rowT_isT h1 h2 (by omega) f _ (Nat.le_refl _) h
  obtain ⟨h5, h6⟩ := allT_isT hV hT f i (by omega) h3
  refine ⟨h5, fun a k ha hk => ?_⟩
  by_cases e : a = i
  ·rw [e]; exact h4 k hk
  ·exact h6 a k (by omega) hk
/-- What Truth returns is a truth. -/
theorem truL_isT (hV : Valid R C X) (hT : HasT R C X) : IsT R C X (nAt (truL R C X R.length)) := by
 obtain ⟨_, f, hf⟩ := allT_ok hV hT R.length (Nat.le_refl _)
 obtain ⟨h1, h2⟩ := allT_isT hV hT f _ (Nat.le_refl _) hf
 exact h1.congr fun i k hi hk => by rw [nAt_truL hi hk]; exact h2 i k hi hk
theorem truL_rows : ∀ s ∈ truL R C X R.length, s.length = C.length := fun s hs => by
 unfold truL at hs
 obtain ⟨a, _, rfl⟩ := List.mem_map.1 hs
 exact rowN_len ..
theorem truL_tru (hV : Valid R C X) (hT : HasT R C X) : chkTru R C X (truL R C X R.length) = 0 := (tru_iff hV (truL_len ..) truL_rows).2 (truL_isT hV hT)
/-! ### Lists of a proof -/
theorem natI_len (l : List Nat) : (natI l).length = l.length := by unfold natI; rw [List.length_map]
theorem hasB_natI {l : List Nat} {i : Nat} : hasB (natI l) i = decide (i ∈ l) := by
 unfold hasB natI
 rw [Bool.eq_iff_iff, List.any_eq_true]
 simp only [List.mem_map, decide_eq_true_eq]
 constructor
 ·rintro ⟨x, ⟨y, hy, rfl⟩, h⟩
  have : i = y := Int.ofNat_inj.1 h
  rw [this]; exact hy
 ·exact fun h => ⟨_, ⟨i, h, rfl⟩, rfl⟩
theorem hasB_rowL {n i : Nat} {p : Nat → Bool} (hi : i < n) : hasB (natI (rowL n p)) i = p i := by
 rw [hasB_natI, Bool.eq_iff_iff]
 unfold rowL
 simp [hi]
theorem risB_of {b : Int} {l : List Int} (h1 : ∀ a, a < l.length → l[a]?.getD 0 < b) (h2 : ∀ a c, a < c → c < l.length → l[a]?.getD 0 < l[c]?.getD 0) : ∀ {g j : Nat} {lo : Int}, j + g = l.length → (∀ a, j ≤ a → a < l.length → lo ≤ l[a]?.getD 0) → risB b l g j lo = true
 | 0, _, _, _, _ => rfl
 | g + 1, j, lo, hj, hl => by
  rw [risB, if_neg (by have := hl j (Nat.le_refl _) (by omega); have := h1 j (by omega); omega)]
  exact risB_of h1 h2 (by omega) fun a ha hb => by have := h2 j a (by omega) hb; omega
theorem ris_sorted {b : Nat} {l : List Nat} (h1 : ∀ a ∈ l, a < b) (h2 : l.Pairwise (· < ·)) : risB b (natI l) (natI l).length 0 0 = true := by
 have hg : ∀ a, ∀ ha : a < l.length, (natI l)[a]?.getD 0 = (l[a] : Int) := fun a ha => by unfold natI; rw [List.getElem?_map, List.getElem?_eq_getElem ha]; rfl
 refine risB_of (fun a ha => ?_) (fun a c hac hc => ?_) (by omega) fun a _ ha => ?_
 ·rw [natI_len] at ha
  rw [hg a ha]
  have := h1 _ (List.getElem_mem ha)
  omega
 ·rw [natI_len] at hc
  rw [hg a (by omega), hg c hc]
  have := List.pairwise_iff_getElem.1 h2 a c (by omega) hc hac
  omega
 ·rw [natI_len] at ha
  rw [hg a ha]; omega
theorem ris_rowL (n : Nat) (p : Nat → Bool) : risB n (natI (rowL n p)) (natI (rowL n p)).length 0 0 = true :=
 ris_sorted (fun a ha => by unfold rowL at ha; exact List.mem_range.1 (List.mem_filter.1 ha).1) (List.Pairwise.filter _ List.pairwise_lt_range)
/-- The proof that a cut gives. -/
theorem cut_proof (hV : Valid R C X) {seen : Nat → Int} (h : CutS (2 + R.length + C.length) (netLo R C X) (netHi R C X) seen) : prOK R C (natI (prRows R.length seen)) (natI (prCols R.length C.length seen)) (prSide seen) ∧ 0 < shP R C X (natI (prRows R.length seen)) (natI (prCols R.length C.length seen)) (prSide seen) := by
 have hn := hV.r4
 have hm := hV.c4
 have hin : ∀ v, v < 10 → inSt seen v = setOf seen v := fun v hv => by
  have := h.pos v hv
  unfold inSt setOf
  rw [Bool.eq_iff_iff]
  simp only [decide_eq_true_eq]
  omega
 have hok : prOK R C (natI (prRows R.length seen)) (natI (prCols R.length C.length seen)) (prSide seen) := by
  refine ⟨ris_rowL _ _, ris_rowL _ _, ?_⟩
  unfold prSide
  split <;> omega
 refine ⟨hok, ?_⟩
 obtain ⟨c1, c2⟩ := cut_short hV _ h.cut
 rw [shP_eq hok]
 have e1 : ∀ i, i < R.length → hasB (natI (prRows R.length seen)) i = cutR (setOf seen) i := fun i hi => by
  unfold prRows
  rw [hasB_rowL hi, hin _ (by omega), hin _ (by omega)]; rfl
 have e2 : ∀ k, k < C.length → hasB (natI (prCols R.length C.length seen)) k = cutC R.length (setOf seen) k := fun k hk => by
  unfold prCols
  rw [hasB_rowL hk, hin _ (by omega), hin _ (by omega), hin _ (by omega)]; rfl
 rw [shS_congr e1 e2, shT_congr e1 e2]
 unfold prSide
 rw [hin 0 (by omega)]
 cases hs : setOf seen 0 with
 | true => rw [show (if (if true = true then (0 : Int) else 1) = 1 then shT R C X (cutR (setOf seen)) (cutC R.length (setOf seen)) else shS R C X (cutR (setOf seen)) (cutC R.length (setOf seen))) = shS R C X (cutR (setOf seen)) (cutC R.length (setOf seen)) from rfl]; exact c1 hs
 | false => rw [show (if (if false = true then (0 : Int) else 1) = 1 then shT R C X (cutR (setOf seen)) (cutC R.length (setOf seen)) else shS R C X (cutR (setOf seen)) (cutC R.length (setOf seen))) = shT R C X (cutR (setOf seen)) (cutC R.length (setOf seen)) from rfl]; exact c2 hs
/-- A proof that is short is one that there is no truth. -/
theorem proof_no (hV : Valid R C X) {P Q : List Int} {side : Int} (hok : prOK R C P Q side) (h : 0 < shP R C X P Q side) : ¬HasT R C X := fun hT => by
 have := short_sound hV hT (fun i => hasB P i) (fun k => hasB Q k)
 rw [shP_eq hok] at h
 split at h <;> omega
theorem chkPr_ok (hV : Valid R C X) {P Q : List Int} {side : Int} (hok : prOK R C P Q side) : chkPr R C X P Q side = if shP R C X P Q side ≤ 0 then (0, 14) else (shP R C X P Q side, 0) := by
 unfold chkPr
 rw [if_neg (by rw [chk0 hV]; simp), if_neg (by simpa using hok)]
theorem chkTab_vals : chkTab R C X = 0 ∨ chkTab R C X = 6 ∨ chkTab R C X = 15 ∨ chkTab R C X = 3 := by
 unfold chkTab
 split; exact .inr (.inl rfl)
 split; exact .inr (.inr (.inl rfl))
 split; exact .inr (.inr (.inl rfl))
 split; exact .inr (.inr (.inr rfl))
 split; exact .inr (.inr (.inr rfl))
 split; exact .inr (.inr (.inr rfl))
 exact .inl rfl
end
end Go.Proofs.Ytalcccgialpjgaa
