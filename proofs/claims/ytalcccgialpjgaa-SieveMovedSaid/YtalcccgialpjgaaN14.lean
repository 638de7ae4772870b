/- Truths of a table are circulations of its net: lemmas for the rows of this seat. No conditions. -/
import Derived.Test.YtalcccgialpjgaaN13
set_option linter.all false
namespace Go.Proofs.Ytalcccgialpjgaa
open Go.RowKit
/-! ## Truths of a table are circulations of its net -/
theorem sm_parts (f : Nat → Int) (n m : Nat) : sm f (2 + n + m) = f 0 + f 1 + sm (fun i => f (2 + i)) n + sm (fun k => f (2 + n + k)) m := by
 rw [sm_split, sm_split f 2 n]
 have : sm f 2 = f 0 + f 1 := by simp [sm]
 rw [this]
theorem netE_10 (n m : Nat) : netE n m 1 0 = true := netE_iff.2 (.inl ⟨rfl, rfl⟩)
theorem netE_0r {n m i : Nat} (h : i < n) : netE n m 0 (2 + i) = true := netE_iff.2 (.inr (.inl ⟨rfl, by omega, by omega⟩))
theorem netE_rc {n m i k : Nat} (h : i < n) (h' : k < m) : netE n m (2 + i) (2 + n + k) = true := netE_iff.2 (.inr (.inr (.inl ⟨by omega, by omega, by omega, by omega⟩)))
theorem netE_c1 {n m k : Nat} (h : k < m) : netE n m (2 + n + k) 1 = true := netE_iff.2 (.inr (.inr (.inr ⟨by omega, by omega, rfl⟩)))
theorem netE_no {n m u v : Nat} (h : ¬netP n m u v) : netE n m u v = false := by
 cases hb : netE n m u v with
 | false => rfl
 | true => exact absurd (netE_iff.1 hb) h
theorem sm_net (n m : Nat) (h : Nat → Nat → Int) (h0 : ∀ u v, netE n m u v = false → h u v = 0) : sm (fun u => sm (fun v => h u v) (2 + n + m)) (2 + n + m) = h 1 0 + sm (fun i => h 0 (2 + i)) n + sm (fun i => sm (fun k => h (2 + i) (2 + n + k)) m) n + sm (fun k => h (2 + n + k) 1) m := by
 have z : ∀ {u v}, ¬netP n m u v → h u v = 0 := fun hn => h0 _ _ (netE_no hn)
 rw [sm_parts]
 simp only [sm_parts (fun v => h _ v)]
 have e0 : h 0 0 = 0 := z (by unfold netP; omega)
 have e1 : h 0 1 = 0 := z (by unfold netP; omega)
 have e2 : sm (fun k => h 0 (2 + n + k)) m = 0 := sm_zero fun k hk => z (by unfold netP; omega)
 have e3 : h 1 1 = 0 := z (by unfold netP; omega)
 have e4 : sm (fun i => h 1 (2 + i)) n = 0 := sm_zero fun k hk => z (by unfold netP; omega)
 have e5 : sm (fun i => h 1 (2 + n + i)) m = 0 := sm_zero fun k hk => z (by unfold netP; omega)
 have e6 : sm (fun i => h (2 + i) 0 + h (2 + i) 1 + sm (fun j => h (2 + i) (2 + j)) n + sm (fun k => h (2 + i) (2 + n + k)) m) n = sm (fun i => sm (fun k => h (2 + i) (2 + n + k)) m) n := sm_congr fun i hi => by
  rw [z (u := 2 + i) (v := 0) (by unfold netP; omega), z (u := 2 + i) (v := 1) (by unfold netP; omega), sm_zero fun j hj => z (by unfold netP; omega)]; omega
 have e7 : sm (fun k => h (2 + n + k) 0 + h (2 + n + k) 1 + sm (fun j => h (2 + n + k) (2 + j)) n + sm (fun j => h (2 + n + k) (2 + n + j)) m) m = sm (fun k => h (2 + n + k) 1) m := sm_congr fun i hi => by
  rw [z (u := 2 + n + i) (v := 0) (by unfold netP; omega), sm_zero (f := fun j => h (2 + n + i) (2 + j)) fun j hj => z (by unfold netP; omega), sm_zero (f := fun j => h (2 + n + i) (2 + n + j)) fun j hj => z (by unfold netP; omega)]; omega
 rw [e0, e1, e2, e3, e4, e5, e6, e7]; omega
section
variable {n m : Nat} {g : Nat → Nat → Int}
theorem in_0 (h0 : ∀ u v, netE n m u v = false → g u v = 0) : sm (fun u => g u 0) (2 + n + m) = g 1 0 := by
 have z : ∀ {u v}, ¬netP n m u v → g u v = 0 := fun hn => h0 _ _ (netE_no hn)
 rw [sm_parts, z (u := 0) (v := 0) (by unfold netP; omega), sm_zero fun j hj => z (by unfold netP; omega), sm_zero fun j hj => z (by unfold netP; omega)]; omega
theorem out_0 (h0 : ∀ u v, netE n m u v = false → g u v = 0) : sm (fun u => g 0 u) (2 + n + m) = sm (fun i => g 0 (2 + i)) n := by
 have z : ∀ {u v}, ¬netP n m u v → g u v = 0 := fun hn => h0 _ _ (netE_no hn)
 rw [sm_parts, z (u := 0) (v := 0) (by unfold netP; omega), z (u := 0) (v := 1) (by unfold netP; omega), sm_zero (f := fun k => g 0 (2 + n + k)) fun j hj => z (by unfold netP; omega)]; omega
theorem in_1 (h0 : ∀ u v, netE n m u v = false → g u v = 0) : sm (fun u => g u 1) (2 + n + m) = sm (fun k => g (2 + n + k) 1) m := by
 have z : ∀ {u v}, ¬netP n m u v → g u v = 0 := fun hn => h0 _ _ (netE_no hn)
 rw [sm_parts, z (u := 0) (v := 1) (by unfold netP; omega), z (u := 1) (v := 1) (by unfold netP; omega), sm_zero (f := fun k => g (2 + k) 1) fun j hj => z (by unfold netP; omega)]; omega
theorem out_1 (h0 : ∀ u v, netE n m u v = false → g u v = 0) : sm (fun u => g 1 u) (2 + n + m) = g 1 0 := by
 have z : ∀ {u v}, ¬netP n m u v → g u v = 0 := fun hn => h0 _ _ (netE_no hn)
 rw [sm_parts, z (u := 1) (v := 1) (by unfold netP; omega), sm_zero fun j hj => z (by unfold netP; omega), sm_zero fun j hj => z (by unfold netP; omega)]; omega
theorem in_r (h0 : ∀ u v, netE n m u v = false → g u v = 0) {i : Nat} (hi : i < n) : sm (fun u => g u (2 + i)) (2 + n + m) = g 0 (2 + i) := by
 have z : ∀ {u v}, ¬netP n m u v → g u v = 0 := fun hn => h0 _ _ (netE_no hn)
 rw [sm_parts, z (u := 1) (v := 2 + i) (by unfold netP; omega), sm_zero fun j hj => z (by unfold netP; omega), sm_zero fun j hj => z (by unfold netP; omega)]; omega
theorem out_r (h0 : ∀ u v, netE n m u v = false → g u v = 0) {i : Nat} (hi : i < n) : sm (fun u => g (2 + i) u) (2 + n + m) = sm (fun k => g (2 + i) (2 + n + k)) m := by
 have z : ∀ {u v}, ¬netP n m u v → g u v = 0 := fun hn => h0 _ _ (netE_no hn)
 rw [sm_parts, z (u := 2 + i) (v := 0) (by unfold netP; omega), z (u := 2 + i) (v := 1) (by unfold netP; omega), sm_zero (f := fun k => g (2 + i) (2 + k)) fun j hj => z (by unfold netP; omega)]; omega
theorem in_c (h0 : ∀ u v, netE n m u v = false → g u v = 0) {k : Nat} (hk : k < m) : sm (fun u => g u (2 + n + k)) (2 + n + m) = sm (fun i => g (2 + i) (2 + n + k)) n := by
 have z : ∀ {u v}, ¬netP n m u v → g u v = 0 := fun hn => h0 _ _ (netE_no hn)
 rw [sm_parts, z (u := 0) (v := 2 + n + k) (by unfold netP; omega), z (u := 1) (v := 2 + n + k) (by unfold netP; omega), sm_zero (f := fun i => g (2 + n + i) (2 + n + k)) fun j hj => z (by unfold netP; omega)]; omega
theorem out_c (h0 : ∀ u v, netE n m u v = false → g u v = 0) {k : Nat} (hk : k < m) : sm (fun u => g (2 + n + k) u) (2 + n + m) = g (2 + n + k) 1 := by
 have z : ∀ {u v}, ¬netP n m u v → g u v = 0 := fun hn => h0 _ _ (netE_no hn)
 rw [sm_parts, z (u := 2 + n + k) (v := 0) (by unfold netP; omega), sm_zero fun j hj => z (by unfold netP; omega), sm_zero fun j hj => z (by unfold netP; omega)]; omega
end
/-- Numbers that are a truth. -/
structure IsT (R C : List R2) (X : List (List R2)) (f : Nat → Nat → Int) : Prop where
 x : ∀ i k, i < R.length → k < C.length → (xAt X i k).1 ≤ f i k ∧ f i k ≤ (xAt X i k).2
 r : ∀ i, i < R.length → (rAt R i).1 ≤ sm (fun k => f i k) C.length ∧ sm (fun k => f i k) C.length ≤ (rAt R i).2
 c : ∀ k, k < C.length → (rAt C k).1 ≤ sm (fun i => f i k) R.length ∧ sm (fun i => f i k) R.length ≤ (rAt C k).2
def totS (n m : Nat) (f : Nat → Nat → Int) : Int := sm (fun i => sm (fun k => f i k) m) n
def flowOf (n m : Nat) (f : Nat → Nat → Int) (u v : Nat) : Int := if netE n m u v = true then (if u = 1 then totS n m f else if u = 0 then sm (fun k => f (v - 2) k) m else if v = 1 then sm (fun i => f i (u - 2 - n)) n else f (u - 2) (v - 2 - n)) else 0
theorem flowOf_0 {n m : Nat} {f : Nat → Nat → Int} : ∀ u v, netE n m u v = false → flowOf n m f u v = 0 := fun u v h => by unfold flowOf; rw [if_neg (by rw [h]; simp)]
theorem flowOf_10 (n m : Nat) (f : Nat → Nat → Int) : flowOf n m f 1 0 = totS n m f := by unfold flowOf; rw [if_pos (netE_10 n m), if_pos rfl]
theorem flowOf_0r {n m : Nat} (f : Nat → Nat → Int) {i : Nat} (hi : i < n) : flowOf n m f 0 (2 + i) = sm (fun k => f i k) m := by unfold flowOf; rw [if_pos (netE_0r hi), if_neg (by omega), if_pos rfl, show 2 + i - 2 = i by omega]
theorem flowOf_rc {n m : Nat} (f : Nat → Nat → Int) {i k : Nat} (hi : i < n) (hk : k < m) : flowOf n m f (2 + i) (2 + n + k) = f i k := by unfold flowOf; rw [if_pos (netE_rc hi hk), if_neg (by omega), if_neg (by omega), if_neg (by omega), show 2 + i - 2 = i by omega, show 2 + n + k - 2 - n = k by omega]
theorem flowOf_c1 {n m : Nat} (f : Nat → Nat → Int) {k : Nat} (hi : 1 ≤ n) (hk : k < m) : flowOf n m f (2 + n + k) 1 = sm (fun i => f i k) n := by unfold flowOf; rw [if_pos (netE_c1 hk), if_neg (by omega), if_neg (by omega), if_pos rfl, show 2 + n + k - 2 - n = k by omega]
section
variable {R C : List R2} {X : List (List R2)}
/-- A valid table but that cells may be within bounds that are narrower. -/
theorem net_10 : netLo R C X 1 0 = 0 ∧ netHi R C X 1 0 = 192 := by
 unfold netLo netHi bdT
 rw [if_pos (netE_10 _ _), if_pos (netE_10 _ _)]
 exact ⟨rfl, rfl⟩
theorem net_0r {i : Nat} (hi : i < R.length) : netLo R C X 0 (2 + i) = (rAt R i).1 ∧ netHi R C X 0 (2 + i) = (rAt R i).2 := by
 unfold netLo netHi bdT
 rw [if_pos (netE_0r hi), if_pos (netE_0r hi), if_neg (by omega), if_pos rfl, show 2 + i - 2 = i by omega]
 exact ⟨rfl, rfl⟩
theorem net_rc {i k : Nat} (hi : i < R.length) (hk : k < C.length) : netLo R C X (2 + i) (2 + R.length + k) = (xAt X i k).1 ∧ netHi R C X (2 + i) (2 + R.length + k) = (xAt X i k).2 := by
 unfold netLo netHi bdT
 rw [if_pos (netE_rc hi hk), if_pos (netE_rc hi hk), if_neg (by omega), if_neg (by omega), if_neg (by omega), show 2 + i - 2 = i by omega, show 2 + R.length + k - 2 - R.length = k by omega]
 exact ⟨rfl, rfl⟩
theorem net_c1 {k : Nat} (hn : 1 ≤ R.length) (hk : k < C.length) : netLo R C X (2 + R.length + k) 1 = (rAt C k).1 ∧ netHi R C X (2 + R.length + k) 1 = (rAt C k).2 := by
 unfold netLo netHi bdT
 rw [if_pos (netE_c1 hk), if_pos (netE_c1 hk), if_neg (by omega), if_neg (by omega), if_pos rfl, show 2 + R.length + k - 2 - R.length = k by omega]
 exact ⟨rfl, rfl⟩
theorem net_no {u v : Nat} (h : netE R.length C.length u v = false) : netLo R C X u v = 0 ∧ netHi R C X u v = 0 := by
 unfold netLo netHi
 rw [if_neg (by rw [h]; simp), if_neg (by rw [h]; simp)]
 exact ⟨rfl, rfl⟩
theorem net_cases {n m u v : Nat} (h : netE n m u v = true) : (u = 1 ∧ v = 0) ∨ (∃ i, i < n ∧ u = 0 ∧ v = 2 + i) ∨ (∃ i k, i < n ∧ k < m ∧ u = 2 + i ∧ v = 2 + n + k) ∨ (∃ k, k < m ∧ u = 2 + n + k ∧ v = 1) := by
 rcases netE_iff.1 h with h | ⟨h1, h2, h3⟩ | ⟨h1, h2, h3, h4⟩ | ⟨h1, h2, h3⟩
 ·exact .inl h
 ·exact .inr (.inl ⟨v - 2, by omega, h1, by omega⟩)
 ·exact .inr (.inr (.inl ⟨u - 2, v - 2 - n, by omega, by omega, by omega, by omega⟩))
 ·exact .inr (.inr (.inr ⟨u - 2 - n, by omega, by omega, h3⟩))
theorem rangeB_iff {most : Int} {x : R2} : rangeB most x = true ↔ 0 ≤ x.1 ∧ x.1 ≤ x.2 ∧ x.2 ≤ most := by
 unfold rangeB; simp [and_assoc]
theorem Valid.rR (h : Valid R C X) {i : Nat} (hi : i < R.length) : 0 ≤ (rAt R i).1 ∧ (rAt R i).1 ≤ (rAt R i).2 ∧ (rAt R i).2 ≤ 48 := rangeB_iff.1 (h.rr i hi)
theorem Valid.rC (h : Valid R C X) {k : Nat} (hk : k < C.length) : 0 ≤ (rAt C k).1 ∧ (rAt C k).1 ≤ (rAt C k).2 ∧ (rAt C k).2 ≤ 48 := rangeB_iff.1 (h.cr k hk)
theorem Valid.rX (h : Valid R C X) {i k : Nat} (hi : i < R.length) (hk : k < C.length) : 0 ≤ (xAt X i k).1 ∧ (xAt X i k).1 ≤ (xAt X i k).2 ∧ (xAt X i k).2 ≤ 12 := rangeB_iff.1 (h.xr i k hi hk)
theorem net_le (h : Valid R C X) (u v : Nat) : 0 ≤ netLo R C X u v ∧ netLo R C X u v ≤ netHi R C X u v ∧ netHi R C X u v ≤ 192 := by
 cases he : netE R.length C.length u v with
 | false => rw [(net_no he).1, (net_no he).2]; omega
 | true =>
  rcases net_cases he with ⟨rfl, rfl⟩ | ⟨i, hi, rfl, rfl⟩ | ⟨i, k, hi, hk, rfl, rfl⟩ | ⟨k, hk, rfl, rfl⟩
  ·rw [net_10.1, net_10.2]; omega
  ·rw [(net_0r hi).1, (net_0r hi).2]; have := h.rR hi; omega
  ·rw [(net_rc hi hk).1, (net_rc hi hk).2]; have := h.rX hi hk; omega
  ·rw [(net_c1 h.r1 hk).1, (net_c1 h.r1 hk).2]; have := h.rC hk; omega
theorem net_bnds (h : Valid R C X) : Bnds R.length C.length (netLo R C X) (netHi R C X) :=
 ⟨fun u v he => (net_no he).1, fun u v he => (net_no he).2, fun u v => by have := net_le h u v; omega, fun u v => by have := net_le h u v; omega⟩
theorem IsT.tot (hV : Valid R C X) {f : Nat → Nat → Int} (h : IsT R C X f) : 0 ≤ totS R.length C.length f ∧ totS R.length C.length f ≤ 192 := by
 unfold totS
 constructor
 ·exact sm_nonneg fun i hi => by have := h.r i hi; have := hV.rR hi; omega
 ·have := sm_bound (f := fun i => sm (fun k => f i k) C.length) (c := 48) (n := R.length) fun i hi => by have := h.r i hi; have := hV.rR hi; omega
  have := hV.r4
  omega
theorem tot_cols (n m : Nat) (f : Nat → Nat → Int) : totS n m f = sm (fun k => sm (fun i => f i k) n) m := sm_swap f n m
theorem IsT.circ (hV : Valid R C X) {f : Nat → Nat → Int} (h : IsT R C X f) : Circ (2 + R.length + C.length) (netLo R C X) (netHi R C X) (flowOf R.length C.length f) := by
 have ht := h.tot hV
 constructor
 ·intro u v hu hv
  cases he : netE R.length C.length u v with
  | false => rw [(net_no he).1, (net_no he).2, flowOf_0 u v he]; omega
  | true =>
   rcases net_cases he with ⟨rfl, rfl⟩ | ⟨i, hi, rfl, rfl⟩ | ⟨i, k, hi, hk, rfl, rfl⟩ | ⟨k, hk, rfl, rfl⟩
   ·rw [net_10.1, net_10.2, flowOf_10]; omega
   ·rw [(net_0r hi).1, (net_0r hi).2, flowOf_0r f hi]; exact h.r i hi
   ·rw [(net_rc hi hk).1, (net_rc hi hk).2, flowOf_rc f hi hk]; exact h.x i k hi hk
   ·rw [(net_c1 hV.r1 hk).1, (net_c1 hV.r1 hk).2, flowOf_c1 f hV.r1 hk]; exact h.c k hk
 ·intro v hv
  unfold exc
  have h0 : ∀ u v, netE R.length C.length u v = false → flowOf R.length C.length f u v = 0 := flowOf_0
  rcases Nat.lt_or_ge v 2 with h2 | h2
  ·rcases (show v = 0 ∨ v = 1 by omega) with rfl | rfl
   ·rw [in_0 h0, out_0 h0, flowOf_10, sm_congr fun i hi => flowOf_0r f hi]
    unfold totS; omega
   ·rw [in_1 h0, out_1 h0, flowOf_10, sm_congr fun k hk => flowOf_c1 f hV.r1 hk, tot_cols]; omega
  ·rcases Nat.lt_or_ge v (2 + R.length) with h3 | h3
   ·obtain ⟨i, rfl⟩ : ∃ i, v = 2 + i := ⟨v - 2, by omega⟩
    rw [in_r h0 (by omega), out_r h0 (by omega), flowOf_0r f (by omega), sm_congr fun k hk => flowOf_rc f (by omega) hk]; omega
   ·obtain ⟨k, rfl⟩ : ∃ k, v = 2 + R.length + k := ⟨v - 2 - R.length, by omega⟩
    rw [in_c h0 (by omega), out_c h0 (by omega), flowOf_c1 f hV.r1 (by omega), sm_congr fun i hi => flowOf_rc f hi (by omega)]; omega
theorem circ_g0 {g : Nat → Nat → Int} (h : Circ (2 + R.length + C.length) (netLo R C X) (netHi R C X) g) {u v : Nat} (hu : u < 2 + R.length + C.length) (hv : v < 2 + R.length + C.length) (he : netE R.length C.length u v = false) : g u v = 0 := by
 have := h.inb u v hu hv
 rw [(net_no he).1, (net_no he).2] at this
 omega
/-- What flows along edges alone. -/
def cutE (n m : Nat) (g : Nat → Nat → Int) (u v : Nat) : Int := if netE n m u v = true then g u v else 0
/-- Numbers that flow. -/
def numF (n : Nat) (g : Nat → Nat → Int) (i k : Nat) : Int := g (2 + i) (2 + n + k)
theorem exc_congr {N : Nat} {g g' : Nat → Nat → Int} (h : ∀ u v, u < N → v < N → g u v = g' u v) {v : Nat} (hv : v < N) : exc N g v = exc N g' v := by
 unfold exc
 rw [sm_congr fun u hu => h u v hu hv, sm_congr (f := fun u => g v u) fun u hu => h v u hv hu]
theorem circ_num (hV : Valid R C X) {g : Nat → Nat → Int} (h : Circ (2 + R.length + C.length) (netLo R C X) (netHi R C X) g) :
  IsT R C X (numF R.length g) ∧ totS R.length C.length (numF R.length g) = g 1 0 ∧ (∀ i, i < R.length → sm (fun k => numF R.length g i k) C.length = g 0 (2 + i)) ∧ (∀ k, k < C.length → sm (fun i => numF R.length g i k) R.length = g (2 + R.length + k) 1) := by
 have h0 : ∀ u v, netE R.length C.length u v = false → cutE R.length C.length g u v = 0 := fun u v he => by unfold cutE; rw [if_neg (by rw [he]; simp)]
 have hg : ∀ u v, u < 2 + R.length + C.length → v < 2 + R.length + C.length → g u v = cutE R.length C.length g u v := fun u v hu hv => by
  unfold cutE
  cases he : netE R.length C.length u v with
  | false => simp; exact circ_g0 h hu hv he
  | true => simp
 have hx : ∀ v, v < 2 + R.length + C.length → exc (2 + R.length + C.length) (cutE R.length C.length g) v = 0 := fun v hv => by rw [← exc_congr hg hv]; exact h.exc v hv
 have hr : ∀ i, i < R.length → sm (fun k => numF R.length g i k) C.length = g 0 (2 + i) := fun i hi => by
  have := hx (2 + i) (by omega)
  unfold exc at this
  rw [in_r h0 hi, out_r h0 hi, ← hg _ _ (by omega) (by omega), sm_congr (g := fun k => numF R.length g i k) fun k hk => (hg _ _ (by omega) (by omega)).symm] at this
  omega
 have hc : ∀ k, k < C.length → sm (fun i => numF R.length g i k) R.length = g (2 + R.length + k) 1 := fun k hk => by
  have := hx (2 + R.length + k) (by omega)
  unfold exc at this
  rw [in_c h0 hk, out_c h0 hk, ← hg _ _ (by omega) (by omega), sm_congr (g := fun i => numF R.length g i k) fun i hi => (hg _ _ (by omega) (by omega)).symm] at this
  omega
 refine ⟨⟨fun i k hi hk => ?_, fun i hi => ?_, fun k hk => ?_⟩, ?_, hr, hc⟩
 ·have := h.inb (2 + i) (2 + R.length + k) (by omega) (by omega)
  rwa [(net_rc hi hk).1, (net_rc hi hk).2] at this
 ·have := h.inb 0 (2 + i) (by omega) (by omega)
  rw [(net_0r hi).1, (net_0r hi).2] at this
  rwa [hr i hi]
 ·have := h.inb (2 + R.length + k) 1 (by omega) (by omega)
  rw [(net_c1 hV.r1 hk).1, (net_c1 hV.r1 hk).2] at this
  rwa [hc k hk]
 ·unfold totS
  rw [sm_congr fun i hi => hr i hi]
  have := hx 0 (by omega)
  unfold exc at this
  rw [in_0 h0, out_0 h0, ← hg _ _ (by omega) (by omega), sm_congr (g := fun i => g 0 (2 + i)) fun i hi => (hg _ _ (by omega) (by omega)).symm] at this
  omega
def HasT (R C : List R2) (X : List (List R2)) : Prop := ∃ f, IsT R C X f
theorem hasT_circ (hV : Valid R C X) : HasT R C X ↔ ∃ g, Circ (2 + R.length + C.length) (netLo R C X) (netHi R C X) g :=
 ⟨fun ⟨_, h⟩ => ⟨_, h.circ hV⟩, fun ⟨_, h⟩ => ⟨_, (circ_num hV h).1⟩⟩
theorem cutS_no (hV : Valid R C X) {seen : Nat → Int} (h : CutS (2 + R.length + C.length) (netLo R C X) (netHi R C X) seen) : ¬HasT R C X := fun hT => by
 obtain ⟨g, hg⟩ := (hasT_circ hV).1 hT
 have := hg.cut (setOf seen)
 have := h.cut
 omega
theorem hasT_or_cut (hV : Valid R C X) : HasT R C X ∨ ∃ S, crossOut S (2 + R.length + C.length) (netHi R C X) < crossIn S (2 + R.length + C.length) (netLo R C X) := by
 rw [hasT_circ hV]
 exact hoff (net_bnds hV).ok fun u v _ _ => (net_le hV u v).2.1
end
/-! ## The least and the greatest one -/
structure RngP (P : Int → Prop) (r : R2) : Prop where
 lo : P r.1
 hi : P r.2
 all : ∀ x, P x → r.1 ≤ x ∧ x ≤ r.2
theorem RngP.uniq {P : Int → Prop} {r s : R2} (h : RngP P r) (h' : RngP P s) : r = s := by
 have h1 := h.all _ h'.lo
 have h2 := h.all _ h'.hi
 have h3 := h'.all _ h.lo
 have h4 := h'.all _ h.hi
 obtain ⟨a, b⟩ := r
 obtain ⟨c, d⟩ := s
 dsimp only at *
 rw [show a = c by omega, show b = d by omega]
open Classical in
noncomputable def rngOf (P : Int → Prop) : R2 := if h : ∃ r, RngP P r then h.choose else (0, 0)
theorem RngP.eq {P : Int → Prop} {r : R2} (h : RngP P r) : rngOf P = r := by
 unfold rngOf
 have h' : ∃ r, RngP P r := ⟨r, h⟩
 rw [dif_pos h']
 exact h'.choose_spec.uniq h
theorem RngP.of {P : Int → Prop} {r : R2} (h : RngP P r) : RngP P (rngOf P) := by rw [h.eq]; exact h
theorem least_ex {P : Int → Prop} {a : Int} : ∀ (k : Nat) (x : Int), P x → (∀ y, P y → a ≤ y) → x ≤ a + k → ∃ z, P z ∧ ∀ y, P y → z ≤ y := by
 intro k
 induction k with
 | zero => intro x hx ha hk; exact ⟨x, hx, fun y hy => by have := ha y hy; omega⟩
 | succ k ih =>
  intro x hx ha hk
  by_cases h : ∃ y, P y ∧ y < x
  ·obtain ⟨y, hy, hlt⟩ := h
   exact ih y hy ha (by omega)
  ·exact ⟨x, hx, fun y hy => Int.not_lt.1 fun hlt => h ⟨y, hy, hlt⟩⟩
theorem great_ex {P : Int → Prop} {b : Int} : ∀ (k : Nat) (x : Int), P x → (∀ y, P y → y ≤ b) → b ≤ x + k → ∃ z, P z ∧ ∀ y, P y → y ≤ z := by
 intro k
 induction k with
 | zero => intro x hx ha hk; exact ⟨x, hx, fun y hy => by have := ha y hy; omega⟩
 | succ k ih =>
  intro x hx ha hk
  by_cases h : ∃ y, P y ∧ x < y
  ·obtain ⟨y, hy, hlt⟩ := h
   exact ih y hy ha (by omega)
  ·exact ⟨x, hx, fun y hy => Int.not_lt.1 fun hlt => h ⟨y, hy, hlt⟩⟩
theorem rng_ex {P : Int → Prop} {a b : Int} (h : ∃ x, P x) (hb : ∀ x, P x → a ≤ x ∧ x ≤ b) : RngP P (rngOf P) := by
 obtain ⟨x, hx⟩ := h
 have h1 := hb x hx
 obtain ⟨lo, hl, hl'⟩ := least_ex (P := P) (a := a) (x - a).toNat x hx (fun y hy => (hb y hy).1) (by omega)
 obtain ⟨hi, hh, hh'⟩ := great_ex (P := P) (b := b) (b - x).toNat x hx (fun y hy => (hb y hy).2) (by omega)
 exact RngP.of (r := (lo, hi)) ⟨hl, hh, fun y hy => ⟨hl' y hy, hh' y hy⟩⟩
def cellP (R C : List R2) (X : List (List R2)) (i k : Nat) (x : Int) : Prop := ∃ f, IsT R C X f ∧ f i k = x
def rowP (R C : List R2) (X : List (List R2)) (i : Nat) (x : Int) : Prop := ∃ f, IsT R C X f ∧ sm (fun k => f i k) C.length = x
def colP (R C : List R2) (X : List (List R2)) (k : Nat) (x : Int) : Prop := ∃ f, IsT R C X f ∧ sm (fun i => f i k) R.length = x
def totP (R C : List R2) (X : List (List R2)) (x : Int) : Prop := ∃ f, IsT R C X f ∧ totS R.length C.length f = x
noncomputable def cellR (R C : List R2) (X : List (List R2)) (i k : Nat) : R2 := rngOf (cellP R C X i k)
noncomputable def rowR (R C : List R2) (X : List (List R2)) (i : Nat) : R2 := rngOf (rowP R C X i)
noncomputable def colR (R C : List R2) (X : List (List R2)) (k : Nat) : R2 := rngOf (colP R C X k)
noncomputable def allR (R C : List R2) (X : List (List R2)) : R2 := rngOf (totP R C X)
section
variable {R C : List R2} {X : List (List R2)}
theorem cellR_ok (h : HasT R C X) {i k : Nat} (hi : i < R.length) (hk : k < C.length) : RngP (cellP R C X i k) (cellR R C X i k) := by
 obtain ⟨f, hf⟩ := h
 exact rng_ex (a := (xAt X i k).1) (b := (xAt X i k).2) ⟨_, f, hf, rfl⟩ fun x ⟨f, hf, e⟩ => by rw [← e]; exact hf.x i k hi hk
theorem rowR_ok (h : HasT R C X) {i : Nat} (hi : i < R.length) : RngP (rowP R C X i) (rowR R C X i) := by
 obtain ⟨f, hf⟩ := h
 exact rng_ex (a := (rAt R i).1) (b := (rAt R i).2) ⟨_, f, hf, rfl⟩ fun x ⟨f, hf, e⟩ => by rw [← e]; exact hf.r i hi
theorem colR_ok (h : HasT R C X) {k : Nat} (hk : k < C.length) : RngP (colP R C X k) (colR R C X k) := by
 obtain ⟨f, hf⟩ := h
 exact rng_ex (a := (rAt C k).1) (b := (rAt C k).2) ⟨_, f, hf, rfl⟩ fun x ⟨f, hf, e⟩ => by rw [← e]; exact hf.c k hk
theorem allR_ok (hV : Valid R C X) (h : HasT R C X) : RngP (totP R C X) (allR R C X) := by
 obtain ⟨f, hf⟩ := h
 exact rng_ex (a := 0) (b := 192) ⟨_, f, hf, rfl⟩ fun x ⟨f, hf, e⟩ => by rw [← e]; exact hf.tot hV
/-- What flows along an edge, at least and at most. -/
structure SpanP (R C : List R2) (X : List (List R2)) (p q : Nat) (r : R2) : Prop where
 lo : ∃ g, Circ (2 + R.length + C.length) (netLo R C X) (netHi R C X) g ∧ g p q = r.1
 hi : ∃ g, Circ (2 + R.length + C.length) (netLo R C X) (netHi R C X) g ∧ g p q = r.2
 all : ∀ g, Circ (2 + R.length + C.length) (netLo R C X) (netHi R C X) g → r.1 ≤ g p q ∧ g p q ≤ r.2
theorem SpanP.cell (hV : Valid R C X) {r : R2} {i k : Nat} (hi : i < R.length) (hk : k < C.length) (h : SpanP R C X (2 + i) (2 + R.length + k) r) : cellR R C X i k = r := by
 refine RngP.eq ⟨?_, ?_, fun x ⟨f, hf, e⟩ => ?_⟩
 ·obtain ⟨g, hg, e⟩ := h.lo
  exact ⟨_, (circ_num hV hg).1, e⟩
 ·obtain ⟨g, hg, e⟩ := h.hi
  exact ⟨_, (circ_num hV hg).1, e⟩
 ·have := h.all _ (hf.circ hV)
  rwa [flowOf_rc f hi hk, e] at this
theorem SpanP.row (hV : Valid R C X) {r : R2} {i : Nat} (hi : i < R.length) (h : SpanP R C X 0 (2 + i) r) : rowR R C X i = r := by
 refine RngP.eq ⟨?_, ?_, fun x ⟨f, hf, e⟩ => ?_⟩
 ·obtain ⟨g, hg, e⟩ := h.lo
  exact ⟨_, (circ_num hV hg).1, by rw [(circ_num hV hg).2.2.1 i hi, e]⟩
 ·obtain ⟨g, hg, e⟩ := h.hi
  exact ⟨_, (circ_num hV hg).1, by rw [(circ_num hV hg).2.2.1 i hi, e]⟩
 ·have := h.all _ (hf.circ hV)
  rwa [flowOf_0r f hi, e] at this
theorem SpanP.col (hV : Valid R C X) {r : R2} {k : Nat} (hk : k < C.length) (h : SpanP R C X (2 + R.length + k) 1 r) : colR R C X k = r := by
 refine RngP.eq ⟨?_, ?_, fun x ⟨f, hf, e⟩ => ?_⟩
 ·obtain ⟨g, hg, e⟩ := h.lo
  exact ⟨_, (circ_num hV hg).1, by rw [(circ_num hV hg).2.2.2 k hk, e]⟩
 ·obtain ⟨g, hg, e⟩ := h.hi
  exact ⟨_, (circ_num hV hg).1, by rw [(circ_num hV hg).2.2.2 k hk, e]⟩
 ·have := h.all _ (hf.circ hV)
  rwa [flowOf_c1 f hV.r1 hk, e] at this
theorem SpanP.tot (hV : Valid R C X) {r : R2} (h : SpanP R C X 1 0 r) : allR R C X = r := by
 refine RngP.eq ⟨?_, ?_, fun x ⟨f, hf, e⟩ => ?_⟩
 ·obtain ⟨g, hg, e⟩ := h.lo
  exact ⟨_, (circ_num hV hg).1, by rw [(circ_num hV hg).2.1, e]⟩
 ·obtain ⟨g, hg, e⟩ := h.hi
  exact ⟨_, (circ_num hV hg).1, by rw [(circ_num hV hg).2.1, e]⟩
 ·have := h.all _ (hf.circ hV)
  rwa [flowOf_10, e] at this
end
/-! ## A cell, or a row, with another range -/
def setX (X : List (List R2)) (i k : Nat) (r : R2) : List (List R2) := X.set i ((X[i]?.getD []).set k r)
theorem setX_len (X : List (List R2)) (i k : Nat) (r : R2) : (setX X i k r).length = X.length := by unfold setX; rw [List.length_set]
theorem setX_row {X : List (List R2)} {i k : Nat} (r : R2) {m : Nat} (h : ∀ s ∈ X, s.length = m) : ∀ s ∈ setX X i k r, s.length = m := by
 intro s hs
 unfold setX at hs
 obtain ⟨j, hj, rfl⟩ := List.mem_iff_getElem.1 hs
 rw [List.getElem_set]
 split
 ·rename_i e
  rw [List.length_set]
  subst e
  rw [List.length_set] at hj
  rw [List.getElem?_eq_getElem hj, Option.getD_some]
  exact h _ (List.getElem_mem hj)
 ·exact h _ (List.getElem_mem _)
theorem setX_at {X : List (List R2)} {i k : Nat} (r : R2) {m : Nat} (h : ∀ s ∈ X, s.length = m) (hi : i < X.length) (hk : k < m) (a b : Nat) : xAt (setX X i k r) a b = if a = i ∧ b = k then r else xAt X a b := by
 unfold xAt setX rAt
 rw [List.getElem?_set]
 by_cases h1 : i = a
 ·subst h1
  rw [if_pos rfl, if_pos hi, Option.getD_some, List.getElem?_set, List.getElem?_eq_getElem hi, Option.getD_some]
  by_cases h2 : k = b
  ·subst h2
   rw [if_pos rfl, if_pos (by rw [h _ (List.getElem_mem hi)]; exact hk), if_pos ⟨rfl, rfl⟩, Option.getD_some]
  ·rw [if_neg h2, if_neg (fun e => h2 e.2.symm)]
 ·rw [if_neg h1, if_neg (fun e => h1 e.1.symm)]
theorem rAt_set {R : List R2} {i : Nat} (r : R2) (hi : i < R.length) (a : Nat) : rAt (R.set i r) a = if a = i then r else rAt R a := by
 unfold rAt
 rw [List.getElem?_set]
 by_cases h1 : i = a
 ·subst h1
  rw [if_pos rfl, if_pos hi, if_pos rfl, Option.getD_some]
 ·rw [if_neg h1, if_neg (fun e => h1 e.symm)]
section
variable {R C : List R2} {X : List (List R2)}
theorem Valid.setX (hV : Valid R C X) {i k : Nat} (hi : i < R.length) (hk : k < C.length) {r : R2} (hr : rangeB 12 r = true) : Valid R C (setX X i k r) := by
 have hx := hV.x
 refine ⟨hV.r1, hV.r4, hV.c1, hV.c4, by rw [setX_len, hV.x], setX_row r hV.xs, hV.rr, hV.cr, fun a b ha hb => ?_⟩
 rw [setX_at r hV.xs (by omega) hk]
 split
 ·exact hr
 ·exact hV.xr a b ha hb
theorem Valid.setR (hV : Valid R C X) {i : Nat} (hi : i < R.length) {r : R2} (hr : rangeB 48 r = true) : Valid (R.set i r) C X := by
 refine ⟨by rw [List.length_set]; exact hV.r1, by rw [List.length_set]; exact hV.r4, hV.c1, hV.c4, by rw [List.length_set, hV.x], hV.xs, fun a ha => ?_, hV.cr, fun a b ha hb => hV.xr a b (by rw [List.length_set] at ha; exact ha) hb⟩
 rw [rAt_set r hi]
 split
 ·exact hr
 ·exact hV.rr a (by rw [List.length_set] at ha; exact ha)
theorem isT_setX (hV : Valid R C X) {i k : Nat} (hi : i < R.length) (hk : k < C.length) {x : Int} (hx : (xAt X i k).1 ≤ x ∧ x ≤ (xAt X i k).2) (f : Nat → Nat → Int) : IsT R C (setX X i k (x, x)) f ↔ IsT R C X f ∧ f i k = x := by
 have hxl := hV.x
 constructor
 ·intro h
  have h0 := h.x i k hi hk
  rw [setX_at _ hV.xs (by omega) hk, if_pos ⟨rfl, rfl⟩] at h0
  dsimp only at h0
  refine ⟨⟨fun a b ha hb => ?_, h.r, h.c⟩, by omega⟩
  have h1 := h.x a b ha hb
  rw [setX_at _ hV.xs (by omega) hk] at h1
  by_cases e : a = i ∧ b = k
  ·rw [e.1, e.2]; omega
  ·rwa [if_neg e] at h1
 ·rintro ⟨h, e⟩
  refine ⟨fun a b ha hb => ?_, h.r, h.c⟩
  rw [setX_at _ hV.xs (by omega) hk]
  split
  ·rename_i e'
   rw [e'.1, e'.2]; dsimp only; omega
  ·exact h.x a b ha hb
theorem isT_setR {i : Nat} (hi : i < R.length) {x : Int} (hx : (rAt R i).1 ≤ x ∧ x ≤ (rAt R i).2) (f : Nat → Nat → Int) : IsT (R.set i (x, x)) C X f ↔ IsT R C X f ∧ sm (fun k => f i k) C.length = x := by
 have hl : (R.set i (x, x)).length = R.length := List.length_set
 constructor
 ·intro h
  have h0 := h.r i (by omega)
  rw [rAt_set _ hi, if_pos rfl] at h0
  dsimp only at h0
  refine ⟨⟨fun a b ha hb => h.x a b (by omega) hb, fun a ha => ?_, fun k hk => by have := h.c k hk; rwa [hl] at this⟩, by omega⟩
  have h1 := h.r a (by omega)
  rw [rAt_set _ hi] at h1
  by_cases e : a = i
  ·rw [e]; omega
  ·rwa [if_neg e] at h1
 ·rintro ⟨h, e⟩
  refine ⟨fun a b ha hb => h.x a b (by omega) hb, fun a ha => ?_, fun k hk => by rw [hl]; exact h.c k hk⟩
  rw [rAt_set _ hi]
  split
  ·rename_i e'
   rw [e']; dsimp only; omega
  ·exact h.r a (by omega)
theorem hasT_setX (hV : Valid R C X) {i k : Nat} (hi : i < R.length) (hk : k < C.length) {x : Int} (hx : (xAt X i k).1 ≤ x ∧ x ≤ (xAt X i k).2) : HasT R C (setX X i k (x, x)) ↔ cellP R C X i k x :=
 ⟨fun ⟨f, h⟩ => ⟨f, (isT_setX hV hi hk hx f).1 h⟩, fun ⟨f, h⟩ => ⟨f, (isT_setX hV hi hk hx f).2 h⟩⟩
theorem hasT_setR {i : Nat} (hi : i < R.length) {x : Int} (hx : (rAt R i).1 ≤ x ∧ x ≤ (rAt R i).2) : HasT (R.set i (x, x)) C X ↔ rowP R C X i x :=
 ⟨fun ⟨f, h⟩ => ⟨f, (isT_setR hi hx f).1 h⟩, fun ⟨f, h⟩ => ⟨f, (isT_setR hi hx f).2 h⟩⟩
end
/-! ## open, filled -/
structure FilX where
 gn : Nat
 bm : Nat
 fm : Nat
 stb : List (Nat × (Int × Int))
 fl : Nat → Nat → Int
 st : List (Nat × (Int × Int))
section
variable (RA : Option Addr) (rc : Nat) (CA : Option Addr) (cc : Nat) (XA : Option Addr) (xc : Nat) (R C : List R2) (X : List (List R2)) (w : World) (hT : TabR w RA CA XA R C X)
include hT
set_option maxRecDepth 20000 in
theorem open_err (hF : FitT R C X) (hz : chkTab R C X ≠ 0) : Calls Try.prog 80 #[tabV RA rc CA cc XA xc R C X] w fun e w' => e = .returned (.tuple #[.pointer none, .int .i64 (chkTab R C X)]) ∧ Below w.heap.size w w' := by
 have hct := fun w1 (h : TabR w1 RA CA XA R C X) => checkTable_any RA rc CA cc XA xc R C X w1 h hF
 unfold tabV at *
 refine fn_v tk (n := 12) (A := []) Try.func80 rfl rfl (Nat.le_of_ble_eq_true rfl) (St.nil (Below.refl _ _)) ?_
 generalize chkTab R C X = z at *
 ((conv => whnf); (repeat ((first | (apply VCall.q; kernel_rfl; (focus (intro w1 hs; first | with_reducible apply hct w1 (hs.tab hT)))) | (apply VLdN.mk; (focus ((repeat (first | (with_reducible apply ldn_blk) | (with_reducible apply ldn_skip))); done)); exact rfl) | apply VBr.t | (apply v_t; omega) | (apply VNew.mk; intro g hg)); (conv => whnf))))
 (apply VRet.mk)
 refine ret2 (by first | exact .inl rfl | exact .inr rfl) rfl (by exact rv_tmp rfl) (by exact rv_tmp rfl) ?_
 exact fun w h => ⟨rfl, h.base⟩
set_option maxRecDepth 20000 in
theorem open_ok (hV : Valid R C X) : Calls Try.prog 80 #[tabV RA rc CA cc XA xc R C X] w fun e w' => ∃ x : NetX, e = .returned (.tuple #[.pointer (some ⟨x.gn, 0, none⟩), .int .i64 0]) ∧ True ∧ St w [.blk x.gn 103 (netC RA rc CA cc XA xc R C X x.bm x.fm), .prd x.bm (MapP pairE (keyM (netE R.length C.length) (bdV R C X)) x.st), .prd x.fm (MapP pairE (fun _ => none) [])] w' := by
 have hct := fun w1 (h : TabR w1 RA CA XA R C X) => checkTable_any RA rc CA cc XA xc R C X w1 h hV.fit
 have hnn := fun w1 (h : TabR w1 RA CA XA R C X) => newNet_any RA rc CA cc XA xc R C X w1 h hV
 rw [chk0 hV] at hct
 unfold tabV at *
 refine fn_v tk (n := 12) (A := []) Try.func80 rfl rfl (Nat.le_of_ble_eq_true rfl) (St.nil (Below.refl _ _)) ?_
 ((conv => whnf); (repeat ((first | (apply VCall.q; kernel_rfl; (focus (intro w1 hs; first | with_reducible apply hct w1 (hs.tab hT)))) | (apply VLdN.mk; (focus ((repeat (first | (with_reducible apply ldn_blk) | (with_reducible apply ldn_skip))); done)); exact rfl) | apply VBr.f | (apply v_f; omega) | (apply VNew.mk; intro g hg)); (conv => whnf))); apply VCall.stop)
 refine ot_callC (X := NetX) (us := []) (vs := []) (fun x => .pointer (some ⟨x.gn, 0, none⟩)) (fun x => [.blk x.gn 103 (netC RA rc CA cc XA xc R C X x.bm x.fm), .prd x.bm (MapP pairE (keyM (netE R.length C.length) (bdV R C X)) x.st), .prd x.fm (MapP pairE (fun _ => none) [])]) (fun _ => True) (fun x c hc => by simp at hc; rcases hc with rfl | rfl | rfl <;> rfl) (by decide) rfl rfl rfl rfl (by kernel_rfl) (evl_of rfl) rfl (fun w1 hs => (hnn w1 (hs.tab hT)).mono fun e w' ⟨x, h1, h2⟩ => ⟨x, h1, trivial, h2⟩) (fun x _ => ?_)
 (dsimp only [List.cons_append, List.nil_append]; apply ot_v tk)
 ((conv => whnf))
 (apply VRet.mk)
 refine ret2 (by first | exact .inl rfl | exact .inr rfl) rfl (by exact rv_tmp rfl) (by exact rv_tmp rfl) ?_
 exact fun w hs => ⟨x, rfl, trivial, hs.sub (.cons₂ _ (.cons₂ _ (.cons₂ _ (List.nil_sublist _))))⟩
set_option maxRecDepth 20000 in
theorem filled_err (hF : FitT R C X) (hz : chkTab R C X ≠ 0) : Calls Try.prog 69 #[tabV RA rc CA cc XA xc R C X] w fun e w' => e = .returned (.tuple #[.pointer none, .int .i64 (chkTab R C X)]) ∧ Below w.heap.size w w' := by
 have hct := fun w1 (h : TabR w1 RA CA XA R C X) => open_err RA rc CA cc XA xc R C X w1 h hF hz
 unfold tabV at *
 refine fn_v tk (n := 24) (A := []) Try.func69 rfl rfl (Nat.le_of_ble_eq_true rfl) (St.nil (Below.refl _ _)) ?_
 generalize chkTab R C X = z at *
 ((conv => whnf); (repeat ((first | (apply VCall.q; kernel_rfl; (focus (intro w1 hs; first | with_reducible apply hct w1 (hs.tab hT)))) | (apply VLdN.mk; (focus ((repeat (first | (with_reducible apply ldn_blk) | (with_reducible apply ldn_skip))); done)); exact rfl) | apply VBr.t | (apply v_t; omega) | (apply VNew.mk; intro g hg)); (conv => whnf))))
 (apply VRet.mk)
 refine ret2 (by first | exact .inl rfl | exact .inr rfl) rfl (by exact rv_tmp rfl) (by exact rv_tmp rfl) ?_
 exact fun w h => ⟨rfl, h.base⟩
set_option maxHeartbeats 1000000 in
set_option maxRecDepth 20000 in
theorem filled_no (hV : Valid R C X) (hH : ¬HasT R C X) : Calls Try.prog 69 #[tabV RA rc CA cc XA xc R C X] w fun e w' => e = .returned (.tuple #[.pointer none, .int .i64 20]) ∧ Below w.heap.size w w' := by
 have hop := fun w1 (h : TabR w1 RA CA XA R C X) => open_ok RA rc CA cc XA xc R C X w1 h hV
 rw [bdV_net] at hop
 have hfi := fun {gn bm fm} {w0 w1 : World} {stb : List (Nat × (Int × Int))} {rest : List Chunk} hs => fill_any (RA := RA) (rc := rc) (CA := CA) (cc := cc) (XA := XA) (xc := xc) (R := R) (C := C) (X := X) (gn := gn) (bm := bm) (fm := fm) (lo := netLo R C X) (hi := netHi R C X) hV.r4 hV.c4 (net_bnds hV) (fun u v => (net_le hV u v).2.1) (w0 := w0) (w := w1) (stb := stb) (rest := rest) hs
 unfold tabV at *
 refine fn_v tk (n := 24) (A := []) Try.func69 rfl rfl (Nat.le_of_ble_eq_true rfl) (St.nil (Below.refl _ _)) ?_
 ((conv => whnf); (repeat ((first | (apply VLdN.mk; (focus ((repeat (first | (with_reducible apply ldn_blk) | (with_reducible apply ldn_skip))); done)); exact rfl) | (apply VNew.mk; intro g hg)); (conv => whnf))); apply VCall.stop)
 refine ot_callC (X := NetX) (us := []) (vs := []) (fun x => .tuple #[.pointer (some ⟨x.gn, 0, none⟩), .int .i64 0]) (fun x => [.blk x.gn 103 (netC RA rc CA cc XA xc R C X x.bm x.fm), .prd x.bm (MapP pairE (keyM (netE R.length C.length) (rngV (netLo R C X) (netHi R C X))) x.st), .prd x.fm (MapP pairE (fun _ => none) [])]) (fun _ => True) (fun x c hc => by simp at hc; rcases hc with rfl | rfl | rfl <;> rfl) (by decide) rfl rfl rfl rfl (by kernel_rfl) (evl_of rfl) rfl (fun w1 hs => hop w1 (hs.tab hT)) (fun x _ => ?_)
 (dsimp only [List.cons_append, List.nil_append]; apply ot_v tk)
 ((conv => whnf); (repeat ((first | apply VBr.f | (apply v_f; omega)); (conv => whnf))); apply VCall.stop)
 refine ot_callW (X := FillX) (us := []) (vs := []) (fun x => .tuple #[.agg (fnC x.seen 10).toArray, .bool x.ok]) _ _ rfl rfl rfl rfl rfl (by kernel_rfl) (evl_of rfl) rfl (fun w1 hs => hfi hs) ?_
 rintro ⟨ok, seen, fl, st⟩ ⟨hfl, h1, h2⟩
 dsimp only at hfl h1 h2 ⊢
 cases ok with
 | true => exact absurd ((hasT_circ hV).2 ⟨_, h1 rfl⟩) hH
 | false =>
  apply ot_v tk
  ((conv => whnf); (repeat ((first | apply VBr.t | (apply VNew.mk; intro g hg) | (apply VSt.mk; (focus ((repeat (first | (with_reducible exact At.here) | (with_reducible apply At.there))); done)); exact rfl)); (conv => whnf))))
  (apply VRet.mk)
  refine ret2 (by first | exact .inl rfl | exact .inr rfl) rfl (by exact rv_tmp rfl) (by exact rv_tmp rfl) ?_
  exact fun w h => ⟨rfl, h.base⟩
set_option maxHeartbeats 1000000 in
set_option maxRecDepth 20000 in
theorem filled_ok (hV : Valid R C X) (hH : HasT R C X) : Calls Try.prog 69 #[tabV RA rc CA cc XA xc R C X] w fun e w' => ∃ x : FilX, e = .returned (.tuple #[.pointer (some ⟨x.gn, 0, none⟩), .int .i64 0]) ∧ ((∀ u v, netE R.length C.length u v = false → x.fl u v = 0) ∧ Circ (2 + R.length + C.length) (netLo R C X) (netHi R C X) x.fl) ∧ St w (netA (netC RA rc CA cc XA xc R C X x.bm x.fm) x.gn x.bm (keyM (netE R.length C.length) (rngV (netLo R C X) (netHi R C X))) x.stb x.fm (keyM (netE R.length C.length) (intV x.fl)) x.st []) w' := by
 have hop := fun w1 (h : TabR w1 RA CA XA R C X) => open_ok RA rc CA cc XA xc R C X w1 h hV
 rw [bdV_net] at hop
 have hfi := fun {gn bm fm} {w0 w1 : World} {stb : List (Nat × (Int × Int))} {rest : List Chunk} hs => fill_any (RA := RA) (rc := rc) (CA := CA) (cc := cc) (XA := XA) (xc := xc) (R := R) (C := C) (X := X) (gn := gn) (bm := bm) (fm := fm) (lo := netLo R C X) (hi := netHi R C X) hV.r4 hV.c4 (net_bnds hV) (fun u v => (net_le hV u v).2.1) (w0 := w0) (w := w1) (stb := stb) (rest := rest) hs
 unfold tabV at *
 refine fn_v tk (n := 24) (A := []) Try.func69 rfl rfl (Nat.le_of_ble_eq_true rfl) (St.nil (Below.refl _ _)) ?_
 ((conv => whnf); (repeat ((first | (apply VLdN.mk; (focus ((repeat (first | (with_reducible apply ldn_blk) | (with_reducible apply ldn_skip))); done)); exact rfl) | (apply VNew.mk; intro g hg)); (conv => whnf))); apply VCall.stop)
 refine ot_callC (X := NetX) (us := []) (vs := []) (fun x => .tuple #[.pointer (some ⟨x.gn, 0, none⟩), .int .i64 0]) (fun x => [.blk x.gn 103 (netC RA rc CA cc XA xc R C X x.bm x.fm), .prd x.bm (MapP pairE (keyM (netE R.length C.length) (rngV (netLo R C X) (netHi R C X))) x.st), .prd x.fm (MapP pairE (fun _ => none) [])]) (fun _ => True) (fun x c hc => by simp at hc; rcases hc with rfl | rfl | rfl <;> rfl) (by decide) rfl rfl rfl rfl (by kernel_rfl) (evl_of rfl) rfl (fun w1 hs => hop w1 (hs.tab hT)) (fun x _ => ?_)
 (dsimp only [List.cons_append, List.nil_append]; apply ot_v tk)
 ((conv => whnf); (repeat ((first | apply VBr.f | (apply v_f; omega)); (conv => whnf))); apply VCall.stop)
 refine ot_callW (X := FillX) (us := []) (vs := []) (fun x => .tuple #[.agg (fnC x.seen 10).toArray, .bool x.ok]) _ _ rfl rfl rfl rfl rfl (by kernel_rfl) (evl_of rfl) rfl (fun w1 hs => hfi hs) ?_
 rintro ⟨ok, seen, fl, st⟩ ⟨hfl, h1, h2⟩
 dsimp only at hfl h1 h2 ⊢
 cases ok with
 | false => exact absurd hH (cutS_no hV (h2 rfl))
 | true =>
  apply ot_v tk
  ((conv => whnf); (repeat ((first | apply VBr.f | (apply VNew.mk; intro g hg) | (apply VSt.mk; (focus ((repeat (first | (with_reducible exact At.here) | (with_reducible apply At.there))); done)); exact rfl)); (conv => whnf))))
  (apply VRet.mk)
  refine ret2 (by first | exact .inl rfl | exact .inr rfl) rfl (by exact rv_tmp rfl) (by exact rv_tmp rfl) ?_
  exact fun w hs => ⟨⟨x.gn, x.bm, x.fm, [], fl, st⟩, rfl, ⟨hfl.g0, h1 rfl⟩, Pick.st (by ((try dsimp only); repeat (first | exact Pick.nil | ((apply Pick.cons); (focus (repeat (first | exact Rem.here | apply Rem.there)); done))))) hs⟩
end
/-! ## Cell, Row, All -/
open Classical in
noncomputable def errT (R C : List R2) (X : List (List R2)) : Int := if chkTab R C X ≠ 0 then chkTab R C X else if HasT R C X then 0 else 20
theorem errT_chk {R C : List R2} {X : List (List R2)} (h : chkTab R C X ≠ 0) : errT R C X = chkTab R C X := by unfold errT; rw [if_pos h]
theorem errT_no {R C : List R2} {X : List (List R2)} (h : Valid R C X) (hT : ¬HasT R C X) : errT R C X = 20 := by unfold errT; rw [if_neg (by rw [chk0 h]; simp), if_neg hT]
theorem errT_ok {R C : List R2} {X : List (List R2)} (h : Valid R C X) (hT : HasT R C X) : errT R C X = 0 := by unfold errT; rw [if_neg (by rw [chk0 h]; simp), if_pos hT]
theorem errT_zero {R C : List R2} {X : List (List R2)} (h : errT R C X = 0) : Valid R C X ∧ HasT R C X := by
 unfold errT at h
 by_cases h1 : chkTab R C X ≠ 0
 ·rw [if_pos h1] at h; exact absurd h h1
 ·rw [if_neg h1] at h
  by_cases h2 : HasT R C X
  ·exact ⟨chk_valid (by simpa using h1), h2⟩
  ·rw [if_neg h2] at h; cases h
open Classical in
noncomputable def cellA (R C : List R2) (X : List (List R2)) (i k : Int) : R2 × Int :=
 if chkTab R C X ≠ 0 then ((0, 0), chkTab R C X) else if ¬(0 ≤ i ∧ i < R.length ∧ 0 ≤ k ∧ k < C.length) then ((0, 0), 2) else if errT R C X ≠ 0 then ((0, 0), errT R C X) else (cellR R C X i.toNat k.toNat, 0)
open Classical in
noncomputable def rowA (R C : List R2) (X : List (List R2)) (i : Int) : R2 × Int :=
 if chkTab R C X ≠ 0 then ((0, 0), chkTab R C X) else if ¬(0 ≤ i ∧ i < R.length) then ((0, 0), 2) else if errT R C X ≠ 0 then ((0, 0), errT R C X) else (rowR R C X i.toNat, 0)
noncomputable def allA (R C : List R2) (X : List (List R2)) : R2 × Int :=
 if errT R C X ≠ 0 then ((0, 0), errT R C X) else (allR R C X, 0)
def resV (r : R2 × Int) : Value := .tuple #[.agg #[.int .i64 r.1.1, .int .i64 r.1.2], .int .i64 r.2]
theorem spanP_of {R C : List R2} {X : List (List R2)} {p q : Nat} {fl : Nat → Nat → Int} {h : Int} (hc : Circ (2 + R.length + C.length) (netLo R C X) (netHi R C X) fl) (ha : ∀ g, Circ (2 + R.length + C.length) (netLo R C X) (netHi R C X) g → fl p q ≤ g p q ∧ g p q ≤ h) (he : ∃ g, Circ (2 + R.length + C.length) (netLo R C X) (netHi R C X) g ∧ g p q = h) : SpanP R C X p q (fl p q, h) := ⟨⟨fl, hc, rfl⟩, he, ha⟩
section
variable (RA : Option Addr) (rc : Nat) (CA : Option Addr) (cc : Nat) (XA : Option Addr) (xc : Nat) (R C : List R2) (X : List (List R2)) (w : World) (hT : TabR w RA CA XA R C X)
include hT
set_option maxHeartbeats 2000000 in
set_option maxRecDepth 20000 in
theorem all_any (hF : FitT R C X) : Calls Try.prog 34 #[tabV RA rc CA cc XA xc R C X] w fun e w' => e = .returned (resV (allA R C X)) ∧ Below w.heap.size w w' := by
 have her := fun w1 (h : TabR w1 RA CA XA R C X) hz => filled_err RA rc CA cc XA xc R C X w1 h hF hz
 have hno := fun w1 (h : TabR w1 RA CA XA R C X) hV hH => filled_no RA rc CA cc XA xc R C X w1 h hV hH
 have hok := fun w1 (h : TabR w1 RA CA XA R C X) hV hH => filled_ok RA rc CA cc XA xc R C X w1 h hV hH
 unfold tabV at *
 by_cases hz : chkTab R C X = 0
 rotate_left
 ·have hq : allA R C X = ((0, 0), chkTab R C X) := by unfold allA; rw [errT_chk hz, if_pos hz]
  rw [hq]
  generalize chkTab R C X = z at *
  refine fn_v tk (n := 18) (A := []) Try.func34 rfl rfl (Nat.le_of_ble_eq_true rfl) (St.nil (Below.refl _ _)) ?_
  ((conv => whnf); (repeat ((first | (apply VCall.q; kernel_rfl; (focus (intro w1 hs; first | with_reducible apply her w1 (hs.tab hT) hz))) | (apply VLdN.mk; (focus ((repeat (first | (with_reducible apply ldn_blk) | (with_reducible apply ldn_skip))); done)); exact rfl) | apply VBr.t | (apply v_t; omega) | (apply VNew.mk; intro g hg) | (apply VSt.mk; (focus ((repeat (first | (with_reducible exact At.here) | (with_reducible apply At.there))); done)); exact rfl)); (conv => whnf))))
  (apply VRet.mk)
  refine ret2 (by first | exact .inl rfl | exact .inr rfl) rfl (by exact rv_row tk rfl rfl rfl (by first | exact cells_blk_all (by (repeat (first | exact List.Mem.head _ | assumption | refine List.Mem.tail _ ?_))) | exact cells_row0 (by (repeat (first | exact List.Mem.head _ | assumption | refine List.Mem.tail _ ?_)))) rfl) (by exact rv_tmp rfl) ?_
  exact fun w h => ⟨rfl, h.base⟩
 have hV := chk_valid hz
 by_cases hH : HasT R C X
 rotate_left
 ·have hq : allA R C X = ((0, 0), 20) := by unfold allA; rw [errT_no hV hH, if_pos (by decide)]
  rw [hq]
  refine fn_v tk (n := 18) (A := []) Try.func34 rfl rfl (Nat.le_of_ble_eq_true rfl) (St.nil (Below.refl _ _)) ?_
  ((conv => whnf); (repeat ((first | (apply VCall.q; kernel_rfl; (focus (intro w1 hs; first | with_reducible apply hno w1 (hs.tab hT) hV hH))) | (apply VLdN.mk; (focus ((repeat (first | (with_reducible apply ldn_blk) | (with_reducible apply ldn_skip))); done)); exact rfl) | apply VBr.t | (apply v_t; omega) | (apply VNew.mk; intro g hg) | (apply VSt.mk; (focus ((repeat (first | (with_reducible exact At.here) | (with_reducible apply At.there))); done)); exact rfl)); (conv => whnf))))
  (apply VRet.mk)
  refine ret2 (by first | exact .inl rfl | exact .inr rfl) rfl (by exact rv_row tk rfl rfl rfl (by first | exact cells_blk_all (by (repeat (first | exact List.Mem.head _ | assumption | refine List.Mem.tail _ ?_))) | exact cells_row0 (by (repeat (first | exact List.Mem.head _ | assumption | refine List.Mem.tail _ ?_)))) rfl) (by exact rv_tmp rfl) ?_
  exact fun w h => ⟨rfl, h.base⟩
 have hq : allA R C X = (allR R C X, 0) := by unfold allA; rw [errT_ok hV hH, if_neg (by decide)]
 rw [hq]
 have hsp := fun {gn bm fm} {w0 w1 : World} {stb st0 : List (Nat × (Int × Int))} {rest : List Chunk} {fl0} hg0 hc0 hs => span_any (RA := RA) (rc := rc) (CA := CA) (cc := cc) (XA := XA) (xc := xc) (R := R) (C := C) (X := X) (gn := gn) (bm := bm) (fm := fm) (lo := netLo R C X) (hi := netHi R C X) hV.r4 hV.c4 (net_bnds hV) (fl0 := fl0) hg0 hc0 (netE_10 _ _) (w0 := w0) (w := w1) (stb := stb) (st0 := st0) (rest := rest) hs
 refine fn_v tk (n := 18) (A := []) Try.func34 rfl rfl (Nat.le_of_ble_eq_true rfl) (St.nil (Below.refl _ _)) ?_
 ((conv => whnf); (repeat ((first | (apply VLdN.mk; (focus ((repeat (first | (with_reducible apply ldn_blk) | (with_reducible apply ldn_skip))); done)); exact rfl) | (apply VNew.mk; intro g hg)); (conv => whnf))); apply VCall.stop)
 refine ot_callC (X := FilX) (us := []) (vs := []) _ _ _ (fun x c hc => by simp at hc; rcases hc with rfl | rfl | rfl <;> rfl) (by decide) rfl rfl rfl rfl (by kernel_rfl) (evl_of rfl) rfl (fun w1 hs => hok w1 (hs.tab hT) hV hH) ?_
 rintro ⟨gn, bm, fm, stb, fl, st⟩ ⟨hg0, hc0⟩
 (dsimp only [List.cons_append, List.nil_append]; apply ot_v tk)
 ((conv => whnf); (repeat ((first | apply VBr.f | (apply v_f; omega)); (conv => whnf))); apply VCall.stop)
 refine ot_callW (X := SpanX) (us := []) (vs := []) (fun x => .agg #[.int .i64 (x.fl 1 0), .int .i64 x.hi]) _ _ rfl rfl rfl rfl rfl (by kernel_rfl) (evl_of rfl) rfl (fun w1 hs => hsp hg0 hc0 hs) ?_
 rintro ⟨hi, fl1, st1⟩ ⟨h1, h2, h3, h4⟩
 rw [(spanP_of h2 h3 h4).tot hV]
 dsimp only
 apply ot_v tk
 ((conv => whnf); (repeat ((apply VSt.mk; (focus ((repeat (first | (with_reducible exact At.here) | (with_reducible apply At.there))); done)); exact rfl); (conv => whnf))))
 (apply VRet.mk)
 refine ret2 (by first | exact .inl rfl | exact .inr rfl) rfl (by exact rv_row tk rfl rfl rfl (by first | exact cells_blk_all (by (repeat (first | exact List.Mem.head _ | assumption | refine List.Mem.tail _ ?_))) | exact cells_row0 (by (repeat (first | exact List.Mem.head _ | assumption | refine List.Mem.tail _ ?_)))) rfl) (by exact rv_tmp rfl) ?_
 exact fun w h => ⟨rfl, h.base⟩
set_option maxHeartbeats 2000000 in
set_option maxRecDepth 20000 in
theorem row32_any (hF : FitT R C X) (i : Int) : Calls Try.prog 32 #[tabV RA rc CA cc XA xc R C X, .int .i64 i] w fun e w' => e = .returned (resV (rowA R C X i)) ∧ Below w.heap.size w w' := by
 have hct := fun w1 (h : TabR w1 RA CA XA R C X) => checkTable_any RA rc CA cc XA xc R C X w1 h hF
 have hno := fun w1 (h : TabR w1 RA CA XA R C X) hV hH => filled_no RA rc CA cc XA xc R C X w1 h hV hH
 have hok := fun w1 (h : TabR w1 RA CA XA R C X) hV hH => filled_ok RA rc CA cc XA xc R C X w1 h hV hH
 unfold tabV at *
 by_cases hz : chkTab R C X = 0
 rotate_left
 ·have hq : rowA R C X i = ((0, 0), chkTab R C X) := by unfold rowA; rw [if_pos hz]
  rw [hq]
  generalize chkTab R C X = z at *
  refine fn_v tk (n := 39) (A := []) Try.func32 rfl rfl (Nat.le_of_ble_eq_true rfl) (St.nil (Below.refl _ _)) ?_
  ((conv => whnf); (repeat ((first | (apply VCall.q; kernel_rfl; (focus (intro w1 hs; first | with_reducible apply hct w1 (hs.tab hT)))) | (apply VLdN.mk; (focus ((repeat (first | (with_reducible apply ldn_blk) | (with_reducible apply ldn_skip))); done)); exact rfl) | apply VBr.t | (apply v_t; omega) | (apply VNew.mk; intro g hg) | (apply VSt.mk; (focus ((repeat (first | (with_reducible exact At.here) | (with_reducible apply At.there))); done)); exact rfl)); (conv => whnf))))
  (apply VRet.mk)
  refine ret2 (by first | exact .inl rfl | exact .inr rfl) rfl (by exact rv_row tk rfl rfl rfl (by first | exact cells_blk_all (by (repeat (first | exact List.Mem.head _ | assumption | refine List.Mem.tail _ ?_))) | exact cells_row0 (by (repeat (first | exact List.Mem.head _ | assumption | refine List.Mem.tail _ ?_)))) rfl) (by exact rv_tmp rfl) ?_
  exact fun w h => ⟨rfl, h.base⟩
 have hV := chk_valid hz
 rw [hz] at hct
 have hn := hV.r1
 have hn4 := hV.r4
 by_cases hI : 0 ≤ i ∧ i < R.length
 rotate_left
 ·have hq : rowA R C X i = ((0, 0), 2) := by unfold rowA; rw [if_neg (by rw [hz]; simp), if_pos hI]
  rw [hq]
  have hw : within 0 ((R.length : Int) - 1) [i] = false := by rw [within_one]; exact decide_eq_false (by omega)
  refine fn_v tk (n := 39) (A := []) Try.func32 rfl rfl (Nat.le_of_ble_eq_true rfl) (St.nil (Below.refl _ _)) ?_
  ((conv => whnf); (repeat ((first | (apply VCall.q; kernel_rfl; (focus (intro w1 hs; first | with_reducible apply hct w1 (hs.tab hT) | with_reducible apply within1_one hw hs))) | (apply VLd.mk; (focus ((repeat (first | ((with_reducible apply ld_blk); exact rfl) | (with_reducible apply ld_skip))); done))) | (apply VLdN.mk; (focus ((repeat (first | (with_reducible apply ldn_blk) | (with_reducible apply ldn_skip))); done)); exact rfl) | (apply VRng.mk; omega) | apply VBr.t | apply VBr.f | (apply v_f; omega) | (apply VNew.mk; intro g hg) | (apply VSt.mk; (focus ((repeat (first | (with_reducible exact At.here) | (with_reducible apply At.there))); done)); exact rfl)); (conv => whnf))))
  (apply VRet.mk)
  refine ret2 (by first | exact .inl rfl | exact .inr rfl) rfl (by exact rv_row tk rfl rfl rfl (by first | exact cells_blk_all (by (repeat (first | exact List.Mem.head _ | assumption | refine List.Mem.tail _ ?_))) | exact cells_row0 (by (repeat (first | exact List.Mem.head _ | assumption | refine List.Mem.tail _ ?_)))) rfl) (by exact rv_tmp rfl) ?_
  exact fun w h => ⟨rfl, h.base⟩
 have hw : within 0 ((R.length : Int) - 1) [i] = true := by rw [within_one]; exact decide_eq_true (by omega)
 by_cases hH : HasT R C X
 rotate_left
 ·have hq : rowA R C X i = ((0, 0), 20) := by unfold rowA; rw [if_neg (by rw [hz]; simp), if_neg (fun h => h hI), errT_no hV hH, if_pos (by decide)]
  rw [hq]
  refine fn_v tk (n := 39) (A := []) Try.func32 rfl rfl (Nat.le_of_ble_eq_true rfl) (St.nil (Below.refl _ _)) ?_
  ((conv => whnf); (repeat ((first | (apply VCall.q; kernel_rfl; (focus (intro w1 hs; first | with_reducible apply hct w1 (hs.tab hT) | with_reducible apply within1_one hw hs | with_reducible apply hno w1 (hs.tab hT) hV hH))) | (apply VLd.mk; (focus ((repeat (first | ((with_reducible apply ld_blk); exact rfl) | (with_reducible apply ld_skip))); done))) | (apply VLdN.mk; (focus ((repeat (first | (with_reducible apply ldn_blk) | (with_reducible apply ldn_skip))); done)); exact rfl) | (apply VRng.mk; omega) | apply VBr.t | apply VBr.f | (apply v_t; omega) | (apply v_f; omega) | (apply VNew.mk; intro g hg) | (apply VSt.mk; (focus ((repeat (first | (with_reducible exact At.here) | (with_reducible apply At.there))); done)); exact rfl)); (conv => whnf))))
  (apply VRet.mk)
  refine ret2 (by first | exact .inl rfl | exact .inr rfl) rfl (by exact rv_row tk rfl rfl rfl (by first | exact cells_blk_all (by (repeat (first | exact List.Mem.head _ | assumption | refine List.Mem.tail _ ?_))) | exact cells_row0 (by (repeat (first | exact List.Mem.head _ | assumption | refine List.Mem.tail _ ?_)))) rfl) (by exact rv_tmp rfl) ?_
  exact fun w h => ⟨rfl, h.base⟩
 obtain ⟨i, rfl⟩ : ∃ j : Nat, i = j := ⟨i.toNat, by omega⟩
 have hq : rowA R C X i = (rowR R C X i, 0) := by unfold rowA; rw [if_neg (by rw [hz]; simp), if_neg (fun h => h hI), errT_ok hV hH, if_neg (by decide)]; rfl
 rw [hq]
 have hsp := fun {gn bm fm} {w0 w1 : World} {stb st0 : List (Nat × (Int × Int))} {rest : List Chunk} {fl0} hg0 hc0 hs => span_any (RA := RA) (rc := rc) (CA := CA) (cc := cc) (XA := XA) (xc := xc) (R := R) (C := C) (X := X) (gn := gn) (bm := bm) (fm := fm) (lo := netLo R C X) (hi := netHi R C X) hV.r4 hV.c4 (net_bnds hV) (fl0 := fl0) hg0 hc0 (netE_0r (i := i) (by omega)) (w0 := w0) (w := w1) (stb := stb) (st0 := st0) (rest := rest) hs
 refine fn_v tk (n := 39) (A := []) Try.func32 rfl rfl (Nat.le_of_ble_eq_true rfl) (St.nil (Below.refl _ _)) ?_
 ((conv => whnf); (repeat ((first | (apply VCall.q; kernel_rfl; (focus (intro w1 hs; first | with_reducible apply hct w1 (hs.tab hT) | with_reducible apply within1_one hw hs))) | (apply VLd.mk; (focus ((repeat (first | ((with_reducible apply ld_blk); exact rfl) | (with_reducible apply ld_skip))); done))) | (apply VLdN.mk; (focus ((repeat (first | (with_reducible apply ldn_blk) | (with_reducible apply ldn_skip))); done)); exact rfl) | (apply VRng.mk; omega) | apply VBr.f | (apply v_f; omega) | (apply VNew.mk; intro g hg)); (conv => whnf))); apply VCall.stop)
 refine ot_callC (X := FilX) (us := []) (vs := []) _ _ _ (fun x c hc => by simp at hc; rcases hc with rfl | rfl | rfl <;> rfl) (by decide) rfl rfl rfl rfl (by kernel_rfl) (evl_of rfl) rfl (fun w1 hs => hok w1 (hs.tab hT) hV hH) ?_
 rintro ⟨gn, bm, fm, stb, fl, st⟩ ⟨hg0, hc0⟩
 have hro := fun w1 => row_any gn i w1 (by omega)
 (dsimp only [List.cons_append, List.nil_append]; apply ot_v tk)
 ((conv => whnf); (repeat ((first | (apply VCall.q; kernel_rfl; (focus (intro w1 hs; first | with_reducible apply hro w1))) | apply VBr.f | (apply v_f; omega)); (conv => whnf))); apply VCall.stop)
 refine ot_callW (X := SpanX) (us := []) (vs := []) (fun x => .agg #[.int .i64 (x.fl 0 (2 + i)), .int .i64 x.hi]) _ _ rfl rfl rfl rfl rfl (by kernel_rfl) (evl_of rfl) rfl (fun w1 hs => hsp hg0 hc0 hs) ?_
 rintro ⟨hi, fl1, st1⟩ ⟨h1, h2, h3, h4⟩
 rw [(spanP_of h2 h3 h4).row hV (by omega)]
 dsimp only
 apply ot_v tk
 ((conv => whnf); (repeat ((apply VSt.mk; (focus ((repeat (first | (with_reducible exact At.here) | (with_reducible apply At.there))); done)); exact rfl); (conv => whnf))))
 (apply VRet.mk)
 refine ret2 (by first | exact .inl rfl | exact .inr rfl) rfl (by exact rv_row tk rfl rfl rfl (by first | exact cells_blk_all (by (repeat (first | exact List.Mem.head _ | assumption | refine List.Mem.tail _ ?_))) | exact cells_row0 (by (repeat (first | exact List.Mem.head _ | assumption | refine List.Mem.tail _ ?_)))) rfl) (by exact rv_tmp rfl) ?_
 exact fun w h => ⟨rfl, h.base⟩
set_option maxHeartbeats 2000000 in
set_option maxRecDepth 20000 in
theorem cell25_any (hF : FitT R C X) (i k : Int) : Calls Try.prog 25 #[tabV RA rc CA cc XA xc R C X, .int .i64 i, .int .i64 k] w fun e w' => e = .returned (resV (cellA R C X i k)) ∧ Below w.heap.size w w' := by
 have hct := fun w1 (h : TabR w1 RA CA XA R C X) => checkTable_any RA rc CA cc XA xc R C X w1 h hF
 have hno := fun w1 (h : TabR w1 RA CA XA R C X) hV hH => filled_no RA rc CA cc XA xc R C X w1 h hV hH
 have hok := fun w1 (h : TabR w1 RA CA XA R C X) hV hH => filled_ok RA rc CA cc XA xc R C X w1 h hV hH
 unfold tabV at *
 by_cases hz : chkTab R C X = 0
 rotate_left
 ·have hq : cellA R C X i k = ((0, 0), chkTab R C X) := by unfold cellA; rw [if_pos hz]
  rw [hq]
  generalize chkTab R C X = z at *
  refine fn_v tk (n := 54) (A := []) Try.func25 rfl rfl (Nat.le_of_ble_eq_true rfl) (St.nil (Below.refl _ _)) ?_
  ((conv => whnf); (repeat ((first | (apply VCall.q; kernel_rfl; (focus (intro w1 hs; first | with_reducible apply hct w1 (hs.tab hT)))) | (apply VLdN.mk; (focus ((repeat (first | (with_reducible apply ldn_blk) | (with_reducible apply ldn_skip))); done)); exact rfl) | apply VBr.t | (apply v_t; omega) | (apply VNew.mk; intro g hg) | (apply VSt.mk; (focus ((repeat (first | (with_reducible exact At.here) | (with_reducible apply At.there))); done)); exact rfl)); (conv => whnf))))
  (apply VRet.mk)
  refine ret2 (by first | exact .inl rfl | exact .inr rfl) rfl (by exact rv_row tk rfl rfl rfl (by first | exact cells_blk_all (by (repeat (first | exact List.Mem.head _ | assumption | refine List.Mem.tail _ ?_))) | exact cells_row0 (by (repeat (first | exact List.Mem.head _ | assumption | refine List.Mem.tail _ ?_)))) rfl) (by exact rv_tmp rfl) ?_
  exact fun w h => ⟨rfl, h.base⟩
 have hV := chk_valid hz
 rw [hz] at hct
 have hn := hV.r1
 have hn4 := hV.r4
 have hm := hV.c1
 have hm4 := hV.c4
 by_cases hI : 0 ≤ i ∧ i < R.length
 rotate_left
 ·have hq : cellA R C X i k = ((0, 0), 2) := by unfold cellA; rw [if_neg (by rw [hz]; simp), if_pos (by omega)]
  rw [hq]
  have hw : within 0 ((R.length : Int) - 1) [i] = false := by rw [within_one]; exact decide_eq_false (by omega)
  refine fn_v tk (n := 54) (A := []) Try.func25 rfl rfl (Nat.le_of_ble_eq_true rfl) (St.nil (Below.refl _ _)) ?_
  ((conv => whnf); (repeat ((first | (apply VCall.q; kernel_rfl; (focus (intro w1 hs; first | with_reducible apply hct w1 (hs.tab hT) | with_reducible apply within1_one hw hs))) | (apply VLd.mk; (focus ((repeat (first | ((with_reducible apply ld_blk); exact rfl) | (with_reducible apply ld_skip))); done))) | (apply VLdN.mk; (focus ((repeat (first | (with_reducible apply ldn_blk) | (with_reducible apply ldn_skip))); done)); exact rfl) | (apply VRng.mk; omega) | apply VBr.t | apply VBr.f | (apply v_f; omega) | (apply VNew.mk; intro g hg) | (apply VSt.mk; (focus ((repeat (first | (with_reducible exact At.here) | (with_reducible apply At.there))); done)); exact rfl)); (conv => whnf))))
  (apply VRet.mk)
  refine ret2 (by first | exact .inl rfl | exact .inr rfl) rfl (by exact rv_row tk rfl rfl rfl (by first | exact cells_blk_all (by (repeat (first | exact List.Mem.head _ | assumption | refine List.Mem.tail _ ?_))) | exact cells_row0 (by (repeat (first | exact List.Mem.head _ | assumption | refine List.Mem.tail _ ?_)))) rfl) (by exact rv_tmp rfl) ?_
  exact fun w h => ⟨rfl, h.base⟩
 have hw : within 0 ((R.length : Int) - 1) [i] = true := by rw [within_one]; exact decide_eq_true (by omega)
 by_cases hK : 0 ≤ k ∧ k < C.length
 rotate_left
 ·have hq : cellA R C X i k = ((0, 0), 2) := by unfold cellA; rw [if_neg (by rw [hz]; simp), if_pos (by omega)]
  rw [hq]
  have hw2 : within 0 ((C.length : Int) - 1) [k] = false := by rw [within_one]; exact decide_eq_false (by omega)
  refine fn_v tk (n := 54) (A := []) Try.func25 rfl rfl (Nat.le_of_ble_eq_true rfl) (St.nil (Below.refl _ _)) ?_
  ((conv => whnf); (repeat ((first | (apply VCall.q; kernel_rfl; (focus (intro w1 hs; first | with_reducible apply hct w1 (hs.tab hT) | with_reducible apply within1_one hw hs | with_reducible apply within1_one hw2 hs))) | (apply VLd.mk; (focus ((repeat (first | ((with_reducible apply ld_blk); exact rfl) | (with_reducible apply ld_skip))); done))) | (apply VLdN.mk; (focus ((repeat (first | (with_reducible apply ldn_blk) | (with_reducible apply ldn_skip))); done)); exact rfl) | (apply VRng.mk; omega) | apply VBr.t | apply VBr.f | (apply v_f; omega) | (apply VNew.mk; intro g hg) | (apply VSt.mk; (focus ((repeat (first | (with_reducible exact At.here) | (with_reducible apply At.there))); done)); exact rfl)); (conv => whnf))))
  (apply VRet.mk)
  refine ret2 (by first | exact .inl rfl | exact .inr rfl) rfl (by exact rv_row tk rfl rfl rfl (by first | exact cells_blk_all (by (repeat (first | exact List.Mem.head _ | assumption | refine List.Mem.tail _ ?_))) | exact cells_row0 (by (repeat (first | exact List.Mem.head _ | assumption | refine List.Mem.tail _ ?_)))) rfl) (by exact rv_tmp rfl) ?_
  exact fun w h => ⟨rfl, h.base⟩
 have hw2 : within 0 ((C.length : Int) - 1) [k] = true := by rw [within_one]; exact decide_eq_true (by omega)
 have hIK : ¬¬(0 ≤ i ∧ i < R.length ∧ 0 ≤ k ∧ k < C.length) := by omega
 by_cases hH : HasT R C X
 rotate_left
 ·have hq : cellA R C X i k = ((0, 0), 20) := by unfold cellA; rw [if_neg (by rw [hz]; simp), if_neg hIK, errT_no hV hH, if_pos (by decide)]
  rw [hq]
  refine fn_v tk (n := 54) (A := []) Try.func25 rfl rfl (Nat.le_of_ble_eq_true rfl) (St.nil (Below.refl _ _)) ?_
  ((conv => whnf); (repeat ((first | (apply VCall.q; kernel_rfl; (focus (intro w1 hs; first | with_reducible apply hct w1 (hs.tab hT) | with_reducible apply within1_one hw hs | with_reducible apply within1_one hw2 hs | with_reducible apply hno w1 (hs.tab hT) hV hH))) | (apply VLd.mk; (focus ((repeat (first | ((with_reducible apply ld_blk); exact rfl) | (with_reducible apply ld_skip))); done))) | (apply VLdN.mk; (focus ((repeat (first | (with_reducible apply ldn_blk) | (with_reducible apply ldn_skip))); done)); exact rfl) | (apply VRng.mk; omega) | apply VBr.t | apply VBr.f | (apply v_t; omega) | (apply v_f; omega) | (apply VNew.mk; intro g hg) | (apply VSt.mk; (focus ((repeat (first | (with_reducible exact At.here) | (with_reducible apply At.there))); done)); exact rfl)); (conv => whnf))))
  (apply VRet.mk)
  refine ret2 (by first | exact .inl rfl | exact .inr rfl) rfl (by exact rv_row tk rfl rfl rfl (by first | exact cells_blk_all (by (repeat (first | exact List.Mem.head _ | assumption | refine List.Mem.tail _ ?_))) | exact cells_row0 (by (repeat (first | exact List.Mem.head _ | assumption | refine List.Mem.tail _ ?_)))) rfl) (by exact rv_tmp rfl) ?_
  exact fun w h => ⟨rfl, h.base⟩
 obtain ⟨i, rfl⟩ : ∃ j : Nat, i = j := ⟨i.toNat, by omega⟩
 obtain ⟨k, rfl⟩ : ∃ j : Nat, k = j := ⟨k.toNat, by omega⟩
 have hq : cellA R C X i k = (cellR R C X i k, 0) := by unfold cellA; rw [if_neg (by rw [hz]; simp), if_neg hIK, errT_ok hV hH, if_neg (by decide)]; rfl
 rw [hq]
 have hsp := fun {gn bm fm} {w0 w1 : World} {stb st0 : List (Nat × (Int × Int))} {rest : List Chunk} {fl0} hg0 hc0 hs => span_any (RA := RA) (rc := rc) (CA := CA) (cc := cc) (XA := XA) (xc := xc) (R := R) (C := C) (X := X) (gn := gn) (bm := bm) (fm := fm) (lo := netLo R C X) (hi := netHi R C X) hV.r4 hV.c4 (net_bnds hV) (fl0 := fl0) hg0 hc0 (netE_rc (i := i) (k := k) (by omega) (by omega)) (w0 := w0) (w := w1) (stb := stb) (st0 := st0) (rest := rest) hs
 refine fn_v tk (n := 54) (A := []) Try.func25 rfl rfl (Nat.le_of_ble_eq_true rfl) (St.nil (Below.refl _ _)) ?_
 ((conv => whnf); (repeat ((first | (apply VCall.q; kernel_rfl; (focus (intro w1 hs; first | with_reducible apply hct w1 (hs.tab hT) | with_reducible apply within1_one hw hs | with_reducible apply within1_one hw2 hs))) | (apply VLd.mk; (focus ((repeat (first | ((with_reducible apply ld_blk); exact rfl) | (with_reducible apply ld_skip))); done))) | (apply VLdN.mk; (focus ((repeat (first | (with_reducible apply ldn_blk) | (with_reducible apply ldn_skip))); done)); exact rfl) | (apply VRng.mk; omega) | apply VBr.f | (apply v_f; omega) | (apply VNew.mk; intro g hg)); (conv => whnf))); apply VCall.stop)
 refine ot_callC (X := FilX) (us := []) (vs := []) _ _ _ (fun x c hc => by simp at hc; rcases hc with rfl | rfl | rfl <;> rfl) (by decide) rfl rfl rfl rfl (by kernel_rfl) (evl_of rfl) rfl (fun w1 hs => hok w1 (hs.tab hT) hV hH) ?_
 rintro ⟨gn, bm, fm, stb, fl, st⟩ ⟨hg0, hc0⟩
 have hro := fun w1 => row_any gn i w1 (by omega)
 have hco := fun w1 h => column_any RA rc R gn k w1 h (by omega) (by omega)
 (dsimp only [List.cons_append, List.nil_append]; apply ot_v tk)
 ((conv => whnf); (repeat ((first | (apply VCall.q; kernel_rfl; (focus (intro w1 hs; first | with_reducible apply hro w1 | ((with_reducible apply hco w1); exact cell_blk (by (repeat (first | exact List.Mem.head _ | assumption | refine List.Mem.tail _ ?_))) rfl w1 hs)))) | apply VBr.f | (apply v_f; omega)); (conv => whnf))); apply VCall.stop)
 refine ot_callW (X := SpanX) (us := []) (vs := []) (fun x => .agg #[.int .i64 (x.fl (2 + i) (2 + R.length + k)), .int .i64 x.hi]) _ _ rfl rfl rfl rfl rfl (by kernel_rfl) (evl_of rfl) rfl (fun w1 hs => hsp hg0 hc0 hs) ?_
 rintro ⟨hi, fl1, st1⟩ ⟨h1, h2, h3, h4⟩
 rw [(spanP_of h2 h3 h4).cell hV (by omega) (by omega)]
 dsimp only
 apply ot_v tk
 ((conv => whnf); (repeat ((apply VSt.mk; (focus ((repeat (first | (with_reducible exact At.here) | (with_reducible apply At.there))); done)); exact rfl); (conv => whnf))))
 (apply VRet.mk)
 refine ret2 (by first | exact .inl rfl | exact .inr rfl) rfl (by exact rv_row tk rfl rfl rfl (by first | exact cells_blk_all (by (repeat (first | exact List.Mem.head _ | assumption | refine List.Mem.tail _ ?_))) | exact cells_row0 (by (repeat (first | exact List.Mem.head _ | assumption | refine List.Mem.tail _ ?_)))) rfl) (by exact rv_tmp rfl) ?_
 exact fun w h => ⟨rfl, h.base⟩
end
end Go.Proofs.Ytalcccgialpjgaa
