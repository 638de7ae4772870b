/- round, plainly: lemmas for the rows of this seat. No conditions. -/
import Derived.Test.YtkbcogaodnmdoaaProg
import Derived.WalkKit
import Derived.WalkSpells
import Derived.WalkLawsBesides
import Derived.Lib.Hide
import Derived.Deep.AppendLies
import Derived.Deep.Draws
import Derived.Maps.AppendAt
import Derived.RegionTactic
import Derived.OwnWalk
import Derived.Deep.QuietTactic
import Derived.BigQuiet
import Derived.Deep.DeepFit
import Derived.Deep.LoopGhost
import Derived.Deep.DeepMust
import Derived.Deep.DeepCutAuto
import Derived.StillTail
import Derived.Deep.Quiet
import Derived.Deep.RegionHeld3
import Derived.Deep.RegionWith
import Derived.Deep.RegionLaw
import Derived.Maps.OwnOps
import Derived.Maps.OwnSet
import Derived.Maps.OwnRows
import Derived.Maps.RangeWalk
import Derived.Carry
import Derived.Test.YtkbcogaodnmdoaaBase
import Derived.Test.YtkbcogaodnmdoaaMaps
import Derived.Test.YtkbcogaodnmdoaaKeys
import Derived.Test.YtkbcogaodnmdoaaS1
import Derived.Test.YtkbcogaodnmdoaaS5
import Derived.Test.YtkbcogaodnmdoaaS12
import Derived.Test.YtkbcogaodnmdoaaS14
import Derived.Test.YtkbcogaodnmdoaaV
import Derived.Test.YtkbcogaodnmdoaaV2
import Derived.Test.YtkbcogaodnmdoaaV3
import Derived.Test.YtkbcogaodnmdoaaTab
import Derived.Test.YtkbcogaodnmdoaaE1
import Derived.Test.YtkbcogaodnmdoaaE2
import Derived.Test.YtkbcogaodnmdoaaE3
import Derived.Test.YtkbcogaodnmdoaaE4
import Derived.Test.YtkbcogaodnmdoaaE5
import Derived.Test.YtkbcogaodnmdoaaE6
import Derived.Test.YtkbcogaodnmdoaaE7
import Derived.Test.YtkbcogaodnmdoaaE8
import Derived.Test.YtkbcogaodnmdoaaE9
import Derived.Test.YtkbcogaodnmdoaaE10
import Derived.Test.YtkbcogaodnmdoaaE11
import Derived.Test.YtkbcogaodnmdoaaE12
import Derived.Test.YtkbcogaodnmdoaaE13
import Derived.Test.YtkbcogaodnmdoaaE14
import Derived.Test.YtkbcogaodnmdoaaE15
set_option linter.all false
namespace Go.Proofs.Ytkbcogaodnmdoaa
open Go.RowKit
/-! ## round, plainly -/
/-- Sums, names before, and the last name whose sum fell. -/
structure RS where
  (at_ be : List Int) (la : Int)
def relax (s : RS) (e : E3) : RS := if iAt s.at_ e.1 + e.2.2 < iAt s.at_ e.2.1 then ⟨s.at_.set e.2.1 (iAt s.at_ e.1 + e.2.2), s.be.set e.2.1 (e.1 : Int), (e.2.1 : Int)⟩ else s
def passR (E : List E3) (s : RS) : RS := E.foldl relax { s with la := -1 }
def passes (E : List E3) : Nat → RS
  | 0 => ⟨List.replicate 19 0, List.replicate 19 0, -1⟩
  | k + 1 => passR E (passes E k)
/-- What holds of the sums after so many steps. -/
structure RSok (N m : Nat) (s : RS) : Prop where
  l1 : s.at_.length = 19
  l2 : s.be.length = 19
  v : ∀ k, -(1000 * (m : Int)) ≤ iAt s.at_ k ∧ iAt s.at_ k ≤ 0
  b : ∀ k, 0 ≤ iAt s.be k ∧ iAt s.be k < N
  la : -1 ≤ s.la ∧ s.la < N
  neg : 0 ≤ s.la → iAt s.at_ s.la.toNat < 0
theorem RSok.relax {N m : Nat} {s : RS} (h : RSok N m s) (hN : N ≤ 19) {e : E3} (h1 : e.1 < N) (h2 : e.2.1 < N) (h3 : -1000 ≤ e.2.2) : RSok N (m + 1) (relax s e) := by
  unfold Ytkbcogaodnmdoaa.relax
  obtain ⟨i, k, n⟩ := e
  dsimp only at *
  have hi := h.v i
  have hk := h.v k
  split
  · rename_i hlt
    refine ⟨by simp [h.l1], by simp [h.l2], fun j => ?_, fun j => ?_, by dsimp only; omega, fun _ => ?_⟩
    · rw [iAt_set (by rw [h.l1]; omega)]
      have := h.v j
      split <;> (push_cast; omega)
    · rw [iAt_set (by rw [h.l2]; omega)]
      have := h.b j
      split <;> omega
    · dsimp only
      rw [Int.toNat_natCast, iAt_set (by rw [h.l1]; omega), if_pos rfl]
      omega
  · refine ⟨h.l1, h.l2, fun j => ?_, h.b, h.la, h.neg⟩
    have := h.v j
    push_cast; omega
theorem RSok.fold {N : Nat} (hN : N ≤ 19) : ∀ {E : List E3} {m : Nat} {s : RS}, RSok N m s → (∀ e ∈ E, e.1 < N ∧ e.2.1 < N ∧ -1000 ≤ e.2.2) → RSok N (m + E.length) (E.foldl Ytkbcogaodnmdoaa.relax s)
  | [], m, s, h, _ => h
  | e :: E, m, s, h, hE => by
    obtain ⟨a, b, c⟩ := hE e (.head _)
    have := RSok.fold hN (h.relax hN a b c) fun x hx => hE x (.tail _ hx)
    rw [List.length_cons, show m + (E.length + 1) = m + 1 + E.length by omega]
    exact this
theorem RSok.start {N m : Nat} {s : RS} (h : RSok N m s) (hN : 0 < N) : RSok N m { s with la := -1 } := ⟨h.l1, h.l2, h.v, h.b, by dsimp only; omega, fun h => by dsimp only at h; omega⟩
theorem iAt_zeros (n k : Nat) : iAt (List.replicate n 0) k = 0 := by
  unfold iAt
  rw [List.getElem?_replicate]
  split <;> rfl
theorem passes_ok {N : Nat} (hN : 0 < N ∧ N ≤ 19) {E : List E3} (hE : ∀ e ∈ E, e.1 < N ∧ e.2.1 < N ∧ -1000 ≤ e.2.2) : ∀ k, RSok N (k * E.length) (passes E k)
  | 0 => ⟨by simp [passes], by simp [passes], fun k => by show _ ≤ iAt (List.replicate 19 0) k ∧ iAt (List.replicate 19 0) k ≤ 0; rw [iAt_zeros]; omega, fun k => by show 0 ≤ iAt (List.replicate 19 0) k ∧ iAt (List.replicate 19 0) k < N; rw [iAt_zeros]; omega, by simp [passes]; omega, fun h => by simp [passes] at h⟩
  | k + 1 => by
    have := RSok.fold hN.2 ((passes_ok hN hE k).start hN.1) hE
    rw [Nat.add_mul, Nat.one_mul]
    exact this
/-! ### the way back from a name is a round -/
theorem pigeon : ∀ (n : Nat) (g : Nat → Nat), (∀ i, i ≤ n → g i < n) → ∃ i j, i < j ∧ j ≤ n ∧ g i = g j
  | 0, g, h => by have := h 0 (Nat.le_refl _); omega
  | n + 1, g, h => by
    by_cases hv : ∃ i, i ≤ n ∧ g i = g (n + 1)
    · obtain ⟨i, hi, he⟩ := hv
      exact ⟨i, n + 1, by omega, Nat.le_refl _, he⟩
    · have hne : ∀ i, i ≤ n → g i ≠ g (n + 1) := fun i hi he => hv ⟨i, hi, he⟩
      have hl := h (n + 1) (Nat.le_refl _)
      obtain ⟨i, j, h1, h2, h3⟩ := pigeon n (fun i => if g (n + 1) < g i then g i - 1 else g i) fun i hi => by
        have := h i (by omega)
        have := hne i hi
        split <;> omega
      have hi := hne i (by omega)
      have hj := hne j h2
      refine ⟨i, j, h1, by omega, ?_⟩
      split at h3 <;> split at h3 <;> omega
def backN (be : List Int) : Nat → Nat → Nat
  | 0, x => x
  | k + 1, x => (iAt be (backN be k x)).toNat
theorem backN_add (be : List Int) (x : Nat) (j : Nat) : ∀ k, backN be (j + k) x = backN be k (backN be j x)
  | 0 => rfl
  | k + 1 => by rw [← Nat.add_assoc, backN, backN_add be x j k, backN]
theorem backN_lt {be : List Int} {N : Nat} (hb : ∀ k, 0 ≤ iAt be k ∧ iAt be k < N) {x : Nat} (hx : x < N) : ∀ k, backN be k x < N
  | 0 => hx
  | k + 1 => by have := hb (backN be k x); rw [backN]; omega
theorem back_period {be : List Int} {N : Nat} (hb : ∀ k, 0 ≤ iAt be k ∧ iAt be k < N) {x : Nat} (hx : x < N) : ∃ p, 1 ≤ p ∧ p ≤ N ∧ backN be p (backN be N x) = backN be N x := by
  obtain ⟨i, j, h1, h2, h3⟩ := pigeon N (fun i => backN be i x) fun i _ => backN_lt hb hx i
  refine ⟨j - i, by omega, by omega, ?_⟩
  have e0 : backN be (j - i) (backN be i x) = backN be i x := by rw [← backN_add, show i + (j - i) = j by omega, ← h3]
  have eN : backN be N x = backN be (N - i) (backN be i x) := by rw [← backN_add, show i + (N - i) = N by omega]
  rw [eN]
  generalize backN be i x = u at *
  rw [← backN_add, Nat.add_comm, backN_add, e0]
/-- The least period of a name, looked for from one on. -/
def perF (be : List Int) (y : Nat) : Nat → Nat → Nat
  | 0, p => p
  | f + 1, p => if backN be p y = y then p else perF be y f (p + 1)
theorem perF_spec (be : List Int) (y : Nat) : ∀ (f p q : Nat), p ≤ q → q < p + f → backN be q y = y → backN be (perF be y f p) y = y ∧ p ≤ perF be y f p ∧ perF be y f p ≤ q ∧ ∀ j, p ≤ j → j < perF be y f p → backN be j y ≠ y
  | 0, p, q, h1, h2, _ => by omega
  | f + 1, p, q, h1, h2, h => by
    rw [perF]
    split
    · rename_i hp
      exact ⟨hp, Nat.le_refl _, h1, fun j a b => by omega⟩
    · rename_i hp
      have hpq : p ≠ q := fun e => hp (by rw [e]; exact h)
      obtain ⟨a, b, c, d⟩ := perF_spec be y f (p + 1) q (by omega) (by omega) h
      refine ⟨a, by omega, c, fun j h3 h4 => ?_⟩
      by_cases hj : j = p
      · subst hj; exact hp
      · exact d j (by omega) h4
def perB (N : Nat) (be : List Int) (y : Nat) : Nat := perF be y N 1
theorem perB_spec {be : List Int} {N : Nat} (hb : ∀ k, 0 ≤ iAt be k ∧ iAt be k < N) {x : Nat} (hx : x < N) :
    backN be (perB N be (backN be N x)) (backN be N x) = backN be N x ∧ 1 ≤ perB N be (backN be N x) ∧ perB N be (backN be N x) ≤ N ∧ ∀ j, 1 ≤ j → j < perB N be (backN be N x) → backN be j (backN be N x) ≠ backN be N x := by
  obtain ⟨p, h1, h2, h3⟩ := back_period hb hx
  obtain ⟨a, b, c, d⟩ := perF_spec be (backN be N x) N 1 p h1 (by omega) h3
  exact ⟨a, b, by unfold perB; omega, d⟩
/-- The names on the way back, from a name on. -/
def outB (be : List Int) (y k : Nat) : List Int := (List.range k).map fun j => (backN be j y : Int)
/-- round, plainly. -/
def roundP (N : Nat) (E : List E3) : List Int :=
  if (passes E N).la < 0 then [] else
    (outB (passes E N).be (backN (passes E N).be N (passes E N).la.toNat) (perB N (passes E N).be (backN (passes E N).be N (passes E N).la.toNat))).reverse
end Go.Proofs.Ytkbcogaodnmdoaa
