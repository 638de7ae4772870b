/- Sums; flows and cuts, plainly: lemmas for the rows of this seat. No conditions. -/
import Derived.WalkKit
import Derived.WalkSpells
import Derived.WalkLawsBesides
import Derived.Lib.Hide
import Derived.Deep.AppendLies
import Derived.Deep.Draws
import Derived.Maps.AppendAt
import Derived.RegionTactic
import Derived.OwnWalk
import Derived.Deep.QuietTactic
import Derived.BigQuiet
import Derived.Deep.DeepFit
import Derived.Deep.LoopGhost
import Derived.Deep.DeepMust
import Derived.Deep.DeepCutAuto
import Derived.StillTail
import Derived.Deep.Quiet
import Derived.Deep.RegionHeld3
import Derived.Deep.RegionWith
import Derived.Deep.RegionLaw
import Derived.Maps.OwnOps
import Derived.Maps.OwnSet
import Derived.Maps.OwnRows
import Derived.Maps.RangeWalk
import Derived.Carry
set_option linter.all false
namespace Go.Proofs.Ytalcccgialpjgaa
open Go.RowKit
/-! ## Sums; flows and cuts, plainly -/
def sm (f : Nat → Int) : Nat → Int
 | 0 => 0
 | n + 1 => sm f n + f n
theorem sm_congr {f g : Nat → Int} : ∀ {n : Nat}, (∀ i, i < n → f i = g i) → sm f n = sm g n
 | 0, _ => rfl
 | n + 1, h => by rw [sm, sm, sm_congr fun i hi => h i (by omega), h n (by omega)]
theorem sm_zero {f : Nat → Int} {n : Nat} (h : ∀ i, i < n → f i = 0) : sm f n = 0 := by
 induction n with
 | zero => rfl
 | succ n ih => rw [sm, ih fun i hi => h i (by omega), h n (by omega)]; rfl
theorem sm_add (f g : Nat → Int) : ∀ n, sm (fun i => f i + g i) n = sm f n + sm g n
 | 0 => rfl
 | n + 1 => by rw [sm, sm, sm, sm_add f g n]; omega
theorem sm_sub (f g : Nat → Int) : ∀ n, sm (fun i => f i - g i) n = sm f n - sm g n
 | 0 => rfl
 | n + 1 => by rw [sm, sm, sm, sm_sub f g n]; omega
theorem sm_le {f g : Nat → Int} : ∀ {n : Nat}, (∀ i, i < n → f i ≤ g i) → sm f n ≤ sm g n
 | 0, _ => Int.le_refl _
 | n + 1, h => by
  have := sm_le (n := n) fun i hi => h i (by omega)
  have := h n (by omega)
  rw [sm, sm]; omega
theorem sm_nonneg {f : Nat → Int} {n : Nat} (h : ∀ i, i < n → 0 ≤ f i) : 0 ≤ sm f n := by
 have := sm_le (f := fun _ => 0) (g := f) h
 rwa [sm_zero (fun _ _ => rfl)] at this
theorem sm_swap (f : Nat → Nat → Int) (a : Nat) : ∀ b, sm (fun i => sm (fun k => f i k) b) a = sm (fun k => sm (fun i => f i k) a) b
 | 0 => sm_zero fun _ _ => rfl
 | b + 1 => by
  rw [sm, ← sm_swap f a b, ← sm_add]
  rfl
theorem sm_split (f : Nat → Int) (a : Nat) : ∀ b, sm f (a + b) = sm f a + sm (fun i => f (a + i)) b
 | 0 => by rw [sm]; simp
 | b + 1 => by rw [← Nat.add_assoc, sm, sm, sm_split f a b]; omega
/-- One summand is another one. -/
theorem sm_one {f g : Nat → Int} {n k : Nat} (hk : k < n) (h : ∀ i, i < n → i ≠ k → g i = f i) : sm g n = sm f n + (g k - f k) := by
 induction n with
 | zero => omega
 | succ n ih =>
  rw [sm, sm]
  rcases Nat.lt_or_ge k n with h1 | h1
  ·rw [ih h1 fun i hi => h i (by omega), h n (by omega) (by omega)]; omega
  ·obtain rfl : k = n := by omega
   rw [sm_congr (g := f) fun i hi => h i (by omega) (by omega)]; omega
theorem sm_only {g : Nat → Int} {n k : Nat} (hk : k < n) (h : ∀ i, i < n → i ≠ k → g i = 0) : sm g n = g k := by
 rw [sm_one (f := fun _ => 0) hk h, sm_zero (fun _ _ => rfl)]; omega
theorem sm_pos {f : Nat → Int} {n : Nat} (h : ∀ i, i < n → 0 ≤ f i) {k : Nat} (hk : k < n) : f k ≤ sm f n := by
 have h1 := sm_le (f := fun i => if i = k then f k else 0) (g := f) (n := n) fun i hi => by
  by_cases e : i = k
  ·simp [e]
  ·simp [e]; exact h i hi
 rw [sm_only hk fun i _ e => by simp [e]] at h1
 simpa using h1
theorem sm_mul (f : Nat → Int) (c : Int) : ∀ n, sm (fun i => c * f i) n = c * sm f n
 | 0 => by simp [sm]
 | n + 1 => by rw [sm, sm, sm_mul f c n, Int.mul_add]
theorem sm_bound {f : Nat → Int} {c : Int} : ∀ {n : Nat}, (∀ i, i < n → f i ≤ c) → sm f n ≤ c * n
 | 0, _ => by simp [sm]
 | n + 1, h => by
  have := sm_bound (n := n) fun i hi => h i (by omega)
  have := h n (by omega)
  rw [sm]; push_cast; rw [Int.mul_add]; omega
theorem sm_bound' {f : Nat → Int} {c : Int} : ∀ {n : Nat}, (∀ i, i < n → c ≤ f i) → c * n ≤ sm f n
 | 0, _ => by simp [sm]
 | n + 1, h => by
  have := sm_bound' (n := n) fun i hi => h i (by omega)
  have := h n (by omega)
  rw [sm]; push_cast; rw [Int.mul_add]; omega

/-- How much more flows into a node than out of it. -/
def exc (N : Nat) (g : Nat → Nat → Int) (v : Nat) : Int := sm (fun u => g u v) N - sm (fun u => g v u) N
def inB (N : Nat) (lo hi g : Nat → Nat → Int) : Prop := ∀ u v, u < N → v < N → lo u v ≤ g u v ∧ g u v ≤ hi u v
/-- A circulation. -/
structure Circ (N : Nat) (lo hi g : Nat → Nat → Int) : Prop where
 inb : inB N lo hi g
 exc : ∀ v, v < N → exc N g v = 0
def crossIn (S : Nat → Bool) (N : Nat) (g : Nat → Nat → Int) : Int := sm (fun u => sm (fun v => if S u = false ∧ S v = true then g u v else 0) N) N
def crossOut (S : Nat → Bool) (N : Nat) (g : Nat → Nat → Int) : Int := sm (fun u => sm (fun v => if S u = true ∧ S v = false then g u v else 0) N) N
theorem exc_cross (S : Nat → Bool) (N : Nat) (g : Nat → Nat → Int) : sm (fun v => if S v = true then exc N g v else 0) N = crossIn S N g - crossOut S N g := by
 unfold crossIn crossOut
 have h1 : sm (fun v => if S v = true then exc N g v else 0) N = sm (fun v => sm (fun u => if S v = true then g u v else 0) N) N - sm (fun v => sm (fun u => if S v = true then g v u else 0) N) N := by
  rw [← sm_sub]
  refine sm_congr fun v _ => ?_
  by_cases hv : S v = true
  ·simp only [hv, if_true, exc]
  ·simp only [hv, if_false, Bool.false_eq_true]
   rw [sm_zero (fun _ _ => rfl)]; simp
 rw [h1, sm_swap, ← sm_sub, ← sm_sub]
 refine sm_congr fun u _ => ?_
 rw [← sm_sub, ← sm_sub]
 refine sm_congr fun v _ => ?_
 cases S u <;> cases S v <;> simp
theorem cross_le {S : Nat → Bool} {N : Nat} {f g : Nat → Nat → Int} (h : ∀ u v, u < N → v < N → f u v ≤ g u v) : crossIn S N f ≤ crossIn S N g ∧ crossOut S N f ≤ crossOut S N g := by
 constructor
 all_goals
  refine sm_le fun u hu => sm_le fun v hv => ?_
  split
  ·exact h u v hu hv
  ·exact Int.le_refl _
/-- What flows round crosses no cut that is too narrow. -/
theorem Circ.cut {N : Nat} {lo hi g : Nat → Nat → Int} (h : Circ N lo hi g) (S : Nat → Bool) : crossIn S N lo ≤ crossOut S N hi := by
 have h1 := exc_cross S N g
 rw [sm_zero (fun v hv => by split; exact h.exc v hv; rfl)] at h1
 have h2 := (cross_le (S := S) (f := lo) (g := g) fun u v hu hv => (h.inb u v hu hv).1).1
 have h3 := (cross_le (S := S) (f := g) (g := hi) fun u v hu hv => (h.inb u v hu hv).2).2
 omega
/-- How much more can flow from a node to another one. -/
def res (lo hi g : Nat → Nat → Int) (u v : Nat) : Int := (hi u v - g u v) + (g v u - lo v u)
/-- Nothing more can flow out of a set. -/
def Shut (N : Nat) (lo hi g : Nat → Nat → Int) (S : Nat → Bool) : Prop := ∀ u v, u < N → v < N → S u = true → S v = false → res lo hi g u v ≤ 0
theorem Shut.cut {N : Nat} {lo hi g : Nat → Nat → Int} {S : Nat → Bool} (hb : inB N lo hi g) (h : Shut N lo hi g S) : sm (fun v => if S v = true then exc N g v else 0) N = crossIn S N lo - crossOut S N hi := by
 rw [exc_cross]
 have h1 : crossIn S N g = crossIn S N lo := by
  refine sm_congr fun u hu => sm_congr fun v hv => ?_
  split
  ·rename_i hs
   have := h v u hv hu hs.2 hs.1
   have := hb v u hv hu
   have := hb u v hu hv
   unfold res at *; omega
  ·rfl
 have h2 : crossOut S N g = crossOut S N hi := by
  refine sm_congr fun u hu => sm_congr fun v hv => ?_
  split
  ·rename_i hs
   have := h u v hu hv hs.1 hs.2
   have := hb v u hv hu
   have := hb u v hu hv
   unfold res at *; omega
  ·rfl
 rw [h1, h2]
/-! ### more flow along a way -/
/-- More flow along an edge, or less along the other way round. -/
def pushE (e : Nat → Nat → Bool) (a : Int) (g : Nat → Nat → Int) (x : Nat × Nat) : Nat → Nat → Int :=
 if e x.1 x.2 = true then fun u v => if u = x.1 ∧ v = x.2 then g u v + a else g u v
 else fun u v => if u = x.2 ∧ v = x.1 then g u v - a else g u v
theorem sm_at {f : Nat → Int} {n k : Nat} (hk : k < n) (a : Int) : sm (fun i => if i = k then f i + a else f i) n = sm f n + a := by
 rw [sm_one (f := f) hk (fun i _ e => by simp [e])]; simp; omega
theorem exc_add {N : Nat} {g : Nat → Nat → Int} {p q : Nat} (hp : p < N) (hq : q < N) (a : Int) (v : Nat) (hv : v < N) :
  exc N (fun u v => if u = p ∧ v = q then g u v + a else g u v) v = exc N g v + (if v = q then a else 0) - (if v = p then a else 0) := by
 unfold exc
 have h1 : sm (fun u => if u = p ∧ v = q then g u v + a else g u v) N = sm (fun u => g u v) N + (if v = q then a else 0) := by
  by_cases e : v = q
  ·simp only [e, and_true, if_true]
   exact sm_at (f := fun u => g u q) hp a
  ·simp [e]
 have h2 : sm (fun u => if v = p ∧ u = q then g v u + a else g v u) N = sm (fun u => g v u) N + (if v = p then a else 0) := by
  by_cases e : v = p
  ·simp only [e, true_and, if_true]
   exact sm_at (f := fun u => g p u) hq a
  ·simp [e]
 rw [h1, h2]; omega
theorem exc_pushE {N : Nat} {e : Nat → Nat → Bool} {a : Int} {g : Nat → Nat → Int} {p q : Nat} (hp : p < N) (hq : q < N) (v : Nat) (hv : v < N) :
  exc N (pushE e a g (p, q)) v = exc N g v + (if v = q then a else 0) - (if v = p then a else 0) := by
 unfold pushE
 split
 ·exact exc_add hp hq a v hv
 ·have h := exc_add (g := g) hq hp (-a) v hv
  have e1 : (fun u v => if u = (p, q).2 ∧ v = (p, q).1 then g u v - a else g u v) = fun u v => if u = q ∧ v = p then g u v + -a else g u v := by
   funext u v; rfl
  rw [e1, h]
  split <;> split <;> omega
/-- The way back from a node to the first one, by marks: from where each was reached. -/
inductive Way (par : Nat → Nat) (root : Nat) : Nat → List (Nat × Nat) → Prop
 | stop : Way par root root []
 | step {v : Nat} {l : List (Nat × Nat)} (h : Way par root (par v) l) : Way par root v ((par v, v) :: l)
theorem exc_way {N : Nat} {e : Nat → Nat → Bool} {a : Int} {par : Nat → Nat} {root : Nat} : ∀ {l : List (Nat × Nat)} {zt : Nat} {g : Nat → Nat → Int}, Way par root zt l → (∀ x ∈ l, x.1 < N ∧ x.2 < N) → ∀ v, v < N →
  exc N (l.foldl (pushE e a) g) v = exc N g v + (if v = zt then a else 0) - (if v = root then a else 0)
 | _, _, g, .stop, _, v, _ => by simp only [List.foldl_nil]; split <;> omega
 | _, zt, g, .step h, hl, v, hv => by
  have h0 := hl _ (.head _)
  rw [List.foldl_cons, exc_way h (fun x hx => hl x (.tail _ hx)) v hv, exc_pushE h0.1 h0.2 v hv]
  omega
/-- Two edges have not the same ends. -/
def Far (x y : Nat × Nat) : Prop := x ≠ y ∧ x ≠ (y.2, y.1)
theorem res_pushE {e : Nat → Nat → Bool} {lo hi : Nat → Nat → Int} {a : Int} {g : Nat → Nat → Int} {x y : Nat × Nat} (h : Far x y) : res lo hi (pushE e a g x) y.1 y.2 = res lo hi g y.1 y.2 := by
 obtain ⟨h1, h2⟩ := h
 obtain ⟨x1, x2⟩ := x
 obtain ⟨y1, y2⟩ := y
 simp only [ne_eq, Prod.mk.injEq] at h1 h2
 unfold res pushE
 dsimp only
 split
 ·dsimp only; rw [if_neg (by omega), if_neg (by omega)]
 ·dsimp only; rw [if_neg (by omega), if_neg (by omega)]
/-- Where there is no edge nothing can flow; no edge goes both ways. -/
structure NetOK (N : Nat) (e : Nat → Nat → Bool) (lo hi : Nat → Nat → Int) : Prop where
 none : ∀ u v, e u v = false → lo u v = 0 ∧ hi u v = 0
 one : ∀ u v, e u v = true → e v u = false
theorem inB_pushE {N : Nat} {e : Nat → Nat → Bool} {lo hi : Nat → Nat → Int} (hN : NetOK N e lo hi) {a : Int} (ha : 0 ≤ a) {g : Nat → Nat → Int} (hb : inB N lo hi g) {x : Nat × Nat} (h1 : x.1 < N) (h2 : x.2 < N) (hx : a ≤ res lo hi g x.1 x.2) (hp : e x.1 x.2 = true ∨ e x.2 x.1 = true) : inB N lo hi (pushE e a g x) := by
 obtain ⟨p, q⟩ := x
 dsimp only at *
 intro u v hu hv
 unfold pushE
 dsimp only
 have h0 := hb u v hu hv
 unfold res at hx
 by_cases he : e p q = true
 ·simp only [he, if_true]
  split
  ·rename_i h3; obtain ⟨rfl, rfl⟩ := h3
   have h4 := hN.none _ _ (hN.one _ _ he)
   have h5 := hb v u hv hu
   omega
  ·exact h0
 ·simp only [he, if_false, Bool.false_eq_true]
  have he' : e q p = true := by rcases hp with h | h; exact absurd h he; exact h
  split
  ·rename_i h3; obtain ⟨rfl, rfl⟩ := h3
   have h4 := hN.none _ _ (hN.one _ _ he')
   have h5 := hb v u hv hu
   omega
  ·exact h0
theorem inB_way {N : Nat} {e : Nat → Nat → Bool} {lo hi : Nat → Nat → Int} (hN : NetOK N e lo hi) {a : Int} (ha : 0 ≤ a) : ∀ {l : List (Nat × Nat)} {g : Nat → Nat → Int}, inB N lo hi g → l.Pairwise Far → (∀ x ∈ l, x.1 < N ∧ x.2 < N ∧ a ≤ res lo hi g x.1 x.2 ∧ (e x.1 x.2 = true ∨ e x.2 x.1 = true)) → inB N lo hi (l.foldl (pushE e a) g)
 | [], _, hb, _, _ => hb
 | x :: l, g, hb, hp, hl => by
  have h0 := hl x (.head _)
  have hp' := List.pairwise_cons.1 hp
  rw [List.foldl_cons]
  refine inB_way hN ha (inB_pushE hN ha hb h0.1 h0.2.1 h0.2.2.1 h0.2.2.2) hp'.2 fun y hy => ?_
  have := hl y (.tail _ hy)
  rw [res_pushE (hp'.1 y hy)]
  exact this
theorem way_rank {par : Nat → Nat} {root : Nat} {rk : Nat → Nat} (hr : ∀ v, v ≠ root → True) : ∀ {l : List (Nat × Nat)} {zt : Nat}, Way par root zt l → (∀ x ∈ l, rk x.1 < rk x.2) → ∀ x ∈ l, rk x.2 ≤ rk zt
 | _, _, .stop, _, x, hx => by cases hx
 | _, zt, .step h, hl, x, hx => by
  rcases List.mem_cons.1 hx with rfl | hx
  ·exact Nat.le_refl _
  ·have := way_rank hr h (fun x hx => hl x (.tail _ hx)) x hx
   have := hl _ (.head _)
   dsimp only at this
   omega
theorem way_far {par : Nat → Nat} {root : Nat} {rk : Nat → Nat} : ∀ {l : List (Nat × Nat)} {zt : Nat}, Way par root zt l → (∀ x ∈ l, rk x.1 < rk x.2) → l.Pairwise Far
 | _, _, .stop, _ => .nil
 | _, zt, .step h, hl => by
  refine .cons (fun y hy => ?_) (way_far h fun x hx => hl x (.tail _ hx))
  have h1 := way_rank (fun _ _ => trivial) h (fun x hx => hl x (.tail _ hx)) y hy
  have h2 := hl _ (.head _)
  have h3 := hl y (.tail _ hy)
  dsimp only at h2
  constructor
  ·rintro rfl; dsimp only at *; omega
  ·intro e
   obtain ⟨y1, y2⟩ := y
   simp only [Prod.mk.injEq] at e
   obtain ⟨rfl, rfl⟩ := e
   dsimp only at *; omega
/-! ## There is a circulation, or a cut that is too narrow -/
theorem exc_sum (N : Nat) (g : Nat → Nat → Int) : sm (exc N g) N = 0 := by
 have : sm (exc N g) N = sm (fun v => sm (fun u => g u v) N) N - sm (fun v => sm (fun u => g v u) N) N := by
  rw [← sm_sub]; rfl
 rw [this, sm_swap]; omega
theorem circ_of_le {N : Nat} {lo hi g : Nat → Nat → Int} (hb : inB N lo hi g) (h : ∀ v, v < N → exc N g v ≤ 0) : Circ N lo hi g := by
 refine ⟨hb, fun v hv => ?_⟩
 have h1 := sm_pos (f := fun v => 0 - exc N g v) (n := N) (fun i hi => by have := h i hi; omega) hv
 rw [sm_sub, sm_zero (f := fun _ => 0) (fun _ _ => rfl), exc_sum] at h1
 have := h v hv
 omega
/-- How much too little flows into nodes. -/
def dfc (N : Nat) (g : Nat → Nat → Int) : Int := sm (fun v => if exc N g v < 0 then - exc N g v else 0) N
theorem dfc_nonneg (N : Nat) (g : Nat → Nat → Int) : 0 ≤ dfc N g := sm_nonneg fun i _ => by split <;> omega
theorem dfc_way {N : Nat} {e : Nat → Nat → Bool} {a : Int} {par : Nat → Nat} {root zt : Nat} {l : List (Nat × Nat)} {g : Nat → Nat → Int} (hw : Way par root zt l) (hl : ∀ x ∈ l, x.1 < N ∧ x.2 < N) (ht : zt < N) (ha : 0 < a) (h1 : a ≤ exc N g root) (h2 : a ≤ - exc N g zt) : dfc N (l.foldl (pushE e a) g) = dfc N g - a := by
 have hx := exc_way (e := e) (a := a) (g := g) hw hl
 have hne : zt ≠ root := by rintro rfl; omega
 unfold dfc
 rw [sm_one (f := fun v => if exc N g v < 0 then - exc N g v else 0) ht]
 ·rw [hx zt ht, if_pos rfl, if_neg hne]
  split <;> split <;> omega
 ·intro i hi hne
  rw [hx i hi, if_neg hne]
  by_cases e : i = root
  ·rw [if_pos e, e]
   rw [if_neg (by omega), if_neg (by omega)]
  ·rw [if_neg e]; simp
/-- Reached from those with too much. -/
inductive Rch (N : Nat) (lo hi g : Nat → Nat → Int) : Nat → Nat → Prop
 | rich {v : Nat} (hv : v < N) (h : 0 < exc N g v) : Rch N lo hi g 0 v
 | step {k u v : Nat} (h : Rch N lo hi g k u) (hv : v < N) (hr : 0 < res lo hi g u v) : Rch N lo hi g (k + 1) v
theorem Rch.lt {N : Nat} {lo hi g : Nat → Nat → Int} {k v : Nat} (h : Rch N lo hi g k v) : v < N := by cases h <;> assumption
theorem rch_least {N : Nat} {lo hi g : Nat → Nat → Int} {v : Nat} (h : ∃ k, Rch N lo hi g k v) : ∃ k, Rch N lo hi g k v ∧ ∀ j, Rch N lo hi g j v → k ≤ j := by
 obtain ⟨k, hk⟩ := h
 induction k using Nat.strongRecOn with
 | _ k ih =>
  by_cases hj : ∃ j, j < k ∧ Rch N lo hi g j v
  ·obtain ⟨j, h1, h2⟩ := hj; exact ih j h1 h2
  ·exact ⟨k, hk, fun j h => Nat.le_of_not_lt fun hlt => hj ⟨j, hlt, h⟩⟩
open Classical in
/-- In how many steps a node is reached. -/
noncomputable def rkR (N : Nat) (lo hi g : Nat → Nat → Int) (v : Nat) : Nat := if h : ∃ k, Rch N lo hi g k v then (rch_least h).choose else 0
theorem rkR_spec {N : Nat} {lo hi g : Nat → Nat → Int} {v : Nat} (h : ∃ k, Rch N lo hi g k v) : Rch N lo hi g (rkR N lo hi g v) v ∧ ∀ j, Rch N lo hi g j v → rkR N lo hi g v ≤ j := by
 unfold rkR
 rw [dif_pos h]
 exact (rch_least h).choose_spec
theorem rkR_le {N : Nat} {lo hi g : Nat → Nat → Int} {k v : Nat} (h : Rch N lo hi g k v) : rkR N lo hi g v ≤ k := (rkR_spec ⟨k, h⟩).2 k h
theorem rkR_prev {N : Nat} {lo hi g : Nat → Nat → Int} {k v : Nat} (h : Rch N lo hi g k v) (h0 : rkR N lo hi g v ≠ 0) : ∃ u, (∃ j, Rch N lo hi g j u) ∧ 0 < res lo hi g u v ∧ rkR N lo hi g u < rkR N lo hi g v := by
 have h1 := (rkR_spec ⟨k, h⟩).1
 generalize rkR N lo hi g v = r at *
 cases h1 with
 | rich => exact absurd rfl h0
 | step h2 hv hr => exact ⟨_, ⟨_, h2⟩, hr, Nat.lt_succ_of_le (rkR_le h2)⟩
open Classical in
noncomputable def parR (N : Nat) (lo hi g : Nat → Nat → Int) (v : Nat) : Nat := if h : ∃ u, (∃ j, Rch N lo hi g j u) ∧ 0 < res lo hi g u v ∧ rkR N lo hi g u < rkR N lo hi g v then h.choose else 0
theorem rch_way {N : Nat} {lo hi g : Nat → Nat → Int} : ∀ (r : Nat) (v : Nat), rkR N lo hi g v = r → (∃ k, Rch N lo hi g k v) → ∃ root l, Way (parR N lo hi g) root v l ∧ 0 < exc N g root ∧ root < N ∧ ∀ x ∈ l, x.1 < N ∧ x.2 < N ∧ 0 < res lo hi g x.1 x.2 ∧ rkR N lo hi g x.1 < rkR N lo hi g x.2 := by
 intro r
 induction r using Nat.strongRecOn with
 | _ r ih =>
  intro v hr ⟨k, hk⟩
  by_cases h0 : rkR N lo hi g v = 0
  ·have h1 := (rkR_spec ⟨k, hk⟩).1
   rw [h0] at h1
   cases h1 with
   | rich hv hx => exact ⟨v, [], .stop, hx, hv, by simp⟩
  ·have h2 := rkR_prev hk h0
   have h3 : (∃ j, Rch N lo hi g j (parR N lo hi g v)) ∧ 0 < res lo hi g (parR N lo hi g v) v ∧ rkR N lo hi g (parR N lo hi g v) < rkR N lo hi g v := by
    have e : parR N lo hi g v = h2.choose := by unfold parR; rw [dif_pos h2]
    rw [e]; exact h2.choose_spec
   obtain ⟨⟨j, h3⟩, h4, h5⟩ := h3
   obtain ⟨root, l, hw, hx, hrt, hl⟩ := ih _ (by omega) (parR N lo hi g v) rfl ⟨j, h3⟩
   refine ⟨root, _, .step hw, hx, hrt, fun x hx => ?_⟩
   rcases List.mem_cons.1 hx with rfl | hx
   ·exact ⟨h3.lt, hk.lt, h4, h5⟩
   ·exact hl x hx
theorem res_edge {N : Nat} {e : Nat → Nat → Bool} {lo hi g : Nat → Nat → Int} (hN : NetOK N e lo hi) (hb : inB N lo hi g) {u v : Nat} (hu : u < N) (hv : v < N) (h : 0 < res lo hi g u v) : e u v = true ∨ e v u = true := by
 by_cases h1 : e u v = true
 ·exact .inl h1
 by_cases h2 : e v u = true
 ·exact .inr h2
 have h3 := hN.none u v (by simpa using h1)
 have h4 := hN.none v u (by simpa using h2)
 have h5 := hb u v hu hv
 have h6 := hb v u hv hu
 unfold res at h; omega
open Classical in
theorem hoff_step {N : Nat} {e : Nat → Nat → Bool} {lo hi : Nat → Nat → Int} (hN : NetOK N e lo hi) : ∀ (k : Nat) (g : Nat → Nat → Int), inB N lo hi g → dfc N g ≤ k → (∃ g, Circ N lo hi g) ∨ ∃ S, crossOut S N hi < crossIn S N lo := by
 intro k
 induction k with
 | zero =>
  intro g hb hd
  refine .inl ⟨g, circ_of_le (g := g) hb fun v hv => ?_⟩
  have h0 : ∀ v, v < N → 0 ≤ exc N g v := fun v hv => by
   have h1 := sm_pos (f := fun v => if exc N g v < 0 then - exc N g v else 0) (n := N) (fun i _ => by split <;> omega) hv
   have h2 := dfc_nonneg N g
   unfold dfc at hd h2
   split at h1 <;> omega
  have h1 := sm_pos (f := exc N g) (n := N) h0 hv
  rw [exc_sum] at h1
  exact h1
 | succ k ih =>
  intro g hb hd
  by_cases hp : ∃ v, (∃ k, Rch N lo hi g k v) ∧ exc N g v < 0
  ·obtain ⟨v, ⟨j, hj⟩, hx⟩ := hp
   obtain ⟨root, l, hw, h1, h2, h3⟩ := rch_way _ v rfl ⟨j, hj⟩
   have hd' := dfc_way (e := e) (a := 1) (g := g) hw (fun x hx => ⟨(h3 x hx).1, (h3 x hx).2.1⟩) hj.lt (by omega) (by omega) (by omega)
   refine ih _ (inB_way hN (a := 1) (by omega) hb (way_far hw (rk := rkR N lo hi g) fun x hx => (h3 x hx).2.2.2) fun x hx => ?_) (by rw [hd']; omega)
   have h4 := h3 x hx
   exact ⟨h4.1, h4.2.1, by omega, res_edge hN hb h4.1 h4.2.1 h4.2.2.1⟩
  ·by_cases hr : ∃ v, v < N ∧ 0 < exc N g v
   ·obtain ⟨v, hv, hx⟩ := hr
    right
    refine ⟨fun v => decide (∃ k, Rch N lo hi g k v), ?_⟩
    have hs : Shut N lo hi g (fun v => decide (∃ k, Rch N lo hi g k v)) := fun u v hu hv h1 h2 => by
     simp only [decide_eq_true_eq, decide_eq_false_iff_not] at h1 h2
     obtain ⟨k, h1⟩ := h1
     exact Int.not_lt.1 fun h => h2 ⟨k + 1, .step h1 hv h⟩
    have h1 := hs.cut hb
    have h2 := sm_pos (f := fun v => if decide (∃ k, Rch N lo hi g k v) = true then exc N g v else 0) (n := N) (fun i hi => by
     split
     ·rename_i h; exact Int.not_lt.1 fun hx => hp ⟨i, by simpa using h, hx⟩
     ·exact Int.le_refl _) hv
    rw [if_pos (by simp; exact ⟨0, .rich hv hx⟩), h1] at h2
    omega
   ·exact .inl ⟨g, circ_of_le hb fun v hv => Int.not_lt.1 fun h => hr ⟨v, hv, h⟩⟩
theorem hoff {N : Nat} {e : Nat → Nat → Bool} {lo hi : Nat → Nat → Int} (hN : NetOK N e lo hi) (hlh : ∀ u v, u < N → v < N → lo u v ≤ hi u v) : (∃ g, Circ N lo hi g) ∨ ∃ S, crossOut S N hi < crossIn S N lo :=
 hoff_step hN (dfc N lo).toNat lo (fun u v hu hv => ⟨Int.le_refl _, hlh u v hu hv⟩) (by have := dfc_nonneg N lo; omega)
/-! ### the greatest and the least along an edge -/
theorem sm2_pos {f : Nat → Nat → Int} {N : Nat} (h : ∀ u v, u < N → v < N → 0 ≤ f u v) {p q : Nat} (hp : p < N) (hq : q < N) : f p q ≤ sm (fun u => sm (fun v => f u v) N) N := by
 have h1 := sm_pos (f := fun u => sm (fun v => f u v) N) (n := N) (fun i hi => sm_nonneg fun j hj => h i j hi hj) hp
 have h2 := sm_pos (f := fun v => f p v) (n := N) (fun j hj => h p j hp hj) hq
 omega
theorem cross_sub (S : Nat → Bool) (N : Nat) (f g : Nat → Nat → Int) : crossIn S N f - crossIn S N g = sm (fun u => sm (fun v => if S u = false ∧ S v = true then f u v - g u v else 0) N) N ∧ crossOut S N f - crossOut S N g = sm (fun u => sm (fun v => if S u = true ∧ S v = false then f u v - g u v else 0) N) N := by
 unfold crossIn crossOut
 constructor
 all_goals
  rw [← sm_sub]
  refine sm_congr fun u _ => ?_
  rw [← sm_sub]
  refine sm_congr fun v _ => ?_
  split <;> rfl
theorem Circ.cross {N : Nat} {lo hi g : Nat → Nat → Int} (h : Circ N lo hi g) (S : Nat → Bool) : crossIn S N g = crossOut S N g := by
 have h1 := exc_cross S N g
 rw [sm_zero (fun v hv => by split; exact h.exc v hv; rfl)] at h1
 omega
/-- Nothing more can flow out of a set but along one edge, either way. -/
def ShutBut (N : Nat) (lo hi g : Nat → Nat → Int) (S : Nat → Bool) (p q : Nat) : Prop := ∀ u v, u < N → v < N → S u = true → S v = false → ¬(u = p ∧ v = q) → ¬(u = q ∧ v = p) → res lo hi g u v ≤ 0
theorem Circ.most {N : Nat} {lo hi g g' : Nat → Nat → Int} (h : Circ N lo hi g) (h' : Circ N lo hi g') {S : Nat → Bool} {p q : Nat} (hp : p < N) (hq : q < N) (hs : ShutBut N lo hi g S p q) (h1 : S q = true) (h2 : S p = false) (h0 : lo q p = 0 ∧ hi q p = 0) : g' p q ≤ g p q := by
 have c1 := h.cross S
 have c2 := h'.cross S
 have hin := (cross_sub S N g' g).1
 have hout := (cross_sub S N g g').2
 apply Int.not_lt.1
 intro hlt
 have e1 := sm2_pos (N := N) (f := fun u v => if S u = false ∧ S v = true then g' u v - g u v else 0) (fun u v hu hv => by
  split
  ·rename_i hc
   by_cases hx : u = p ∧ v = q
   ·obtain ⟨rfl, rfl⟩ := hx; omega
   ·have := hs v u hv hu hc.2 hc.1 (fun e => by rw [e.1, h2] at hc; simp at hc) (fun e => hx ⟨e.2, e.1⟩)
    have := h.inb v u hv hu
    have := h.inb u v hu hv
    have := h'.inb u v hu hv
    unfold res at *; omega
  ·exact Int.le_refl _) hp hq
 rw [← hin] at e1
 rw [if_pos ⟨h2, h1⟩] at e1
 have e2 : 0 ≤ sm (fun u => sm (fun v => if S u = true ∧ S v = false then g u v - g' u v else 0) N) N := sm_nonneg fun u hu => sm_nonneg fun v hv => by
  split
  ·rename_i hc
   by_cases hx : u = q ∧ v = p
   ·obtain ⟨rfl, rfl⟩ := hx
    have := h.inb u v hu hv
    have := h'.inb u v hu hv
    omega
   ·have := hs u v hu hv hc.1 hc.2 (fun e => by rw [e.1, h2] at hc; simp at hc) hx
    have := h.inb v u hv hu
    have := h.inb u v hu hv
    have := h'.inb u v hu hv
    unfold res at *; omega
  ·exact Int.le_refl _
 rw [← hout] at e2
 omega
theorem Circ.least {N : Nat} {lo hi g g' : Nat → Nat → Int} (h : Circ N lo hi g) (h' : Circ N lo hi g') {S : Nat → Bool} {p q : Nat} (hp : p < N) (hq : q < N) (hs : ShutBut N lo hi g S p q) (h1 : S p = true) (h2 : S q = false) (h0 : lo q p = 0 ∧ hi q p = 0) : g p q ≤ g' p q := by
 have c1 := h.cross S
 have c2 := h'.cross S
 have hin := (cross_sub S N g' g).1
 have hout := (cross_sub S N g g').2
 apply Int.not_lt.1
 intro hlt
 have e1 := sm2_pos (N := N) (f := fun u v => if S u = true ∧ S v = false then g u v - g' u v else 0) (fun u v hu hv => by
  split
  ·rename_i hc
   by_cases hx : u = p ∧ v = q
   ·obtain ⟨rfl, rfl⟩ := hx; omega
   ·have := hs u v hu hv hc.1 hc.2 hx (fun e => by rw [e.1, h2] at hc; simp at hc)
    have := h.inb v u hv hu
    have := h.inb u v hu hv
    have := h'.inb u v hu hv
    unfold res at *; omega
  ·exact Int.le_refl _) hp hq
 rw [← hout] at e1
 rw [if_pos ⟨h1, h2⟩] at e1
 have e2 : 0 ≤ sm (fun u => sm (fun v => if S u = false ∧ S v = true then g' u v - g u v else 0) N) N := sm_nonneg fun u hu => sm_nonneg fun v hv => by
  split
  ·rename_i hc
   by_cases hx : u = q ∧ v = p
   ·obtain ⟨rfl, rfl⟩ := hx
    have := h.inb u v hu hv
    have := h'.inb u v hu hv
    omega
   ·have := hs v u hv hu hc.2 hc.1 (fun e => hx ⟨e.2, e.1⟩) (fun e => by rw [e.1, h2] at hc; simp at hc)
    have := h.inb v u hv hu
    have := h.inb u v hu hv
    have := h'.inb u v hu hv
    unfold res at *; omega
  ·exact Int.le_refl _
 rw [← hin] at e2
 omega
end Go.Proofs.Ytalcccgialpjgaa
