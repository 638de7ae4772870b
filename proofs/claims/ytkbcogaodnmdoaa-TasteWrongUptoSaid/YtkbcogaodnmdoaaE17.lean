/- A round there is, or a potential: lemmas for the rows of this seat. No conditions. -/
import Derived.Test.YtkbcogaodnmdoaaProg
import Derived.WalkKit
import Derived.WalkSpells
import Derived.WalkLawsBesides
import Derived.Lib.Hide
import Derived.Deep.AppendLies
import Derived.Deep.Draws
import Derived.Maps.AppendAt
import Derived.RegionTactic
import Derived.OwnWalk
import Derived.Deep.QuietTactic
import Derived.BigQuiet
import Derived.Deep.DeepFit
import Derived.Deep.LoopGhost
import Derived.Deep.DeepMust
import Derived.Deep.DeepCutAuto
import Derived.StillTail
import Derived.Deep.Quiet
import Derived.Deep.RegionHeld3
import Derived.Deep.RegionWith
import Derived.Deep.RegionLaw
import Derived.Maps.OwnOps
import Derived.Maps.OwnSet
import Derived.Maps.OwnRows
import Derived.Maps.RangeWalk
import Derived.Carry
import Derived.Test.YtkbcogaodnmdoaaBase
import Derived.Test.YtkbcogaodnmdoaaMaps
import Derived.Test.YtkbcogaodnmdoaaKeys
import Derived.Test.YtkbcogaodnmdoaaS1
import Derived.Test.YtkbcogaodnmdoaaS5
import Derived.Test.YtkbcogaodnmdoaaS12
import Derived.Test.YtkbcogaodnmdoaaS14
import Derived.Test.YtkbcogaodnmdoaaV
import Derived.Test.YtkbcogaodnmdoaaV2
import Derived.Test.YtkbcogaodnmdoaaV3
import Derived.Test.YtkbcogaodnmdoaaTab
import Derived.Test.YtkbcogaodnmdoaaE1
import Derived.Test.YtkbcogaodnmdoaaE2
import Derived.Test.YtkbcogaodnmdoaaE3
import Derived.Test.YtkbcogaodnmdoaaE4
import Derived.Test.YtkbcogaodnmdoaaE5
import Derived.Test.YtkbcogaodnmdoaaE6
import Derived.Test.YtkbcogaodnmdoaaE7
import Derived.Test.YtkbcogaodnmdoaaE8
import Derived.Test.YtkbcogaodnmdoaaE9
import Derived.Test.YtkbcogaodnmdoaaE10
import Derived.Test.YtkbcogaodnmdoaaE11
import Derived.Test.YtkbcogaodnmdoaaE12
import Derived.Test.YtkbcogaodnmdoaaE13
import Derived.Test.YtkbcogaodnmdoaaE14
import Derived.Test.YtkbcogaodnmdoaaE15
import Derived.Test.YtkbcogaodnmdoaaE16
set_option linter.all false
namespace Go.Proofs.Ytkbcogaodnmdoaa
open Go.RowKit
/-! ## A round there is, or a potential -/
def Pot (E : List E3) (p : Nat → Int) : Prop := ∀ e ∈ E, p e.2.1 ≤ p e.1 + e.2.2
/-- Sums, with the pass in which each name's sum fell last. -/
structure GS where
  s : RS
  pa : Nat → Nat
def grelax (j : Nat) (g : GS) (e : E3) : GS :=
  if iAt g.s.at_ e.1 + e.2.2 < iAt g.s.at_ e.2.1 then ⟨⟨g.s.at_.set e.2.1 (iAt g.s.at_ e.1 + e.2.2), g.s.be.set e.2.1 (e.1 : Int), (e.2.1 : Int)⟩, fun x => if x = e.2.1 then j else g.pa x⟩ else g
theorem grelax_s (j : Nat) (g : GS) (e : E3) : (grelax j g e).s = relax g.s e := by
  unfold grelax relax
  split <;> rfl
def gpasses (E : List E3) : Nat → GS
  | 0 => ⟨passes E 0, fun _ => 0⟩
  | k + 1 => E.foldl (grelax (k + 1)) ⟨{ (gpasses E k).s with la := -1 }, (gpasses E k).pa⟩
theorem gfold_s (j : Nat) : ∀ (E : List E3) (g : GS), (E.foldl (grelax j) g).s = E.foldl relax g.s
  | [], _ => rfl
  | e :: E, g => by rw [List.foldl_cons, List.foldl_cons, gfold_s j E, grelax_s]
theorem gpasses_s (E : List E3) : ∀ k, (gpasses E k).s = passes E k
  | 0 => rfl
  | k + 1 => by rw [gpasses, gfold_s, gpasses_s E k]; rfl
/-- The sum of the bounds on the way back. -/
def backS (W : Nat → Nat → Int) (be : List Int) (x : Nat) : Nat → Int
  | 0 => 0
  | k + 1 => backS W be x k + W (backN be (k + 1) x) (backN be k x)
structure RInv (E : List E3) (W : Nat → Nat → Int) (N j : Nat) (pre : List E3) (g : GS) : Prop where
  l1 : g.s.at_.length = 19
  l2 : g.s.be.length = 19
  b : ∀ k, 0 ≤ iAt g.s.be k ∧ iAt g.s.be k < N
  pos : ∀ v, 1 ≤ g.pa v → v < N ∧ ((iAt g.s.be v).toNat, v, W (iAt g.s.be v).toNat v) ∈ E ∧ iAt g.s.at_ (iAt g.s.be v).toNat + W (iAt g.s.be v).toNat v ≤ iAt g.s.at_ v ∧ g.pa v ≤ g.pa (iAt g.s.be v).toNat + 1
  le : ∀ v, g.pa v ≤ j
  cyc : ∀ v p, 1 ≤ p → (∀ i, i < p → 1 ≤ g.pa (backN g.s.be i v)) → backN g.s.be p v = v → backS W g.s.be v p < 0
  sc1 : ∀ e ∈ E, g.pa e.1 + 2 ≤ j → iAt g.s.at_ e.2.1 ≤ iAt g.s.at_ e.1 + e.2.2
  sc2 : ∀ e ∈ pre, g.pa e.1 + 1 ≤ j → iAt g.s.at_ e.2.1 ≤ iAt g.s.at_ e.1 + e.2.2
  la : 0 ≤ g.s.la → g.pa g.s.la.toNat = j
  la' : g.s.la < 0 → ∀ v, g.pa v + 1 ≤ j
theorem RInv.step {E : List E3} {W : Nat → Nat → Int} {N j : Nat} {pre : List E3} {g : GS} (h : RInv E W N j pre g) (hN : N ≤ 19) (hj : 1 ≤ j) {e : E3} (he : e ∈ E) (hW : W e.1 e.2.1 = e.2.2) (h1 : e.1 < N) (h2 : e.2.1 < N) : RInv E W N j (pre ++ [e]) (grelax j g e) := by
  obtain ⟨u, v, w⟩ := e
  obtain ⟨⟨at_, be, la⟩, pa⟩ := g
  dsimp only at *
  unfold grelax
  dsimp only
  have hl1 := h.l1
  have hl2 := h.l2
  dsimp only at hl1 hl2
  split
  · rename_i hlt
    have hb : ∀ k, iAt (be.set v (u : Int)) k = if k = v then (u : Int) else iAt be k := fun k => iAt_set (by omega)
    have ha : ∀ k, iAt (at_.set v (iAt at_ u + w)) k = if k = v then iAt at_ u + w else iAt at_ k := fun k => iAt_set (by omega)
    have hu : j ≤ pa u + 1 := by
      rcases Nat.lt_or_ge (pa u + 1) j with hh | hh
      · have := h.sc1 _ he (by dsimp only; omega)
        dsimp only at this; omega
      · exact hh
    have hle : ∀ k, iAt (at_.set v (iAt at_ u + w)) k ≤ iAt at_ k := fun k => by rw [ha]; split <;> (try subst k) <;> omega
    have hpu : 1 ≤ pa u ∨ j = 1 := by omega
    -- bounds along the names before
    have hp : ∀ x, 1 ≤ (if x = v then j else pa x) → x < N ∧ ((iAt (be.set v (u : Int)) x).toNat, x, W (iAt (be.set v (u : Int)) x).toNat x) ∈ E ∧ iAt (at_.set v (iAt at_ u + w)) (iAt (be.set v (u : Int)) x).toNat + W (iAt (be.set v (u : Int)) x).toNat x ≤ iAt (at_.set v (iAt at_ u + w)) x ∧ ((iAt (be.set v (u : Int)) x).toNat = v → iAt (at_.set v (iAt at_ u + w)) (iAt (be.set v (u : Int)) x).toNat + W (iAt (be.set v (u : Int)) x).toNat x < iAt (at_.set v (iAt at_ u + w)) x) ∧ (if x = v then j else pa x) ≤ (if (iAt (be.set v (u : Int)) x).toNat = v then j else pa (iAt (be.set v (u : Int)) x).toNat) + 1 := by
      intro x hx
      by_cases hxv : x = v
      · subst hxv
        rw [hb, if_pos rfl, Int.toNat_natCast, ha, ha, if_pos rfl, if_pos rfl, hW]
        refine ⟨h2, he, ?_, ?_, ?_⟩
        · split
          · rename_i e; subst e; omega
          · omega
        · intro e; subst e; rw [if_pos rfl]; omega
        · split <;> omega
      · rw [hb, if_neg hxv, if_neg hxv] at *
        obtain ⟨p1, p2, p3, p4⟩ := h.pos x hx
        dsimp only at p1 p2 p3 p4
        refine ⟨p1, p2, ?_, ?_, ?_⟩
        · have := hle (iAt be x).toNat
          rw [ha x, if_neg hxv]; omega
        · intro e
          rw [e] at p3
          rw [ha x, if_neg hxv, e, ha, if_pos rfl]; omega
        · have := h.le x
          dsimp only at this
          split <;> omega
    refine ⟨by dsimp only; rw [List.length_set]; exact hl1, by dsimp only; rw [List.length_set]; exact hl2, fun k => ?_, fun x hx => ?_, fun x => ?_, ?_, ?_, ?_, ?_, ?_⟩
    · dsimp only
      rw [hb]
      have := h.b k
      dsimp only at this
      split <;> omega
    · obtain ⟨a, b, c, d, e⟩ := hp x hx
      exact ⟨a, b, c, e⟩
    · dsimp only
      have := h.le x
      dsimp only at this
      split <;> omega
    · dsimp only
      intro x p h1p hset hper
      by_cases hthru : ∃ i, i < p ∧ backN (be.set v (u : Int)) (i + 1) x = v
      · obtain ⟨i, hi, hiv⟩ := hthru
        have key : ∀ k, k ≤ p → backS W (be.set v (u : Int)) x k + iAt (at_.set v (iAt at_ u + w)) (backN (be.set v (u : Int)) k x) ≤ iAt (at_.set v (iAt at_ u + w)) x ∧ (i < k → backS W (be.set v (u : Int)) x k + iAt (at_.set v (iAt at_ u + w)) (backN (be.set v (u : Int)) k x) < iAt (at_.set v (iAt at_ u + w)) x) := by
          intro k
          induction k with
          | zero => intro _; exact ⟨by rw [backS, backN]; omega, fun h => by omega⟩
          | succ k ih =>
            intro hk
            obtain ⟨ih1, ih2⟩ := ih (by omega)
            obtain ⟨q1, q2, q3, q4, q5⟩ := hp (backN (be.set v (u : Int)) k x) (hset k (by omega))
            rw [backS, backN]
            rw [backN] at hiv
            refine ⟨by omega, fun hik => ?_⟩
            by_cases e : i = k
            · subst e
              have := q4 hiv
              omega
            · have := ih2 (by omega)
              omega
        have := (key p (Nat.le_refl _)).2 hi
        rw [hper] at this
        omega
      · have hx0 : ∀ i, i < p → backN (be.set v (u : Int)) i x ≠ v := by
          intro i hi e
          rcases Nat.eq_zero_or_pos i with h0 | h0
          · subst h0
            exact hthru ⟨p - 1, by omega, by rw [show p - 1 + 1 = p by omega, hper]; exact e⟩
          · exact hthru ⟨i - 1, by omega, by rw [show i - 1 + 1 = i by omega]; exact e⟩
        have hsame : ∀ k, k ≤ p → backN (be.set v (u : Int)) k x = backN be k x ∧ backS W (be.set v (u : Int)) x k = backS W be x k := by
          intro k
          induction k with
          | zero => intro _; exact ⟨rfl, rfl⟩
          | succ k ih =>
            intro hk
            obtain ⟨i1, i2⟩ := ih (by omega)
            have hne := hx0 k (by omega)
            have e1 : backN (be.set v (u : Int)) (k + 1) x = backN be (k + 1) x := by
              rw [backN, backN, hb, if_neg hne, i1]
            exact ⟨e1, by rw [backS, backS, i2, e1, i1]⟩
        rw [(hsame p (Nat.le_refl _)).2]
        refine h.cyc x p h1p (fun i hi => ?_) ?_
        · have := hset i hi
          rw [if_neg (hx0 i hi), (hsame i (by omega)).1] at this
          exact this
        · rw [← (hsame p (Nat.le_refl _)).1]; exact hper
    · rintro ⟨a, b, c⟩ hm hpa
      dsimp only at *
      have hav : a ≠ v := fun e => by rw [if_pos e] at hpa; omega
      rw [if_neg hav] at hpa
      have := h.sc1 _ hm hpa
      dsimp only at this
      have := hle b
      rw [ha a, if_neg hav]; omega
    · rintro ⟨a, b, c⟩ hm hpa
      dsimp only at *
      have hav : a ≠ v := fun e => by rw [if_pos e] at hpa; omega
      rw [if_neg hav] at hpa
      rcases List.mem_append.1 hm with hm | hm
      · have := h.sc2 _ hm hpa
        dsimp only at this
        have := hle b
        rw [ha a, if_neg hav]; omega
      · rw [List.mem_singleton] at hm
        cases hm
        rw [ha v, if_pos rfl, ha u, if_neg hav]; omega
    · dsimp only
      intro _
      rw [Int.toNat_natCast, if_pos rfl]
    · dsimp only
      intro hh; omega
  · rename_i hlt
    refine ⟨h.l1, h.l2, h.b, h.pos, h.le, h.cyc, h.sc1, ?_, h.la, h.la'⟩
    intro e hm hpa
    rcases List.mem_append.1 hm with hm | hm
    · exact h.sc2 e hm hpa
    · rw [List.mem_singleton] at hm
      subst hm
      dsimp only
      omega
theorem RInv.fold {E : List E3} {W : Nat → Nat → Int} {N j : Nat} (hN : N ≤ 19) (hj : 1 ≤ j) : ∀ {F : List E3} {pre : List E3} {g : GS}, RInv E W N j pre g → (∀ e ∈ F, e ∈ E ∧ W e.1 e.2.1 = e.2.2 ∧ e.1 < N ∧ e.2.1 < N) → RInv E W N j (pre ++ F) (F.foldl (grelax j) g)
  | [], pre, g, h, _ => by rw [List.append_nil]; exact h
  | e :: F, pre, g, h, hF => by
    obtain ⟨a, b, c, d⟩ := hF e (.head _)
    have := RInv.fold hN hj (h.step hN hj a b c d) (F := F) fun x hx => hF x (.tail _ hx)
    rw [List.append_assoc] at this
    exact this
theorem RInv.next {E : List E3} {W : Nat → Nat → Int} {N j : Nat} {g : GS} (h : RInv E W N j E g) : RInv E W N (j + 1) [] ⟨{ g.s with la := -1 }, g.pa⟩ := by
  refine ⟨h.l1, h.l2, h.b, h.pos, fun v => ?_, h.cyc, fun e he hp => h.sc2 e he ?_, fun e he => ?_, fun hh => ?_, fun _ v => ?_⟩
  · have := h.le v
    dsimp only; omega
  · dsimp only at hp; omega
  · cases he
  · dsimp only at hh; omega
  · have := h.le v
    dsimp only; omega
theorem gpasses_inv {E : List E3} {W : Nat → Nat → Int} {N : Nat} (hN : N ≤ 19) (hN0 : 0 < N) (hE : ∀ e ∈ E, W e.1 e.2.1 = e.2.2 ∧ e.1 < N ∧ e.2.1 < N) : ∀ k, RInv E W N (k + 1) E (gpasses E (k + 1))
  | 0 => by
    have hz : ∀ k, iAt (passes E 0).be k = 0 := fun k => iAt_zeros 19 k
    have h0 : RInv E W N 1 [] ⟨{ (gpasses E 0).s with la := -1 }, (gpasses E 0).pa⟩ := by
      refine ⟨by simp [gpasses, passes], by simp [gpasses, passes], fun k => ?_, fun v hv => ?_, fun v => ?_, fun v p h1 hs _ => ?_, fun e _ hp => ?_, fun e he => (by cases he), fun hh => (by dsimp only at hh; omega), fun _ v => ?_⟩
      · show 0 ≤ iAt (passes E 0).be k ∧ iAt (passes E 0).be k < N
        rw [hz]; omega
      · have : (gpasses E 0).pa v = 0 := rfl
        dsimp only at hv; omega
      · have : (gpasses E 0).pa v = 0 := rfl
        dsimp only; omega
      · have := hs 0 h1
        have e : ∀ x, (gpasses E 0).pa x = 0 := fun _ => rfl
        dsimp only at this; rw [e] at this; omega
      · dsimp only at hp; omega
      · have : (gpasses E 0).pa v = 0 := rfl
        dsimp only; omega
    exact h0.fold (F := E) hN (Nat.le_refl _) fun e he => ⟨he, hE e he⟩
  | k + 1 => by
    have h0 := (gpasses_inv hN hN0 hE k).next
    exact h0.fold (F := E) hN (by omega) fun e he => ⟨he, hE e he⟩
/-- No sum fell in the last pass: the sums are a potential. -/
theorem passes_pot {E : List E3} {W : Nat → Nat → Int} {N : Nat} (hN : N ≤ 19) (hN0 : 0 < N) (hE : ∀ e ∈ E, W e.1 e.2.1 = e.2.2 ∧ e.1 < N ∧ e.2.1 < N) (h : (passes E N).la < 0) : Pot E (iAt (passes E N).at_) := by
  obtain ⟨k, rfl⟩ : ∃ k, N = k + 1 := ⟨N - 1, by omega⟩
  have hi := gpasses_inv hN hN0 hE k
  rw [← gpasses_s] at h ⊢
  exact fun e he => hi.sc2 e he (hi.la' h _)
theorem backN_one (be : List Int) (x : Nat) (k : Nat) : backN be k (iAt be x).toNat = backN be (k + 1) x := by
  rw [Nat.add_comm, backN_add]; rfl
/-- Some sum fell in the last pass: the way back is a round below 0. -/
theorem passes_round {E : List E3} {W : Nat → Nat → Int} {N : Nat} (hN : N ≤ 19) (hN0 : 0 < N) (hE : ∀ e ∈ E, W e.1 e.2.1 = e.2.2 ∧ e.1 < N ∧ e.2.1 < N) (h : 0 ≤ (passes E N).la) (hlaN : (passes E N).la < N) :
    (∀ t, backN (passes E N).be t (backN (passes E N).be N (passes E N).la.toNat) < N ∧ (backN (passes E N).be (t + 1) (backN (passes E N).be N (passes E N).la.toNat), backN (passes E N).be t (backN (passes E N).be N (passes E N).la.toNat), W (backN (passes E N).be (t + 1) (backN (passes E N).be N (passes E N).la.toNat)) (backN (passes E N).be t (backN (passes E N).be N (passes E N).la.toNat))) ∈ E)
    ∧ backS W (passes E N).be (backN (passes E N).be N (passes E N).la.toNat) (perB N (passes E N).be (backN (passes E N).be N (passes E N).la.toNat)) < 0 := by
  obtain ⟨k, rfl⟩ : ∃ k, N = k + 1 := ⟨N - 1, by omega⟩
  have hi := gpasses_inv hN hN0 hE k
  rw [← gpasses_s] at *
  generalize gpasses E (k + 1) = g at *
  have hla := hi.la h
  generalize g.s.la.toNat = x0 at *
  have hx0 : x0 < k + 1 := (hi.pos x0 (by omega)).1
  have hpa : ∀ i, i ≤ k + 1 → k + 1 ≤ g.pa (backN g.s.be i x0) + i := by
    intro i
    induction i with
    | zero => intro _; rw [backN]; omega
    | succ i ih =>
      intro hik
      have := ih (by omega)
      obtain ⟨_, _, _, p4⟩ := hi.pos (backN g.s.be i x0) (by omega)
      rw [backN]; omega
  obtain ⟨p1, p2, p3, _⟩ := perB_spec hi.b hx0
  obtain ⟨a, b, hab, hb, heq⟩ := pigeon (k + 1) (fun i => backN g.s.be i x0) fun i _ => backN_lt hi.b hx0 i
  -- all names on the round have been set
  have hper : ∀ m r, backN g.s.be (a + r + m * (b - a)) x0 = backN g.s.be (a + r) x0 := by
    intro m
    induction m with
    | zero => intro r; rw [Nat.zero_mul]; rfl
    | succ m ih =>
      intro r
      have e1 : a + r + (m + 1) * (b - a) = (b + r) + m * (b - a) := by
        rw [Nat.add_mul]
        have : a + (b - a) = b := by omega
        omega
      have e2 : b + r = a + (r + (b - a)) := by omega
      rw [e1, e2, ih, show a + (r + (b - a)) = b + r by omega, backN_add, ← heq, ← backN_add]
  have hset : ∀ i, a ≤ i → 1 ≤ g.pa (backN g.s.be i x0) := by
    intro i hai
    have hd : 0 < b - a := by omega
    have e : i = a + (i - a) % (b - a) + (i - a) / (b - a) * (b - a) := by
      have := Nat.mod_add_div (i - a) (b - a)
      rw [Nat.mul_comm] at this
      omega
    rw [e, hper]
    have hlt := Nat.mod_lt (i - a) hd
    have := hpa (a + (i - a) % (b - a)) (by omega)
    omega
  have hset2 : ∀ t, 1 ≤ g.pa (backN g.s.be t (backN g.s.be (k + 1) x0)) := fun t => by
    rw [← backN_add]; exact hset _ (by omega)
  refine ⟨fun t => ?_, hi.cyc _ _ p2 (fun i _ => hset2 i) p1⟩
  obtain ⟨q1, q2, _, _⟩ := hi.pos _ (hset2 t)
  exact ⟨q1, q2⟩
/-! ## Walks along bounds -/
inductive Walk (E : List E3) : Nat → List Nat → Nat → Int → Prop
  | nil (i : Nat) : Walk E i [] i 0
  | cons {i j k : Nat} {l : List Nat} {w s : Int} (he : (i, j, w) ∈ E) (h : Walk E j l k s) : Walk E i (j :: l) k (w + s)
namespace Walk
variable {E : List E3} {i j k : Nat} {l m : List Nat} {s t : Int}
theorem one {w : Int} (h : (i, k, w) ∈ E) : Walk E i [k] k w := by
  have := Walk.cons h (Walk.nil k)
  rwa [Int.add_zero] at this
theorem append (h : Walk E i l j s) (h2 : Walk E j m k t) : Walk E i (l ++ m) k (s + t) := by
  induction h with
  | nil => rw [Int.zero_add]; exact h2
  | cons he _ ih => rw [Int.add_assoc]; exact .cons he (ih h2)
theorem split : ∀ {l : List Nat} {i : Nat} {s : Int}, Walk E i (l ++ m) k s → ∃ j a b, Walk E i l j a ∧ Walk E j m k b ∧ s = a + b
  | [], i, s, h => ⟨i, 0, s, .nil i, h, by omega⟩
  | x :: l, i, s, h => by
    cases h with
    | cons he h =>
      obtain ⟨j, a, b, h1, h2, h3⟩ := split h
      exact ⟨j, _, b, .cons he h1, h2, by omega⟩
theorem pot {p : Nat → Int} (hp : Pot E p) (h : Walk E i l k s) : p k ≤ p i + s := by
  induction h with
  | nil => omega
  | cons he _ ih => have := hp _ he; dsimp only at this; omega
theorem last (h : Walk E i l k s) : (i :: l).getLast? = some k := by
  induction h with
  | nil => rfl
  | cons he _ ih => rw [List.getLast?_cons_cons]; exact ih
theorem names {N : Nat} (hE : ∀ e ∈ E, e.1 < N ∧ e.2.1 < N) (h : Walk E i l k s) (hi : i < N) : k < N ∧ ∀ x ∈ i :: l, x < N := by
  induction h with
  | nil => exact ⟨hi, fun x hx => by rw [List.mem_singleton] at hx; omega⟩
  | cons he _ ih =>
    obtain ⟨a, b⟩ := ih (hE _ he).2
    exact ⟨a, fun x hx => by
      rcases List.mem_cons.1 hx with rfl | hx
      · exact hi
      · exact b x hx⟩
theorem size {B : Int} (hE : ∀ e ∈ E, -B ≤ e.2.2 ∧ e.2.2 ≤ B) (h : Walk E i l k s) : -(B * l.length) ≤ s ∧ s ≤ B * l.length := by
  induction h with
  | nil => simp
  | cons he _ ih =>
    have := hE _ he
    dsimp only at this
    rw [List.length_cons]
    push_cast
    rw [Int.mul_add]
    omega
theorem cut {x : Nat} (h : Walk E i l k s) (hx : x ∈ i :: l) : ∃ a b l1 l2 pre, Walk E i l1 x a ∧ Walk E x l2 k b ∧ s = a + b ∧ i :: l = pre ++ x :: l2 := by
  induction h with
  | nil i =>
    rw [List.mem_singleton] at hx
    subst hx
    exact ⟨0, 0, [], [], [], .nil _, .nil _, rfl, rfl⟩
  | @cons i j k l w s he h ih =>
    rcases List.mem_cons.1 hx with rfl | hx
    · exact ⟨0, _, [], _, [], .nil _, .cons he h, by omega, rfl⟩
    · obtain ⟨a, b, l1, l2, pre, h1, h2, h3, h4⟩ := ih hx
      exact ⟨_, b, _, l2, i :: pre, .cons he h1, h2, by omega, by rw [h4]; rfl⟩
theorem simple {p : Nat → Int} (hp : Pot E p) (h : Walk E i l k s) : ∃ l' s', Walk E i l' k s' ∧ s' ≤ s ∧ (i :: l').Nodup := by
  induction h with
  | nil i => exact ⟨[], 0, .nil _, Int.le_refl _, by simp⟩
  | @cons i j k l w s he h ih =>
    obtain ⟨l', s', h1, h2, h3⟩ := ih
    by_cases hi : i ∈ j :: l'
    · obtain ⟨a, b, l1, l2, pre, q1, q2, q3, q4⟩ := h1.cut hi
      rw [q4] at h3
      refine ⟨l2, b, q2, ?_, (List.nodup_append.1 h3).2.1⟩
      have := (Walk.cons he q1).pot hp
      omega
    · exact ⟨j :: l', _, .cons he h1, by omega, List.nodup_cons.2 ⟨hi, h3⟩⟩
end Walk
theorem nodup_len {N : Nat} {l : List Nat} (h : l.Nodup) (hl : ∀ x ∈ l, x < N) : l.length ≤ N := by
  rcases Nat.lt_or_ge N l.length with hh | hh
  · obtain ⟨i, j, hij, hj, he⟩ := pigeon N (fun i => l[i]?.getD 0) fun i hi => by
      have hi' : i < l.length := by omega
      rw [List.getElem?_eq_getElem hi']
      exact hl _ (List.getElem_mem hi')
    rw [List.getElem?_eq_getElem (by omega), List.getElem?_eq_getElem (by omega)] at he
    exact absurd he (List.pairwise_iff_getElem.1 h i j _ _ hij)
  · exact hh
/-- The least sum from one name to another one. -/
def IsDist (E : List E3) (i k : Nat) (x : Int) : Prop := (∃ l, Walk E i l k x) ∧ ∀ l s, Walk E i l k s → x ≤ s
theorem IsDist.uniq {E : List E3} {i k : Nat} {x y : Int} (h : IsDist E i k x) (h2 : IsDist E i k y) : x = y := by
  obtain ⟨l, hl⟩ := h.1
  obtain ⟨m, hm⟩ := h2.1
  have := h.2 _ _ hm
  have := h2.2 _ _ hl
  omega
theorem IsDist.tri {E : List E3} {i j k : Nat} {x y z : Int} (h1 : IsDist E i j x) (h2 : IsDist E j k y) (h3 : IsDist E i k z) : z ≤ x + y := by
  obtain ⟨l, hl⟩ := h1.1
  obtain ⟨m, hm⟩ := h2.1
  exact h3.2 _ _ (hl.append hm)
theorem IsDist.pot {E : List E3} {i k : Nat} {x : Int} {p : Nat → Int} (h : IsDist E i k x) (hp : Pot E p) : p k ≤ p i + x := by
  obtain ⟨l, hl⟩ := h.1
  exact hl.pot hp
theorem IsDist.self {E : List E3} {i : Nat} {p : Nat → Int} (hp : Pot E p) : IsDist E i i 0 := ⟨⟨[], .nil _⟩, fun l s h => by have := h.pot hp; omega⟩
/-! ## far, plainly -/
def far1 (m : Nat → Option Int) (e : E3) : Nat → Option Int :=
  match m e.1 with
  | none => m
  | some x => fun y => if y = e.2.1 then some (match m e.2.1 with
    | some y => if y < x + e.2.2 then y else x + e.2.2
    | none => x + e.2.2) else m y
def farM (E : List E3) (i : Nat) : Nat → Nat → Option Int
  | 0 => fun y => if y = i then some 0 else none
  | k + 1 => E.foldl far1 (farM E i k)
def FarOk (E : List E3) (i : Nat) (m : Nat → Option Int) : Prop := ∀ v x, m v = some x → ∃ l, Walk E i l v x
theorem FarOk.step {E : List E3} {i : Nat} {m : Nat → Option Int} (h : FarOk E i m) {e : E3} (he : e ∈ E) : FarOk E i (far1 m e) := by
  intro v x hv
  unfold far1 at hv
  cases hm : m e.1 with
  | none => rw [hm] at hv; exact h v x hv
  | some a =>
    rw [hm] at hv
    dsimp only at hv
    split at hv
    · rename_i hve
      subst hve
      obtain ⟨l, hl⟩ := h _ _ hm
      have hw := hl.append (Walk.one he)
      cases hm2 : m e.2.1 with
      | none =>
        rw [hm2] at hv
        simp only [Option.some.injEq] at hv
        subst hv
        exact ⟨_, hw⟩
      | some b =>
        rw [hm2] at hv
        simp only [Option.some.injEq] at hv
        subst hv
        split
        · exact h _ _ hm2
        · exact ⟨_, hw⟩
    · exact h v x hv
theorem FarOk.fold {E : List E3} {i : Nat} : ∀ {F : List E3} {m : Nat → Option Int}, FarOk E i m → (∀ e ∈ F, e ∈ E) → FarOk E i (F.foldl far1 m)
  | [], _, h, _ => h
  | e :: F, m, h, hF => (h.step (hF e (.head _))).fold (F := F) fun x hx => hF x (.tail _ hx)
theorem farM_ok (E : List E3) (i : Nat) : ∀ k, FarOk E i (farM E i k)
  | 0 => fun v x hv => by
    rw [farM] at hv
    dsimp only at hv
    split at hv
    · rename_i h
      subst h
      simp only [Option.some.injEq] at hv
      subst hv
      exact ⟨[], .nil _⟩
    · cases hv
  | k + 1 => (farM_ok E i k).fold fun e he => he
/-- At most so much. -/
def LeO (o : Option Int) (s : Int) : Prop := ∃ x, o = some x ∧ x ≤ s
theorem far1_le {m : Nat → Option Int} {e : E3} {v : Nat} {s : Int} (h : LeO (m v) s) : LeO (far1 m e v) s := by
  obtain ⟨x, hx, hs⟩ := h
  unfold far1
  cases hm : m e.1 with
  | none => exact ⟨x, hx, hs⟩
  | some a =>
    dsimp only
    split
    · rename_i hv
      subst hv
      rw [hx]
      refine ⟨_, rfl, ?_⟩
      dsimp only
      split <;> omega
    · exact ⟨x, hx, hs⟩
theorem far1_new {m : Nat → Option Int} {e : E3} {s : Int} (h : LeO (m e.1) s) : LeO (far1 m e e.2.1) (s + e.2.2) := by
  obtain ⟨x, hx, hs⟩ := h
  unfold far1
  rw [hx]
  dsimp only
  rw [if_pos rfl]
  refine ⟨_, rfl, ?_⟩
  cases m e.2.1 with
  | none => dsimp only; omega
  | some b => dsimp only; split <;> omega
theorem far_fold_le {v : Nat} {s : Int} : ∀ {F : List E3} {m : Nat → Option Int}, LeO (m v) s → LeO (F.foldl far1 m v) s
  | [], _, h => h
  | e :: F, m, h => far_fold_le (F := F) (far1_le h)
theorem far_fold_new {e : E3} {s : Int} : ∀ {F : List E3} {m : Nat → Option Int}, e ∈ F → LeO (m e.1) s → LeO (F.foldl far1 m e.2.1) (s + e.2.2)
  | f :: F, m, he, h => by
    rw [List.foldl_cons]
    rcases List.mem_cons.1 he with rfl | he
    · exact far_fold_le (far1_new h)
    · exact far_fold_new he (far1_le h)
theorem farM_le {E : List E3} {i : Nat} : ∀ (n : Nat) {l : List Nat} {v : Nat} {s : Int}, Walk E i l v s → l.length ≤ n → LeO (farM E i n v) s
  | 0, l, v, s, h, hl => by
    obtain rfl : l = [] := List.length_eq_zero_iff.1 (by omega)
    cases h
    exact ⟨0, by rw [farM]; dsimp only; rw [if_pos rfl], Int.le_refl _⟩
  | n + 1, l, v, s, h, hl => by
    rw [farM]
    rcases Nat.lt_or_ge l.length (n + 1) with hh | hh
    · exact far_fold_le (farM_le n h (by omega))
    · obtain ⟨l', x, rfl⟩ : ∃ l' x, l = l' ++ [x] := ⟨l.dropLast, l.getLast (by intro e; subst e; simp at hh), by rw [List.dropLast_concat_getLast]⟩
      obtain ⟨j, a, b, h1, h2, h3⟩ := h.split
      rw [List.length_append, List.length_singleton] at hl
      cases h2 with
      | cons he h4 =>
        cases h4
        have := far_fold_new (F := E) he (farM_le n h1 (by omega))
        dsimp only at this
        rw [h3]
        rwa [Int.add_zero]
theorem far_dist {E : List E3} {N i k : Nat} {p : Nat → Int} (hE : ∀ e ∈ E, e.1 < N ∧ e.2.1 < N) (hp : Pot E p) (hi : i < N) (hr : ∃ l s, Walk E i l k s) : ∃ x, farM E i N k = some x ∧ IsDist E i k x := by
  have key : ∀ l s, Walk E i l k s → LeO (farM E i N k) s := by
    intro l s h
    obtain ⟨l', s', h1, h2, h3⟩ := h.simple hp
    have := nodup_len h3 (h1.names hE hi).2
    obtain ⟨x, hx, hs⟩ := farM_le N h1 (by rw [List.length_cons] at this; omega)
    exact ⟨x, hx, by omega⟩
  obtain ⟨l, s, h⟩ := hr
  obtain ⟨x, hx, _⟩ := key l s h
  refine ⟨x, hx, farM_ok E i N k x hx, fun l s h => ?_⟩
  obtain ⟨y, hy, hs⟩ := key l s h
  rw [hx] at hy
  cases hy
  exact hs
/-! ## Joined bounds are the least sums -/
theorem mem_rowE {bf : Nat → Nat → Option Int} {i : Nat} {e : E3} : ∀ {n : Nat}, e ∈ rowE bf i n ↔ e.1 = i ∧ e.2.1 < n ∧ bf i e.2.1 = some e.2.2
  | 0 => by simp [rowE]
  | n + 1 => by
    obtain ⟨a, b, c⟩ := e
    rw [rowE]
    cases h : bf i n with
    | none =>
      dsimp only
      rw [mem_rowE]
      dsimp only
      constructor
      · rintro ⟨h1, h2, h3⟩
        exact ⟨h1, by omega, h3⟩
      · rintro ⟨h1, h2, h3⟩
        refine ⟨h1, ?_, h3⟩
        by_cases hb : b = n
        · subst hb; rw [h] at h3; cases h3
        · omega
    | some x =>
      dsimp only
      rw [List.mem_append, mem_rowE, List.mem_singleton]
      dsimp only
      constructor
      · rintro (⟨h1, h2, h3⟩ | h1)
        · exact ⟨h1, by omega, h3⟩
        · cases h1; exact ⟨rfl, by omega, h⟩
      · rintro ⟨h1, h2, h3⟩
        by_cases hb : b = n
        · subst hb; rw [h] at h3; cases h3; subst h1; exact .inr rfl
        · exact .inl ⟨h1, by omega, h3⟩
theorem mem_allE {bf : Nat → Nat → Option Int} {N : Nat} {e : E3} : ∀ {n : Nat}, e ∈ allE bf N n ↔ e.1 < n ∧ e.2.1 < N ∧ bf e.1 e.2.1 = some e.2.2
  | 0 => by simp [allE]
  | n + 1 => by
    rw [allE, List.mem_append, mem_allE, mem_rowE]
    constructor
    · rintro (⟨h1, h2, h3⟩ | ⟨h1, h2, h3⟩)
      · exact ⟨by omega, h2, h3⟩
      · exact ⟨by omega, h2, by rw [h1]; exact h3⟩
    · rintro ⟨h1, h2, h3⟩
      by_cases hb : e.1 = n
      · exact .inr ⟨hb, h2, by rw [← hb]; exact h3⟩
      · exact .inl ⟨by omega, h2, h3⟩
def LeM (N : Nat) (m' m : Mx) : Prop := ∀ i k, i < N → k < N → m' i k ≤ m i k
theorem LeM.refl (N : Nat) (m : Mx) : LeM N m m := fun _ _ _ _ => Int.le_refl _
theorem LeM.trans {N : Nat} {a b c : Mx} (h : LeM N a b) (h2 : LeM N b c) : LeM N a c := fun i k hi hk => Int.le_trans (h i k hi hk) (h2 i k hi hk)
theorem fwS_le {N : Nat} {m : Mx} (h : BMN N m) (mm : Nat) {i k : Nat} (hi : i < N) (hk : k < N) : LeM N (fwS m mm i k) m := by
  intro x y hx hy
  unfold fwS
  split
  · unfold updR
    split
    · rename_i e
      subst e
      unfold updF
      split
      · rename_i e2
        subst e2
        have := h x y hx hy
        unfold fwV
        dsimp only
        split <;> split <;> omega
      · exact Int.le_refl _
    · exact Int.le_refl _
  · exact Int.le_refl _
theorem fwS_at {m : Mx} {mm i k : Nat} {a b : Int} (h1 : m i mm ≤ a) (h2 : m mm k ≤ b) (ha : a < FarC) (hb : b < FarC) (hs : -FarC ≤ a + b) : fwS m mm i k i k ≤ a + b := by
  unfold fwS
  rw [if_pos (by omega)]
  unfold updR updF
  rw [if_pos rfl, if_pos rfl]
  unfold fwV
  dsimp only
  split <;> split <;> omega
theorem fwK_le {N : Nat} {m : Mx} (h : BMN N m) {mm i : Nat} (hm : mm < N) (hi : i < N) : ∀ n, n ≤ N → LeM N (fwK mm i n m) m
  | 0, _ => .refl _ _
  | n + 1, hn => (fwS_le (h.fwK mm i hm hi n (by omega)) mm hi (by omega)).trans (fwK_le h hm hi n (by omega))
theorem fwK_at {N : Nat} {m : Mx} (h : BMN N m) {mm i k : Nat} {a b : Int} (hm : mm < N) (hi : i < N) (h1 : m i mm ≤ a) (h2 : m mm k ≤ b) (ha : a < FarC) (hb : b < FarC) (hs : -FarC ≤ a + b) : ∀ n, k < n → n ≤ N → fwK mm i n m i k ≤ a + b
  | 0, hk, _ => by omega
  | n + 1, hk, hn => by
    have hB := h.fwK mm i hm hi n (by omega)
    rcases Nat.lt_or_ge k n with hh | hh
    · have := fwS_le hB mm hi (show n < N by omega) i k hi (by omega)
      have := fwK_at h hm hi h1 h2 ha hb hs n hh (by omega)
      rw [fwK]; omega
    · obtain rfl : k = n := by omega
      rw [fwK]
      have hl := fwK_le h hm hi k (by omega)
      exact fwS_at (Int.le_trans (hl i mm hi hm) h1) (Int.le_trans (hl mm k hm (by omega)) h2) ha hb hs
theorem fwI_le {N : Nat} {m : Mx} (h : BMN N m) {mm : Nat} (hm : mm < N) : ∀ n, n ≤ N → LeM N (fwI N mm n m) m
  | 0, _ => .refl _ _
  | n + 1, hn => (fwK_le (h.fwI mm hm n (by omega)) hm (show n < N by omega) N (Nat.le_refl _)).trans (fwI_le h hm n (by omega))
theorem fwI_at {N : Nat} {m : Mx} (h : BMN N m) {mm i k : Nat} {a b : Int} (hm : mm < N) (hk : k < N) (h1 : m i mm ≤ a) (h2 : m mm k ≤ b) (ha : a < FarC) (hb : b < FarC) (hs : -FarC ≤ a + b) : ∀ n, i < n → n ≤ N → fwI N mm n m i k ≤ a + b
  | 0, hi, _ => by omega
  | n + 1, hi, hn => by
    have hB := h.fwI mm hm n (by omega)
    rw [fwI]
    rcases Nat.lt_or_ge i n with hh | hh
    · have := fwK_le hB hm (show n < N by omega) N (Nat.le_refl _) i k (by omega) hk
      have := fwI_at h hm hk h1 h2 ha hb hs n hh (by omega)
      omega
    · obtain rfl : i = n := by omega
      have hl := fwI_le h hm i (by omega)
      exact fwK_at hB hm (by omega) (Int.le_trans (hl i mm (by omega) hm) h1) (Int.le_trans (hl mm k hm hk) h2) ha hb hs N hk (Nat.le_refl _)
theorem fwM_le {N : Nat} {m : Mx} (h : BMN N m) : ∀ n, n ≤ N → LeM N (fwM N n m) m
  | 0, _ => .refl _ _
  | n + 1, hn => (fwI_le (h.fwM n (by omega)) (show n < N by omega) N (Nat.le_refl _)).trans (fwM_le h n (by omega))
section
variable {bf : Nat → Nat → Option Int} {N : Nat} (hN : N ≤ 19) (hbf : ∀ i k x, i < N → k < N → bf i k = some x → -1000 ≤ x ∧ x ≤ 1000)
include hN hbf
theorem row_BMN : BMN N (fun i k => rowV bf i k) := by
  intro i k hi hk
  have hF : FarC = 1099511627776 := rfl
  dsimp only
  unfold rowV
  split
  · omega
  · cases h : bf i k with
    | none => rw [Option.getD_none]; omega
    | some x => have := hbf i k x hi hk h; rw [Option.getD_some]; omega
theorem fw_upper (hd : ∀ i, bf i i = none) : ∀ (M : Nat), M ≤ N → ∀ (inner : List Nat) (i k : Nat) (s : Int), i < N → k < N → Walk (allE bf N N) i (inner ++ [k]) k s → inner.Nodup → (∀ x ∈ inner, x < M) → fwM N M (fun i k => rowV bf i k) i k ≤ s := by
  intro M
  have hF : FarC = 1099511627776 := rfl
  have hB0 := row_BMN hN hbf
  have hE : ∀ e ∈ allE bf N N, -1000 ≤ e.2.2 ∧ e.2.2 ≤ 1000 := fun e he => by
    obtain ⟨h1, h2, h3⟩ := mem_allE.1 he
    exact hbf _ _ _ h1 h2 h3
  induction M with
  | zero =>
    intro _ inner i k s hi hk h hnd hlt
    obtain rfl : inner = [] := by
      cases inner with
      | nil => rfl
      | cons x _ => have := hlt x (.head _); omega
    cases h with
    | cons he h =>
      cases h
      obtain ⟨_, _, h3⟩ := mem_allE.1 he
      dsimp only at h3
      rw [fwM]
      unfold rowV
      rw [if_neg (fun e => by subst e; rw [hd] at h3; cases h3), h3, Option.getD_some]
      omega
  | succ M ih =>
    intro hM inner i k s hi hk h hnd hlt
    have hBM := hB0.fwM M (by omega)
    rw [fwM]
    by_cases hm : M ∈ inner
    · obtain ⟨a, b, rfl⟩ := List.append_of_mem hm
      rw [show a ++ M :: b ++ [k] = (a ++ [M]) ++ (b ++ [k]) by simp] at h
      obtain ⟨j, x, y, h1, h2, h3⟩ := h.split
      have hj := h1.last
      rw [← List.cons_append, List.getLast?_append] at hj
      simp only [List.getLast?_singleton, Option.some_or, Option.some.injEq] at hj
      subst hj
      rw [List.nodup_append] at hnd
      obtain ⟨n1, n2, n3⟩ := hnd
      rw [List.nodup_cons] at n2
      have ha : ∀ x ∈ a, x < M := fun x hx => by
        have h1 := hlt x (List.mem_append_left _ hx)
        have h2 := n3 x hx M (.head _)
        omega
      have hb : ∀ x ∈ b, x < M := fun x hx => by
        have h1 := hlt x (List.mem_append_right _ (.tail _ hx))
        have h2 : x ≠ M := fun e => n2.1 (e ▸ hx)
        omega
      have i1 := ih (by omega) a i M x hi (by omega) h1 n1 ha
      have i2 := ih (by omega) b M k y (by omega) hk h2 n2.2 hb
      have z1 := h1.size hE
      have z2 := h2.size hE
      have l1 := nodup_len n1 ha
      have l2 := nodup_len n2.2 hb
      rw [List.length_append, List.length_singleton] at z1 z2
      push_cast at z1 z2
      have := fwI_at hBM (show M < N by omega) hk i1 i2 (by omega) (by omega) (by omega) N hi (Nat.le_refl _)
      omega
    · have := ih (by omega) inner i k s hi hk h hnd fun x hx => by
        have h1 := hlt x hx
        have h2 : x ≠ M := fun e => hm (e ▸ hx)
        omega
      have := fwI_le hBM (show M < N by omega) N (Nat.le_refl _) i k hi hk
      omega
end
/-- What is not Far is the sum of a walk. -/
def WalkM (E : List E3) (N : Nat) (m : Mx) : Prop := ∀ i k, i < N → k < N → m i k < FarC → ∃ l, Walk E i l k (m i k)
theorem WalkM.fwS {E : List E3} {N : Nat} {m : Mx} {p : Nat → Int} (hp : Pot E p) (hpB : ∀ i k, i < N → k < N → -FarC < p k - p i) (hB : BMN N m) (h : WalkM E N m) {mm i k : Nat} (hm : mm < N) (hi : i < N) (hk : k < N) : WalkM E N (fwS m mm i k) := by
  intro x y hx hy hlt
  have hF : FarC = 1099511627776 := rfl
  unfold Ytkbcogaodnmdoaa.fwS at *
  split at hlt
  · rename_i hc
    rw [if_pos hc]
    unfold updR at *
    split at hlt
    · rename_i e
      subst e
      rw [if_pos rfl]
      unfold updF at *
      split at hlt
      · rename_i e2
        subst e2
        rw [if_pos rfl]
        obtain ⟨l1, w1⟩ := h x mm hx hm hc.1
        obtain ⟨l2, w2⟩ := h mm y hm hy hc.2
        have w := w1.append w2
        have hw := w.pot hp
        have hb := hpB x y hx hy
        unfold fwV at *
        dsimp only at *
        by_cases hs : m x mm + m mm y < m x y
        · rw [if_pos hs] at hlt ⊢
          rw [if_pos (by omega)] at hlt ⊢
          exact ⟨_, w⟩
        · rw [if_neg hs] at hlt ⊢
          have hxy : m x y < FarC ∨ m x y = FarC := by
            have := (hB x y hx hy).2
            omega
          rcases hxy with hxy | hxy
          · obtain ⟨l, w3⟩ := h x y hx hy hxy
            have := w3.pot hp
            rw [if_pos (by omega)] at hlt ⊢
            exact ⟨_, w3⟩
          · rw [hxy, if_pos (by omega)] at hlt
            omega
      · rename_i e2
        rw [if_neg e2]
        exact h x y hx hy hlt
    · rename_i e
      rw [if_neg e]
      exact h x y hx hy hlt
  · rename_i hc
    rw [if_neg hc]
    exact h x y hx hy hlt
theorem WalkM.fwK {E : List E3} {N : Nat} {m : Mx} {p : Nat → Int} (hp : Pot E p) (hpB : ∀ i k, i < N → k < N → -FarC < p k - p i) (hB : BMN N m) (h : WalkM E N m) {mm i : Nat} (hm : mm < N) (hi : i < N) : ∀ n, n ≤ N → WalkM E N (fwK mm i n m)
  | 0, _ => h
  | n + 1, hn => WalkM.fwS hp hpB (hB.fwK mm i hm hi n (by omega)) (WalkM.fwK hp hpB hB h hm hi n (by omega)) hm hi (by omega)
theorem WalkM.fwI {E : List E3} {N : Nat} {m : Mx} {p : Nat → Int} (hp : Pot E p) (hpB : ∀ i k, i < N → k < N → -FarC < p k - p i) (hB : BMN N m) (h : WalkM E N m) {mm : Nat} (hm : mm < N) : ∀ n, n ≤ N → WalkM E N (fwI N mm n m)
  | 0, _ => h
  | n + 1, hn => WalkM.fwK hp hpB (hB.fwI mm hm n (by omega)) (WalkM.fwI hp hpB hB h hm n (by omega)) hm (by omega) N (Nat.le_refl _)
theorem WalkM.fwM {E : List E3} {N : Nat} {m : Mx} {p : Nat → Int} (hp : Pot E p) (hpB : ∀ i k, i < N → k < N → -FarC < p k - p i) (hB : BMN N m) (h : WalkM E N m) : ∀ n, n ≤ N → WalkM E N (fwM N n m)
  | 0, _ => h
  | n + 1, hn => WalkM.fwI hp hpB (hB.fwM n (by omega)) (WalkM.fwM hp hpB hB h n (by omega)) (by omega) N (Nat.le_refl _)
/-- What bounds are: few names, small numbers, none from a name to itself. -/
structure BOk (bf : Nat → Nat → Option Int) (N : Nat) : Prop where
  n0 : 0 < N
  n1 : N ≤ 19
  s : ∀ i k x, i < N → k < N → bf i k = some x → -1000 ≤ x ∧ x ≤ 1000
  d : ∀ i, bf i i = none
namespace BOk
variable {bf : Nat → Nat → Option Int} {N : Nat} (h : BOk bf N)
include h
theorem hE : ∀ e ∈ allE bf N N, (fun i k => (bf i k).getD 0) e.1 e.2.1 = e.2.2 ∧ e.1 < N ∧ e.2.1 < N := fun e he => by
  obtain ⟨h1, h2, h3⟩ := mem_allE.1 he
  exact ⟨by dsimp only; rw [h3]; rfl, h1, h2⟩
theorem hE2 : ∀ e ∈ allE bf N N, e.1 < N ∧ e.2.1 < N := fun e he => (h.hE e he).2
theorem hE3 : ∀ e ∈ allE bf N N, -1000 ≤ e.2.2 ∧ e.2.2 ≤ 1000 := fun e he => by
  obtain ⟨h1, h2, h3⟩ := mem_allE.1 he
  exact h.s _ _ _ h1 h2 h3
theorem rowE_len : ∀ (i n : Nat), (rowE bf i n).length ≤ n
  | _, 0 => by simp [rowE]
  | i, n + 1 => by
    have := rowE_len i n
    rw [rowE]
    split
    · rw [List.length_append, List.length_singleton]; omega
    · omega
theorem allE_len : ∀ (n : Nat), (allE bf N n).length ≤ N * n
  | 0 => by simp [allE]
  | n + 1 => by
    have := allE_len n
    have := rowE_len h n N
    rw [allE, List.length_append, Nat.mul_add]
    omega
theorem ok : RSok N (N * (allE bf N N).length) (passes (allE bf N N) N) := passes_ok ⟨h.n0, h.n1⟩ (fun e he => ⟨(h.hE2 e he).1, (h.hE2 e he).2, (h.hE3 e he).1⟩) N
theorem small (k : Nat) : -6859000 ≤ iAt (passes (allE bf N N) N).at_ k ∧ iAt (passes (allE bf N N) N).at_ k ≤ 0 := by
  have := h.ok.v k
  have h1 : N * (allE bf N N).length ≤ 19 * 361 := by
    have h2 := h.allE_len N
    have h3 := h.n1
    have h4 : N * N ≤ 19 * 19 := Nat.mul_le_mul h3 h3
    exact Nat.mul_le_mul h3 (by omega)
  omega
end BOk
/-- Whether there is a potential. -/
def HasPot (bf : Nat → Nat → Option Int) (N : Nat) : Prop := (passes (allE bf N N) N).la < 0
namespace BOk
variable {bf : Nat → Nat → Option Int} {N : Nat} (h : BOk bf N)
include h
theorem pot_of (hp : HasPot bf N) : Pot (allE bf N N) (iAt (passes (allE bf N N) N).at_) := passes_pot (W := fun i k => (bf i k).getD 0) h.n1 h.n0 h.hE hp
end BOk
/-- The names of the round are a closed walk. -/
theorem back_walk {be : List Int} {x : Nat} {W : Nat → Nat → Int} {E : List E3} (hx : ∀ t, (backN be (t + 1) x, backN be t x, W (backN be (t + 1) x) (backN be t x)) ∈ E) : ∀ t, Walk E (backN be t x) ((List.range t).map fun j => backN be j x).reverse x (backS W be x t)
  | 0 => .nil _
  | t + 1 => by
    rw [List.range_succ, List.map_append, List.reverse_append]
    have := Walk.cons (hx t) (back_walk hx t)
    rw [backS, Int.add_comm]
    exact this
namespace BOk
variable {bf : Nat → Nat → Option Int} {N : Nat} (h : BOk bf N)
include h
/-- What is known of the round, if no potential is found. -/
theorem round_facts (hp : ¬ HasPot bf N) : ∃ (be : List Int) (y p : Nat) (s : Int), roundP N (allE bf N N) = (outB be y p).reverse ∧ 1 ≤ p ∧ p ≤ N ∧ (∀ t, backN be t y < N) ∧ backN be p y = y ∧ (∀ i j, i < j → j < p → backN be i y ≠ backN be j y) ∧
    (∀ t, bf (backN be (t + 1) y) (backN be t y) = some ((bf (backN be (t + 1) y) (backN be t y)).getD 0)) ∧ backS (fun i k => (bf i k).getD 0) be y p = s ∧ s < 0 ∧ Walk (allE bf N N) y ((List.range p).map fun j => backN be j y).reverse y s := by
  have hla : 0 ≤ (passes (allE bf N N) N).la := by unfold HasPot at hp; omega
  have hok := h.ok
  have hl := hok.la
  obtain ⟨f1, f2⟩ := passes_round (W := fun i k => (bf i k).getD 0) h.n1 h.n0 h.hE hla hl.2
  obtain ⟨p1, p2, p3, p4⟩ := perB_spec hok.b (show (passes (allE bf N N) N).la.toNat < N by omega)
  have hr : roundP N (allE bf N N) = (outB (passes (allE bf N N) N).be (backN (passes (allE bf N N) N).be N (passes (allE bf N N) N).la.toNat) (perB N (passes (allE bf N N) N).be (backN (passes (allE bf N N) N).be N (passes (allE bf N N) N).la.toNat))).reverse := by
    unfold roundP; rw [if_neg (by omega)]
  generalize (passes (allE bf N N) N).be = be at *
  generalize backN be N (passes (allE bf N N) N).la.toNat = y at *
  generalize perB N be y = p at *
  have hw := back_walk (W := fun i k => (bf i k).getD 0) (E := allE bf N N) (fun t => (f1 t).2) p
  rw [p1] at hw
  refine ⟨be, y, p, _, hr, p2, p3, fun t => (f1 t).1, p1, ?_, fun t => ?_, rfl, f2, hw⟩
  · intro i j hij hj e
    refine p4 (i + (p - j)) (by omega) (by omega) ?_
    rw [backN_add, e, ← backN_add, show j + (p - j) = p by omega, p1]
  · have := (mem_allE.1 (f1 t).2).2.2
    exact this
theorem pot_has {p : Nat → Int} (hp : Pot (allE bf N N) p) : HasPot bf N := by
  by_cases hh : HasPot bf N
  · exact hh
  · obtain ⟨_, y, _, s, _, _, _, _, _, _, _, _, hs, hw⟩ := h.round_facts hh
    have := hw.pot hp
    omega
theorem round_none (hp : HasPot bf N) : roundP N (allE bf N N) = [] := by
  unfold roundP; exact if_pos hp
theorem can_no (hp : ¬ HasPot bf N) : canP N (joinP bf N) = false := by
  obtain ⟨be, y, p, s, _, p1, p2, hlt, hper, hdis, _, _, hs, hw⟩ := h.round_facts hp
  refine canP_no (i := y) (hlt 0) ?_
  obtain ⟨q, rfl⟩ : ∃ q, p = q + 1 := ⟨p - 1, by omega⟩
  rw [List.range_succ_eq_map, List.map_cons, List.reverse_cons] at hw
  have := fw_upper h.n1 h.s h.d N (Nat.le_refl _) _ y y s (hlt 0) (hlt 0) hw ?_ ?_
  · unfold joinP; omega
  · unfold List.Nodup
    rw [List.pairwise_reverse, List.map_map]
    refine List.pairwise_map.2 (List.Pairwise.imp_of_mem ?_ List.nodup_range)
    intro a b ha hb hab
    rw [List.mem_range] at ha hb
    dsimp only [Function.comp]
    rcases Nat.lt_or_ge a b with c | c
    · exact Ne.symm (hdis (a + 1) (b + 1) (by omega) (by omega))
    · exact hdis (b + 1) (a + 1) (by omega) (by omega)
  · intro x hx
    rw [List.mem_reverse, List.mem_map] at hx
    obtain ⟨t, _, rfl⟩ := hx
    exact hlt t
theorem walkM (hp : HasPot bf N) : WalkM (allE bf N N) N (joinP bf N) := by
  have hF : FarC = 1099511627776 := rfl
  unfold joinP
  refine WalkM.fwM (h.pot_of hp) (fun i k _ _ => ?_) (row_BMN h.n1 h.s) ?_ N (Nat.le_refl _)
  · have := h.small i
    have := h.small k
    omega
  · intro i k hi hk hlt
    dsimp only at *
    unfold rowV at *
    split at hlt
    · rename_i e
      subst e
      rw [if_pos rfl]
      exact ⟨[], .nil _⟩
    · rename_i e
      rw [if_neg e]
      cases hb : bf i k with
      | none => rw [hb, Option.getD_none] at hlt; omega
      | some x => exact ⟨[k], .one (mem_allE.2 ⟨hi, hk, by rw [Option.getD_some]; exact hb⟩)⟩
theorem can_yes (hp : HasPot bf N) : canP N (joinP bf N) = true := by
  refine canP_yes fun i hi => ?_
  rcases Int.lt_or_le (joinP bf N i i) 0 with hlt | hge
  · have hF : FarC = 1099511627776 := rfl
    obtain ⟨l, hw⟩ := h.walkM hp i i hi hi (by omega)
    have := hw.pot (h.pot_of hp)
    omega
  · exact hge
theorem can_iff : canP N (joinP bf N) = true ↔ HasPot bf N := by
  by_cases hp : HasPot bf N
  · simp [hp, h.can_yes hp]
  · simp [hp, h.can_no hp]
theorem join_dist (hp : HasPot bf N) {i k : Nat} (hi : i < N) (hk : k < N) (hr : ∃ l s, Walk (allE bf N N) i l k s) : IsDist (allE bf N N) i k (joinP bf N i k) := by
  have hF : FarC = 1099511627776 := rfl
  have hpp := h.pot_of hp
  have key : ∀ l s, Walk (allE bf N N) i l k s → ∃ s', s' ≤ s ∧ joinP bf N i k ≤ s' ∧ s' < FarC := by
    intro l s hw
    obtain ⟨l', s', h1, h2, h3⟩ := hw.simple hpp
    have hz := h1.size h.hE3
    have hn := nodup_len h3 (h1.names h.hE2 hi).2
    have hN := h.n1
    rw [List.length_cons] at hn
    refine ⟨s', h2, ?_, by omega⟩
    rcases List.eq_nil_or_concat l' with rfl | ⟨inner, x, rfl⟩
    · cases h1
      have := fwM_le (row_BMN h.n1 h.s) N (Nat.le_refl _) i i hi hi
      unfold joinP
      have e : rowV bf i i = 0 := by unfold rowV; rw [if_pos rfl]
      dsimp only at this
      omega
    · rw [List.concat_eq_append] at *
      have hx := h1.last
      rw [← List.cons_append, List.getLast?_append] at hx
      simp only [List.getLast?_singleton, Option.some_or, Option.some.injEq] at hx
      subst hx
      rw [← List.cons_append, List.nodup_append] at h3
      rw [List.nodup_cons] at h3
      exact fw_upper h.n1 h.s h.d N (Nat.le_refl _) inner i x s' hi hk h1 h3.1.2 fun y hy => (h1.names h.hE2 hi).2 y (.tail _ (List.mem_append_left _ hy))
  obtain ⟨l, s, hw⟩ := hr
  obtain ⟨s', _, h2, h3⟩ := key l s hw
  refine ⟨h.walkM hp i k hi hk (by omega), fun l s hw => ?_⟩
  obtain ⟨s', a, b, c⟩ := key l s hw
  omega
theorem far_join (hp : HasPot bf N) {i k : Nat} (hi : i < N) (hk : k < N) (hr : ∃ l s, Walk (allE bf N N) i l k s) : farM (allE bf N N) i N k = some (joinP bf N i k) := by
  obtain ⟨x, hx, hd⟩ := far_dist h.hE2 (h.pot_of hp) hi hr
  rw [hx, hd.uniq (h.join_dist hp hi hk hr)]
end BOk
theorem iAt_outB {be : List Int} {y p k : Nat} (hk : k < p) : iAt (outB be y p).reverse k = (backN be (p - 1 - k) y : Int) := by
  unfold iAt outB
  rw [List.getElem?_reverse (by simpa using hk), List.getElem?_map, List.length_map, List.length_range, List.getElem?_range (by omega)]
  rfl
theorem edge_out {bf : Nat → Nat → Option Int} {be : List Int} {y p k : Nat} (hper : backN be p y = y) (hk : k < p) : edgeBack bf (outB be y p).reverse k = bf (backN be (p - k) y) (backN be (p - 1 - k) y) := by
  cases k with
  | zero =>
    rw [edgeBack, iAt_outB hk, iAt_outB (by unfold outB; simp; omega)]
    have : (outB be y p).reverse.length = p := by unfold outB; simp
    rw [this, show p - 1 - (p - 1) = 0 by omega, Int.toNat_natCast, Int.toNat_natCast]
    show bf y _ = bf (backN be p y) _
    rw [hper]
  | succ k =>
    rw [edgeBack, iAt_outB (by omega), iAt_outB hk, Int.toNat_natCast, Int.toNat_natCast, show p - 1 - k = p - (k + 1) by omega]
theorem sum_out {bf : Nat → Nat → Option Int} {be : List Int} {y p : Nat} (hper : backN be p y = y) (he : ∀ t, bf (backN be (t + 1) y) (backN be t y) = some ((bf (backN be (t + 1) y) (backN be t y)).getD 0)) : ∀ n, n ≤ p → sumUpto (edgeBack bf (outB be y p).reverse) n = some (backS (fun i k => (bf i k).getD 0) be y p - backS (fun i k => (bf i k).getD 0) be y (p - n))
  | 0, _ => by rw [sumUpto]; simp
  | n + 1, hn => by
    have h1 := edge_out (bf := bf) hper (show n < p by omega)
    obtain ⟨q, hq⟩ : ∃ q, p - n = q + 1 := ⟨p - n - 1, by omega⟩
    rw [hq, show p - 1 - n = q by omega, he q] at h1
    rw [sumUpto, sum_out hper he n (by omega), h1, hq, show p - (n + 1) = q by omega, backS]
    simp only [Option.some.injEq]
    omega
namespace BOk
variable {bf : Nat → Nat → Option Int} {N : Nat} (h : BOk bf N)
include h
theorem round_len (hp : ¬ HasPot bf N) : 1 ≤ (roundP N (allE bf N N)).length ∧ (roundP N (allE bf N N)).length ≤ N := by
  obtain ⟨be, y, p, s, hr, p1, p2, _⟩ := h.round_facts hp
  rw [hr]
  unfold outB
  simp only [List.length_reverse, List.length_map, List.length_range]
  exact ⟨p1, p2⟩
/-- The round proves. -/
theorem round_proves (hp : ¬ HasPot bf N) : ∃ n, 0 < n ∧ roundOf N bf (roundP N (allE bf N N)) = (n, 0) := by
  obtain ⟨be, y, p, s, hr, p1, p2, hlt, hper, hdis, he, hs, hs0, _⟩ := h.round_facts hp
  have hlen : (outB be y p).reverse.length = p := by unfold outB; simp
  refine ⟨-s, by omega, ?_⟩
  rw [hr]
  unfold roundOf
  rw [if_neg (by omega), if_neg, ← sum_back _ _ (by omega)]
  · have := sum_out (bf := bf) hper he p (Nat.le_refl p)
    rw [hlen, this, hs, Nat.sub_self, backS]
    dsimp only
    rw [if_neg (by omega), Int.sub_zero]
  · have : truthUpto (argB N (outB be y p).reverse) (outB be y p).reverse.length = true := by
      rw [truthUpto_all, hlen]
      intro k hk
      unfold argB
      have := hlt (p - 1 - k)
      rw [Bool.and_eq_true, decide_eq_true_eq, truthUpto_all, iAt_outB hk]
      refine ⟨by omega, fun j hj => ?_⟩
      rw [decide_eq_true_eq, iAt_outB (by omega)]
      have := hdis (p - 1 - k) (p - 1 - j) (by omega) (by omega)
      omega
    rw [this]; simp
/-- If there is a potential no round proves. -/
theorem no_round (hp : HasPot bf N) (l : List Int) : (roundOf N bf l).2 ≠ 0 := by
  have hpp := h.pot_of hp
  unfold roundOf
  split
  · decide
  · rename_i hl
    split
    · decide
    · rename_i ha
      rw [Bool.not_eq_false, truthUpto_all] at ha
      have hin : ∀ k, k < l.length → (iAt l k).toNat < N := fun k hk => by
        have := ha k hk
        unfold argB at this
        rw [Bool.and_eq_true, decide_eq_true_eq] at this
        omega
      rw [← sum_back _ _ hl]
      have key : ∀ n s, n < l.length → sumUpto (edgeBack bf l) (n + 1) = some s → iAt (passes (allE bf N N) N).at_ (iAt l n).toNat ≤ iAt (passes (allE bf N N) N).at_ (iAt l (l.length - 1)).toNat + s := by
        intro n
        induction n with
        | zero =>
          intro s hn hs
          rw [sumUpto, sumUpto] at hs
          cases hb : edgeBack bf l 0 with
          | none => rw [hb] at hs; cases hs
          | some x =>
            rw [hb] at hs
            cases hs
            have := hpp ((iAt l (l.length - 1)).toNat, (iAt l 0).toNat, x) (mem_allE.2 ⟨hin _ (by omega), hin 0 hn, hb⟩)
            dsimp only at this
            omega
        | succ n ih =>
          intro s hn hs
          rw [sumUpto] at hs
          cases h1 : sumUpto (edgeBack bf l) (n + 1) with
          | none => rw [h1] at hs; cases hs
          | some a =>
            cases hb : edgeBack bf l (n + 1) with
            | none => rw [h1, hb] at hs; cases hs
            | some x =>
              rw [h1, hb] at hs
              cases hs
              have := ih a (by omega) h1
              have := hpp ((iAt l n).toNat, (iAt l (n + 1)).toNat, x) (mem_allE.2 ⟨hin n (by omega), hin (n + 1) hn, hb⟩)
              dsimp only at this
              omega
      obtain ⟨n, hn⟩ : ∃ n, l.length = n + 1 := ⟨l.length - 1, by omega⟩
      cases hs : sumUpto (edgeBack bf l) l.length with
      | none => decide
      | some s =>
        dsimp only
        rw [hn] at hs
        have := key n s (by omega) hs
        rw [hn, show n + 1 - 1 = n by omega] at this
        rw [if_pos (by omega)]
        decide
end BOk
/-! ## Truths are potentials -/
/-- The numbers are a truth; what one taste says is not looked at. -/
structure TruthN (rlo rhi : Int) (L : Nat) (S : List (List T3)) (but : Int) (sh ti : Nat → Int) : Prop where
  sharp : ∀ i, i < L → 0 ≤ sh i ∧ sh i ≤ 1000
  first : ∀ k : Nat, k < S.flatten.length → firstB S (k : Int) = true → ti k = 0
  next : ∀ k : Nat, k < S.flatten.length → firstB S (k : Int) = false → rlo ≤ ti k - ti (k - 1) ∧ ti k - ti (k - 1) ≤ rhi
  said : ∀ k : Nat, k < S.flatten.length → (k : Int) ≠ but → (tasteAt S k).2.1 ≤ sh (tasteAt S k).1.toNat - ti k ∧ sh (tasteAt S k).1.toNat - ti k ≤ (tasteAt S k).2.2
theorem first_zero' {rlo rhi : Int} {L : Nat} {S : List (List T3)} (hO : Okb rlo rhi L S) (hT : 0 < S.flatten.length) : firstB S ((0 : Nat) : Int) = true := by
  cases S with
  | nil => simp at hT
  | cons s S => simp [firstB, firstFrom]
section
variable {rlo rhi : Int} {L : Nat} {S : List (List T3)} (hO : Okb rlo rhi L S)
include hO
theorem TruthN.tired {but : Int} {sh ti : Nat → Int} (h : TruthN rlo rhi L S but sh ti) : ∀ k : Nat, k < S.flatten.length → 0 ≤ ti k ∧ ti k ≤ 50 * (k : Int)
  | 0, hk => by rw [h.first 0 hk (first_zero' hO hk)]; omega
  | k + 1, hk => by
    have h1 := TruthN.tired h k (by omega)
    have hr := hO.r
    cases hf : firstB S ((k + 1 : Nat) : Int) with
    | true => rw [h.first _ hk hf]; omega
    | false =>
      have := h.next _ hk hf
      rw [show k + 1 - 1 = k by omega] at this
      push_cast
      omega
theorem truth_iff {sharp tired : List Int} (h1 : sharp.length = L) (h2 : tired.length = S.flatten.length) : truthP rlo rhi S sharp tired = true ↔ TruthN rlo rhi L S (-1) (iAt sharp) (iAt tired) := by
  have hT := hO.t
  unfold truthP
  rw [Bool.and_eq_true, truthUpto_all, truthUpto_all, h1]
  constructor
  · rintro ⟨a, b⟩
    have hb : ∀ k : Nat, k < S.flatten.length → (0 ≤ iAt tired k ∧ iAt tired k ≤ 600) ∧ (if firstB S (k : Int) = true then decide (iAt tired k = 0) else decide (rlo ≤ iAt tired k - iAt tired (k - 1) ∧ iAt tired k - iAt tired (k - 1) ≤ rhi)) = true ∧
        ((tasteAt S k).2.1 ≤ iAt sharp (tasteAt S k).1.toNat - iAt tired k ∧ iAt sharp (tasteAt S k).1.toNat - iAt tired k ≤ (tasteAt S k).2.2) := fun k hk => by
      have := b k hk
      unfold okTaste at this
      rw [Bool.and_eq_true, Bool.and_eq_true, decide_eq_true_eq, decide_eq_true_eq] at this
      exact ⟨this.1.1, this.1.2, this.2⟩
    refine ⟨fun i hi => by simpa [okSharp] using a i hi, fun k hk hf => ?_, fun k hk hf => ?_, fun k hk _ => (hb k hk).2.2⟩
    · have := (hb k hk).2.1
      rw [if_pos hf] at this
      simpa using this
    · have := (hb k hk).2.1
      rw [if_neg (by rw [hf]; decide)] at this
      simpa using this
  · intro h
    refine ⟨fun i hi => by simpa [okSharp] using h.sharp i hi, fun k hk => ?_⟩
    have ht := h.tired hO k hk
    unfold okTaste
    rw [Bool.and_eq_true, Bool.and_eq_true, decide_eq_true_eq, decide_eq_true_eq]
    refine ⟨⟨by omega, ?_⟩, h.said k hk (by omega)⟩
    cases hf : firstB S (k : Int) with
    | true => rw [if_pos rfl]; simpa using h.first k hk hf
    | false => rw [if_neg (by decide)]; simpa using h.next k hk hf
theorem bnd_ok (but : Int) : BOk (bnd rlo rhi L S but) (1 + L + S.flatten.length) := by
  have hl := hO.l
  have ht := hO.t
  obtain ⟨r1, r2, r3⟩ := hO.r
  refine ⟨by omega, by omega, ?_, ?_⟩
  · intro i k x hi hk h
    have hx := fun x (h : x < S.flatten.length) => hO.x _ (tasteAt_mem h)
    unfold bnd at h
    split at h
    · split at h
      · cases h
      · split at h
        · cases h; omega
        · split at h
          · cases h; omega
          · cases h
    · split at h
      · split at h
        · cases h; omega
        · split at h
          · cases h
          · split at h
            · cases h
              have := hx (k - L - 1) (by omega)
              omega
            · cases h
      · split at h
        · split at h
          · cases h; omega
          · cases h
        · split at h
          · split at h
            · cases h
              have := hx (i - L - 1) (by omega)
              omega
            · cases h
          · split at h
            · cases h; omega
            · split at h
              · cases h; omega
              · cases h
  · intro i
    unfold bnd
    by_cases h0 : i = 0
    · rw [if_pos h0, if_pos h0]
    · rw [if_neg h0, if_neg h0, if_neg h0]
      by_cases h1 : i ≤ L
      · rw [if_pos h1, if_pos h1]
      · rw [if_neg h1, if_neg h1, if_neg (by omega), if_neg (by omega)]
/-- Numbers of lots and tastes, by names. -/
def pOf (L : Nat) (sh ti : Nat → Int) (i : Nat) : Int := if i = 0 then 0 else if i ≤ L then sh (i - 1) else ti (i - L - 1)
theorem truth_pot {but : Int} {sh ti : Nat → Int} (h : TruthN rlo rhi L S but sh ti) : Pot (allE (bnd rlo rhi L S but) (1 + L + S.flatten.length) (1 + L + S.flatten.length)) (pOf L sh ti) := by
  rintro ⟨i, k, x⟩ he
  obtain ⟨hi, hk, hb⟩ := mem_allE.1 he
  dsimp only at *
  unfold bnd at hb
  unfold pOf
  split at hb
  · rename_i e
    subst e
    rw [if_pos rfl]
    split at hb
    · cases hb
    · rename_i hk0
      rw [if_neg hk0]
      split at hb
      · rename_i hkL
        cases hb
        rw [if_pos hkL]
        have := h.sharp (k - 1) (by omega)
        omega
      · rename_i hkL
        rw [if_neg hkL]
        split at hb
        · rename_i hf
          cases hb
          rw [h.first _ (by omega) hf]
          omega
        · cases hb
  · rename_i hi0
    rw [if_neg hi0]
    split at hb
    · rename_i hiL
      rw [if_pos hiL]
      split at hb
      · rename_i hk0
        cases hb
        rw [if_pos hk0]
        have := h.sharp (i - 1) (by omega)
        omega
      · rename_i hk0
        rw [if_neg hk0]
        split at hb
        · cases hb
        · rename_i hkL
          rw [if_neg hkL]
          split at hb
          · rename_i hc
            cases hb
            have := h.said (k - L - 1) (by omega) hc.1
            rw [show (tasteAt S (k - L - 1)).1.toNat = i - 1 by omega] at this
            omega
          · cases hb
    · rename_i hiL
      rw [if_neg hiL]
      split at hb
      · rename_i hk0
        rw [if_pos hk0]
        split at hb
        · rename_i hf
          cases hb
          rw [h.first _ (by omega) hf]
          omega
        · cases hb
      · rename_i hk0
        rw [if_neg hk0]
        split at hb
        · rename_i hkL
          rw [if_pos hkL]
          split at hb
          · rename_i hc
            cases hb
            have := h.said (i - L - 1) (by omega) hc.1
            rw [show (tasteAt S (i - L - 1)).1.toNat = k - 1 by omega] at this
            omega
          · cases hb
        · rename_i hkL
          rw [if_neg hkL]
          split at hb
          · rename_i hc
            cases hb
            have := h.next (k - L - 1) (by omega) hc.2
            rw [show k - L - 1 - 1 = i - L - 1 by omega] at this
            omega
          · split at hb
            · rename_i hc
              cases hb
              have := h.next (i - L - 1) (by omega) hc.2
              rw [show i - L - 1 - 1 = k - L - 1 by omega] at this
              omega
            · cases hb
theorem bnd_0l (but : Int) {i : Nat} (hi : i < L) : bnd rlo rhi L S but 0 (i + 1) = some 1000 := by
  unfold bnd; rw [if_pos rfl, if_neg (by omega), if_pos (by omega)]
theorem bnd_l0 (but : Int) {i : Nat} (hi : i < L) : bnd rlo rhi L S but (i + 1) 0 = some 0 := by
  unfold bnd; rw [if_neg (by omega), if_pos (by omega), if_pos rfl]
theorem bnd_0t (but : Int) {k : Nat} (hf : firstB S (k : Int) = true) : bnd rlo rhi L S but 0 (L + 1 + k) = some 0 := by
  unfold bnd; rw [if_pos rfl, if_neg (by omega), if_neg (by omega), show L + 1 + k - L - 1 = k by omega, if_pos hf]
theorem bnd_t0 (but : Int) {k : Nat} (hf : firstB S (k : Int) = true) : bnd rlo rhi L S but (L + 1 + k) 0 = some 0 := by
  unfold bnd; rw [if_neg (by omega), if_neg (by omega), if_pos rfl, show L + 1 + k - L - 1 = k by omega, if_pos hf]
theorem bnd_up (but : Int) {k : Nat} (hf : firstB S ((k + 1 : Nat) : Int) = false) : bnd rlo rhi L S but (L + 1 + k) (L + 1 + (k + 1)) = some rhi := by
  unfold bnd; rw [if_neg (by omega), if_neg (by omega), if_neg (by omega), if_neg (by omega), show L + 1 + k - L - 1 = k by omega, show L + 1 + (k + 1) - L - 1 = k + 1 by omega, if_pos ⟨rfl, hf⟩]
theorem bnd_dn (but : Int) {k : Nat} (hf : firstB S ((k + 1 : Nat) : Int) = false) : bnd rlo rhi L S but (L + 1 + (k + 1)) (L + 1 + k) = some (-rlo) := by
  unfold bnd; rw [if_neg (by omega), if_neg (by omega), if_neg (by omega), if_neg (by omega), show L + 1 + k - L - 1 = k by omega, show L + 1 + (k + 1) - L - 1 = k + 1 by omega, if_neg (by omega), if_pos ⟨rfl, hf⟩]
theorem bnd_lt {but : Int} {k : Nat} (hk : k < S.flatten.length) (hb : (k : Int) ≠ but) : bnd rlo rhi L S but ((tasteAt S k).1.toNat + 1) (L + 1 + k) = some (-(tasteAt S k).2.1) := by
  have := hO.x _ (tasteAt_mem hk)
  unfold bnd; rw [if_neg (by omega), if_pos (by omega), if_neg (by omega), if_neg (by omega), show L + 1 + k - L - 1 = k by omega, if_pos ⟨hb, by omega⟩]
theorem bnd_tl {but : Int} {k : Nat} (hk : k < S.flatten.length) (hb : (k : Int) ≠ but) : bnd rlo rhi L S but (L + 1 + k) ((tasteAt S k).1.toNat + 1) = some (tasteAt S k).2.2 := by
  have := hO.x _ (tasteAt_mem hk)
  unfold bnd; rw [if_neg (by omega), if_neg (by omega), if_neg (by omega), if_pos (by omega), show L + 1 + k - L - 1 = k by omega, if_pos ⟨hb, by omega⟩]
theorem pot_truth {but : Int} {p : Nat → Int} (h : Pot (allE (bnd rlo rhi L S but) (1 + L + S.flatten.length) (1 + L + S.flatten.length)) p) : TruthN rlo rhi L S but (fun i => p (i + 1) - p 0) (fun k => p (L + 1 + k) - p 0) := by
  have key : ∀ i k x, i < 1 + L + S.flatten.length → k < 1 + L + S.flatten.length → bnd rlo rhi L S but i k = some x → p k ≤ p i + x := fun i k x hi hk hb => h (i, k, x) (mem_allE.2 ⟨hi, hk, hb⟩)
  refine ⟨fun i hi => ?_, fun k hk hf => ?_, fun k hk hf => ?_, fun k hk hb => ?_⟩
  · have := key _ _ _ (by omega) (by omega) (bnd_0l hO but hi)
    have := key _ _ _ (by omega) (by omega) (bnd_l0 hO but hi)
    omega
  · have := key _ _ _ (by omega) (by omega) (bnd_0t hO but hf)
    have := key _ _ _ (by omega) (by omega) (bnd_t0 hO but hf)
    omega
  · cases k with
    | zero => rw [first_zero' hO hk] at hf; cases hf
    | succ k =>
      have := key _ _ _ (by omega) (by omega) (bnd_up hO but hf)
      have := key _ _ _ (by omega) (by omega) (bnd_dn hO but hf)
      rw [show k + 1 - 1 = k by omega]
      omega
  · have hx := hO.x _ (tasteAt_mem hk)
    have := key _ _ _ (by omega) (by omega) (bnd_lt hO hk hb)
    have := key _ _ _ (by omega) (by omega) (bnd_tl hO hk hb)
    omega
/-- All names can be come to from 0, and 0 from all. -/
theorem reach (but : Int) {i : Nat} (hi : i < 1 + L + S.flatten.length) : (∃ l s, Walk (allE (bnd rlo rhi L S but) (1 + L + S.flatten.length) (1 + L + S.flatten.length)) 0 l i s) ∧ ∃ l s, Walk (allE (bnd rlo rhi L S but) (1 + L + S.flatten.length) (1 + L + S.flatten.length)) i l 0 s := by
  have one : ∀ {i k : Nat} {x : Int}, i < 1 + L + S.flatten.length → k < 1 + L + S.flatten.length → bnd rlo rhi L S but i k = some x → Walk (allE (bnd rlo rhi L S but) (1 + L + S.flatten.length) (1 + L + S.flatten.length)) i [k] k x := fun hi hk hb => .one (mem_allE.2 ⟨hi, hk, hb⟩)
  have tastes : ∀ k, k < S.flatten.length → (∃ l s, Walk (allE (bnd rlo rhi L S but) (1 + L + S.flatten.length) (1 + L + S.flatten.length)) 0 l (L + 1 + k) s) ∧ ∃ l s, Walk (allE (bnd rlo rhi L S but) (1 + L + S.flatten.length) (1 + L + S.flatten.length)) (L + 1 + k) l 0 s := by
    intro k
    induction k with
    | zero =>
      intro hk
      have hf := first_zero' hO hk
      exact ⟨⟨_, _, one (by omega) (by omega) (bnd_0t hO but hf)⟩, _, _, one (by omega) (by omega) (bnd_t0 hO but hf)⟩
    | succ k ih =>
      intro hk
      cases hf : firstB S ((k + 1 : Nat) : Int) with
      | true => exact ⟨⟨_, _, one (by omega) (by omega) (bnd_0t hO but hf)⟩, _, _, one (by omega) (by omega) (bnd_t0 hO but hf)⟩
      | false =>
        obtain ⟨⟨l1, s1, w1⟩, l2, s2, w2⟩ := ih (by omega)
        exact ⟨⟨_, _, w1.append (one (by omega) (by omega) (bnd_up hO but hf))⟩, _, _, (one (by omega) (by omega) (bnd_dn hO but hf)).append w2⟩
  rcases Nat.eq_zero_or_pos i with h0 | h0
  · subst h0; exact ⟨⟨_, _, .nil 0⟩, _, _, .nil 0⟩
  · rcases Nat.lt_or_ge L i with h1 | h1
    · have := tastes (i - L - 1) (by omega)
      rwa [show L + 1 + (i - L - 1) = i by omega] at this
    · obtain ⟨j, rfl⟩ : ∃ j, i = j + 1 := ⟨i - 1, by omega⟩
      exact ⟨⟨_, _, one (by omega) (by omega) (bnd_0l hO but (by omega))⟩, _, _, one (by omega) (by omega) (bnd_l0 hO but (by omega))⟩
theorem reach2 (but : Int) {i k : Nat} (hi : i < 1 + L + S.flatten.length) (hk : k < 1 + L + S.flatten.length) : ∃ l s, Walk (allE (bnd rlo rhi L S but) (1 + L + S.flatten.length) (1 + L + S.flatten.length)) i l k s := by
  obtain ⟨_, l1, s1, w1⟩ := reach hO but hi
  obtain ⟨⟨l2, s2, w2⟩, _⟩ := reach hO but hk
  exact ⟨_, _, w1.append w2⟩
theorem has_iff (but : Int) : HasPot (bnd rlo rhi L S but) (1 + L + S.flatten.length) ↔ ∃ sh ti, TruthN rlo rhi L S but sh ti := by
  constructor
  · intro h
    exact ⟨_, _, pot_truth hO ((bnd_ok hO but).pot_of h)⟩
  · rintro ⟨sh, ti, h⟩
    exact (bnd_ok hO but).pot_has (truth_pot hO h)
end
end Go.Proofs.Ytkbcogaodnmdoaa
