/- Books together, plainly: lemmas for the rows of this seat. No conditions. -/
import Derived.Laws.StructEq
import Derived.Test.YtojeeindlijgkaaGreatDoorK16
set_option linter.all false
namespace Go.Proofs.YtojeeindlijgkaaGreatDoor
open Go.RowKit
/-! ## Books together, plainly -/
theorem clB_iff {x y : Ln} : clB x y = true ↔ x.st = y.st ∧ x.ck = y.ck ∧ x ≠ y := by
 unfold clB
 simp only [Bool.and_eq_true, decide_eq_true_eq, Bool.not_eq_true', decide_eq_false_iff_not, and_assoc, ne_eq]
theorem Valid.one {l : List Ln} (h : Valid l) {x y : Ln} (hx : x ∈ l) (hy : y ∈ l) (e1 : x.st = y.st) (e2 : x.ck = y.ck) : x = y := by
 obtain ⟨i, hi, rfl⟩ := mem_lnAt.1 hx
 obtain ⟨j, hj, rfl⟩ := mem_lnAt.1 hy
 rcases Nat.lt_trichotomy i j with hij | rfl | hij
 ·have := before_iff.1 (h.ord i j hij hj); omega
 ·rfl
 ·have := before_iff.1 (h.ord j i hij hi); omega
theorem sorted_pw {l : List Ln} (h : l.Pairwise fun x y => before x y = true) : Sorted l := fun i j hij hj => by
 rw [lnAt_get (by omega), lnAt_get hj]
 exact List.pairwise_iff_getElem.1 h i j (by omega) hj hij
theorem lines_iff {l : List Ln} : Lines l ↔ ∀ x ∈ l, isLine x = true := by
 constructor
 ·intro h x hx
  obtain ⟨i, hi, rfl⟩ := mem_lnAt.1 hx
  exact h i hi
 ·intro h j hj
  exact h _ (mem_lnAt.2 ⟨j, hj, rfl⟩)
theorem Valid.sub {l m : List Ln} (h : Valid l) (hs : m.Sublist l) : Valid m :=
 ⟨Nat.le_trans hs.length_le h.len, lines_iff.2 fun x hx => lines_iff.1 h.ok x (hs.subset hx), sorted_pw ((pw_of_sorted h.ord).sublist hs)⟩
/-- One book is two books together. -/
structure Joins (a b o : List Ln) : Prop where
 va : Valid a
 vb : Valid b
 vo : Valid o
 mem : ∀ x, x ∈ o ↔ x ∈ a ∨ x ∈ b
theorem Joins.swap {a b o : List Ln} (h : Joins a b o) : Joins b a o := ⟨h.vb, h.va, h.vo, fun x => (h.mem x).trans Or.comm⟩
theorem Joins.free {a b o : List Ln} (h : Joins a b o) : a.find? (clashB b) = none := by
 rw [List.find?_eq_none]
 intro x hx hc
 unfold clashB at hc
 rw [List.any_eq_true] at hc
 obtain ⟨y, hy, hc⟩ := hc
 obtain ⟨e1, e2, e3⟩ := clB_iff.1 hc
 exact e3 (h.vo.one ((h.mem x).2 (.inl hx)) ((h.mem y).2 (.inr hy)) e1 e2)
theorem Joins.eq {a b o : List Ln} (h : Joins a b o) : togL a b = o := by
 rw [tog_mrg h.va h.vb h.free]
 have hA := agree_of h.free
 refine sorted_ext (mrg_sorted _ a b (Nat.le_refl _) hA h.va.sorted h.vb.sorted) h.vo.sorted fun x => ?_
 rw [mrg_mem _ a b (Nat.le_refl _) hA x, h.mem x]
/-! ### Parts by bits -/
def somT (p : Nat → Bool) (w : List Ln) (k : Nat) : List Ln := ((List.range k).filter p).map (lnAt w)
theorem somT_succ (p : Nat → Bool) (w : List Ln) (k : Nat) : somT p w (k + 1) = somT p w k ++ if p k then [lnAt w k] else [] := by
 unfold somT
 rw [List.range_succ, List.filter_append, List.map_append]
 cases h : p k <;> simp [h]
theorem range_lnAt (w : List Ln) : (List.range w.length).map (lnAt w) = w := by
 apply List.ext_getElem
 ·simp
 ·intro i h1 h2
  rw [List.getElem_map, List.getElem_range, lnAt_get h2]
theorem somT_sub (p : Nat → Bool) (w : List Ln) : (somT p w w.length).Sublist w := by
 have := (List.filter_sublist (p := p) (l := List.range w.length)).map (lnAt w)
 rwa [range_lnAt] at this
theorem somT_mem {p : Nat → Bool} {w : List Ln} {x : Ln} : x ∈ somT p w w.length ↔ ∃ i, i < w.length ∧ p i = true ∧ lnAt w i = x := by
 unfold somT
 simp only [List.mem_map, List.mem_filter, List.mem_range, and_assoc]
theorem somT_valid {w : List Ln} (h : Valid w) (p : Nat → Bool) : Valid (somT p w w.length) := h.sub (somT_sub p w)
theorem somT_join {w : List Ln} (h : Valid w) {p q r : Nat → Bool} (hr : ∀ i, i < w.length → r i = (p i || q i)) : Joins (somT p w w.length) (somT q w w.length) (somT r w w.length) := by
 refine ⟨somT_valid h p, somT_valid h q, somT_valid h r, fun x => ?_⟩
 rw [somT_mem, somT_mem, somT_mem]
 constructor
 ·rintro ⟨i, hi, hp, rfl⟩
  rw [hr i hi, Bool.or_eq_true] at hp
  rcases hp with hp | hp
  ·exact .inl ⟨i, hi, hp, rfl⟩
  ·exact .inr ⟨i, hi, hp, rfl⟩
 ·rintro (⟨i, hi, hp, rfl⟩ | ⟨i, hi, hp, rfl⟩)
  ·exact ⟨i, hi, by rw [hr i hi, hp]; rfl, rfl⟩
  ·exact ⟨i, hi, by rw [hr i hi, hp]; simp, rfl⟩
theorem somT_all (w : List Ln) : somT (fun _ => true) w w.length = w := by
 unfold somT
 rw [List.filter_eq_self.2 (fun _ _ => rfl), range_lnAt]
theorem somT_congr {p q : Nat → Bool} {w : List Ln} (h : ∀ i, i < w.length → p i = q i) : somT p w w.length = somT q w w.length := by
 unfold somT
 congr 1
 exact List.filter_congr fun i hi => h i (List.mem_range.1 hi)
/-! ### First lines of each clerk -/
def cntC (w : List Ln) (i c : Nat) : Nat := (w.take i).countP fun y => decide (y.ck.toNat = c)
def begP (w : List Ln) (m : Nat → Nat) (i : Nat) : Bool := decide (cntC w i (lnAt w i).ck.toNat < m (lnAt w i).ck.toNat)
def begL (w : List Ln) (m : Nat → Nat) : List Ln := somT (begP w m) w w.length
theorem cntC_succ {w : List Ln} {i : Nat} (hi : i < w.length) (c : Nat) : cntC w (i + 1) c = cntC w i c + if (lnAt w i).ck.toNat = c then 1 else 0 := by
 unfold cntC
 rw [List.take_succ_eq_append_getElem hi, List.countP_append, lnAt_get hi, List.countP_singleton]
 simp only [decide_eq_true_eq]
theorem cntC_le {w : List Ln} {i j : Nat} (h : i ≤ j) (c : Nat) : cntC w i c ≤ cntC w j c := by
 unfold cntC
 have : w.take i = (w.take j).take i := by rw [List.take_take, Nat.min_eq_left h]
 rw [this]
 exact ((w.take j).take_sublist i).countP_le
theorem begP_max (w : List Ln) (m1 m2 : Nat → Nat) (i : Nat) : begP w (fun c => max (m1 c) (m2 c)) i = (begP w m1 i || begP w m2 i) := by
 unfold begP
 rw [Bool.eq_iff_iff]
 simp only [Bool.or_eq_true, decide_eq_true_eq]
 omega
theorem begL_join {w : List Ln} (h : Valid w) (m1 m2 : Nat → Nat) : Joins (begL w m1) (begL w m2) (begL w fun c => max (m1 c) (m2 c)) := somT_join h fun i _ => begP_max w m1 m2 i
/-! ### What was seen -/
theorem seenG_le (k : Nat) (z : Int) : ∀ (l : List Ln) (f : Nat → Int), l.foldl seenStep f k ≤ z ↔ f k ≤ z ∧ ∀ y ∈ l, y.ck.toNat = k → y.st ≤ z
 | [], f => by simp
 | x :: l, f => by
  rw [List.foldl_cons, seenG_le k z l]
  unfold seenStep
  simp only [List.mem_cons]
  constructor
  ·rintro ⟨h1, h2⟩
   refine ⟨?_, ?_⟩
   ·split at h1
    ·split at h1 <;> omega
    ·exact h1
   ·rintro y (rfl | hy) hk
    ·rw [if_pos hk.symm] at h1
     split at h1 <;> omega
    ·exact h2 y hy hk
  ·rintro ⟨h1, h2⟩
   refine ⟨?_, fun y hy hk => h2 y (.inr hy) hk⟩
   split
   ·rename_i hk
    have := h2 x (.inl rfl) hk.symm
    split <;> omega
   ·exact h1
theorem seenF_le {l : List Ln} {k : Nat} {z : Int} : seenF l k ≤ z ↔ 0 ≤ z ∧ ∀ y ∈ l, y.ck.toNat = k → y.st ≤ z := seenG_le k z l _
theorem seenF_ge {l : List Ln} {y : Ln} (hy : y ∈ l) : y.st ≤ seenF l y.ck.toNat := (seenF_le.1 (Int.le_refl _)).2 y hy rfl
theorem seenF_zero (l : List Ln) (k : Nat) : 0 ≤ seenF l k := (seenF_le.1 (Int.le_refl (seenF l k))).1
theorem seenF_join {a b o : List Ln} (h : Joins a b o) (k : Nat) : seenF o k = max (seenF a k) (seenF b k) := by
 have h1 : seenF o k ≤ max (seenF a k) (seenF b k) := by
  rw [seenF_le]
  have ha := seenF_zero a k
  refine ⟨by omega, fun y hy hk => ?_⟩
  subst hk
  rcases (h.mem y).1 hy with hy | hy
  ·have := seenF_ge hy; omega
  ·have := seenF_ge hy; omega
 have h2 : seenF a k ≤ seenF o k := by
  rw [seenF_le]
  exact ⟨seenF_zero o k, fun y hy hk => hk ▸ seenF_ge ((h.mem y).2 (.inl hy))⟩
 have h3 : seenF b k ≤ seenF o k := by
  rw [seenF_le]
  exact ⟨seenF_zero o k, fun y hy hk => hk ▸ seenF_ge ((h.mem y).2 (.inr hy))⟩
 omega
theorem seenF_max {l : List Ln} (h : Valid l) (k : Nat) : 0 ≤ seenF l k ∧ seenF l k ≤ 999 :=
 ⟨seenF_zero l k, seenF_le.2 ⟨by decide, fun y hy _ => (isLine_ok (lines_iff.1 h.ok y hy)).st.2⟩⟩
def seenL (l : List Ln) : List Int := [seenF l 0, seenF l 1, seenF l 2]
theorem seenL_at (l : List Ln) {k : Nat} (hk : k ≤ 2) : iAtK (seenL l) k = seenF l k := by
 match k, hk with
 | 0, _ => rfl
 | 1, _ => rfl
 | 2, _ => rfl
theorem seenL_bad {l : List Ln} (h : Valid l) : badSn (seenL l) = false := by
 unfold badSn
 rw [seenL_at l (by decide), seenL_at l (by decide), seenL_at l (by decide), inB_iff.2 (seenF_max h 0), inB_iff.2 (seenF_max h 1), inB_iff.2 (seenF_max h 2)]
 rfl
/-- What is new in the second book, to what the first one has seen, and the first one, are both. -/
theorem since_join {w : List Ln} (h : Valid w) (m1 m2 : Nat → Nat) : Joins (begL w m1) ((begL w m2).filter (sinceP (seenL (begL w m1)))) (begL w fun c => max (m1 c) (m2 c)) := by
 have hj := begL_join h m1 m2
 refine ⟨hj.va, hj.vb.sub List.filter_sublist, hj.vo, fun x => ?_⟩
 rw [hj.mem x, List.mem_filter]
 constructor
 ·rintro (hx | hx)
  ·exact .inl hx
  by_cases hxa : x ∈ begL w m1
  ·exact .inl hxa
  refine .inr ⟨hx, ?_⟩
  unfold sinceP
  have ok := isLine_ok (lines_iff.1 hj.vb.ok x hx)
  have hck := ok.ck
  have hst := ok.st
  rw [seenL_at _ (by omega), decide_eq_true_eq]
  obtain ⟨i, hi, hp, rfl⟩ := somT_mem.1 hx
  have hge : m1 (lnAt w i).ck.toNat ≤ cntC w i (lnAt w i).ck.toNat := by
   rcases Nat.lt_or_ge (cntC w i (lnAt w i).ck.toNat) (m1 (lnAt w i).ck.toNat) with h | h
   ·exact absurd (somT_mem.2 ⟨i, hi, decide_eq_true h, rfl⟩) hxa
   ·exact h
  have : seenF (begL w m1) (lnAt w i).ck.toNat ≤ (lnAt w i).st - 1 := by
   rw [seenF_le]
   refine ⟨by omega, fun y hy hk => ?_⟩
   obtain ⟨j, hj', hq, rfl⟩ := somT_mem.1 hy
   have hyk := (isLine_ok (h.ok j hj')).ck
   have hlt := of_decide_eq_true hq
   rw [hk] at hlt
   rcases Nat.lt_trichotomy j i with hij | rfl | hij
   ·have := before_iff.1 (h.ord j i hij hi)
    omega
   ·omega
   ·have := cntC_le (w := w) (Nat.le_of_lt hij) (lnAt w i).ck.toNat
    omega
  omega
 ·rintro (hx | ⟨hx, _⟩)
  ·exact .inl hx
  ·exact .inr hx
/-! ### What two books have in common, and what one has alone -/
theorem partT {b : List Ln} {x : Ln} : partP b true x = true ↔ x ∈ b := by unfold partP hasL; simp
theorem partF {b : List Ln} {x : Ln} : partP b false x = true ↔ x ∉ b := by unfold partP hasL; simp
theorem common_swap {a b : List Ln} (ha : Valid a) (hb : Valid b) : a.filter (partP b true) = b.filter (partP a true) :=
 sorted_ext (ha.sub List.filter_sublist).sorted (hb.sub List.filter_sublist).sorted fun x => by
  rw [List.mem_filter, List.mem_filter, partT, partT]
  exact And.comm
theorem split_join {a : List Ln} (ha : Valid a) (b : List Ln) : Joins (a.filter (partP b true)) (a.filter (partP b false)) a := by
 refine ⟨ha.sub List.filter_sublist, ha.sub List.filter_sublist, ha, fun x => ?_⟩
 rw [List.mem_filter, List.mem_filter, partT, partF]
 by_cases h : x ∈ b <;> simp [h]
theorem common_self (a : List Ln) : a.filter (partP a true) = a := List.filter_eq_self.2 fun _ hx => partT.2 hx
theorem only_self (a : List Ln) : a.filter (partP a false) = [] := List.filter_eq_nil_iff.2 fun _ hx h => partF.1 h hx
theorem split_len (a b : List Ln) : (a.filter (partP b true)).length + (a.filter (partP b false)).length = a.length := by
 induction a with
 | nil => rfl
 | cons x a ih =>
  by_cases h : x ∈ b
  ·rw [List.filter_cons_of_pos (partT.2 h), List.filter_cons_of_neg (fun hh => partF.1 hh h), List.length_cons, List.length_cons]; omega
  ·rw [List.filter_cons_of_neg (fun hh => h (partT.1 hh)), List.filter_cons_of_pos (partF.2 h), List.length_cons, List.length_cons]; omega
/-! ### One line is another one -/
theorem setB_mem {b : List Ln} {i : Nat} (hi : i < b.length) (y : Ln) {x : Ln} : x ∈ b.set i y ↔ x = y ∨ ∃ j, j < b.length ∧ j ≠ i ∧ lnAt b j = x := by
 rw [mem_lnAt, List.length_set]
 constructor
 ·rintro ⟨j, hj, rfl⟩
  rw [lnAt_set y hi]
  by_cases e : j = i
  ·rw [if_pos e]; exact .inl rfl
  ·rw [if_neg e]; exact .inr ⟨j, hj, e, rfl⟩
 ·rintro (rfl | ⟨j, hj, e, rfl⟩)
  ·exact ⟨i, hi, by rw [lnAt_set _ hi, if_pos rfl]⟩
  ·exact ⟨j, hj, by rw [lnAt_set y hi, if_neg e]⟩
theorem setB_valid {b : List Ln} (h : Valid b) {i : Nat} (hi : i < b.length) {y : Ln} (hy : isLine y = true) (e1 : y.st = (lnAt b i).st) (e2 : y.ck = (lnAt b i).ck) : Valid (b.set i y) := by
 refine ⟨by rw [List.length_set]; exact h.len, fun j hj => ?_, fun j k hjk hk => ?_⟩
 ·rw [List.length_set] at hj
  rw [lnAt_set y hi]
  split
  ·exact hy
  ·exact h.ok j hj
 ·rw [List.length_set] at hk
  have := before_iff.1 (h.ord j k hjk hk)
  rw [lnAt_set y hi, lnAt_set y hi, before_iff]
  split <;> split
  ·omega
  ·rename_i e _; subst e; omega
  ·rename_i _ e; subst e; omega
  ·exact this
theorem find_one {α : Type} {p : α → Bool} {l : List α} {x : α} (hx : x ∈ l) (hp : p x = true) (h : ∀ y ∈ l, p y = true → y = x) : l.find? p = some x := by
 cases hf : l.find? p with
 | none => exact absurd hp (List.find?_eq_none.1 hf x hx)
 | some y => rw [h y (List.mem_of_find?_eq_some hf) (List.find?_some hf)]
theorem setB_other {b : List Ln} (h : Valid b) {i : Nat} (hi : i < b.length) {y : Ln} (e1 : y.st = (lnAt b i).st) (e2 : y.ck = (lnAt b i).ck) (hne : y ≠ lnAt b i) {j : Nat} (hj : j < b.length) : (lnAt b j ∈ b.set i y ↔ j ≠ i) := by
 rw [setB_mem hi]
 constructor
 ·rintro (e | ⟨k, hk, hki, e⟩) rfl
  ·exact hne e.symm
  ·rcases Nat.lt_or_gt_of_ne hki with h1 | h1
   ·have := before_iff.1 (h.ord k j h1 hj); rw [e] at this; omega
   ·have := before_iff.1 (h.ord j k h1 hk); rw [e] at this; omega
 ·exact fun e => .inr ⟨j, hj, e, rfl⟩
theorem setB_clash {b : List Ln} (h : Valid b) {i : Nat} (hi : i < b.length) {y : Ln} (e1 : y.st = (lnAt b i).st) (e2 : y.ck = (lnAt b i).ck) (hne : y ≠ lnAt b i) : b.find? (clashB (b.set i y)) = some (lnAt b i) ∧ (b.set i y).find? (clashB b) = some y := by
 have hbi : lnAt b i ∈ b := mem_lnAt.2 ⟨i, hi, rfl⟩
 have hyi : y ∈ b.set i y := (setB_mem hi y).2 (.inl rfl)
 constructor
 ·refine find_one hbi ?_ fun x hx hc => ?_
  ·unfold clashB
   rw [List.any_eq_true]
   exact ⟨y, hyi, clB_iff.2 ⟨e1.symm, e2.symm, fun e => hne e.symm⟩⟩
  ·unfold clashB at hc
   rw [List.any_eq_true] at hc
   obtain ⟨z, hz, hc⟩ := hc
   obtain ⟨c1, c2, c3⟩ := clB_iff.1 hc
   rcases (setB_mem hi y).1 hz with rfl | ⟨j, hj, _, rfl⟩
   ·exact h.one hx hbi (by omega) (by omega)
   ·exact absurd (h.one hx (mem_lnAt.2 ⟨j, hj, rfl⟩) c1 c2) c3
 ·refine find_one hyi ?_ fun x hx hc => ?_
  ·unfold clashB
   rw [List.any_eq_true]
   exact ⟨lnAt b i, hbi, clB_iff.2 ⟨e1, e2, hne⟩⟩
  ·unfold clashB at hc
   rw [List.any_eq_true] at hc
   obtain ⟨z, hz, hc⟩ := hc
   obtain ⟨c1, c2, c3⟩ := clB_iff.1 hc
   rcases (setB_mem hi y).1 hx with rfl | ⟨j, hj, _, rfl⟩
   ·rfl
   ·exact absurd (h.one (mem_lnAt.2 ⟨j, hj, rfl⟩) hz c1 c2) c3
def delB (b : List Ln) (i : Nat) : List Ln := b.take i ++ b.drop (i + 1)
theorem delB_som (b : List Ln) (i : Nat) (hi : i < b.length) : delB b i = somT (fun j => decide (j ≠ i)) b b.length := by
 have hr : (List.range b.length).filter (fun j => decide (j ≠ i)) = List.range i ++ (List.range (b.length - (i + 1))).map (fun k => i + 1 + k) := by
  have : List.range b.length = List.range i ++ [i] ++ (List.range (b.length - (i + 1))).map (fun k => i + 1 + k) := by
   rw [← List.range_succ, ← List.range_add]
   congr 1
   omega
  have f1 : (List.range i).filter (fun j => decide (j ≠ i)) = List.range i := List.filter_eq_self.2 fun x hx => by
   have := List.mem_range.1 hx
   simp; omega
  have f2 : ((List.range (b.length - (i + 1))).map (fun k => i + 1 + k)).filter (fun j => decide (j ≠ i)) = (List.range (b.length - (i + 1))).map (fun k => i + 1 + k) := List.filter_eq_self.2 fun x hx => by
   obtain ⟨k, _, rfl⟩ := List.mem_map.1 hx
   simp; omega
  rw [this, List.filter_append, List.filter_append, f1, f2]
  simp
 unfold delB somT
 rw [hr, List.map_append, List.map_map]
 congr 1
 ·apply List.ext_getElem
  ·simp; omega
  ·intro k h1 h2
   simp at h1 h2
   rw [List.getElem_take, List.getElem_map, List.getElem_range, lnAt_get (by omega)]
 ·apply List.ext_getElem
  ·simp
  ·intro k h1 h2
   simp at h1 h2
   rw [List.getElem_drop, List.getElem_map, List.getElem_range]
   show _ = lnAt b (i + 1 + k)
   rw [lnAt_get (by omega)]
theorem delB_valid {b : List Ln} (h : Valid b) {i : Nat} (hi : i < b.length) : Valid (delB b i) := by
 rw [delB_som b i hi]; exact somT_valid h _
theorem filter_som (p : Ln → Bool) (b : List Ln) : b.filter p = somT (fun j => p (lnAt b j)) b b.length := by
 conv => lhs; rw [← range_lnAt b]
 rw [List.filter_map]; rfl
theorem setB_common {b : List Ln} (h : Valid b) {i : Nat} (hi : i < b.length) {y : Ln} (e1 : y.st = (lnAt b i).st) (e2 : y.ck = (lnAt b i).ck) (hne : y ≠ lnAt b i) : b.filter (partP (b.set i y) true) = delB b i := by
 rw [filter_som, delB_som b i hi]
 refine somT_congr fun j hj => ?_
 rw [Bool.eq_iff_iff, partT, setB_other h hi e1 e2 hne hj, decide_eq_true_eq]
theorem setB_only {b : List Ln} (h : Valid b) {i : Nat} (hi : i < b.length) {y : Ln} (hy : isLine y = true) (e1 : y.st = (lnAt b i).st) (e2 : y.ck = (lnAt b i).ck) (hne : y ≠ lnAt b i) : (b.set i y).filter (partP b false) = [y] := by
 have hv := setB_valid h hi hy e1 e2
 refine sorted_ext (hv.sub List.filter_sublist).sorted (fun a c hac hc => by simp at hc; omega) fun x => ?_
 rw [List.mem_filter, partF, List.mem_singleton, setB_mem hi]
 constructor
 ·rintro ⟨rfl | ⟨j, hj, _, rfl⟩, hx⟩
  ·rfl
  ·exact absurd (mem_lnAt.2 ⟨j, hj, rfl⟩) hx
 ·rintro rfl
  refine ⟨.inl rfl, fun hx => hne (h.one hx (mem_lnAt.2 ⟨i, hi, rfl⟩) e1 e2)⟩
/-! ## Stocks without a line, or with one more -/
theorem stF_app (a : Int) (l m : List Ln) : stF a (l ++ m) = m.foldl (stStep a) (stF a l) := List.foldl_append ..
theorem stF_snoc (a : Int) (l : List Ln) (x : Ln) : stF a (l ++ [x]) = stStep a (stF a l) x := by rw [stF_app]; rfl
theorem stG_at (a : Int) (k : Nat) : ∀ (l : List Ln) {f g : Nat → Int}, f k = g k → l.foldl (stStep a) f k = l.foldl (stStep a) g k
 | [], _, _, h => h
 | x :: l, f, g, h => by
  rw [List.foldl_cons, List.foldl_cons]
  refine stG_at a k l ?_
  unfold stStep
  split
  ·exact h
  ·dsimp only
   split
   ·rw [h]
   ·exact h
theorem del_split {b : List Ln} {i : Nat} (hi : i < b.length) : b = b.take i ++ lnAt b i :: b.drop (i + 1) := by
 rw [lnAt_get hi, ← List.drop_eq_getElem_cons hi, List.take_append_drop]
theorem del_other (a : Int) {b : List Ln} {i : Nat} (hi : i < b.length) {k : Nat} (hk : k ≠ (lnAt b i).th.toNat) : stF a b k = stF a (delB b i) k := by
 conv => lhs; rw [del_split hi]
 unfold delB
 rw [stF_app, stF_app, List.foldl_cons]
 refine stG_at a k _ ?_
 unfold stStep
 split
 ·rfl
 ·dsimp only
  rw [if_neg hk]
theorem del_early {a : Int} {b : List Ln} {i : Nat} (hi : i < b.length) (h : a < (lnAt b i).st) : stF a b = stF a (delB b i) := by
 funext k
 conv => lhs; rw [del_split hi]
 unfold delB
 rw [stF_app, stF_app, List.foldl_cons]
 refine stG_at a k _ ?_
 unfold stStep
 rw [if_pos h]
theorem add_valid {b : List Ln} (h : Valid b) {y : Ln} : Valid (b ++ [y]) → isLine y = true ∧ b.length < 20 := fun hv => by
 have h1 := hv.len
 have h2 := lines_iff.1 hv.ok y (by simp)
 rw [List.length_append, List.length_singleton] at h1
 exact ⟨h2, by omega⟩
theorem stF_lim {b : List Ln} (h : Valid b) (a : Int) (k : Nat) : -20000 ≤ stF a b k ∧ stF a b k ≤ 20000 := by
 have := stF_bd a h.ok b.length (Nat.le_refl _) k
 have hl := h.len
 rw [List.take_length] at this
 omega
/-! ## Some: lines by bits -/
def bitP (bits i : Nat) : Bool := decide (bits / 2 ^ i % 2 = 1)
theorem bitP_or (a b i : Nat) : bitP (a ||| b) i = (bitP a i || bitP b i) := by
 have h : ∀ m, bitP m i = m.testBit i := fun m => by
  unfold bitP
  rw [Nat.testBit_eq_decide_div_mod_eq]
 rw [h, h, h, Nat.testBit_or]
theorem somT_len (p : Nat → Bool) (w : List Ln) (k : Nat) : (somT p w k).length ≤ k := by
 unfold somT
 rw [List.length_map]
 exact Nat.le_trans (List.length_filter_le _ _) (by simp)
theorem wrap_u32 (q : Nat) (h : q < 2) : IntKind.u32.wrap (q : Int) = q := by
 match q, h with
 | 0, _ => rfl
 | 1, _ => rfl
set_option maxHeartbeats 2000000 in
set_option maxRecDepth 20000 in
theorem some_any (B : Option Addr) (c : Nat) (l : List Ln) (bits : Nat) (hb : bits < 4294967296) (w : World) (h : BookR w B l) (hm : l.length ≤ 26) :
  Calls Tryz.prog 43 #[.agg #[.slice B l.length c], .int .u32 (bits : Int)] w fun e w' => ∃ x : SlX, e = .returned (.agg #[.slice x.1 (somT (bitP bits) l l.length).length x.2]) ∧ True ∧ St w ([] ++ [.own (.slice x.1 (somT (bitP bits) l l.length).length x.2) 61 5 (somT (bitP bits) l l.length).length (lnC (somT (bitP bits) l l.length))]) w' := by
 refine fn_v tk (n := 30) (A := []) Tryz.func43 rfl rfl (Nat.le_of_ble_eq_true rfl) (St.nil (Below.refl _ _)) ?_
 ((conv => whnf); (repeat ((apply VNew.mk; intro g hg); (conv => whnf))); apply VStop.mk)
 revert g hg
 intro g5 hg5
 revert g hg
 intro g4 hg4
 revert g hg
 intro g2 hg2
 refine tr_own_nil 61 5 ?_
 refine v_loop (fun gm ds ts A => ds = [] ∧ ∃ (j : Nat) (Bx : Option Addr) (cx : Nat), j + gm = l.length ∧ A = [.own (.slice Bx (somT (bitP bits) l j).length cx) 61 5 (somT (bitP bits) l j).length (lnC (somT (bitP bits) l j)), .blk g5 24 [.slice Bx (somT (bitP bits) l j).length cx], .blk g4 24 [.slice none 0 0], .blk g2 24 [.slice B l.length c]] ∧ ts = [(1, .int .u32 (bits : Int)), (2, .pointer (some ⟨g2, 0, none⟩)), (4, .pointer (some ⟨g4, 0, none⟩)), (5, .pointer (some ⟨g5, 0, none⟩)), (6, .int .i64 (j : Int))]) l.length (l := [(1, _), (2, _), (4, _), (5, _), (6, _)]) (B := _) ?_ (List.Sublist.refl _) ⟨rfl, 0, none, 0, by omega, rfl, rfl⟩ ?_
 ·exact ⟨rfl, rfl, rfl, rfl, rfl, trivial⟩
 rintro gm ds ts A ⟨rfl, j, Bx, cx, hj, rfl, rfl⟩
 by_cases hlt : j < l.length
 ·obtain ⟨ba, oa, rfl⟩ := book_addr h hlt
  have cA := fun A => ln_cells h hlt A
  have hst := somT_succ (bitP bits) l j
  have hle := somT_len (bitP bits) l j
  have hdv : bits / 2 ^ j < 4294967296 := Nat.lt_of_le_of_lt (Nat.div_le_self _ _) hb
  have hbp : bitP bits j = decide (bits / 2 ^ j % 2 = 1) := rfl
  have hm2 : bits / 2 ^ j % 2 = 0 ∨ bits / 2 ^ j % 2 = 1 := by omega
  generalize lnAt l j = x at *
  generalize somT (bitP bits) l j = O at *
  unfold lnL at cA
  rcases hm2 with e | e
  ·rw [hbp, decide_eq_false (by omega), if_neg (by decide), List.append_nil] at hst
   (apply tr_v tk; (conv => whnf); (repeat ((first | (apply VStop.mk; (first | (refine ot_shr rfl rfl rfl rfl rfl (by show j ≤ 32; omega) ?_) | (refine ot_and1 rfl rfl rfl rfl rfl hdv wrap_u32 (by decide) ?_; rw [e])); apply ot_v tk) | (apply VLd.mk; (focus ((repeat (first | ((with_reducible apply ld_blk); exact rfl) | (with_reducible apply ld_skip))); done))) | (apply VRng.mk; omega) | apply VBr.t | apply VBr.f | (apply v_t; omega) | (apply v_f; omega)); (conv => whnf))))
   exact v_rnd (gm - 1) (by omega) (l := [(1, _), (2, _), (4, _), (5, _), (6, _)]) (B := _) ⟨rfl, rfl, rfl, rfl, rfl, trivial⟩ (List.Sublist.refl _) ⟨rfl, j + 1, Bx, cx, by omega, by rw [hst], rfl⟩
  ·rw [hbp, decide_eq_true e, if_pos rfl] at hst
   have hs2 : (O ++ [x]).length = O.length + 1 := by rw [List.length_append]; rfl
   have hs3 := lnC_snoc O x
   unfold lnL at hs3
   (apply tr_v tk; (conv => whnf); (repeat ((first | (apply VStop.mk; (first | refine tr_region_lex (id := 6) (by kernel_rfl) [.rd, .rd, .rd, .rd, .rd, .rd, .rd, .cr, .wr, .rd, .wr] rfl (by kernel_rfl) ?_ | (refine ot_shr rfl rfl rfl rfl rfl (by show j ≤ 32; omega) ?_) | (refine ot_and1 rfl rfl rfl rfl rfl hdv wrap_u32 (by decide) ?_; rw [e]) | (refine ot_appendS (sz := 5) (sl := O.length) (A'v := fun v' => _ :: .own v' 61 5 (O.length + 1) (lnC O ++ [.int .i64 x.st, .int .i64 x.ck, .int .i64 x.kd, .int .i64 x.th, .int .i64 x.vl]) :: _) tk rfl rfl rfl rfl rfl rfl rfl rfl rfl rfl (by decide) rfl (cells_blk_all (.head _)) rfl rfl (fun v' => .there .here) (by omega) (by decide) (fun B3 c3 => ?_))); apply ot_v tk) | (apply VLdN.mk; (first | exact cA _); exact rfl) | (apply VIx.mk (j := j); exact rfl; omega) | (apply VLd.mk; (focus ((repeat (first | ((with_reducible apply ld_blk); exact rfl) | (with_reducible apply ld_skip))); done))) | (apply VRng.mk; omega) | apply VBr.t | (apply v_t; omega) | (apply VNew.mk; intro g hg) | (apply VSt.mk; (focus ((repeat (first | (with_reducible exact At.here) | (with_reducible apply At.there))); done)); exact rfl)); (conv => whnf))))
   exact v_rnd (gm - 1) (by omega) (l := [(1, _), (2, _), (4, _), (5, _), (6, _)]) (B := _) ⟨rfl, rfl, rfl, rfl, rfl, trivial⟩ (.cons _ (List.Sublist.refl _)) ⟨rfl, j + 1, B3, c3, by omega, by rw [hst, hs2, hs3], rfl⟩
 obtain rfl : j = l.length := by omega
 (apply tr_v tk; (conv => whnf); (repeat ((first | (apply VLd.mk; (focus ((repeat (first | ((with_reducible apply ld_blk); exact rfl) | (with_reducible apply ld_skip))); done))) | (apply VLdN.mk; (focus ((repeat (first | (with_reducible apply ldn_blk) | (with_reducible apply ldn_skip))); done)); exact rfl) | apply VBr.f | (apply v_f; omega) | (apply VSt.mk; (focus ((repeat (first | (with_reducible exact At.here) | (with_reducible apply At.there))); done)); exact rfl)); (conv => whnf))))
 (apply VRet.mk)
 refine ret1 (by first | exact .inl rfl | exact .inr rfl) rfl (by exact rv_row tk rfl rfl rfl (by first | exact cells_blk_all (by (repeat (first | exact List.Mem.head _ | assumption | refine List.Mem.tail _ ?_))) | exact cells_row0 (by (repeat (first | exact List.Mem.head _ | assumption | refine List.Mem.tail _ ?_)))) rfl) ?_
 exact fun w hs => ⟨(Bx, cx), rfl, trivial, hs.sub (.cons_cons _ (List.nil_sublist _))⟩
/-! ## Begun: the first lines of each clerk -/
def cntI (l : List Ln) (i : Nat) : Nat → Int := fun k => (cntC l i k : Int)
theorem cntC_bd (l : List Ln) (i k : Nat) : cntC l i k ≤ i := by
 unfold cntC
 refine Nat.le_trans List.countP_le_length ?_
 rw [List.length_take]; omega
theorem cntI_step {l : List Ln} {j : Nat} (h : j < l.length) : cntI l (j + 1) = fun k => if k = (lnAt l j).ck.toNat then cntI l j k + 1 else cntI l j k := by
 funext k
 unfold cntI
 rw [cntC_succ h]
 by_cases e : (lnAt l j).ck.toNat = k
 ·rw [if_pos e, if_pos e.symm]; omega
 ·rw [if_neg e, if_neg (fun h => e h.symm)]; omega
theorem cntI_zero (l : List Ln) : cntI l 0 = fun _ => 0 := by
 funext k
 unfold cntI cntC
 rw [List.take_zero]; rfl
set_option maxHeartbeats 2000000 in
set_option maxRecDepth 20000 in
theorem begun_any (B : Option Addr) (c : Nat) (l : List Ln) (M : Nat → Nat) (hM : ∀ k, M k < 256) (w : World) (h : BookR w B l) (hV : Valid l) :
  Calls Tryz.prog 45 #[.agg #[.slice B l.length c], .agg #[.int .u8 (M 0 : Int), .int .u8 (M 1 : Int), .int .u8 (M 2 : Int)]] w fun e w' => ∃ x : SlX, e = .returned (.agg #[.slice x.1 (begL l M).length x.2]) ∧ True ∧ St w ([] ++ [.own (.slice x.1 (begL l M).length x.2) 61 5 (begL l M).length (lnC (begL l M))]) w' := by
 have hlen := hV.len
 refine fn_v tk (n := 49) (A := []) Tryz.func45 rfl rfl (Nat.le_of_ble_eq_true rfl) (St.nil (Below.refl _ _)) ?_
 ((conv => whnf); (repeat ((first | (apply VStop.mk; (refine ot_makeSlice (m := 3) tk (by decide) rfl rfl rfl rfl rfl rfl rfl rfl rfl rfl rfl rfl (by omega) (by decide) (fun g6 hg6 => ?_)); apply ot_v tk) | (apply VNew.mk; intro g hg)); (conv => whnf))); apply VStop.mk)
 rw [fnC_zero]
 revert g hg
 intro g5 hg5
 revert g hg
 intro g4 hg4
 revert g hg
 intro g3 hg3
 revert g hg
 intro g2 hg2
 refine tr_own_nil 61 5 ?_
 refine v_loop (fun gm ds ts A => ds = [] ∧ ∃ (j : Nat) (Bx : Option Addr) (cx : Nat), j + gm = l.length ∧ A = [.own (.slice Bx (somT (begP l M) l j).length cx) 61 5 (somT (begP l M) l j).length (lnC (somT (begP l M) l j)), .blk g6 3 (fnC (cntI l j) 3), .blk g5 24 [.slice Bx (somT (begP l M) l j).length cx], .blk g4 24 [.slice none 0 0], .blk g3 55 [.int .u8 (M 0 : Int), .int .u8 (M 1 : Int), .int .u8 (M 2 : Int)], .blk g2 24 [.slice B l.length c]] ∧ ts = [(2, .pointer (some ⟨g2, 0, none⟩)), (3, .pointer (some ⟨g3, 0, none⟩)), (4, .pointer (some ⟨g4, 0, none⟩)), (5, .pointer (some ⟨g5, 0, none⟩)), (6, .slice (some ⟨g6, 0, none⟩) 3 3), (7, .int .i64 (j : Int))]) l.length (l := [(2, _), (3, _), (4, _), (5, _), (6, _), (7, _)]) (B := _) ?_ (List.Sublist.refl _) ⟨rfl, 0, none, 0, by omega, by rw [cntI_zero]; rfl, rfl⟩ ?_
 ·exact ⟨rfl, rfl, rfl, rfl, rfl, rfl, trivial⟩
 rintro gm ds ts A ⟨rfl, j, Bx, cx, hj, rfl, rfl⟩
 by_cases hlt : j < l.length
 ·obtain ⟨ba, oa, rfl⟩ := book_addr h hlt
  have cA := fun A => ln_cells h hlt A
  have c1 := fun A => ln_cell h hlt 1 rfl A
  have hst := somT_succ (begP l M) l j
  have hle := somT_len (begP l M) l j
  have hcs := cntI_step hlt
  have hcb := fun k => cntC_bd l j k
  have ok := (hV.lnOk hlt).ck
  have hbp : begP l M j = decide (cntC l j (lnAt l j).ck.toNat < M (lnAt l j).ck.toNat) := rfl
  generalize lnAt l j = x at *
  generalize somT (begP l M) l j = O at *
  unfold lnL at cA
  obtain ⟨st, ck, kd, th, vl⟩ := x
  dsimp only at cA c1 ok hcs hbp
  obtain ⟨k, rfl, hk⟩ := toNat_eq ok.1
  rw [hk] at hcs hbp
  have hk2 : k ≤ 2 := by omega
  have hMk := hM k
  have hck := hcb k
  have cf := fun (f : Nat → Int) A (hA : Chunk.blk g6 3 (fnC f 3) ∈ A) => cell_fnC (w0 := w) (j := k) hA (by omega)
  have cm : ∀ {A : List Chunk}, Chunk.blk g3 55 [.int .u8 (M 0 : Int), .int .u8 (M 1 : Int), .int .u8 (M 2 : Int)] ∈ A → CellAt w A g3 (0 + k * 1) (.int .u8 (M k : Int)) := fun hA => by
   rw [Nat.zero_add, Nat.mul_one]
   refine cell_blk hA ?_
   match k, hk2 with
   | 0, _ => rfl
   | 1, _ => rfl
   | 2, _ => rfl
  have hcv : cntI l j k = (cntC l j k : Int) := rfl
  by_cases hp : cntC l j k < M k
  ·rw [hbp, decide_eq_true hp, if_pos rfl] at hst
   have hs2 : (O ++ [Ln.mk st k kd th vl]).length = O.length + 1 := by rw [List.length_append]; rfl
   have hs3 := lnC_snoc O ⟨st, k, kd, th, vl⟩
   unfold lnL at hs3
   dsimp only at hs3
   (apply tr_v tk; (conv => whnf); (repeat ((first | (apply VStop.mk; (first | refine tr_region_draw (id := 7) (by kernel_rfl) [0, 1, 2, 3, 4, 5, 6, 7, 8] [.rd, .rd, .rd, .rd, .rd, .rd, .rd, .rd, .rd] rfl (by kernel_rfl) ?_ | refine tr_region_lex (id := 8) (by kernel_rfl) [.rd, .rd, .rd, .rd, .rd, .rd, .rd, .cr, .wr, .rd, .wr] rfl (by kernel_rfl) ?_ | (refine ot_appendS (sz := 5) (sl := O.length) (A'v := fun v' => _ :: .own v' 61 5 (O.length + 1) (lnC O ++ [.int .i64 st, .int .i64 k, .int .i64 kd, .int .i64 th, .int .i64 vl]) :: _) tk rfl rfl rfl rfl rfl rfl rfl rfl rfl rfl (by decide) rfl (cells_blk_all (.head _)) rfl rfl (fun v' => .there .here) (by omega) (by decide) (fun B3 c3 => ?_))); apply ot_v tk) | (apply VLdN.mk; (first | exact cA _); exact rfl) | (apply VLd.mk; first | exact c1 _ | exact cm (by (repeat (first | exact List.Mem.head _ | assumption | refine List.Mem.tail _ ?_))) | exact cf _ _ (by (repeat (first | exact List.Mem.head _ | assumption | refine List.Mem.tail _ ?_)))) | (apply VIx.mk (j := j); exact rfl; omega) | (apply VIx.mk (j := k); exact rfl; omega) | (apply VSt.old; (focus (repeat (first | (with_reducible exact Upd.here) | (with_reducible apply Upd.there))); done); exact ble_fnC (by omega); exact setMany_fnC1 (by omega)) | (apply VLd.mk; (focus ((repeat (first | ((with_reducible apply ld_blk); exact rfl) | (with_reducible apply ld_skip))); done))) | (apply VRng.mk; omega) | apply VBr.t | (apply v_t; omega) | (apply VNew.mk; intro g hg) | (apply VSt.mk; (focus ((repeat (first | (with_reducible exact At.here) | (with_reducible apply At.there))); done)); exact rfl) | (apply v_wr64; omega)); (conv => whnf))))
   exact v_rnd (gm - 1) (by omega) (l := [(2, _), (3, _), (4, _), (5, _), (6, _), (7, _)]) (B := _) ⟨rfl, rfl, rfl, rfl, rfl, rfl, trivial⟩ (.cons _ (List.Sublist.refl _)) ⟨rfl, j + 1, B3, c3, by omega, by rw [hst, hs2, hs3, hcs]; exact congrArg (fun q => [_, Chunk.blk g6 3 q, _, _, _, _]) (fnC_congr fun i hi => by split <;> simp_all), rfl⟩
  ·rw [hbp, decide_eq_false hp, if_neg (by decide), List.append_nil] at hst
   (apply tr_v tk; (conv => whnf); (repeat ((first | (apply VStop.mk; refine tr_region_draw (id := 7) (by kernel_rfl) [0, 1, 2, 3, 4, 5, 6, 7, 8] [.rd, .rd, .rd, .rd, .rd, .rd, .rd, .rd, .rd] rfl (by kernel_rfl) ?_; apply ot_v tk) | (apply VLd.mk; first | exact c1 _ | exact cm (by (repeat (first | exact List.Mem.head _ | assumption | refine List.Mem.tail _ ?_))) | exact cf _ _ (by (repeat (first | exact List.Mem.head _ | assumption | refine List.Mem.tail _ ?_)))) | (apply VIx.mk (j := j); exact rfl; omega) | (apply VIx.mk (j := k); exact rfl; omega) | (apply VSt.old; (focus (repeat (first | (with_reducible exact Upd.here) | (with_reducible apply Upd.there))); done); exact ble_fnC (by omega); exact setMany_fnC1 (by omega)) | (apply VLd.mk; (focus ((repeat (first | ((with_reducible apply ld_blk); exact rfl) | (with_reducible apply ld_skip))); done))) | (apply VRng.mk; omega) | apply VBr.t | apply VBr.f | (apply v_t; omega) | (apply v_f; omega) | (apply v_wr64; omega)); (conv => whnf))))
   exact v_rnd (gm - 1) (by omega) (l := [(2, _), (3, _), (4, _), (5, _), (6, _), (7, _)]) (B := _) ⟨rfl, rfl, rfl, rfl, rfl, rfl, trivial⟩ (List.Sublist.refl _) ⟨rfl, j + 1, Bx, cx, by omega, by rw [hst, hcs]; exact congrArg (fun q => [_, Chunk.blk g6 3 q, _, _, _, _]) (fnC_congr fun i hi => by split <;> simp_all), rfl⟩
 obtain rfl : j = l.length := by omega
 (apply tr_v tk; (conv => whnf); (repeat ((first | (apply VLd.mk; (focus ((repeat (first | ((with_reducible apply ld_blk); exact rfl) | (with_reducible apply ld_skip))); done))) | (apply VLdN.mk; (focus ((repeat (first | (with_reducible apply ldn_blk) | (with_reducible apply ldn_skip))); done)); exact rfl) | apply VBr.f | (apply v_f; omega) | (apply VSt.mk; (focus ((repeat (first | (with_reducible exact At.here) | (with_reducible apply At.there))); done)); exact rfl)); (conv => whnf))))
 (apply VRet.mk)
 refine ret1 (by first | exact .inl rfl | exact .inr rfl) rfl (by exact rv_row tk rfl rfl rfl (by first | exact cells_blk_all (by (repeat (first | exact List.Mem.head _ | assumption | refine List.Mem.tail _ ?_))) | exact cells_row0 (by (repeat (first | exact List.Mem.head _ | assumption | refine List.Mem.tail _ ?_)))) rfl) ?_
 exact fun w hs => ⟨(Bx, cx), rfl, trivial, hs.sub (.cons_cons _ (List.nil_sublist _))⟩
/-! ## append(x, make([]T, n)...), x full -/
theorem run_append_growM {P : Program} (w : World) (t u ty e : TypeId) (i : TypeInfo) (z : Value) (ht : P.underlying t = some (.slice e)) (hu : P.underlying u = some (.int .i64)) (hi : P.info? e = some i) (hz : i.zero = some z)
  (b : Addr) (sLen : Nat) (olds : List Value) (hs1 : i.size = 1) (hlo : olds.length = sLen) (holds : ∀ j v, olds[j]? = some v → w.cell? (b.add j) = some v) (m : Nat) (hm : 0 < m) (h6 : sLen + m ≤ 1000000) (hb : i.bytes ≤ 100000) :
  (Builtin.append_ #[t, u] ty #[.slice (some b) sLen sLen, .int .i64 (m : Int)]).run P w =
   .ok (.slice (some ⟨w.heap.size, 0, none⟩) (sLen + m) (grownCap w (sLen + m) sLen e))
    (w.drew.alloc (.cells (olds.toArray ++ Builtin.zeroCells z.cells m ++ Builtin.zeroCells z.cells (grownCap w (sLen + m) sLen e - (sLen + m))) e)) := by
 have hn : ¬ (sLen + m ≤ sLen) := by omega
 have hn0 : m ≠ 0 := by omega
 have hbm : (sLen + m) * i.bytes ≤ 1000000 * 100000 := Nat.mul_le_mul h6 hb
 have hbm2 : m * i.bytes ≤ 1000000 * 100000 := Nat.mul_le_mul (by omega) hb
 have hw' : IntKind.i64.wrap (m : Int) = m := by rw [IntKind.wrap_i64]; omega
 have h63' : ¬ (9223372036854775807 < ((sLen : Int) + (m : Int))) := by omega
 have h48' : ¬ (281474976710656 < Builtin.nextslicecap (sLen + m) sLen * i.bytes) := by
  have := growslice_fits (need := sLen + m) (old := sLen) (bytes := i.bytes) (by omega) (by omega)
  omega
 have h48i : ¬ (281474976710656 < (m : Int) * (i.bytes : Int)) := by rw [← Int.natCast_mul]; omega
 have hneg : ¬ ((m : Int) < 0) := by omega
 have hfo := run_firstCells_some (P := P) w.drew i.size sLen b sLen sLen olds (by rw [hs1, Nat.mul_one]; exact hlo) (by simpa using holds)
 rw [hs1] at hfo
 simp [Builtin.append_, run_underlying ht, run_underlying hu, sizeOf, typeInfo, zeroValue, hi, hz, hs1, asInt, asIntOf, hw', hneg, h48i, Builtin.lenOf, hn, hn0, h63', h48', Question.forced, hfo, newRow, grownCap]
section
variable {P : Program} {tab : TT} {w0 w : World} {n : Nat} {ds : List Deferred} {ops : List Oper} {o : Oper} {os : List Oper} {ks : List Kind} {ts : TS} {A : List Chunk} {K : TS → List Chunk → Prop} {d : Tmp} {x y : Operand} {t u : TypeId} {i i' : TI}
theorem zero_cells_one {a : Array Value} {v : Value} (h : a.toList = [v]) (m : Nat) : (Builtin.zeroCells a m).toList = List.replicate m v := by
 have ha : a = #[v] := by cases a; simpa using h
 subst ha
 unfold Builtin.zeroCells
 apply List.ext_getElem
 ·simp
 ·intro k h1 h2
  simp [Nat.mod_one]
theorem ot_append_growM {e m s g0 off : Nat} {p : Int} {v0 : Value} {olds : List Value} (hT : TabOk P tab) (hh : ks.headD .wr ≠ .rd) (hop : o.op = .call { callee := .builtin .append, args := #[x, y], argTypes := #[t, u] }) (hd : o.dst = some d) (hw : wantB ops ts o = some true) (hx : evT ts x = some (.slice (some ⟨g0, off, none⟩) s s)) (hy : evT ts y = some (.int .i64 p)) (hp : p = (m : Int))
  (hi : lookI tab t = some i) (hl : i.d = .sl e) (hi' : lookI tab e = some i') {iu : TI} (hiu : lookI tab u = some iu) (hku : iu.d = .int .i64) (hz : i'.zero = [v0]) (hs1 : i'.size = 1) (hm : 0 < m) (h6 : s + m ≤ 1000000) (hby : i'.bytes ≤ 100000)
  (hol : olds.length = s) (hr : ∀ j v, olds[j]? = some v → CellAt w0 A g0 (off + j) v)
  (hk : ∀ g cap, w0.heap.size ≤ g → OT P w0 n ds ops os ks.tail ((d, .slice (some ⟨g, 0, none⟩) (s + m) cap) :: ts) (.own (.slice (some ⟨g, 0, none⟩) (s + m) cap) e 1 (s + m) (olds ++ List.replicate m v0) :: A) K) : OT P w0 n ds ops (o :: os) ks ts A K := by
 subst hp
 refine ot_new (N := fun _ _ => True) (v := undef) hh hd hw fun a w hd' => ?_
 obtain ⟨j, z, hj, j1, j2, j3, j4⟩ := (hT e i' hi').info
 have hrun := run_append_growM (P := P) w t u o.type e j z ((hT t i hi).sl hl) ((hT u iu hiu).int hku) hj j3 ⟨g0, off, none⟩ s olds (by rw [j1, hs1]) hol (fun q v hq => by rw [Addr.add_none]; exact hr q v hq w hd'.st) m hm h6 (by rw [j2]; exact hby)
 have hge := grownCap_ge w (s + m) s e
 have hcm : grownCap w (s + m) s e ≤ maxLen := grownCap_le_maxLen w (s + m) s e (by unfold maxLen; omega)
 have hzl : z.cells.toList = [v0] := by rw [j4, hz]
 generalize grownCap w (s + m) s e = cap at *
 have hzs : z.cells.size = 1 := by rw [← Array.length_toList, hzl]; rfl
 have hB : Below w.heap.size w (w.drew.alloc (.cells (olds.toArray ++ Builtin.zeroCells z.cells m ++ Builtin.zeroCells z.cells (cap - (s + m))) e)) := (Below.refl w.heap.size w).drew.alloc (Nat.le_refl _) _
 refine ⟨_, _, _, ?_, hB, hd'.st.add (c := .own (.slice (some ⟨w.heap.size, 0, none⟩) (s + m) cap) e 1 (s + m) (olds ++ List.replicate m v0)) hB ?_ (fun b hb => by cases hb; exact Nat.le_refl _), hk w.heap.size cap hd'.st.base.size⟩
 ·rw [exec_builtin hop, BigFrame.builtin_append]
  simp only [List.map_toArray, List.map_cons, List.map_nil, hd'.ev hx, hd'.ev hy, Sem.run_bind, hrun, Result.andThen_ok, Sem.run_pure]
 ·refine ⟨by simp [hol], .inr ⟨w.heap.size, cap, _, rfl, hd'.st.base.size, heap_alloc_new w.drew _, hge, hcm, ?_, ?_⟩⟩
  ·simp only [Array.size_append, List.size_toArray, size_zeroCells, hzs, hol]
   omega
  ·have e1 : (olds.toArray ++ Builtin.zeroCells z.cells m ++ Builtin.zeroCells z.cells (cap - (s + m))).toList = (olds ++ List.replicate m v0) ++ (Builtin.zeroCells z.cells (cap - (s + m))).toList := by
    rw [Array.toList_append, Array.toList_append, zero_cells_one hzl]
   rw [e1]
   exact List.take_left' (by simp [hol])
end
set_option maxRecDepth 20000 in
theorem longs_mem (xs : List Int) (hx : xs.length < 8) {g t : Nat} {A : List Chunk} {w0 w : World} (hs : St w0 A w) (hm : Chunk.blk g t (i64s xs) ∈ A) :
  Calls Tryz.prog 49 #[.slice (some ⟨g, 0, none⟩) xs.length xs.length] w fun e w' => ∃ x : SlX, e = .returned (.slice x.1 8 x.2) ∧ True ∧ St w ([] ++ [.own (.slice x.1 8 x.2) 2 1 8 (i64s (xs ++ List.replicate (8 - xs.length) 0))]) w' := by
 have hr : ∀ j v, (i64s xs)[j]? = some v → CellAt w [] g (0 + j) v := fun j v hj => by
  rw [Nat.zero_add]
  have h1 := cell_blk (w0 := w0) hm hj
  exact CellAt.base (h1 w hs)
 refine fn_v tk (n := 9) (A := []) Tryz.func49 rfl rfl (Nat.le_of_ble_eq_true rfl) (St.nil (Below.refl _ _)) ?_
 ((conv => whnf); (repeat ((apply VRng.mk; omega); (conv => whnf))); apply VStop.mk)
 refine ot_append_growM (m := 8 - xs.length) (s := xs.length) (g0 := g) (off := 0) (olds := i64s xs) (v0 := .int .i64 0) tk (by decide) rfl rfl rfl rfl rfl (by split <;> omega) rfl rfl rfl rfl rfl rfl rfl (by omega) (by omega) (by decide) (by simp [i64s]) hr (fun g2 cap hg2 => ?_)
 rw [show xs.length + (8 - xs.length) = 8 by omega, show i64s xs ++ List.replicate (8 - xs.length) (.int .i64 0) = i64s (xs ++ List.replicate (8 - xs.length) 0) by simp [i64s]]
 apply ot_v tk
 ((conv => whnf))
 (apply VRet.mk)
 refine ret1 (by first | exact .inl rfl | exact .inr rfl) rfl (by exact rv_tmp rfl) ?_
 exact fun w hs => ⟨(some ⟨g2, 0, none⟩, cap), rfl, trivial, hs⟩
end Go.Proofs.YtojeeindlijgkaaGreatDoor
