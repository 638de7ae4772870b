/- Short, of lists and of bits: lemmas for the rows of this seat. No conditions. -/
import Derived.Test.YtalcccgialpjgaaN18
import Derived.Test.YtalcccgialpjgaaN20
set_option linter.all false
namespace Go.Proofs.Ytalcccgialpjgaa
open Go.RowKit
/-! ## Short, of lists and of bits -/
def memG (l : List Int) : Nat → Nat → Nat → Bool
 | 0, _, _ => false
 | g + 1, j, k => decide ((k : Int) = l[j]?.getD 0) || memG l g (j + 1) k
theorem memG_ge {m : Int} {l : List Int} {k : Nat} : ∀ {g j : Nat} {lo : Int}, risB m l g j lo = true → memG l g j k = true → lo ≤ k ∧ (k : Int) < m := by
 intro g
 induction g with
 | zero => intro j lo _ h; cases h
 | succ g ih =>
  intro j lo hr h
  rw [risB] at hr
  by_cases e : l[j]?.getD 0 < lo ∨ m ≤ l[j]?.getD 0
  ·rw [if_pos e] at hr; cases hr
  ·rw [if_neg e] at hr
   rw [memG, Bool.or_eq_true, decide_eq_true_eq] at h
   rcases h with h | h
   ·omega
   ·have := ih hr h; omega
theorem sm_tail (F : Nat → Int) (g : Nat) : sm F (g + 1) = F 0 + sm (fun q => F (1 + q)) g := by
 rw [Nat.add_comm, sm_split]; simp [sm]
theorem ris_sum {m : Nat} {l : List Int} (f : Nat → Int) : ∀ {g j : Nat} {lo : Int}, 0 ≤ lo → risB m l g j lo = true → sm (fun q => f (l[j + q]?.getD 0).toNat) g = sm (fun k => if memG l g j k = true then f k else 0) m := by
 intro g
 induction g with
 | zero =>
  intro j lo _ _
  exact (sm_zero fun k _ => by rw [memG]; rfl).symm
 | succ g ih =>
  intro j lo h0 hr
  have hr0 := hr
  rw [risB] at hr
  by_cases e : l[j]?.getD 0 < lo ∨ (m : Int) ≤ l[j]?.getD 0
  ·rw [if_pos e] at hr; cases hr
  ·rw [if_neg e] at hr
   rw [sm_tail, Nat.add_zero]
   have h1 := ih (by omega) hr
   have e1 : sm (fun q => f (l[j + (1 + q)]?.getD 0).toNat) g = sm (fun q => f (l[j + 1 + q]?.getD 0).toNat) g := sm_congr fun q _ => by rw [Nat.add_assoc]
   rw [e1, h1]
   have hx : ((l[j]?.getD 0).toNat : Int) = l[j]?.getD 0 := by omega
   have hno : memG l g (j + 1) (l[j]?.getD 0).toNat = false := by
    cases hb : memG l g (j + 1) (l[j]?.getD 0).toNat with
    | false => rfl
    | true => have := memG_ge hr hb; omega
   rw [sm_one (f := fun k => if memG l g (j + 1) k = true then f k else 0) (g := fun k => if memG l (g + 1) j k = true then f k else 0) (k := (l[j]?.getD 0).toNat) (by omega) (fun i _ hi => by
    rw [memG, decide_eq_false (by omega), Bool.false_or])]
   rw [memG, decide_eq_true hx, Bool.true_or, if_pos rfl, hno, if_neg (by simp)]
   omega
theorem memG_has {l : List Int} (k : Nat) : ∀ {g j : Nat}, j + g = l.length → memG l g j k = (l.drop j).any fun x => decide ((k : Int) = x) := by
 intro g
 induction g with
 | zero => intro j h; rw [List.drop_of_length_le (by omega)]; rfl
 | succ g ih =>
  intro j h
  rw [memG, List.drop_eq_getElem_cons (show j < l.length by omega), List.any_cons, List.getElem?_eq_getElem (show j < l.length by omega), Option.getD_some, ih (by omega)]
theorem ris_has {m : Nat} {l : List Int} (f : Nat → Int) (h : risB m l l.length 0 0 = true) : sm (fun q => f (l[q]?.getD 0).toNat) l.length = sm (fun k => if hasB l k = true then f k else 0) m := by
 have h1 := ris_sum f (Int.le_refl 0) h
 rw [sm_congr (g := fun q => f (l[0 + q]?.getD 0).toNat) fun q _ => by rw [Nat.zero_add], h1]
 refine sm_congr fun k _ => ?_
 rw [memG_has k (Nat.zero_add _), List.drop_zero]
 rfl
/-- What a list of places has. -/
def wS (p : Nat → Bool) (f : Nat → Int) (m : Nat) : Int := sm (fun k => if p k = true then f k else 0) m
def wD (p : Nat → Nat → Bool) (f : Nat → Nat → Int) (n m : Nat) : Int := sm (fun i => sm (fun k => if p i k = true then f i k else 0) m) n
theorem sm_neg (f : Nat → Int) : ∀ n, sm (fun i => -f i) n = -sm f n
 | 0 => rfl
 | n + 1 => by rw [sm, sm, sm_neg f n]; omega
theorem shS_parts (R C : List R2) (X : List (List R2)) (rs cs : Nat → Bool) : shS R C X rs cs = wS cs (fun k => (rAt C k).1) C.length - wS rs (fun i => (rAt R i).2) R.length + wD (fun i k => rs i && !cs k) (fun i k => (xAt X i k).1) R.length C.length - wD (fun i k => !rs i && cs k) (fun i k => (xAt X i k).2) R.length C.length := by
 unfold shS wS wD
 have h1 : sm (fun i => rowTS R C.length X rs cs i) R.length = sm (fun i => (if rs i = true then -(rAt R i).2 else 0)) R.length + sm (fun i => sm (fun k => termS X rs cs i k) C.length) R.length := by rw [← sm_add]; rfl
 have h2 : sm (fun i => (if rs i = true then -(rAt R i).2 else 0)) R.length = -sm (fun i => (if rs i = true then (rAt R i).2 else 0)) R.length := by
  rw [← sm_neg]
  exact sm_congr fun i _ => by split <;> rfl
 have h3 : sm (fun i => sm (fun k => termS X rs cs i k) C.length) R.length = sm (fun i => sm (fun k => if (rs i && !cs k) = true then (xAt X i k).1 else 0) C.length) R.length - sm (fun i => sm (fun k => if (!rs i && cs k) = true then (xAt X i k).2 else 0) C.length) R.length := by
  rw [← sm_sub]
  refine sm_congr fun i _ => ?_
  rw [← sm_sub]
  refine sm_congr fun k _ => ?_
  unfold termS
  cases rs i <;> cases cs k <;> simp
 rw [h1, h2, h3]; dsimp only; omega
theorem xAt_turn {X : List (List R2)} {n m i k : Nat} (hi : i < n) (hk : k < m) : xAt (turnX n m X) k i = xAt X i k := by
 have h1 : (turnX n m X)[k]? = some (turnL n X k) := by
  unfold turnX; rw [List.getElem?_map, List.getElem?_range hk]; rfl
 show rAt ((turnX n m X)[k]?.getD []) i = _
 rw [h1, Option.getD_some]
 unfold rAt turnL
 rw [List.getElem?_map, List.getElem?_range hi]; rfl
theorem Valid.turn {R C : List R2} {X : List (List R2)} (h : Valid R C X) : Valid C R (turnX R.length C.length X) := by
 refine ⟨h.c1, h.c4, h.r1, h.r4, turnX_len _ _ _, fun s hs => ?_, h.cr, h.rr, fun k i hk hi => ?_⟩
 ·unfold turnX at hs
  obtain ⟨k, _, rfl⟩ := List.mem_map.1 hs
  exact turnL_len _ _ _
 ·rw [xAt_turn hi hk]
  exact h.xr i k hi hk
theorem shF_shS (L7 L8 : List R2) (cell : Nat → Nat → R2) (X : List (List R2)) (pc pr : List Int) (hc : ∀ i k, i < L8.length → k < L7.length → cell i k = xAt X i k) (h7 : risB L7.length pc pc.length 0 0 = true) (h8 : risB L8.length pr pr.length 0 0 = true) : shF L7 L8 cell pc pr = shS L8 L7 X (fun i => hasB pr i) (fun k => hasB pc k) := by
 rw [shS_parts]
 unfold shF wS wD sLo sHi
 rw [ris_has (fun k => (rAt L7 k).1) h7, ris_has (fun k => (rAt L8 k).2) h8]
 have h3 : sm (fun i => sm (fun k => termF cell pc pr i k) L7.length) L8.length = sm (fun i => sm (fun k => if (hasB pr i && !hasB pc k) = true then (xAt X i k).1 else 0) L7.length) L8.length - sm (fun i => sm (fun k => if (!hasB pr i && hasB pc k) = true then (xAt X i k).2 else 0) L7.length) L8.length := by
  rw [← sm_sub]
  refine sm_congr fun i hi => ?_
  rw [← sm_sub]
  refine sm_congr fun k hk => ?_
  unfold termF
  rw [hc i k hi hk]
  cases hasB pr i <;> cases hasB pc k <;> simp
 rw [h3]; dsimp only; omega
/-- The other way round. -/
def shT (R C : List R2) (X : List (List R2)) (rs cs : Nat → Bool) : Int := shS C R (turnX R.length C.length X) cs rs
theorem shT_parts (R C : List R2) (X : List (List R2)) (rs cs : Nat → Bool) : shT R C X rs cs = wS rs (fun i => (rAt R i).1) R.length - wS cs (fun k => (rAt C k).2) C.length + wD (fun i k => cs k && !rs i) (fun i k => (xAt X i k).1) R.length C.length - wD (fun i k => !cs k && rs i) (fun i k => (xAt X i k).2) R.length C.length := by
 unfold shT
 rw [shS_parts]
 have e1 : wD (fun i k => cs i && !rs k) (fun i k => (xAt (turnX R.length C.length X) i k).1) C.length R.length = wD (fun i k => cs k && !rs i) (fun i k => (xAt X i k).1) R.length C.length := by
  unfold wD
  rw [sm_swap]
  exact sm_congr fun i hi => sm_congr fun k hk => by dsimp only; rw [xAt_turn hi hk]
 have e2 : wD (fun i k => !cs i && rs k) (fun i k => (xAt (turnX R.length C.length X) i k).2) C.length R.length = wD (fun i k => !cs k && rs i) (fun i k => (xAt X i k).2) R.length C.length := by
  unfold wD
  rw [sm_swap]
  exact sm_congr fun i hi => sm_congr fun k hk => by dsimp only; rw [xAt_turn hi hk]
 rw [e1, e2]
theorem shP_eq {R C : List R2} {X : List (List R2)} {P Q : List Int} {side : Int} (h : prOK R C P Q side) : shP R C X P Q side = if side = 1 then shT R C X (fun i => hasB P i) (fun k => hasB Q k) else shS R C X (fun i => hasB P i) (fun k => hasB Q k) := by
 unfold shP shT
 split
 ·exact shF_shS R C (fun i k => xAt X k i) (turnX R.length C.length X) P Q (fun i k hi hk => (xAt_turn hk hi).symm) h.1 h.2.1
 ·exact shF_shS C R (xAt X) X Q P (fun i k _ _ => rfl) h.2.1 h.1
/-! ## Cuts of the net of a table -/
theorem crossIn_net {R C : List R2} {X : List (List R2)} (hV : Valid R C X) (S : Nat → Bool) : crossIn S (2 + R.length + C.length) (netLo R C X) = wS (fun i => !S 0 && S (2 + i)) (fun i => (rAt R i).1) R.length + wD (fun i k => !S (2 + i) && S (2 + R.length + k)) (fun i k => (xAt X i k).1) R.length C.length + wS (fun k => !S (2 + R.length + k) && S 1) (fun k => (rAt C k).1) C.length := by
 unfold crossIn wS wD
 rw [sm_net R.length C.length (fun u v => if S u = false ∧ S v = true then netLo R C X u v else 0) (fun u v h => by rw [(net_no h).1]; split <;> rfl)]
 have e0 : (if S 1 = false ∧ S 0 = true then netLo R C X 1 0 else 0) = 0 := by rw [net_10.1]; split <;> rfl
 rw [e0]
 rw [sm_congr (f := fun i => if S 0 = false ∧ S (2 + i) = true then netLo R C X 0 (2 + i) else 0) (g := fun i => if (!S 0 && S (2 + i)) = true then (rAt R i).1 else 0) fun i hi => by rw [(net_0r hi).1]; cases S 0 <;> cases S (2 + i) <;> rfl]
 rw [sm_congr (g := fun i => sm (fun k => if (!S (2 + i) && S (2 + R.length + k)) = true then (xAt X i k).1 else 0) C.length) fun i hi => sm_congr fun k hk => by rw [(net_rc hi hk).1]; cases S (2 + i) <;> cases S (2 + R.length + k) <;> rfl]
 rw [sm_congr (f := fun k => if S (2 + R.length + k) = false ∧ S 1 = true then netLo R C X (2 + R.length + k) 1 else 0) (g := fun k => if (!S (2 + R.length + k) && S 1) = true then (rAt C k).1 else 0) fun k hk => by rw [(net_c1 hV.r1 hk).1]; cases S 1 <;> cases S (2 + R.length + k) <;> rfl]
 dsimp only
 omega
theorem crossOut_net {R C : List R2} {X : List (List R2)} (hV : Valid R C X) (S : Nat → Bool) : crossOut S (2 + R.length + C.length) (netHi R C X) = (if S 1 = true ∧ S 0 = false then 192 else 0) + wS (fun i => S 0 && !S (2 + i)) (fun i => (rAt R i).2) R.length + wD (fun i k => S (2 + i) && !S (2 + R.length + k)) (fun i k => (xAt X i k).2) R.length C.length + wS (fun k => S (2 + R.length + k) && !S 1) (fun k => (rAt C k).2) C.length := by
 unfold crossOut wS wD
 rw [sm_net R.length C.length (fun u v => if S u = true ∧ S v = false then netHi R C X u v else 0) (fun u v h => by rw [(net_no h).2]; split <;> rfl)]
 dsimp only
 rw [net_10.2]
 rw [sm_congr (f := fun i => if S 0 = true ∧ S (2 + i) = false then netHi R C X 0 (2 + i) else 0) (g := fun i => if (S 0 && !S (2 + i)) = true then (rAt R i).2 else 0) fun i hi => by rw [(net_0r hi).2]; cases S 0 <;> cases S (2 + i) <;> rfl]
 rw [sm_congr (g := fun i => sm (fun k => if (S (2 + i) && !S (2 + R.length + k)) = true then (xAt X i k).2 else 0) C.length) fun i hi => sm_congr fun k hk => by rw [(net_rc hi hk).2]; cases S (2 + i) <;> cases S (2 + R.length + k) <;> rfl]
 rw [sm_congr (f := fun k => if S (2 + R.length + k) = true ∧ S 1 = false then netHi R C X (2 + R.length + k) 1 else 0) (g := fun k => if (S (2 + R.length + k) && !S 1) = true then (rAt C k).2 else 0) fun k hk => by rw [(net_c1 hV.r1 hk).2]; cases S 1 <;> cases S (2 + R.length + k) <;> rfl]
theorem wS_congr {p q : Nat → Bool} {f : Nat → Int} {m : Nat} (h : ∀ k, k < m → p k = q k) : wS p f m = wS q f m := by
 unfold wS
 exact sm_congr fun k hk => by rw [h k hk]
theorem wD_congr {p q : Nat → Nat → Bool} {f : Nat → Nat → Int} {n m : Nat} (h : ∀ i k, i < n → k < m → p i k = q i k) : wD p f n m = wD q f n m := by
 unfold wD
 exact sm_congr fun i hi => sm_congr fun k hk => by rw [h i k hi hk]
theorem wS_none (f : Nat → Int) (m : Nat) : wS (fun _ => false) f m = 0 := sm_zero fun _ _ => rfl
theorem wD_none (f : Nat → Nat → Int) (n m : Nat) : wD (fun _ _ => false) f n m = 0 := sm_zero fun _ _ => sm_zero fun _ _ => rfl
theorem wS_nonneg {p : Nat → Bool} {f : Nat → Int} {m : Nat} (h : ∀ k, k < m → 0 ≤ f k) : 0 ≤ wS p f m := sm_nonneg fun k hk => by split; exact h k hk; exact Int.le_refl _
theorem wD_nonneg {p : Nat → Nat → Bool} {f : Nat → Nat → Int} {n m : Nat} (h : ∀ i k, i < n → k < m → 0 ≤ f i k) : 0 ≤ wD p f n m := sm_nonneg fun i hi => sm_nonneg fun k hk => by split; exact h i k hi hk; exact Int.le_refl _
theorem wD_le {p q : Nat → Nat → Bool} {f : Nat → Nat → Int} {n m : Nat} (h : ∀ i k, i < n → k < m → 0 ≤ f i k) (hpq : ∀ i k, p i k = true → q i k = true) : wD p f n m ≤ wD q f n m := sm_le fun i hi => sm_le fun k hk => by
 cases hp : p i k
 ·simp only [Bool.false_eq_true, if_false]
  split; exact h i k hi hk; exact Int.le_refl _
 ·rw [hpq i k hp]; exact Int.le_refl _
/-! ## A cut that is too narrow is a proof, and the other way round -/
section
variable {R C : List R2} {X : List (List R2)}
theorem Valid.rlo (hV : Valid R C X) : ∀ i, i < R.length → 0 ≤ (rAt R i).1 := fun i hi => (hV.rR hi).1
theorem Valid.rhi (hV : Valid R C X) : ∀ i, i < R.length → 0 ≤ (rAt R i).2 := fun i hi => by have := hV.rR hi; omega
theorem Valid.clo (hV : Valid R C X) : ∀ k, k < C.length → 0 ≤ (rAt C k).1 := fun k hk => (hV.rC hk).1
theorem Valid.chi (hV : Valid R C X) : ∀ k, k < C.length → 0 ≤ (rAt C k).2 := fun k hk => by have := hV.rC hk; omega
theorem Valid.xlo (hV : Valid R C X) : ∀ i k, i < R.length → k < C.length → 0 ≤ (xAt X i k).1 := fun i k hi hk => (hV.rX hi hk).1
theorem Valid.xhi (hV : Valid R C X) : ∀ i k, i < R.length → k < C.length → 0 ≤ (xAt X i k).2 := fun i k hi hk => by have := hV.rX hi hk; omega
/-- The rows and the columns that a cut shows. -/
def cutR (S : Nat → Bool) (i : Nat) : Bool := S (2 + i) != S 0
def cutC (n : Nat) (S : Nat → Bool) (k : Nat) : Bool := (S (2 + n + k) != S 0) && (S 0 == S 1)
theorem cut_short (hV : Valid R C X) (S : Nat → Bool) (h : crossOut S (2 + R.length + C.length) (netHi R C X) < crossIn S (2 + R.length + C.length) (netLo R C X)) :
  (S 0 = true → 0 < shS R C X (cutR S) (cutC R.length S)) ∧ (S 0 = false → 0 < shT R C X (cutR S) (cutC R.length S)) := by
 rw [crossIn_net hV, crossOut_net hV] at h
 rw [shS_parts, shT_parts]
 have n1 := hV.rlo
 have n2 := hV.rhi
 have n3 := hV.clo
 have n4 := hV.chi
 have n5 := hV.xlo
 have n6 := hV.xhi
 unfold cutR cutC
 cases h0 : S 0 <;> cases h1 : S 1
 all_goals rw [h0, h1] at h
 all_goals refine ⟨fun e => ?_, fun e => ?_⟩
 all_goals first | (cases e; done) | skip
 -- neither
 ·rw [wS_congr (p := fun i => !false && S (2 + i)) (q := fun i => S (2 + i) != false) (fun i _ => by cases S (2 + i) <;> rfl),
   wD_congr (p := fun i k => !S (2 + i) && S (2 + R.length + k)) (q := fun i k => ((S (2 + R.length + k) != false) && (false == false)) && !(S (2 + i) != false)) (fun i k _ _ => by cases S (2 + i) <;> cases S (2 + R.length + k) <;> rfl),
   wS_congr (p := fun k => !S (2 + R.length + k) && false) (q := fun _ => false) (fun k _ => by cases S (2 + R.length + k) <;> rfl), wS_none] at h
  rw [wS_congr (p := fun i => false && !S (2 + i)) (q := fun _ => false) (fun i _ => rfl), wS_none,
   wD_congr (p := fun i k => S (2 + i) && !S (2 + R.length + k)) (q := fun i k => !((S (2 + R.length + k) != false) && (false == false)) && (S (2 + i) != false)) (fun i k _ _ => by cases S (2 + i) <;> cases S (2 + R.length + k) <;> rfl),
   wS_congr (p := fun k => S (2 + R.length + k) && !false) (q := fun k => (S (2 + R.length + k) != false) && (false == false)) (fun k _ => by cases S (2 + R.length + k) <;> rfl), if_neg (by simp)] at h
  omega
 -- the sink alone
 ·rw [if_pos ⟨rfl, rfl⟩] at h
  rw [wS_congr (p := fun i => false && !S (2 + i)) (q := fun _ => false) (fun i _ => rfl), wS_none,
   wS_congr (p := fun k => S (2 + R.length + k) && !true) (q := fun _ => false) (fun k _ => by cases S (2 + R.length + k) <;> rfl), wS_none] at h
  rw [wS_congr (p := fun k => ((S (2 + R.length + k) != false) && (false == true))) (q := fun _ => false) (fun k _ => by cases S (2 + R.length + k) <;> rfl), wS_none,
   wD_congr (p := fun i k => ((S (2 + R.length + k) != false) && (false == true)) && !(S (2 + i) != false)) (q := fun _ _ => false) (fun i k _ _ => by cases S (2 + R.length + k) <;> rfl), wD_none,
   wD_congr (p := fun i k => !((S (2 + R.length + k) != false) && (false == true)) && (S (2 + i) != false)) (q := fun i _ => S (2 + i)) (fun i k _ _ => by cases S (2 + i) <;> cases S (2 + R.length + k) <;> rfl),
   wS_congr (p := fun i => S (2 + i) != false) (q := fun i => S (2 + i)) (fun i _ => by cases S (2 + i) <;> rfl)]
  rw [wS_congr (p := fun i => !false && S (2 + i)) (q := fun i => S (2 + i)) (fun i _ => by cases S (2 + i) <;> rfl)] at h
  have key : wS (fun k => !S (2 + R.length + k) && true) (fun k => (rAt C k).1) C.length + wD (fun i k => !S (2 + i) && S (2 + R.length + k)) (fun i k => (xAt X i k).1) R.length C.length + wD (fun i _ => S (2 + i)) (fun i k => (xAt X i k).2) R.length C.length ≤ 192 + wD (fun i k => S (2 + i) && !S (2 + R.length + k)) (fun i k => (xAt X i k).2) R.length C.length := by
   unfold wS wD
   rw [sm_swap (fun i k => if (!S (2 + i) && S (2 + R.length + k)) = true then (xAt X i k).1 else 0), sm_swap (fun i k => if S (2 + i) = true then (xAt X i k).2 else 0), sm_swap (fun i k => if (S (2 + i) && !S (2 + R.length + k)) = true then (xAt X i k).2 else 0), ← sm_add, ← sm_add]
   have hm : (48 : Int) * C.length ≤ 192 := by have := hV.c4; omega
   have hle := sm_le (n := C.length) (f := fun k => (if (!S (2 + R.length + k) && true) = true then (rAt C k).1 else 0) + sm (fun i => if (!S (2 + i) && S (2 + R.length + k)) = true then (xAt X i k).1 else 0) R.length + sm (fun i => if S (2 + i) = true then (xAt X i k).2 else 0) R.length) (g := fun k => 48 + sm (fun i => if (S (2 + i) && !S (2 + R.length + k)) = true then (xAt X i k).2 else 0) R.length) fun k hk => by
    have hck := hV.rC hk
    cases hs : S (2 + R.length + k)
    ·have e1 : sm (fun i => if (!S (2 + i) && false) = true then (xAt X i k).1 else 0) R.length = 0 := sm_zero fun i _ => by cases S (2 + i) <;> rfl
     have e2 : sm (fun i => if (S (2 + i) && !false) = true then (xAt X i k).2 else 0) R.length = sm (fun i => if S (2 + i) = true then (xAt X i k).2 else 0) R.length := sm_congr fun i _ => by cases S (2 + i) <;> rfl
     rw [e1, e2, show (if (!false && true) = true then (rAt C k).1 else 0) = (rAt C k).1 from rfl]
     omega
    ·have e2 : sm (fun i => if (S (2 + i) && !true) = true then (xAt X i k).2 else 0) R.length = 0 := sm_zero fun i _ => by cases S (2 + i) <;> rfl
     rw [e2, if_neg (by simp)]
     have e3 := sm_bound (n := R.length) (c := 12) (f := fun i => (if (!S (2 + i) && true) = true then (xAt X i k).1 else 0) + (if S (2 + i) = true then (xAt X i k).2 else 0)) fun i hi => by
      have := hV.rX hi hk
      cases S (2 + i) <;> simp <;> omega
     rw [sm_add] at e3
     have := hV.r4
     omega
   rw [sm_add (fun _ => (48 : Int))] at hle
   have e5 := sm_bound (n := C.length) (c := 48) (f := fun _ => (48 : Int)) fun _ _ => Int.le_refl _
   dsimp only at hle e5 ⊢
   omega
  omega
 -- the source alone
 ·rw [if_neg (by simp)] at h
  rw [wS_congr (p := fun i => !true && S (2 + i)) (q := fun _ => false) (fun i _ => rfl), wS_none,
   wS_congr (p := fun k => !S (2 + R.length + k) && false) (q := fun _ => false) (fun k _ => by cases S (2 + R.length + k) <;> rfl), wS_none] at h
  rw [wS_congr (p := fun i => true && !S (2 + i)) (q := fun i => S (2 + i) != true) (fun i _ => by cases S (2 + i) <;> rfl)] at h
  rw [wS_congr (p := fun k => ((S (2 + R.length + k) != true) && (true == false))) (q := fun _ => false) (fun k _ => by cases S (2 + R.length + k) <;> rfl), wS_none,
   wD_congr (p := fun i k => !(S (2 + i) != true) && ((S (2 + R.length + k) != true) && (true == false))) (q := fun _ _ => false) (fun i k _ _ => by cases S (2 + i) <;> cases S (2 + R.length + k) <;> rfl), wD_none]
  have k1 := wD_le (p := fun i k => !S (2 + i) && S (2 + R.length + k)) (q := fun i k => (S (2 + i) != true) && !((S (2 + R.length + k) != true) && (true == false))) n5 (fun i k => by cases S (2 + i) <;> cases S (2 + R.length + k) <;> simp)
  have k2 := wD_nonneg (p := fun i k => S (2 + i) && !S (2 + R.length + k)) n6
  have k3 := wS_nonneg (p := fun k => S (2 + R.length + k) && !false) n4
  omega
 -- both
 ·rw [if_neg (by simp)] at h
  rw [wS_congr (p := fun i => !true && S (2 + i)) (q := fun _ => false) (fun i _ => rfl), wS_none,
   wD_congr (p := fun i k => !S (2 + i) && S (2 + R.length + k)) (q := fun i k => (S (2 + i) != true) && !((S (2 + R.length + k) != true) && (true == true))) (fun i k _ _ => by cases S (2 + i) <;> cases S (2 + R.length + k) <;> rfl),
   wS_congr (p := fun k => !S (2 + R.length + k) && true) (q := fun k => (S (2 + R.length + k) != true) && (true == true)) (fun k _ => by cases S (2 + R.length + k) <;> rfl)] at h
  rw [wS_congr (p := fun i => true && !S (2 + i)) (q := fun i => S (2 + i) != true) (fun i _ => by cases S (2 + i) <;> rfl),
   wD_congr (p := fun i k => S (2 + i) && !S (2 + R.length + k)) (q := fun i k => !(S (2 + i) != true) && ((S (2 + R.length + k) != true) && (true == true))) (fun i k _ _ => by cases S (2 + i) <;> cases S (2 + R.length + k) <;> rfl),
   wS_congr (p := fun k => S (2 + R.length + k) && !true) (q := fun _ => false) (fun k _ => by cases S (2 + R.length + k) <;> rfl), wS_none] at h
  omega
end
/-! ## An edge fixed; what is between two is had, too -/
def fixE (g : Nat → Nat → Int) (p q : Nat) (t : Int) (u v : Nat) : Int := if u = p ∧ v = q then t else g u v
theorem cross_one {c : Nat → Nat → Bool} {N p q : Nat} (g : Nat → Nat → Int) (t : Int) (hp : p < N) (hq : q < N) : sm (fun u => sm (fun v => if c u v = true then fixE g p q t u v else 0) N) N = sm (fun u => sm (fun v => if c u v = true then g u v else 0) N) N + (if c p q = true then t - g p q else 0) := by
 have h1 : sm (fun v => if c p v = true then fixE g p q t p v else 0) N = sm (fun v => if c p v = true then g p v else 0) N + (if c p q = true then t - g p q else 0) := by
  rw [sm_one (f := fun v => if c p v = true then g p v else 0) (g := fun v => if c p v = true then fixE g p q t p v else 0) hq fun i hi hne => by
   unfold fixE
   rw [if_neg (fun (h : p = p ∧ i = q) => hne h.2)]]
  unfold fixE
  rw [if_pos (show p = p ∧ q = q from ⟨rfl, rfl⟩)]
  split <;> omega
 rw [sm_one (f := fun u => sm (fun v => if c u v = true then g u v else 0) N) (g := fun u => sm (fun v => if c u v = true then fixE g p q t u v else 0) N) hp fun i hi hne => sm_congr fun v hv => by
  unfold fixE
  rw [if_neg (fun (h : i = p ∧ v = q) => hne h.1)], h1]
 omega
theorem crossIn_b (S : Nat → Bool) (N : Nat) (g : Nat → Nat → Int) : crossIn S N g = sm (fun u => sm (fun v => if (!S u && S v) = true then g u v else 0) N) N := by
 unfold crossIn
 exact sm_congr fun u _ => sm_congr fun v _ => by cases S u <;> cases S v <;> rfl
theorem crossOut_b (S : Nat → Bool) (N : Nat) (g : Nat → Nat → Int) : crossOut S N g = sm (fun u => sm (fun v => if (S u && !S v) = true then g u v else 0) N) N := by
 unfold crossOut
 exact sm_congr fun u _ => sm_congr fun v _ => by cases S u <;> cases S v <;> rfl
theorem crossIn_fix (S : Nat → Bool) {N p q : Nat} (g : Nat → Nat → Int) (t : Int) (hp : p < N) (hq : q < N) : crossIn S N (fixE g p q t) = crossIn S N g + (if (!S p && S q) = true then t - g p q else 0) := by
 rw [crossIn_b, crossIn_b, cross_one (c := fun u v => !S u && S v) g t hp hq]
theorem crossOut_fix (S : Nat → Bool) {N p q : Nat} (g : Nat → Nat → Int) (t : Int) (hp : p < N) (hq : q < N) : crossOut S N (fixE g p q t) = crossOut S N g + (if (S p && !S q) = true then t - g p q else 0) := by
 rw [crossOut_b, crossOut_b, cross_one (c := fun u v => S u && !S v) g t hp hq]
theorem fixE_at (g : Nat → Nat → Int) (p q : Nat) (t : Int) : fixE g p q t p q = t := by unfold fixE; rw [if_pos ⟨rfl, rfl⟩]
theorem fixE_self {g : Nat → Nat → Int} {p q : Nat} {t : Int} (h : g p q = t) : fixE g p q t = g := by
 funext u v
 unfold fixE
 split
 ·rename_i e; rw [e.1, e.2, h]
 ·rfl
theorem Circ.fix {N : Nat} {lo hi g : Nat → Nat → Int} {p q : Nat} {t : Int} (hc : Circ N lo hi g) (h : g p q = t) : Circ N (fixE lo p q t) (fixE hi p q t) g := by
 refine ⟨fun u v hu hv => ?_, hc.exc⟩
 have := hc.inb u v hu hv
 unfold fixE
 split
 ·rename_i e; rw [e.1, e.2]; omega
 ·exact this
theorem Circ.unfix {N : Nat} {lo hi g : Nat → Nat → Int} {p q : Nat} {t : Int} (hp : p < N) (hq : q < N) (hc : Circ N (fixE lo p q t) (fixE hi p q t) g) (h : lo p q ≤ t ∧ t ≤ hi p q) : Circ N lo hi g ∧ g p q = t := by
 have h1 := hc.inb p q hp hq
 rw [fixE_at, fixE_at] at h1
 refine ⟨⟨fun u v hu hv => ?_, hc.exc⟩, by omega⟩
 have h2 := hc.inb u v hu hv
 unfold fixE at h2
 by_cases e : u = p ∧ v = q
 ·rw [e.1, e.2]; omega
 ·rwa [if_neg e, if_neg e] at h2
theorem NetOK.fix {N : Nat} {e : Nat → Nat → Bool} {lo hi : Nat → Nat → Int} {p q : Nat} (t : Int) (hN : NetOK N e lo hi) (he : e p q = true) : NetOK N e (fixE lo p q t) (fixE hi p q t) := by
 refine ⟨fun u v h => ?_, hN.one⟩
 have := hN.none u v h
 unfold fixE
 rw [if_neg (fun (h2 : u = p ∧ v = q) => by rw [h2.1, h2.2, he] at h; cases h), if_neg (fun (h2 : u = p ∧ v = q) => by rw [h2.1, h2.2, he] at h; cases h)]
 exact this
theorem circ_between {N : Nat} {e : Nat → Nat → Bool} {lo hi g1 g2 : Nat → Nat → Int} {p q : Nat} {t : Int} (hN : NetOK N e lo hi) (hlh : ∀ u v, u < N → v < N → lo u v ≤ hi u v) (he : e p q = true) (hp : p < N) (hq : q < N) (h1 : Circ N lo hi g1) (h2 : Circ N lo hi g2) (ht : g1 p q ≤ t ∧ t ≤ g2 p q) : ∃ g, Circ N lo hi g ∧ g p q = t := by
 have b1 := h1.inb p q hp hq
 have b2 := h2.inb p q hp hq
 rcases hoff (hN.fix t he) (fun u v hu hv => by
  have := hlh u v hu hv
  unfold fixE
  split <;> omega) with ⟨g, hg⟩ | ⟨S, hS⟩
 ·exact ⟨g, Circ.unfix hp hq hg (by omega)⟩
 ·exfalso
  rw [crossIn_fix S lo t hp hq, crossOut_fix S hi t hp hq] at hS
  -- what flows, with its own amount fixed
  have c1 := (h1.fix (p := p) (q := q) rfl).cut S
  have c2 := (h2.fix (p := p) (q := q) rfl).cut S
  rw [crossIn_fix S lo _ hp hq, crossOut_fix S hi _ hp hq] at c1 c2
  cases hsp : S p <;> cases hsq : S q <;> simp only [hsp, hsq, Bool.not_true, Bool.not_false, Bool.and_true, Bool.and_false, Bool.true_and, Bool.false_and, if_true, if_false, Bool.false_eq_true] at hS c1 c2 <;> omega
section
variable {R C : List R2} {X : List (List R2)}
theorem cell_between (hV : Valid R C X) {i k : Nat} (hi : i < R.length) (hk : k < C.length) {x y t : Int} (hx : cellP R C X i k x) (hy : cellP R C X i k y) (h1 : x ≤ t) (h2 : t ≤ y) : cellP R C X i k t := by
 obtain ⟨f1, hf1, rfl⟩ := hx
 obtain ⟨f2, hf2, rfl⟩ := hy
 obtain ⟨g, hg, e⟩ := circ_between (net_bnds hV).ok (fun u v _ _ => (net_le hV u v).2.1) (netE_rc hi hk) (by omega) (by omega) (hf1.circ hV) (hf2.circ hV) (t := t) (by rw [flowOf_rc _ hi hk, flowOf_rc _ hi hk]; exact ⟨h1, h2⟩)
 exact ⟨_, (circ_num hV hg).1, e⟩
theorem row_between (hV : Valid R C X) {i : Nat} (hi : i < R.length) {x y t : Int} (hx : rowP R C X i x) (hy : rowP R C X i y) (h1 : x ≤ t) (h2 : t ≤ y) : rowP R C X i t := by
 obtain ⟨f1, hf1, rfl⟩ := hx
 obtain ⟨f2, hf2, rfl⟩ := hy
 obtain ⟨g, hg, e⟩ := circ_between (net_bnds hV).ok (fun u v _ _ => (net_le hV u v).2.1) (netE_0r hi) (by omega) (by omega) (hf1.circ hV) (hf2.circ hV) (t := t) (by rw [flowOf_0r _ hi, flowOf_0r _ hi]; exact ⟨h1, h2⟩)
 exact ⟨_, (circ_num hV hg).1, by rw [(circ_num hV hg).2.2.1 i hi, e]⟩
/-- A set of nodes. -/
def setD (n : Nat) (a b : Bool) (rs cs : Nat → Bool) (v : Nat) : Bool := if v = 0 then a else if v = 1 then b else if v < 2 + n then rs (v - 2) else cs (v - 2 - n)
theorem setD_0 (n : Nat) (a b : Bool) (rs cs : Nat → Bool) : setD n a b rs cs 0 = a := rfl
theorem setD_1 (n : Nat) (a b : Bool) (rs cs : Nat → Bool) : setD n a b rs cs 1 = b := rfl
theorem setD_r {n : Nat} (a b : Bool) (rs cs : Nat → Bool) {i : Nat} (hi : i < n) : setD n a b rs cs (2 + i) = rs i := by
 unfold setD
 rw [if_neg (by omega), if_neg (by omega), if_pos (by omega), show 2 + i - 2 = i by omega]
theorem setD_c (n : Nat) (a b : Bool) (rs cs : Nat → Bool) (k : Nat) : setD n a b rs cs (2 + n + k) = cs k := by
 unfold setD
 rw [if_neg (by omega), if_neg (by omega), if_neg (by omega), show 2 + n + k - 2 - n = k by omega]
theorem short_sound (hV : Valid R C X) (hT : HasT R C X) (rs cs : Nat → Bool) : shS R C X rs cs ≤ 0 ∧ shT R C X rs cs ≤ 0 := by
 obtain ⟨g, hg⟩ := (hasT_circ hV).1 hT
 rw [shS_parts, shT_parts]
 constructor
 ·have h := hg.cut (setD R.length true true (fun i => !rs i) (fun k => !cs k))
  rw [crossIn_net hV, crossOut_net hV] at h
  rw [setD_0, setD_1, if_neg (by simp),
   wS_congr (p := fun i => !true && setD R.length true true (fun i => !rs i) (fun k => !cs k) (2 + i)) (q := fun _ => false) (fun i _ => rfl), wS_none,
   wD_congr (p := fun i k => !setD R.length true true (fun i => !rs i) (fun k => !cs k) (2 + i) && setD R.length true true (fun i => !rs i) (fun k => !cs k) (2 + R.length + k)) (q := fun i k => rs i && !cs k) (fun i k hi _ => by rw [setD_r _ _ _ _ hi, setD_c]; cases rs i <;> cases cs k <;> rfl),
   wS_congr (p := fun k => !setD R.length true true (fun i => !rs i) (fun k => !cs k) (2 + R.length + k) && true) (q := cs) (fun k _ => by rw [setD_c]; cases cs k <;> rfl),
   wS_congr (p := fun i => true && !setD R.length true true (fun i => !rs i) (fun k => !cs k) (2 + i)) (q := rs) (fun i hi => by rw [setD_r _ _ _ _ hi]; cases rs i <;> rfl),
   wD_congr (p := fun i k => setD R.length true true (fun i => !rs i) (fun k => !cs k) (2 + i) && !setD R.length true true (fun i => !rs i) (fun k => !cs k) (2 + R.length + k)) (q := fun i k => !rs i && cs k) (fun i k hi _ => by rw [setD_r _ _ _ _ hi, setD_c]; cases rs i <;> cases cs k <;> rfl),
   wS_congr (p := fun k => setD R.length true true (fun i => !rs i) (fun k => !cs k) (2 + R.length + k) && !true) (q := fun _ => false) (fun k _ => by rw [setD_c]; cases cs k <;> rfl), wS_none] at h
  omega
 ·have h := hg.cut (setD R.length false false rs cs)
  rw [crossIn_net hV, crossOut_net hV] at h
  rw [setD_0, setD_1, if_neg (by simp),
   wS_congr (p := fun i => !false && setD R.length false false rs cs (2 + i)) (q := rs) (fun i hi => by rw [setD_r _ _ _ _ hi]; cases rs i <;> rfl),
   wD_congr (p := fun i k => !setD R.length false false rs cs (2 + i) && setD R.length false false rs cs (2 + R.length + k)) (q := fun i k => cs k && !rs i) (fun i k hi _ => by rw [setD_r _ _ _ _ hi, setD_c]; cases rs i <;> cases cs k <;> rfl),
   wS_congr (p := fun k => !setD R.length false false rs cs (2 + R.length + k) && false) (q := fun _ => false) (fun k _ => by rw [setD_c]; cases cs k <;> rfl), wS_none,
   wS_congr (p := fun i => false && !setD R.length false false rs cs (2 + i)) (q := fun _ => false) (fun i _ => rfl), wS_none,
   wD_congr (p := fun i k => setD R.length false false rs cs (2 + i) && !setD R.length false false rs cs (2 + R.length + k)) (q := fun i k => !cs k && rs i) (fun i k hi _ => by rw [setD_r _ _ _ _ hi, setD_c]; cases rs i <;> cases cs k <;> rfl),
   wS_congr (p := fun k => setD R.length false false rs cs (2 + R.length + k) && !false) (q := cs) (fun k _ => by rw [setD_c]; cases cs k <;> rfl)] at h
  omega
theorem hasT_iff (hV : Valid R C X) : HasT R C X ↔ ∀ rs cs, shS R C X rs cs ≤ 0 ∧ shT R C X rs cs ≤ 0 := by
 refine ⟨fun h rs cs => short_sound hV h rs cs, fun h => ?_⟩
 rcases hasT_or_cut hV with h1 | ⟨S, hS⟩
 ·exact h1
 ·exfalso
  have h2 := cut_short hV S hS
  cases h0 : S 0
  ·have := h2.2 h0
   have := (h (cutR S) (cutC R.length S)).2
   omega
  ·have := h2.1 h0
   have := (h (cutR S) (cutC R.length S)).1
   omega
end
end Go.Proofs.Ytalcccgialpjgaa
