/- Turned tables, plainly: lemmas for the rows of this seat. No conditions. -/
import Derived.Test.YtalcccgialpjgaaQ1
import Derived.Test.YtalcccgialpjgaaQ2
set_option linter.all false
namespace Go.Proofs.Ytalcccgialpjgaa
open Go.RowKit
/-! ## Turned tables, plainly -/
theorem isT_turn {R C : List R2} {X : List (List R2)} (f : Nat → Nat → Int) : IsT C R (turnX R.length C.length X) (fun k i => f i k) ↔ IsT R C X f := by
 constructor
 ·intro h
  exact ⟨fun i k hi hk => by have := h.x k i hk hi; rwa [xAt_turn hi hk] at this, fun i hi => h.c i hi, fun k hk => h.r k hk⟩
 ·intro h
  exact ⟨fun k i hk hi => by rw [xAt_turn hi hk]; exact h.x i k hi hk, fun k hk => h.c k hk, fun i hi => h.r i hi⟩
theorem hasT_turn {R C : List R2} {X : List (List R2)} : HasT C R (turnX R.length C.length X) ↔ HasT R C X :=
 ⟨fun ⟨f, h⟩ => ⟨fun i k => f k i, (isT_turn (fun i k => f k i)).1 h⟩, fun ⟨f, h⟩ => ⟨fun k i => f i k, (isT_turn f).2 h⟩⟩
theorem rowR_turn (R C : List R2) (X : List (List R2)) (k : Nat) : rowR C R (turnX R.length C.length X) k = colR R C X k := by
 unfold rowR colR
 congr 1
 funext x
 exact propext ⟨fun ⟨f, h, e⟩ => ⟨fun i k => f k i, (isT_turn (fun i k => f k i)).1 h, e⟩, fun ⟨f, h, e⟩ => ⟨fun k i => f i k, (isT_turn f).2 h, e⟩⟩
theorem colR_turn (R C : List R2) (X : List (List R2)) (i : Nat) : colR C R (turnX R.length C.length X) i = rowR R C X i := by
 unfold rowR colR
 congr 1
 funext x
 exact propext ⟨fun ⟨f, h, e⟩ => ⟨fun i k => f k i, (isT_turn (fun i k => f k i)).1 h, e⟩, fun ⟨f, h, e⟩ => ⟨fun k i => f i k, (isT_turn f).2 h, e⟩⟩
theorem cellR_turn (R C : List R2) (X : List (List R2)) (i k : Nat) : cellR C R (turnX R.length C.length X) k i = cellR R C X i k := by
 unfold cellR
 congr 1
 funext x
 exact propext ⟨fun ⟨f, h, e⟩ => ⟨fun i k => f k i, (isT_turn (fun i k => f k i)).1 h, e⟩, fun ⟨f, h, e⟩ => ⟨fun k i => f i k, (isT_turn f).2 h, e⟩⟩
theorem allR_turn (R C : List R2) (X : List (List R2)) : allR C R (turnX R.length C.length X) = allR R C X := by
 unfold allR
 congr 1
 funext x
 refine propext ⟨fun ⟨f, h, e⟩ => ⟨fun i k => f k i, (isT_turn (fun i k => f k i)).1 h, ?_⟩, fun ⟨f, h, e⟩ => ⟨fun k i => f i k, (isT_turn f).2 h, ?_⟩⟩
 ·rw [← e]; exact sm_swap (fun i k => f k i) R.length C.length
 ·rw [← e]; exact (sm_swap f R.length C.length).symm
/-! ## What the laws say, plainly: narrow, turned, moved, wider -/
section
variable {R C : List R2} {X : List (List R2)}
theorem rAt_map (g : Nat → R2) {n i : Nat} (h : i < n) : rAt ((List.range n).map g) i = g i := by
 unfold rAt
 rw [map_range_at _ h]; rfl
theorem xAt_nr {i k : Nat} (hi : i < R.length) (hk : k < C.length) : xAt (nrX R C X R.length) i k = cellR R C X i k := by
 unfold xAt nrX
 rw [map_range_at _ hi]
 exact rAt_map _ hk
theorem nrR_len (n : Nat) : (nrR R C X n).length = n := map_range_len _ n
theorem nrC_len (n : Nat) : (nrC R C X n).length = n := map_range_len _ n
theorem colR_in (hH : HasT R C X) {k : Nat} (hk : k < C.length) : (rAt C k).1 ≤ (colR R C X k).1 ∧ (colR R C X k).1 ≤ (colR R C X k).2 ∧ (colR R C X k).2 ≤ (rAt C k).2 := by
 have hok := colR_ok hH hk
 obtain ⟨f, hf, e1⟩ := hok.lo
 obtain ⟨f', hf', e2⟩ := hok.hi
 have := hf.c k hk
 have := hf'.c k hk
 have := hok.le
 omega
theorem rowR_in (hH : HasT R C X) {i : Nat} (hi : i < R.length) : (rAt R i).1 ≤ (rowR R C X i).1 ∧ (rowR R C X i).1 ≤ (rowR R C X i).2 ∧ (rowR R C X i).2 ≤ (rAt R i).2 := by
 have hok := rowR_ok hH hi
 obtain ⟨f, hf, e1⟩ := hok.lo
 obtain ⟨f', hf', e2⟩ := hok.hi
 have := hf.r i hi
 have := hf'.r i hi
 have := hok.le
 omega
/-- The narrow table has the same truths. -/
theorem nr_isT (hH : HasT R C X) (f : Nat → Nat → Int) : IsT (nrR R C X R.length) (nrC R C X C.length) (nrX R C X R.length) f ↔ IsT R C X f := by
 have lr : (nrR R C X R.length).length = R.length := nrR_len _
 have lc : (nrC R C X C.length).length = C.length := nrC_len _
 constructor
 ·intro h
  refine ⟨fun i k hi hk => ?_, fun i hi => ?_, fun k hk => ?_⟩
  ·have h1 := h.x i k (by omega) (by omega)
   rw [xAt_nr hi hk] at h1
   have := cellR_inP hH hi hk
   omega
  ·have h1 := h.r i (by omega)
   rw [lc] at h1
   unfold nrR at h1
   rw [rAt_map _ hi] at h1
   have := rowR_in hH hi
   omega
  ·have h1 := h.c k (by omega)
   rw [lr] at h1
   unfold nrC at h1
   rw [rAt_map _ hk] at h1
   have := colR_in hH hk
   omega
 ·intro h
  refine ⟨fun i k hi hk => ?_, fun i hi => ?_, fun k hk => ?_⟩
  ·rw [lr] at hi; rw [lc] at hk
   rw [xAt_nr hi hk]
   exact (cellR_ok hH hi hk).all _ ⟨f, h, rfl⟩
  ·rw [lr] at hi
   rw [lc]
   unfold nrR
   rw [rAt_map _ hi]
   exact (rowR_ok hH hi).all _ ⟨f, h, rfl⟩
  ·rw [lc] at hk
   rw [lr]
   unfold nrC
   rw [rAt_map _ hk]
   exact (colR_ok hH hk).all _ ⟨f, h, rfl⟩
theorem nr_has (hH : HasT R C X) : HasT (nrR R C X R.length) (nrC R C X C.length) (nrX R C X R.length) := by
 obtain ⟨f, hf⟩ := hH
 exact ⟨f, (nr_isT ⟨f, hf⟩ f).2 hf⟩
theorem nr_valid (hV : Valid R C X) (hH : HasT R C X) : Valid (nrR R C X R.length) (nrC R C X C.length) (nrX R C X R.length) := by
 have lr : (nrR R C X R.length).length = R.length := nrR_len _
 have lc : (nrC R C X C.length).length = C.length := nrC_len _
 refine ⟨by rw [lr]; exact hV.r1, by rw [lr]; exact hV.r4, by rw [lc]; exact hV.c1, by rw [lc]; exact hV.c4, by rw [lr, nrX_len], fun s hs => ?_, fun i hi => ?_, fun k hk => ?_, fun i k hi hk => ?_⟩
 ·rw [lc]
  unfold nrX at hs
  obtain ⟨a, _, rfl⟩ := List.mem_map.1 hs
  exact nrL_len ..
 ·rw [lr] at hi
  unfold nrR
  rw [rAt_map _ hi, rangeB_iff]
  have := rowR_in hH hi
  have := hV.rR hi
  omega
 ·rw [lc] at hk
  unfold nrC
  rw [rAt_map _ hk, rangeB_iff]
  have := colR_in hH hk
  have := hV.rC hk
  omega
 ·rw [lr] at hi; rw [lc] at hk
  rw [xAt_nr hi hk, rangeB_iff]
  have := cellR_inP hH hi hk
  have := hV.rX hi hk
  omega
theorem map_range_ext {α : Type} {f g : Nat → α} {n : Nat} (h : ∀ i, i < n → f i = g i) : (List.range n).map f = (List.range n).map g :=
 List.map_congr_left fun i hi => h i (List.mem_range.1 hi)
/-- The narrow table is its own narrow table. -/
theorem nr_nr (hH : HasT R C X) : nrR (nrR R C X R.length) (nrC R C X C.length) (nrX R C X R.length) R.length = nrR R C X R.length ∧ nrC (nrR R C X R.length) (nrC R C X C.length) (nrX R C X R.length) C.length = nrC R C X C.length ∧
  nrX (nrR R C X R.length) (nrC R C X C.length) (nrX R C X R.length) R.length = nrX R C X R.length := by
 have lr : (nrR R C X R.length).length = R.length := nrR_len _
 have lc : (nrC R C X C.length).length = C.length := nrC_len _
 refine ⟨map_range_ext fun i hi => ?_, map_range_ext fun k hk => ?_, map_range_ext fun i hi => ?_⟩
 ·unfold rowR
  congr 1
  funext x
  unfold rowP
  rw [lc]
  exact propext ⟨fun ⟨f, h, e⟩ => ⟨f, (nr_isT hH f).1 h, e⟩, fun ⟨f, h, e⟩ => ⟨f, (nr_isT hH f).2 h, e⟩⟩
 ·unfold colR
  congr 1
  funext x
  unfold colP
  rw [lr]
  exact propext ⟨fun ⟨f, h, e⟩ => ⟨f, (nr_isT hH f).1 h, e⟩, fun ⟨f, h, e⟩ => ⟨f, (nr_isT hH f).2 h, e⟩⟩
 ·show nrL _ _ _ i (nrC R C X C.length).length = nrL R C X i C.length
  rw [lc]
  refine map_range_ext fun k hk => ?_
  unfold cellR
  congr 1
  funext x
  exact propext ⟨fun ⟨f, h, e⟩ => ⟨f, (nr_isT hH f).1 h, e⟩, fun ⟨f, h, e⟩ => ⟨f, (nr_isT hH f).2 h, e⟩⟩
/-! ### A cell between two numbers -/
/-! ### Turned -/
theorem xAt_ext {X Y : List (List R2)} {n m : Nat} (h1 : X.length = n) (h2 : Y.length = n) (h3 : ∀ s ∈ X, s.length = m) (h4 : ∀ s ∈ Y, s.length = m) (h : ∀ i k, i < n → k < m → xAt X i k = xAt Y i k) : X = Y := by
 refine List.ext_getElem (by omega) fun i hi hj => ?_
 have e1 := h3 _ (List.getElem_mem hi)
 have e2 := h4 _ (List.getElem_mem hj)
 refine List.ext_getElem (by omega) fun k hk hk' => ?_
 have := h i k (by omega) (by omega)
 unfold xAt rAt at this
 rw [List.getElem?_eq_getElem hi, List.getElem?_eq_getElem hj, Option.getD_some, Option.getD_some, List.getElem?_eq_getElem hk, List.getElem?_eq_getElem hk', Option.getD_some, Option.getD_some] at this
 exact this
theorem turnX_rows {n m : Nat} : ∀ s ∈ turnX n m X, s.length = n := fun s hs => by
 unfold turnX at hs
 obtain ⟨a, _, rfl⟩ := List.mem_map.1 hs
 exact turnL_len ..
theorem nrX_rows {n : Nat} : ∀ s ∈ nrX R C X n, s.length = C.length := fun s hs => by
 unfold nrX at hs
 obtain ⟨a, _, rfl⟩ := List.mem_map.1 hs
 exact nrL_len ..
theorem nr_turn (R C : List R2) (X : List (List R2)) : nrR C R (turnX R.length C.length X) C.length = nrC R C X C.length ∧ nrC C R (turnX R.length C.length X) R.length = nrR R C X R.length ∧
  nrX C R (turnX R.length C.length X) C.length = turnX R.length C.length (nrX R C X R.length) := by
 refine ⟨map_range_ext fun k _ => rowR_turn R C X k, map_range_ext fun i _ => colR_turn R C X i, ?_⟩
 refine xAt_ext (n := C.length) (m := R.length) (nrX_len ..) (turnX_len ..) nrX_rows turnX_rows fun k i hk hi => ?_
 rw [xAt_nr hk hi, xAt_turn hi hk, xAt_nr hi hk, cellR_turn]
theorem shF_congr {L7 L8 : List R2} {c1 c2 : Nat → Nat → R2} {pc pr : List Int} (h : ∀ i k, i < L8.length → k < L7.length → c1 i k = c2 i k) : shF L7 L8 c1 pc pr = shF L7 L8 c2 pc pr := by
 unfold shF
 rw [sm_congr fun i hi => sm_congr fun k hk => show termF c1 pc pr i k = termF c2 pc pr i k by unfold termF; rw [h i k hi hk]]
theorem chkPr_turn (hV : Valid R C X) (P Q : List Int) : chkPr C R (turnX R.length C.length X) Q P 1 = chkPr R C X P Q 0 := by
 have e1 : shP C R (turnX R.length C.length X) Q P 1 = shP R C X P Q 0 := by
  unfold shP
  rw [if_pos rfl, if_neg (by decide)]
  exact shF_congr fun i k hi hk => xAt_turn hi hk
 have e2 : prOK C R Q P 1 ↔ prOK R C P Q 0 := by
  unfold prOK
  constructor
  ·rintro ⟨a, b, _, _⟩; exact ⟨b, a, by omega, by omega⟩
  ·rintro ⟨a, b, _, _⟩; exact ⟨b, a, by omega, by omega⟩
 unfold chkPr
 rw [chk0 hV, chk0 hV.turn, e1]
 rw [if_neg (show ¬((0 : Int) ≠ 0) by decide), if_neg (show ¬((0 : Int) ≠ 0) by decide)]
 by_cases h : prOK R C P Q 0
 ·rw [if_neg (show ¬¬prOK C R Q P 1 from fun h' => h' (e2.2 h)), if_neg (show ¬¬prOK R C P Q 0 from fun h' => h' h)]
 ·rw [if_pos (show ¬prOK C R Q P 1 from fun h' => h (e2.1 h')), if_pos h]
theorem errT_turn (hV : Valid R C X) : errT C R (turnX R.length C.length X) = errT R C X := by
 by_cases h : HasT R C X
 ·rw [errT_ok hV h, errT_ok hV.turn (hasT_turn.2 h)]
 ·rw [errT_no hV h, errT_no hV.turn fun h' => h (hasT_turn.1 h')]
/-! ### Moved -/
def mvR (r : R2) (d : Int) : R2 := (r.1 + d, r.2 + d)
def mvF (i k : Nat) (d : Int) (f : Nat → Nat → Int) (a b : Nat) : Int := if a = i ∧ b = k then f a b + d else f a b
theorem mvF_row (f : Nat → Nat → Int) {i k m : Nat} (d : Int) (hk : k < m) (a : Nat) : sm (fun b => mvF i k d f a b) m = sm (fun b => f a b) m + if a = i then d else 0 := by
 by_cases e : a = i
 ·rw [if_pos e]
  rw [sm_one (f := fun b => f a b) (g := fun b => mvF i k d f a b) hk fun b _ hb => by unfold mvF; rw [if_neg (fun h => hb h.2)]]
  unfold mvF
  rw [if_pos ⟨e, rfl⟩]; omega
 ·rw [if_neg e]
  rw [sm_congr (f := fun b => mvF i k d f a b) (g := fun b => f a b) fun b _ => by unfold mvF; rw [if_neg (fun h => e h.1)]]
  omega
theorem mvF_col (f : Nat → Nat → Int) {i k n : Nat} (d : Int) (hi : i < n) (b : Nat) : sm (fun a => mvF i k d f a b) n = sm (fun a => f a b) n + if b = k then d else 0 := by
 by_cases e : b = k
 ·rw [if_pos e]
  rw [sm_one (f := fun a => f a b) (g := fun a => mvF i k d f a b) hi fun a _ ha => by unfold mvF; rw [if_neg (fun h => ha h.1)]]
  unfold mvF
  rw [if_pos ⟨rfl, e⟩]; omega
 ·rw [if_neg e]
  rw [sm_congr (f := fun a => mvF i k d f a b) (g := fun a => f a b) fun a _ => by unfold mvF; rw [if_neg (fun h => e h.2)]]
  omega
theorem mvF_tot (f : Nat → Nat → Int) {i k n m : Nat} (d : Int) (hi : i < n) (hk : k < m) : totS n m (mvF i k d f) = totS n m f + d := by
 unfold totS
 rw [sm_congr (f := fun a => sm (fun b => mvF i k d f a b) m) fun a _ => mvF_row f d hk a, sm_add, sm_only (g := fun a => if a = i then d else 0) hi fun a _ ha => if_neg ha, if_pos rfl]
theorem isT_mv (hV : Valid R C X) {i k : Nat} (hi : i < R.length) (hk : k < C.length) (d : Int) (f : Nat → Nat → Int) :
  IsT (R.set i (mvR (rAt R i) d)) (C.set k (mvR (rAt C k) d)) (setX X i k (mvR (xAt X i k) d)) (mvF i k d f) ↔ IsT R C X f := by
 have hxl := hV.x
 have lr : (R.set i (mvR (rAt R i) d)).length = R.length := List.length_set
 have lc : (C.set k (mvR (rAt C k) d)).length = C.length := List.length_set
 have hx : ∀ a b, a < R.length → b < C.length → ((xAt (setX X i k (mvR (xAt X i k) d)) a b).1 ≤ mvF i k d f a b ∧ mvF i k d f a b ≤ (xAt (setX X i k (mvR (xAt X i k) d)) a b).2 ↔ (xAt X a b).1 ≤ f a b ∧ f a b ≤ (xAt X a b).2) := fun a b ha hb => by
  rw [setX_at _ hV.xs (by omega) hk]
  unfold mvF mvR
  by_cases e : a = i ∧ b = k
  ·rw [if_pos e, if_pos e, e.1, e.2]; dsimp only; omega
  ·rw [if_neg e, if_neg e]
 have hr : ∀ a, a < R.length → ((rAt (R.set i (mvR (rAt R i) d)) a).1 ≤ sm (fun b => mvF i k d f a b) C.length ∧ sm (fun b => mvF i k d f a b) C.length ≤ (rAt (R.set i (mvR (rAt R i) d)) a).2 ↔ (rAt R a).1 ≤ sm (fun b => f a b) C.length ∧ sm (fun b => f a b) C.length ≤ (rAt R a).2) := fun a ha => by
  rw [rAt_set _ hi, mvF_row f d hk a]
  unfold mvR
  by_cases e : a = i
  ·rw [if_pos e, if_pos e, e]; dsimp only; omega
  ·rw [if_neg e, if_neg e]; omega
 have hc : ∀ b, b < C.length → ((rAt (C.set k (mvR (rAt C k) d)) b).1 ≤ sm (fun a => mvF i k d f a b) R.length ∧ sm (fun a => mvF i k d f a b) R.length ≤ (rAt (C.set k (mvR (rAt C k) d)) b).2 ↔ (rAt C b).1 ≤ sm (fun a => f a b) R.length ∧ sm (fun a => f a b) R.length ≤ (rAt C b).2) := fun b hb => by
  rw [rAt_set _ hk, mvF_col f d hi b]
  unfold mvR
  by_cases e : b = k
  ·rw [if_pos e, if_pos e, e]; dsimp only; omega
  ·rw [if_neg e, if_neg e]; omega
 constructor
 ·intro h
  exact ⟨fun a b ha hb => (hx a b ha hb).1 (h.x a b (by omega) (by omega)), fun a ha => (hr a ha).1 (by have := h.r a (by omega); rwa [lc] at this), fun b hb => (hc b hb).1 (by have := h.c b (by omega); rwa [lr] at this)⟩
 ·intro h
  exact ⟨fun a b ha hb => (hx a b (by omega) (by omega)).2 (h.x a b (by omega) (by omega)), fun a ha => by rw [lc]; exact (hr a (by omega)).2 (h.r a (by omega)), fun b hb => by rw [lr]; exact (hc b (by omega)).2 (h.c b (by omega))⟩
theorem mvF_inv (i k : Nat) (d : Int) (f : Nat → Nat → Int) : mvF i k d (mvF i k (-d) f) = f := by
 funext a b
 unfold mvF
 split <;> omega
theorem hasT_mv (hV : Valid R C X) {i k : Nat} (hi : i < R.length) (hk : k < C.length) (d : Int) : HasT (R.set i (mvR (rAt R i) d)) (C.set k (mvR (rAt C k) d)) (setX X i k (mvR (xAt X i k) d)) ↔ HasT R C X :=
 ⟨fun ⟨f, h⟩ => ⟨mvF i k (-d) f, (isT_mv hV hi hk d _).1 (by rw [mvF_inv]; exact h)⟩, fun ⟨f, h⟩ => ⟨_, (isT_mv hV hi hk d f).2 h⟩⟩
theorem mv_ranges (hV : Valid R C X) {i k : Nat} (hi : i < R.length) (hk : k < C.length) (d : Int) (hH : HasT R C X) (hV' : Valid (R.set i (mvR (rAt R i) d)) (C.set k (mvR (rAt C k) d)) (setX X i k (mvR (xAt X i k) d))) :
  cellR (R.set i (mvR (rAt R i) d)) (C.set k (mvR (rAt C k) d)) (setX X i k (mvR (xAt X i k) d)) i k = mvR (cellR R C X i k) d ∧ rowR (R.set i (mvR (rAt R i) d)) (C.set k (mvR (rAt C k) d)) (setX X i k (mvR (xAt X i k) d)) i = mvR (rowR R C X i) d ∧ allR (R.set i (mvR (rAt R i) d)) (C.set k (mvR (rAt C k) d)) (setX X i k (mvR (xAt X i k) d)) = mvR (allR R C X) d := by
 have hH' := (hasT_mv hV hi hk d).2 hH
 have lr : (R.set i (mvR (rAt R i) d)).length = R.length := List.length_set
 have lc : (C.set k (mvR (rAt C k) d)).length = C.length := List.length_set
 have key : ∀ f : Nat → Nat → Int, mvF i k (-d) f i k = f i k - d := fun f => by unfold mvF; rw [if_pos ⟨rfl, rfl⟩]; omega
 have key2 : ∀ f : Nat → Nat → Int, mvF i k d f i k = f i k + d := fun f => by unfold mvF; rw [if_pos ⟨rfl, rfl⟩]
 have back : ∀ {f}, IsT (R.set i (mvR (rAt R i) d)) (C.set k (mvR (rAt C k) d)) (setX X i k (mvR (xAt X i k) d)) f → IsT R C X (mvF i k (-d) f) := fun h => (isT_mv hV hi hk d _).1 (by rw [mvF_inv]; exact h)
 refine ⟨RngP.moved (cellR_ok hH hi hk) (cellR_ok hH' (by omega) (by omega)) fun x => ⟨fun ⟨f, h, e⟩ => ⟨_, (isT_mv hV hi hk d f).2 h, by rw [key2, e]⟩, fun ⟨f, h, e⟩ => ⟨_, back h, by rw [key, e]; omega⟩⟩,
  RngP.moved (rowR_ok hH hi) (rowR_ok hH' (by omega)) fun x => ⟨fun ⟨f, h, e⟩ => ⟨_, (isT_mv hV hi hk d f).2 h, ?_⟩, fun ⟨f, h, e⟩ => ⟨_, back h, ?_⟩⟩,
  RngP.moved (allR_ok hV hH) (allR_ok hV' hH') fun x => ⟨fun ⟨f, h, e⟩ => ⟨_, (isT_mv hV hi hk d f).2 h, ?_⟩, fun ⟨f, h, e⟩ => ⟨_, back h, ?_⟩⟩⟩
 ·rw [lc, mvF_row f d hk i, if_pos rfl, e]
 ·rw [lc] at e; rw [mvF_row f (-d) hk i, if_pos rfl, e]; omega
 ·rw [lr, lc, mvF_tot f d hi hk, e]
 ·rw [lr, lc] at e; rw [mvF_tot f (-d) hi hk, e]; omega
/-! ### Wider -/
structure Wide (R C : List R2) (X : List (List R2)) (R' C' : List R2) (X' : List (List R2)) : Prop where
 lr : R'.length = R.length
 lc : C'.length = C.length
 r : ∀ i, i < R.length → (rAt R' i).1 ≤ (rAt R i).1 ∧ (rAt R i).2 ≤ (rAt R' i).2
 c : ∀ k, k < C.length → (rAt C' k).1 ≤ (rAt C k).1 ∧ (rAt C k).2 ≤ (rAt C' k).2
 x : ∀ i k, i < R.length → k < C.length → (xAt X' i k).1 ≤ (xAt X i k).1 ∧ (xAt X i k).2 ≤ (xAt X' i k).2
variable {R' C' : List R2} {X' : List (List R2)}
theorem Wide.isT (h : Wide R C X R' C' X') {f : Nat → Nat → Int} (hf : IsT R C X f) : IsT R' C' X' f := by
 have lr := h.lr
 have lc := h.lc
 refine ⟨fun i k hi hk => ?_, fun i hi => ?_, fun k hk => ?_⟩
 ·have := h.x i k (by omega) (by omega); have := hf.x i k (by omega) (by omega); omega
 ·have := h.r i (by omega); have := hf.r i (by omega); rw [lc]; omega
 ·have := h.c k (by omega); have := hf.c k (by omega); rw [lr]; omega
theorem Wide.has (h : Wide R C X R' C' X') (hH : HasT R C X) : HasT R' C' X' := let ⟨f, hf⟩ := hH; ⟨f, h.isT hf⟩
theorem Wide.cell (h : Wide R C X R' C' X') (hH : HasT R C X) {i k : Nat} (hi : i < R.length) (hk : k < C.length) : (cellR R' C' X' i k).1 ≤ (cellR R C X i k).1 ∧ (cellR R C X i k).2 ≤ (cellR R' C' X' i k).2 :=
 (cellR_ok hH hi hk).wider (cellR_ok (h.has hH) (by rw [h.lr]; exact hi) (by rw [h.lc]; exact hk)) fun x ⟨f, hf, e⟩ => ⟨f, h.isT hf, e⟩
theorem Wide.all (h : Wide R C X R' C' X') (hV : Valid R C X) (hV' : Valid R' C' X') (hH : HasT R C X) : (allR R' C' X').1 ≤ (allR R C X).1 ∧ (allR R C X).2 ≤ (allR R' C' X').2 :=
 (allR_ok hV hH).wider (allR_ok hV' (h.has hH)) fun x ⟨f, hf, e⟩ => ⟨f, h.isT hf, by rw [h.lr, h.lc]; exact e⟩
/-! ### All rows together -/
theorem all_rows (hV : Valid R C X) (hH : HasT R C X) : sm (fun i => (rowR R C X i).1) R.length ≤ (allR R C X).1 ∧ (allR R C X).2 ≤ sm (fun i => (rowR R C X i).2) R.length := by
 have hok := allR_ok hV hH
 obtain ⟨f, hf, e1⟩ := hok.lo
 obtain ⟨f', hf', e2⟩ := hok.hi
 rw [← e1, ← e2]
 exact ⟨sm_le fun i hi => ((rowR_ok hH hi).all _ ⟨f, hf, rfl⟩).1, sm_le fun i hi => ((rowR_ok hH hi).all _ ⟨f', hf', rfl⟩).2⟩
end
end Go.Proofs.Ytalcccgialpjgaa
