/- steps: lemmas for the rows of this seat. No conditions. -/
import Derived.Test.YtalcccgialpjgaaM18
import Derived.Test.YtalcccgialpjgaaN19
import Derived.Test.YtalcccgialpjgaaM27
import Derived.Test.YtalcccgialpjgaaQ3
import Derived.Test.YtalcccgialpjgaaN31
import Derived.Test.YtalcccgialpjgaaL1
set_option linter.all false
namespace Go.Proofs.Ytalcccgialpjgaa
open Go.RowKit
section
variable {P : Program} {w0 : World} {n : Nat} {r : Option Nat} {ds : List Deferred} {ts : TS} {A : List Chunk} {Q : PostT}
def lateB2 (ops : List Oper) (R2 R1 : List Nat) (i : Nat) (T : List Nat) (ks2 ks1 ks' : List Kind) : Bool :=
 let D := (Region.before ops.toArray).toList
 certB ops D && edgeB ops && Region.noSelect ops.toArray && (List.range ops.length).all (R2 ++ R1 ++ i :: T).contains && Nat.beq (R2.length + R1.length + 1 + T.length) ops.length &&
 (ks2 ++ ks1).all (fun k => match k with | .rd => true | _ => false) && Nat.beq ks2.length R2.length && Nat.beq ks1.length R1.length && ordB ops D [] R2 ks2 && ordB ops D R2 R1 ks1 && ordL ops D (R2 ++ R1) (i :: T) ks' && R1.all (depB D i ·)
/-- Reads that may come late, reads that the first write waits for, and writes. -/
theorem tr_region_late2 {id : Nat} {l : List Oper} (hm : P.follows .mixedOrders = true) (A0 : List Chunk) (hA0 : A0.Sublist A) (R2 R1 : List Nat) (i : Nat) (T : List Nat) (ks2 ks1 ks' : List Kind) (hd : dstOk n l = true) (hb : lateB2 l R2 R1 i T ks2 ks1 ks' = true)
  (h : OT P w0 n ds l (pick l R2) ks2 ts A0 fun ts _ => VK (OT P w0 n ds l (pick l R1) ks1 ts A fun ts _ => VK (OTL P w0 n ds l A0 (pick l (i :: T)) ks' ts A fun ts A => Q .normal ds ts A))) :
  Tr P r w0 n (.region id l.toArray true) ds ts A Q := fun m a w hh => by
 simp only [lateB2, Bool.and_eq_true, List.all_append] at hb
 obtain ⟨⟨⟨⟨⟨⟨⟨⟨⟨⟨⟨h1, h2⟩, h3⟩, h4⟩, h5⟩, h6, h6'⟩, h7⟩, h7'⟩, h8⟩, h8'⟩, h9⟩, h10⟩ := hb
 have hall : ∀ x, x < l.length → x ∈ R2 ++ R1 ∨ x ∈ i :: T := fun x hx => by
  have := List.all_eq_true.1 h4 x (List.mem_range.2 hx)
  simp only [List.contains_eq_mem, List.append_assoc, List.mem_append, decide_eq_true_eq] at this ⊢
  rcases this with h | h | h
  ·exact .inl (.inl h)
  ·exact .inl (.inr h)
  ·exact .inr h
 have h5 := Nat.eq_of_beq_eq_true h5
 have h7 := Nat.eq_of_beq_eq_true h7
 have h7' := Nat.eq_of_beq_eq_true h7'
 refine wpIn_region_any hm ?_
 have inv : DInv P w0 n ds l (Region.before l.toArray).toList (fun ts _ => VK (OT P w0 n ds l (pick l R1) ks1 ts A fun ts _ => VK (OTL P w0 n ds l A0 (pick l (i :: T)) ks' ts A fun ts A => Q .normal ds ts A))) R2 [] R2 ks2 [] (St w0 A0) ts A0 (Array.replicate l.toArray.size false) a := {
  split := rfl
  ord := h8
  pair := .nil
  lt := fun i hi => by cases hi
  nodup := .nil
  sub := .slnil
  size := by simp
  mem := fun j hj => by simp [hj]
  closed := fun j hj h => by simp [hj] at h
  up := fun x y hx hxy => hx.grow hxy
  pc := trivial
  hd := fun x hx => hh.world hx
  ot := h }
 obtain ⟨q2, ts2, ksX, inv2, hl2⟩ := draw_rds h3 (fun o ho => dstOk_spec hd ho) R2 [] ks2 [] ts (rds_kinds h6 h7) inv
 simp only [List.nil_append] at inv2
 have g2 : OT P w0 n ds l (pick l R1) ks1 ts2 A fun ts _ => VK (OTL P w0 n ds l A0 (pick l (i :: T)) ks' ts A fun ts A => Q .normal ds ts A) := by
  have := inv2.ot
  cases this; assumption
 have invB : DInv P w0 n ds l (Region.before l.toArray).toList (fun ts _ => VK (OTL P w0 n ds l A0 (pick l (i :: T)) ks' ts A fun ts A => Q .normal ds ts A)) (R2 ++ R1) R2 R1 ks1 q2 (St w0 A) ts2 A (Array.replicate l.toArray.size false) a := {
  split := rfl
  ord := h8'
  pair := inv2.pair
  lt := inv2.lt
  nodup := inv2.nodup
  sub := inv2.sub
  size := inv2.size
  mem := inv2.mem
  closed := inv2.closed
  up := fun x y hx hxy => hx.grow hxy
  pc := PC.mono (fun w hs => hs.sub hA0) _ _ inv2.pc
  hd := fun x hx => (inv2.hd _ (hx.sub hA0)).world hx
  ot := g2 }
 obtain ⟨q, ts3, ksY, inv3, hl3, q1, hq, hq1⟩ := draw_rds2 h3 (fun o ho => dstOk_spec hd ho) R1 R2 ks1 q2 ts2 (rds_kinds h6' h7') invB
 subst hq
 have g3 : OTL P w0 n ds l A0 (pick l (i :: T)) ks' ts3 A fun ts A => Q .normal ds ts A := by
  have := inv3.ot
  cases this; assumption
 have hw := hh.st.drew
 have hfe : l.toArray.size = (q2 ++ q1).length + (i :: T).length := by
  simp at hl2 hl3 ⊢
  omega
 exact draw_late2 (P := P) (w0 := w0) (n := n) (ds := ds) (r := r) (mm := m) (Q := QX w0 n Q) (K := fun ts A => Q .normal ds ts A) h1 h2 h3 (fun o ho => dstOk_spec hd ho) (fun ts A a w hq hh => ⟨ds, ts, A, hq, hh⟩) (done := R2 ++ R1) (t := T) (i := i) (ks := ks') (ts := ts3) (A := A) h9 hA0 g3 _ q2 q1 _ a _ hfe
  (fun p hp => List.all_eq_true.1 h10 p.1 (hq1 p hp)) inv2.pc
  { pair := inv3.pair, lt := inv3.lt, nodup := inv3.nodup, sub := inv3.sub, size := inv3.size, mem := inv3.mem, all := fun x hx => hall x hx, closed := inv3.closed, pc := inv3.pc, sub0 := List.Sublist.refl _, hd := (inv3.hd _ hw).world hw }
end
/-! ## SieveMoved -/
def setN (L : List (List Int)) (i k : Nat) (v : Int) : List (List Int) := L.set i ((L[i]?.getD []).set k v)
theorem setN_len (L : List (List Int)) (i k : Nat) (v : Int) : (setN L i k v).length = L.length := List.length_set
theorem setN_rows {L : List (List Int)} {i k m : Nat} {v : Int} (hi : i < L.length) (h : ∀ s ∈ L, s.length = m) : ∀ s ∈ setN L i k v, s.length = m := fun s hs => by
 unfold setN at hs
 rcases List.mem_or_eq_of_mem_set hs with hs | rfl
 ·exact h s hs
 ·rw [List.length_set, List.getElem?_eq_getElem hi, Option.getD_some]
  exact h _ (List.getElem_mem hi)
theorem nAt_setN {L : List (List Int)} {i k m : Nat} (hi : i < L.length) (h : ∀ s ∈ L, s.length = m) (hk : k < m) (v : Int) (a b : Nat) : nAt (setN L i k v) a b = if a = i ∧ b = k then v else nAt L a b := by
 have hl := h _ (List.getElem_mem hi)
 unfold nAt setN
 rw [List.getElem?_set]
 by_cases e : i = a
 ·subst e
  rw [if_pos rfl, if_pos hi, Option.getD_some, List.getElem?_eq_getElem hi, Option.getD_some, List.getElem?_set]
  by_cases e2 : k = b
  ·subst e2
   rw [if_pos rfl, if_pos (by omega), if_pos ⟨rfl, rfl⟩]; rfl
  ·rw [if_neg e2, if_neg fun h => e2 h.2.symm]
 ·rw [if_neg e, if_neg fun h => e h.1.symm]
theorem nestI_setN {L : List (List Int)} {i : Nat} (hi : i < L.length) (k : Nat) (v : Int) : nestI (setN L i k v) = (nestI L).set i (L[i].length, i64s (L[i].set k v)) := by
 unfold nestI setN
 rw [List.map_set, List.getElem?_eq_getElem hi, Option.getD_some, List.length_set]
theorem nsVs_setN {xs : List NsX} {L : List (List Int)} {i : Nat} (hi : i < L.length) (k : Nat) (v : Int) : nsVs xs (nestI (setN L i k v)) = nsVs xs (nestI L) := by
 rw [nestI_setN hi]
 exact nsVs_set (by rw [nestI_len]; exact hi) (by rw [nestI_at hi])
theorem setMany_one64 {l : List Int} {k : Nat} (v : Int) (h : k < l.length) : setMany (i64s l) (0 + k * 1) [.int .i64 v] = i64s (l.set k v) := by
 rw [Nat.zero_add, Nat.mul_one, setMany_one _ (by unfold i64s; rw [List.length_map]; exact h)]
 unfold i64s
 rw [List.map_set]
theorem num_put {w0 w : World} {A : List Chunk} (hs : St w0 A w) {n m : Nat} {L : List (List Int)} (x : NumX) (hl : L.length = n) (hr : ∀ s ∈ L, s.length = m) (hx : x.xs.length = n) {i k : Nat} (hi : i < n) (hk : k < m) (h : ∀ {d : Chunk}, d ∈ numCh n L x → d ∈ A) (v : Int) :
  ∃ xb yb c row, x.x.1 = some ⟨xb, 0, none⟩ ∧ (nsVs x.xs (nestI L))[i]? = some (.slice (some ⟨yb, 0, none⟩) m c) ∧ row[k]? = some (.int .i64 (nAt L i k)) ∧ Chunk.own (.slice (some ⟨yb, 0, none⟩) m c) 2 1 m row ∈ nsCh 2 1 x.xs (nestI L) ∧
   ∀ R, Upd (.own (.slice (some ⟨yb, 0, none⟩) m c) 2 1 m row) (.own (.slice (some ⟨yb, 0, none⟩) m c) 2 1 m (setMany row (0 + k * 1) [.int .i64 v])) (nsCh 2 1 x.xs (nestI L) ++ R) (nsCh 2 1 x.xs (nestI (setN L i k v)) ++ R) := by
 subst hl
 have hiN : i < (nestI L).length := by rw [nestI_len]; exact hi
 have hxN : x.xs.length = (nestI L).length := by rw [nestI_len]; exact hx
 obtain ⟨xb, hxb⟩ := own_some hs (h (.head _)) (by omega)
 have h1 := nsCh_mem (e := 2) (sz := 1) hxN hiN
 have h2 := nsVs_get hxN hiN
 have e1 := hr L[i] (List.getElem_mem hi)
 have h3 := fun R => nsCh_upd (e := 2) (sz := 1) (R := R) (xs := x.xs) (S := nestI L) (i := i) (s' := (L[i].length, i64s (L[i].set k v))) hxN hiN (by rw [nestI_at hi])
 rw [← nestI_setN hi] at h3
 rw [nestI_at hi] at h1 h2 h3
 unfold nsC at h1 h3
 unfold nsV at h2
 dsimp only at h1 h2 h3
 rw [← setMany_one64 v (by omega)] at h3
 rw [e1] at h1 h2 h3
 obtain ⟨yb, hyb⟩ := own_some hs (h (.tail _ h1)) (by omega)
 rw [hyb] at h1 h2 h3
 refine ⟨xb, yb, _, _, hxb, h2, ?_, h1, h3⟩
 unfold i64s nAt
 rw [List.getElem?_map, List.getElem?_eq_getElem hi, Option.getD_some, List.getElem?_eq_getElem (by omega)]; rfl
theorem own_rgM {w0 : World} {A : List Chunk} {b n c : Nat} {l : List R2} (h : .own (.slice (some ⟨b, 0, none⟩) n c) 37 2 n (rgC l) ∈ A) {k : Nat} (hk : k < l.length) : CellAt w0 A b (0 + k * 2) (.int .i64 (rAt l k).1) ∧ CellAt w0 A b (0 + k * 2 + 1) (.int .i64 (rAt l k).2) := by
 have e0 := rgC_get l k hk 0 (by omega)
 have e1 := rgC_get l k hk 1 (by omega)
 rw [Nat.zero_add]
 exact ⟨cell_own h e0, cell_own h e1⟩
theorem moved_yes {a1 a2 b1 b2 d : Int} (h1 : b1 = a1 + d) (h2 : b2 = a2 + d) (g1 : 0 ≤ a1) (g2 : a1 ≤ a2) (g3 : a2 ≤ 1000) (g4 : 0 ≤ d) (g5 : d ≤ 5) (w : World) : Calls Try.prog 50 #[.agg #[.int .i64 a1, .int .i64 a2], .agg #[.int .i64 b1, .int .i64 b2], .int .i64 d] w fun e w' => e = .returned (.bool true) ∧ Below w.heap.size w w' := by
 have := moved_any (a1, a2) (b1, b2) d (by unfold inI64; dsimp only; omega) (by unfold inI64; dsimp only; omega) (by unfold inI64; omega) w
 unfold movedB at this
 dsimp only at this
 rw [decide_eq_true (by omega), decide_eq_true (by omega)] at this
 exact this
section
variable {R C : List R2} {X : List (List R2)}
theorem allR_le (hV : Valid R C X) (hH : HasT R C X) : 0 ≤ (allR R C X).1 ∧ (allR R C X).1 ≤ (allR R C X).2 ∧ (allR R C X).2 ≤ 400 := by
 have h := all_rows hV hH
 have h1 : 0 ≤ sm (fun i => (rowR R C X i).1) R.length := sm_nonneg fun i hi => by have := rowR_in hH hi; have := hV.rR hi; omega
 have h2 : sm (fun i => (rowR R C X i).2) R.length ≤ 48 * R.length := sm_bound fun i hi => by have := rowR_in hH hi; have := hV.rR hi; omega
 have h3 := (allR_ok hV hH).le
 have := hV.r4
 omega
/-- What the program says of the two tables. -/
theorem mv_said (hV : Valid R C X) {i k : Nat} (hi : i < R.length) (hk : k < C.length) {d : Int} (hV' : Valid (R.set i (mvR (rAt R i) d)) (C.set k (mvR (rAt C k) d)) (setX X i k (mvR (xAt X i k) d))) {L : List (List Int)} (hl : L.length = R.length) (hs : ∀ s ∈ L, s.length = C.length) :
  ∃ f : Int, ∃ a1 a2 b1 b2 r1 r2 s1 s2 u1 u2 v1 v2 : Int, (f = 0 ∨ (f = 20 ∧ chkTru R C X L ≠ 0)) ∧ cellA R C X i k = ((a1, a2), f) ∧ cellA (R.set i (mvR (rAt R i) d)) (C.set k (mvR (rAt C k) d)) (setX X i k (mvR (xAt X i k) d)) i k = ((b1, b2), f) ∧
   rowA R C X i = ((r1, r2), f) ∧ rowA (R.set i (mvR (rAt R i) d)) (C.set k (mvR (rAt C k) d)) (setX X i k (mvR (xAt X i k) d)) i = ((s1, s2), f) ∧
   allA R C X = ((u1, u2), f) ∧ allA (R.set i (mvR (rAt R i) d)) (C.set k (mvR (rAt C k) d)) (setX X i k (mvR (xAt X i k) d)) = ((v1, v2), f) ∧
   (f = 0 → (b1 = a1 + d ∧ b2 = a2 + d ∧ 0 ≤ a1 ∧ a1 ≤ a2 ∧ a2 ≤ 1000) ∧ (s1 = r1 + d ∧ s2 = r2 + d ∧ 0 ≤ r1 ∧ r1 ≤ r2 ∧ r2 ≤ 1000) ∧ (v1 = u1 + d ∧ v2 = u2 + d ∧ 0 ≤ u1 ∧ u1 ≤ u2 ∧ u2 ≤ 1000)) := by
 have lr : (R.set i (mvR (rAt R i) d)).length = R.length := List.length_set
 have lc : (C.set k (mvR (rAt C k) d)).length = C.length := List.length_set
 by_cases hH : HasT R C X
 ·have hH' := (hasT_mv hV hi hk d).2 hH
  obtain ⟨e1, e2, e3⟩ := mv_ranges hV hi hk d hH hV'
  refine ⟨0, (cellR R C X i k).1, (cellR R C X i k).2, (cellR R C X i k).1 + d, (cellR R C X i k).2 + d, (rowR R C X i).1, (rowR R C X i).2, (rowR R C X i).1 + d, (rowR R C X i).2 + d, (allR R C X).1, (allR R C X).2, (allR R C X).1 + d, (allR R C X).2 + d, .inl rfl, cellA_ok hV hH hi hk, (cellA_ok hV' hH' (by omega) (by omega)).trans (congrArg (fun z => (z, (0 : Int))) e1), rowA_ok hV hH hi, (rowA_ok hV' hH' (by omega)).trans (congrArg (fun z => (z, (0 : Int))) e2), allA_ok hV hH, (allA_ok hV' hH').trans (congrArg (fun z => (z, (0 : Int))) e3), fun _ => ?_⟩
  have h1 := cellR_inP hH hi hk
  have h2 := rowR_in hH hi
  have h3 := allR_le hV hH
  have h4 := hV.rX hi hk
  have h5 := hV.rR hi
  refine ⟨⟨rfl, rfl, ?_, ?_, ?_⟩, ⟨rfl, rfl, ?_, ?_, ?_⟩, rfl, rfl, ?_, ?_, ?_⟩ <;> omega
 ·have hH' := fun h => hH ((hasT_mv hV hi hk d).1 h)
  exact ⟨20, _, _, _, _, _, _, _, _, _, _, _, _, .inr ⟨rfl, tru_no hV hH hl hs⟩, cellA_no hV hH hi hk, cellA_no hV' hH' (by omega) (by omega), rowA_no hV hH hi, rowA_no hV' hH' (by omega), allA_no hV hH, allA_no hV' hH', fun h => absurd h (by decide)⟩
theorem mv_tru (hV : Valid R C X) {i k : Nat} (hi : i < R.length) (hk : k < C.length) {d : Int} (hV' : Valid (R.set i (mvR (rAt R i) d)) (C.set k (mvR (rAt C k) d)) (setX X i k (mvR (xAt X i k) d))) {L : List (List Int)} (hl : L.length = R.length) (hs : ∀ s ∈ L, s.length = C.length)
  (hin : ∀ i k, i < R.length → k < C.length → (xAt X i k).1 ≤ nAt L i k ∧ nAt L i k ≤ (xAt X i k).2) : chkTru (R.set i (mvR (rAt R i) d)) (C.set k (mvR (rAt C k) d)) (setX X i k (mvR (xAt X i k) d)) (setN L i k (nAt L i k + d)) = chkTru R C X L := by
 have lr : (R.set i (mvR (rAt R i) d)).length = R.length := List.length_set
 have lc : (C.set k (mvR (rAt C k) d)).length = C.length := List.length_set
 have hxl := hV.x
 have eN : nAt (setN L i k (nAt L i k + d)) = mvF i k d (nAt L) := by
  funext a b
  rw [nAt_setN (by omega) hs hk]
  unfold mvF
  by_cases e : a = i ∧ b = k
  ·rw [if_pos e, if_pos e, e.1, e.2]
  ·rw [if_neg e, if_neg e]
 have hl' : (setN L i k (nAt L i k + d)).length = (R.set i (mvR (rAt R i) d)).length := by rw [setN_len, lr, hl]
 have hs' : ∀ s ∈ setN L i k (nAt L i k + d), s.length = (C.set k (mvR (rAt C k) d)).length := by rw [lc]; exact setN_rows (by omega) hs
 have t1 := tru_in hV hl hs hin
 have t2 := tru_in hV' hl' hs' fun a b ha hb => by
  rw [eN, setX_at _ hV.xs (by omega) hk]
  unfold mvF mvR
  by_cases e : a = i ∧ b = k
  ·rw [if_pos e, if_pos e, e.1, e.2]
   have := hin i k hi hk
   dsimp only; omega
  ·rw [if_neg e, if_neg e]
   exact hin a b (by omega) (by omega)
 have t3 := tru_iff hV hl hs
 have t4 := tru_iff hV' hl' hs'
 rw [eN, isT_mv hV hi hk] at t4
 rcases t1 with h1 | h1 <;> rcases t2 with h2 | h2
 ·rw [h1, h2]
 ·exact absurd (t4.2 (t3.1 h1)) (by rw [h2]; decide)
 ·exact absurd (t3.2 (t4.1 h2)) (by rw [h1]; decide)
 ·rw [h1, h2]
end
section
variable (RA : Option Addr) (rc : Nat) (CA : Option Addr) (cc : Nat) (XA : Option Addr) (xc : Nat) (R C : List R2) (X : List (List R2)) (w : World) (hT : TabR w RA CA XA R C X)
include hT
set_option maxHeartbeats 40000000 in
set_option maxRecDepth 20000 in
theorem law12_any (hx : X.length ≤ maxLen) (BA : Option Addr) (bc : Nat) (by_ : List Int) (hby : Reads w w.heap.size 1 BA by_.length (by_.map (Value.int .u8))) (hbm : by_.length ≤ maxLen) (hb : ∀ z ∈ by_, 0 ≤ z ∧ z ≤ 255) (b2 b3 b4 : Nat) (hb2 : b2 < 256) (hb3 : b3 < 256) (hb4 : b4 < 256) :
  Calls Try.prog 12 #[tabV RA rc CA cc XA xc R C X, .slice BA by_.length bc, .int .u8 (b2 : Int), .int .u8 (b3 : Int), .int .u8 (b4 : Int)] w fun e w' => e = .returned (.bool true) ∧ Below w.heap.size w w' := by
 unfold maxLen at hbm
 by_cases hV : Valid R C X
 rotate_left
 ·have hfi := fun w1 (h : TabR w1 RA CA XA R C X) => fine_no RA rc CA cc XA xc R C X w1 h hx hV
  unfold tabV at *
  refine fn_v tk (n := 233) (A := []) Try.func12 rfl rfl (Nat.le_of_ble_eq_true rfl) (St.nil (Below.refl _ _)) ?_
  ((conv => whnf); (repeat ((first | (apply VCall.q; kernel_rfl; (focus (intro w1 hs; first | with_reducible apply hfi w1 (hs.tab hT) | with_reducible apply works_any w1))) | (apply VLdN.mk; (focus ((repeat (first | (with_reducible apply ldn_blk) | (with_reducible apply ldn_skip))); done)); exact rfl) | apply VBr.t | (apply VNew.mk; intro g hg) | (refine sla ?_; first | refine otl_nil ?_ | (refine otl_cons ?_; apply ot_v tk) | skip) | (apply VK.mk; first | (refine otl_cons ?_; apply ot_v tk) | apply ot_v tk)); (conv => whnf))))
  ((apply VRet.mk); refine ret1 (by first | exact .inl rfl | exact .inr rfl) rfl (by exact rv_tmp rfl) ?_; exact fun w h => ⟨rfl, h.base⟩)
 have hfi := fun w1 (h : TabR w1 RA CA XA R C X) => fine_yes RA rc CA cc XA xc R C X w1 h hV
 by_cases h20 : by_.length ≤ 20
 rotate_left
 ·unfold tabV at *
  refine fn_v tk (n := 233) (A := []) Try.func12 rfl rfl (Nat.le_of_ble_eq_true rfl) (St.nil (Below.refl _ _)) ?_
  ((conv => whnf); (repeat ((first | (apply VCall.q; kernel_rfl; (focus (intro w1 hs; first | with_reducible apply hfi w1 (hs.tab hT) | with_reducible apply works_any w1))) | (apply VLdN.mk; (focus ((repeat (first | (with_reducible apply ldn_blk) | (with_reducible apply ldn_skip))); done)); exact rfl) | apply VBr.t | apply VBr.f | (apply v_t; omega) | (apply VNew.mk; intro g hg) | (refine sla ?_; first | refine otl_nil ?_ | (refine otl_cons ?_; apply ot_v tk) | skip) | (apply VK.mk; first | (refine otl_cons ?_; apply ot_v tk) | apply ot_v tk)); (conv => whnf))))
  ((apply VRet.mk); refine ret1 (by first | exact .inl rfl | exact .inr rfl) rfl (by exact rv_tmp rfl) ?_; exact fun w h => ⟨rfl, h.base⟩)
 have hn := hV.r4
 have hm := hV.c4
 have hn1 := hV.r1
 have hm1 := hV.c1
 obtain ⟨i, hi, ei⟩ := byte_mod b2 R.length hn1
 obtain ⟨k, hk, ek⟩ := byte_mod b3 C.length hm1
 obtain ⟨d, hd0, hd1, ed⟩ := byte_modI b4 (n := 6) (by omega)
 have hxl := hV.x
 have hxi : i < X.length := by omega
 have hxk := hV.xs _ (List.getElem_mem hxi)
 obtain ⟨xb, xo, rfl, B, c, hce, hrd⟩ := nest_gen hT.x hxi
 obtain ⟨yb, yo, rfl, _⟩ := hrd.2 (by omega)
 have k2 : ∀ Ch, CellsAt w Ch yb (yo + k * 2) [.int .i64 (xAt X i k).1, .int .i64 (xAt X i k).2] := by
  have := rg_cells hrd (k := k) (by omega) (by omega)
  unfold xAt
  rw [List.getElem?_eq_getElem hxi, Option.getD_some]
  exact this
 rw [hxk] at hce
 have hvx := hV.rX hi hk
 have hvr := hV.rR hi
 have hvc := hV.rC hk
 have hto := fun (a b : Int) w1 => to_any a b w1
 have hgi := fun w1 (h : TabR w1 (RA) CA (some ⟨xb, xo, none⟩) R C X) hh => given_anyN RA rc CA cc _ xc R C X w1 h hV BA bc by_ hh (by omega) hb
 have hGl := givL_len C.length R.length by_ (X := X)
 have hGr := givL_rows (m := C.length) (n := R.length) (by_ := by_) (X := X)
 have hGi := giv_in hV by_
 generalize givL C.length X by_ R.length = G at *
 have hwi := fun w1 (h : TabR w1 RA CA (some ⟨xb, xo, none⟩) R C X) => with_any RA rc CA cc _ xc R C X w1 h hV i k hi hk (mvR (xAt X i k) d)
 have k25 := fun w1 (h : TabR w1 RA CA (some ⟨xb, xo, none⟩) R C X) => cell25_any RA rc CA cc _ xc R C X w1 h hV.fit (i : Int) (k : Int)
 have k32 := fun w1 (h : TabR w1 RA CA (some ⟨xb, xo, none⟩) R C X) => row32_any RA rc CA cc _ xc R C X w1 h hV.fit (i : Int)
 have k34 := fun w1 (h : TabR w1 RA CA (some ⟨xb, xo, none⟩) R C X) => all_any RA rc CA cc _ xc R C X w1 h hV.fit
 have k21 := fun {A1 w1} (hs : St w A1 w1) {x : NumX} (hx : x.xs.length = R.length) (h' : ∀ {d}, d ∈ numCh R.length G x → d ∈ A1) => check_numX RA rc CA cc _ xc R C X w1 (hs.tab hT) hV hGl hGr (nc := x.x.2) (hs.numX x hGl hx h') rfl
 have lx := setX_len X i k (mvR (xAt X i k) d)
 have hcr := fun {A1 : List Chunk} {br cr : Nat} (h : Chunk.own (.slice (some ⟨br, 0, none⟩) R.length cr) 37 2 R.length (rgC R) ∈ A1) => own_rgM (w0 := w) h hi
 have hcc := fun {A1 : List Chunk} {br cr : Nat} (h : Chunk.own (.slice (some ⟨br, 0, none⟩) C.length cr) 37 2 C.length (rgC C) ∈ A1) => own_rgM (w0 := w) h hk
 have hpr := rgC_put (l := R) (j := i) (mvR (rAt R i) d) hi
 have hpc := rgC_put (l := C) (j := k) (mvR (rAt C k) d) hk
 have hv2 : Valid (R.set i (mvR (rAt R i) d)) (C.set k (mvR (rAt C k) d)) (setX X i k (mvR (xAt X i k) d)) → _ := fun h => And.intro (mv_tru hV hi hk h hGl hGr hGi) (mv_said hV hi hk h hGl hGr)
 have l1 : (R.set i (mvR (rAt R i) d)).length = R.length := List.length_set
 have l2 : (C.set k (mvR (rAt C k) d)).length = C.length := List.length_set
 have hGl2 := setN_len G i k (nAt G i k + d)
 have hGr2 := setN_rows (i := i) (k := k) (v := nAt G i k + d) (by omega) hGr
 have hGk := hGi i k hi hk
 have t1 := tru_in hV hGl hGr hGi
 unfold mvR at hv2 hwi hpr hpc l1 l2 lx
 generalize hR2 : R.set i ((rAt R i).1 + d, (rAt R i).2 + d) = R2 at *
 generalize hC2 : C.set k ((rAt C k).1 + d, (rAt C k).2 + d) = C2 at *
 generalize hX2 : setX X i k ((xAt X i k).1 + d, (xAt X i k).2 + d) = X2 at *
 generalize hG2 : setN G i k (nAt G i k + d) = G2 at *
 have q42 := fun {A1 w1} (hs : St w A1 w1) {z : TabX} (hz : z.xs.length = X2.length) (h : ∀ {d}, d ∈ tabCh R2 C2 X2 z → d ∈ A1) => fine_yes z.r.1 z.r.2 z.c.1 z.c.2 z.x.1 z.x.2 R2 C2 X2 w1 (hs.tabX' z hz h)
 have q42n := fun {A1 w1} (hs : St w A1 w1) {z : TabX} (hz : z.xs.length = X2.length) (h : ∀ {d}, d ∈ tabCh R2 C2 X2 z → d ∈ A1) => fine_no z.r.1 z.r.2 z.c.1 z.c.2 z.x.1 z.x.2 R2 C2 X2 w1 (hs.tabX' z hz h) (by rw [lx]; unfold maxLen; omega)
 have q25 := fun {A1 w1} (hs : St w A1 w1) {z : TabX} (hz : z.xs.length = X2.length) (h : ∀ {d}, d ∈ tabCh R2 C2 X2 z → d ∈ A1) (hV2 : Valid R2 C2 X2) => cell25_any z.r.1 z.r.2 z.c.1 z.c.2 z.x.1 z.x.2 R2 C2 X2 w1 (hs.tabX' z hz h) hV2.fit (i : Int) (k : Int)
 have q32 := fun {A1 w1} (hs : St w A1 w1) {z : TabX} (hz : z.xs.length = X2.length) (h : ∀ {d}, d ∈ tabCh R2 C2 X2 z → d ∈ A1) (hV2 : Valid R2 C2 X2) => row32_any z.r.1 z.r.2 z.c.1 z.c.2 z.x.1 z.x.2 R2 C2 X2 w1 (hs.tabX' z hz h) hV2.fit (i : Int)
 have q34 := fun {A1 w1} (hs : St w A1 w1) {z : TabX} (hz : z.xs.length = X2.length) (h : ∀ {d}, d ∈ tabCh R2 C2 X2 z → d ∈ A1) (hV2 : Valid R2 C2 X2) => all_any z.r.1 z.r.2 z.c.1 z.c.2 z.x.1 z.x.2 R2 C2 X2 w1 (hs.tabX' z hz h) hV2.fit
 have q21 := fun {A1 w1} (hs : St w A1 w1) {z : TabX} (hz : z.xs.length = X2.length) (h : ∀ {d}, d ∈ tabCh R2 C2 X2 z → d ∈ A1) (hV2 : Valid R2 C2 X2) {x : NumX} (hx : x.xs.length = R.length) (h' : ∀ {d}, d ∈ numCh R.length G2 x → d ∈ A1) => check_numX z.r.1 z.r.2 z.c.1 z.c.2 z.x.1 z.x.2 R2 C2 X2 w1 (hs.tabX' z hz h) hV2 (by omega) (fun s hs => by rw [hGr2 s hs, l2]) (nc := x.x.2) (hs.numX x (hGl2.trans hGl) hx h') rfl
 unfold tabX tabV at *
 generalize hl1 : R2.length = n2 at *
 generalize hl2 : C2.length = m2 at *
 subst l1
 subst l2
 refine fn_k (n := 233) (A := []) Try.func12 rfl rfl (Nat.le_of_ble_eq_true rfl) (St.nil (Below.refl _ _)) ?_
 refine tr_seqK ?_
 (apply tr_v tk; (conv => whnf); (repeat ((first | (apply VNew.mk; intro g hg) | (refine sla ?_; first | refine otl_nil ?_ | (refine otl_cons ?_; apply ot_v tk) | skip) | (apply VK.mk; first | (refine otl_cons ?_; apply ot_v tk) | apply ot_v tk)); (conv => whnf))); apply VStop.mk)
 refine tr_seqK ?_
 (apply tr_v tk; (conv => whnf); (repeat ((first | (apply VCall.q; kernel_rfl; (focus (intro w1 hs; first | with_reducible apply hfi w1 (hs.tab hT)))) | (apply VLdN.mk; (focus ((repeat (first | (with_reducible apply ldn_blk) | (with_reducible apply ldn_skip))); done)); exact rfl) | apply VBr.f | (apply v_f; omega) | (refine sla ?_; first | refine otl_nil ?_ | (refine otl_cons ?_; apply ot_v tk) | skip) | (apply VK.mk; first | (refine otl_cons ?_; apply ot_v tk) | apply ot_v tk)); (conv => whnf))); apply VStop.mk)
 revert g hg
 intro g5 hg5
 refine tr_seqK ?_
 (apply tr_v tk; (conv => whnf); (repeat ((first | (apply VStop.mk; refine tr_region_lex (id := 3) (by kernel_rfl) [.rd, .rd, .rd, .rd, .rd, .rd, .rd, .rd, .rd, .rd, .rd, .rd, .rd, .rd, .rd, .rd, .rd, .rd] rfl (by kernel_rfl) ?_; apply ot_v tk) | (apply VLd.mk; (focus ((repeat (first | ((with_reducible apply ld_blk); exact rfl) | (with_reducible apply ld_skip))); done))) | (apply v_wr64; omega) | (apply VNz.mk; omega) | (refine sla ?_; first | refine otl_nil ?_ | (refine otl_cons ?_; apply ot_v tk) | skip) | (apply VK.mk; first | (refine otl_cons ?_; apply ot_v tk) | apply ot_v tk)); (conv => whnf))); apply VStop.mk)
 rw [ei, ek, ed]
 refine tr_seqK ?_
 (apply tr_v tk; (conv => whnf); (repeat ((first | (apply VIx.mk (j := i); exact rfl; omega) | (apply VIx.mk (j := k); exact rfl; omega) | (apply VLd.mk; first | exact hce _) | (apply VLdN.mk; exact k2 _; exact rfl) | (apply VLd.mk; (focus ((repeat (first | ((with_reducible apply ld_blk); exact rfl) | (with_reducible apply ld_skip))); done))) | (apply VNew.mk; intro g hg) | (apply VSt.mk; (focus ((repeat (first | (with_reducible exact At.here) | (with_reducible apply At.there))); done)); exact rfl) | (refine sla ?_; first | refine otl_nil ?_ | (refine otl_cons ?_; apply ot_v tk) | skip) | (apply VK.mk; first | (refine otl_cons ?_; apply ot_v tk) | apply ot_v tk)); (conv => whnf))); apply VStop.mk)
 revert g hg
 intro g14 hg14
 refine tr_cut (fun x : Nat × { x : TabX // x.xs.length = X2.length } => ([(1, .slice BA by_.length bc), (5, .pointer (some ⟨g5, 0, none⟩)), (11, .int .i64 (i : Int)), (12, .int .i64 (k : Int)), (13, .int .i64 d), (15, .pointer (some ⟨x.1, 0, none⟩))], .own (.slice x.2.1.r.1 R.length x.2.1.r.2) 37 2 R.length (rgC R) :: .own (.slice x.2.1.c.1 C.length x.2.1.c.2) 37 2 C.length (rgC C) :: .blk x.1 25 [.slice x.2.1.r.1 R.length x.2.1.r.2, .slice x.2.1.c.1 C.length x.2.1.c.2, .slice x.2.1.x.1 X2.length x.2.1.x.2] :: .blk g5 25 [.slice RA R.length rc, .slice CA C.length cc, .slice (some ⟨xb, xo, none⟩) X.length xc] :: .own (.slice x.2.1.x.1 X2.length x.2.1.x.2) 22 1 X2.length (nsVs x.2.1.xs (nestR X2)) :: nsCh 37 2 x.2.1.xs (nestR X2))) ?_ ?_
 ·(apply tr_v tk; (conv => whnf); (repeat ((first | ((first | apply VStop.mk | apply VCall.stop); refine tr_region_treeV (id := 5) (by kernel_rfl) [.blk g14 37 _, .blk g5 25 _] (by (repeat (first | exact sl0 _ | exact sl1 _ | refine sl2 _ ?_ | refine sl3 _ ?_))) [0, 1, 2, 3, 4, 5, 6, 7, 8, 9, 10, 11] [12, 13, 14] [.rd, .rd, .rd, .rd, .rd, .rd, .rd, .rd, .rd, .rd, .rd, .rd] (fun i => [.wr, .wr, .wr, .wr, .wr, .wr, .wr, .wr, .wr, .wr, .wr, .wr, .cr, .cr, .wr].getD i .wr) _ rfl rfl (by kernel_rfl) ?_; apply ot_v tk) | (apply VCall.q; kernel_rfl; (focus (intro w1 hs; first | with_reducible apply hto _ _ w1))) | (apply VLd.mk; (focus ((repeat (first | ((with_reducible apply ld_blk); exact rfl) | (with_reducible apply ld_skip))); done))) | (apply VLdN.mk; (focus ((repeat (first | (with_reducible apply ldn_blk) | (with_reducible apply ldn_skip))); done)); exact rfl) | (apply VRng.mk; omega) | (refine sla ?_; first | refine otl_nil ?_ | (refine otl_cons ?_; apply ot_v tk) | skip) | (apply VK.mk; first | (refine otl_cons ?_; apply ot_v tk) | apply ot_v tk)); (conv => whnf))))
  refine ox2 12 13 ?_ ?_
  ·(refine ot_callT (X := TabX) (us := []) (vs := []) (fun x => .agg #[.slice x.r.1 R.length x.r.2, .slice x.c.1 C.length x.c.2, .slice x.x.1 X2.length x.x.2]) (fun x => [.own (.slice x.r.1 R.length x.r.2) 37 2 R.length (rgC R), .own (.slice x.c.1 C.length x.c.2) 37 2 C.length (rgC C), .own (.slice x.x.1 X2.length x.x.2) 22 1 X2.length (nsVs x.xs (nestR X2))]) (fun x => nsCh 37 2 x.xs (nestR X2)) _ (fun x c hc => tabCh_mut (x := x) c hc) (by decide) rfl rfl rfl rfl (by kernel_rfl) (evl_of rfl) rfl (fun w1 hs => hwi w1 (hs.tab hT)) (fun x hx => ?_); refine ot_nil ?_; refine sla ?_)
   refine ox1 13 ?_
   (apply ot_v tk; (conv => whnf); (apply VNew.mk; intro g7 hg7; (conv => whnf)); refine sla ?_)
   refine ox1 14 ?_
   (apply ot_v tk; (conv => whnf); (apply VSt.mk; (focus (repeat (first | exact At.here | apply At.there)); done); exact rfl; (conv => whnf)); refine sla ?_)
   refine VT.mk (otx_end ?_)
   exact VJ.mk (g7, ⟨x, hx⟩) rfl ⟨rfl, rfl, rfl, rfl, rfl, rfl, trivial⟩ (by ((try dsimp only); (iterate 4 ((apply Pick.cons); (focus (repeat (first | exact Rem.here | apply Rem.there)); done))); exact Pick.of_sub (by (repeat (first | exact sl0 _ | exact sl1 _ | refine sl2 _ ?_ | refine sl3 _ ?_)))))
  ·(apply ot_v tk; (conv => whnf); (apply VNew.mk; intro g7 hg7; (conv => whnf)); refine sla ?_)
   refine ox1 12 ?_
   (refine ot_callT (X := TabX) (us := []) (vs := []) (fun x => .agg #[.slice x.r.1 R.length x.r.2, .slice x.c.1 C.length x.c.2, .slice x.x.1 X2.length x.x.2]) (fun x => [.own (.slice x.r.1 R.length x.r.2) 37 2 R.length (rgC R), .own (.slice x.c.1 C.length x.c.2) 37 2 C.length (rgC C), .own (.slice x.x.1 X2.length x.x.2) 22 1 X2.length (nsVs x.xs (nestR X2))]) (fun x => nsCh 37 2 x.xs (nestR X2)) _ (fun x c hc => tabCh_mut (x := x) c hc) (by decide) rfl rfl rfl rfl (by kernel_rfl) (evl_of rfl) rfl (fun w1 hs => hwi w1 (hs.tab hT)) (fun x hx => ?_); refine ot_nil ?_; refine sla ?_)
   refine ox1 14 ?_
   (apply ot_v tk; (conv => whnf); (apply VSt.mk; (focus (repeat (first | exact At.here | apply At.there)); done); exact rfl; (conv => whnf)); refine sla ?_)
   refine VT.mk (otx_end ?_)
   exact VJ.mk (g7, ⟨x, hx⟩) rfl ⟨rfl, rfl, rfl, rfl, rfl, rfl, trivial⟩ (by ((try dsimp only); (iterate 4 ((apply Pick.cons); (focus (repeat (first | exact Rem.here | apply Rem.there)); done))); exact Pick.of_sub (by (repeat (first | exact sl0 _ | exact sl1 _ | refine sl2 _ ?_ | refine sl3 _ ?_)))))
 rintro ⟨g15, ⟨⟨Br, cr⟩, ⟨Bc, cc2⟩, ⟨Bx, cx⟩, xs⟩, hxs⟩
 dsimp only at hxs ⊢
 refine tr_fact (p := (∃ b, Br = some ⟨b, 0, none⟩) ∧ ∃ b, Bc = some ⟨b, 0, none⟩) (fun w' hs => ⟨own_some hs (.head _) (by omega), own_some hs (.tail _ (.head _)) (by omega)⟩) ?_
 rintro ⟨⟨br, rfl⟩, bc2, rfl⟩
 generalize hD : (.own (.slice Bx X2.length cx) 22 1 X2.length (nsVs xs (nestR X2)) :: nsCh 37 2 xs (nestR X2) : List Chunk) = D
 refine tr_seqK ?_
 (apply tr_v tk; (conv => whnf); (repeat ((first | ((first | apply VStop.mk | apply VCall.stop); refine tr_region_late2 (id := 6) (by kernel_rfl) [.blk g15 25 _] (by (repeat (first | exact sl0 _ | exact sl1 _ | refine sl2 _ ?_ | refine sl3 _ ?_))) [3, 4, 5] [0, 1, 2, 6, 7, 8, 9, 10, 11, 12, 13, 14, 15, 16, 17, 18, 19, 20, 21, 22, 23, 24, 25, 26, 27, 28, 29, 30, 31, 32, 33, 34, 35, 36, 37, 38, 39, 40] 41 [42, 43] [.rd, .rd, .rd] [.rd, .rd, .rd, .rd, .rd, .rd, .rd, .rd, .rd, .rd, .rd, .rd, .rd, .rd, .rd, .rd, .rd, .rd, .rd, .rd, .rd, .rd, .rd, .rd, .rd, .rd, .rd, .rd, .rd, .rd, .rd, .rd, .rd, .rd, .rd, .rd, .rd, .rd] [.wr, .wr, .wr] rfl (by kernel_rfl) ?_; apply ot_v tk) | (apply VIx.mk (j := i); exact rfl; omega) | (apply VIx.mk (j := k); exact rfl; omega) | (apply VLd.mk; first | exact (hcr (by (repeat (first | with_unfolding_all exact List.Mem.head _ | assumption | with_unfolding_all refine List.Mem.tail _ ?_)))).1 | exact (hcr (by (repeat (first | with_unfolding_all exact List.Mem.head _ | assumption | with_unfolding_all refine List.Mem.tail _ ?_)))).2 | exact (hcc (by (repeat (first | with_unfolding_all exact List.Mem.head _ | assumption | with_unfolding_all refine List.Mem.tail _ ?_)))).1 | exact (hcc (by (repeat (first | with_unfolding_all exact List.Mem.head _ | assumption | with_unfolding_all refine List.Mem.tail _ ?_)))).2) | (apply VSt.stop; refine ot_storeN_own (sz := 2) (vs := [.int .i64 ((rAt R i).1 + d), .int .i64 ((rAt R i).2 + d)]) tk rfl rfl rfl rfl rfl rfl rfl rfl rfl rfl .here (by simp only [List.length_cons, List.length_nil]; omega) (Nat.succ_pos _) ?_; apply ot_v tk) | (apply VSt.stop; refine ot_storeN_own (sz := 2) (vs := [.int .i64 ((rAt C k).1 + d), .int .i64 ((rAt C k).2 + d)]) tk rfl rfl rfl rfl rfl rfl rfl rfl rfl rfl (.there .here) (by simp only [List.length_cons, List.length_nil]; omega) (Nat.succ_pos _) ?_; apply ot_v tk) | (apply VCall.q; kernel_rfl; (focus (intro w1 hs; first | with_reducible apply hto _ _ w1))) | (apply VLd.mk; (focus ((repeat (first | ((with_reducible apply ld_blk); exact rfl) | (with_reducible apply ld_skip))); done))) | (apply VRng.mk; omega) | (refine sla ?_; first | refine otl_nil ?_ | (refine otl_cons ?_; apply ot_v tk) | skip) | (apply VK.mk; first | (refine otl_cons ?_; apply ot_v tk) | apply ot_v tk)); (conv => whnf))); apply VStop.mk)
 rw [hpr, hpc]
 refine tr_nameA2 ?_
 intro A1 hA1
 have c15 : .blk g15 25 [.slice (some ⟨br, 0, none⟩) R.length cr, .slice (some ⟨bc2, 0, none⟩) C.length cc2, .slice Bx X2.length cx] ∈ A1 := by rw [hA1]; exact .tail _ (.tail _ (.head _))
 have c5 : .blk g5 25 [.slice RA R.length rc, .slice CA C.length cc, .slice (some ⟨xb, xo, none⟩) X.length xc] ∈ A1 := by rw [hA1]; exact .tail _ (.tail _ (.tail _ (.head _)))
 obtain ⟨z, hz⟩ : ∃ z : TabX, z = ⟨(some ⟨br, 0, none⟩, cr), (some ⟨bc2, 0, none⟩, cc2), (Bx, cx), xs⟩ := ⟨_, rfl⟩
 have hzl : z.xs.length = X2.length := by rw [hz]; exact hxs
 have hzA : ∀ {d}, d ∈ tabCh R2 C2 X2 z → d ∈ A1 := fun {e} he => by
  rw [hz] at he
  unfold tabCh at he
  dsimp only at he
  rw [hl1, hl2] at he
  rw [hA1]
  rcases List.mem_cons.1 he with h | he
  ·rw [h]; exact .head _
  rcases List.mem_cons.1 he with h | he
  ·rw [h]; exact .tail _ (.head _)
  rw [hD] at he
  exact .tail _ (.tail _ (.tail _ (.tail _ he)))
 clear hA1
 replace q42 := fun {A' w1} (hs : St w A' w1) (h : A1.Sublist A') => q42 hs hzl (fun {d} hd => h.subset (hzA hd))
 replace q42n := fun {A' w1} (hs : St w A' w1) (h : A1.Sublist A') => q42n hs hzl (fun {d} hd => h.subset (hzA hd))
 replace q25 := fun {A' w1} (hs : St w A' w1) (h : A1.Sublist A') => q25 hs hzl (fun {d} hd => h.subset (hzA hd))
 replace q32 := fun {A' w1} (hs : St w A' w1) (h : A1.Sublist A') => q32 hs hzl (fun {d} hd => h.subset (hzA hd))
 replace q34 := fun {A' w1} (hs : St w A' w1) (h : A1.Sublist A') => q34 hs hzl (fun {d} hd => h.subset (hzA hd))
 replace q21 := fun {A' w1} (hs : St w A' w1) (h : A1.Sublist A') (hV2 : Valid R2 C2 X2) {x : NumX} hx h' => @q21 A' w1 hs z hzl (fun {d} hd => h.subset (hzA hd)) hV2 x hx h'
 rw [hz] at q42 q42n q25 q32 q34 q21
 dsimp only at q42 q42n q25 q32 q34 q21
 refine tr_weak (l := [(1, _), (5, _), (11, _), (12, _), (13, _), (15, _)]) (B := A1) ⟨rfl, rfl, rfl, rfl, rfl, rfl, trivial⟩ (List.Sublist.refl _) ?_
 by_cases hV2 : Valid R2 C2 X2
 rotate_left
 ·refine tr_seqK ?_
  (apply tr_v tk; (conv => whnf); (repeat ((first | (apply VLdN.mk; (first | exact cells_blk_all (List.Sublist.subset sb c15) | exact cells_blk_all (List.Sublist.subset sb c5)); exact rfl) | (apply VCall.q; kernel_rfl; (focus (intro w1 hs; first | with_reducible apply q42n hs sb hV2 | with_reducible apply works_any w1))) | apply VBr.t | (refine sla ?_; first | refine otl_nil ?_ | (refine otl_cons ?_; apply ot_v tk) | skip) | (apply VK.mk; first | (refine otl_cons ?_; apply ot_v tk) | apply ot_v tk)); (conv => whnf))))
  ((apply VRet.mk); refine ret1 (by first | exact .inl rfl | exact .inr rfl) rfl (by exact rv_tmp rfl) ?_; exact fun w h => ⟨rfl, h.base⟩)
 obtain ⟨tz, f, a1, a2, b1, b2', r1, r2, s1, s2, u1, u2, v1, v2, hf, ea, eb, er, es, eu, ev, hyes⟩ := hv2 hV2
 clear hv2
 rw [ea] at k25
 rw [er] at k32
 rw [eu] at k34
 replace q25 := fun {A' w1} (hs : St w A' w1) (h : A1.Sublist A') => q25 hs h hV2
 replace q32 := fun {A' w1} (hs : St w A' w1) (h : A1.Sublist A') => q32 hs h hV2
 replace q34 := fun {A' w1} (hs : St w A' w1) (h : A1.Sublist A') => q34 hs h hV2
 rw [eb] at q25
 rw [es] at q32
 rw [ev] at q34
 rw [tz] at q21
 unfold resV at k25 k32 k34 q25 q32 q34
 dsimp only at k25 k32 k34 q25 q32 q34
 generalize chkTru R C X G = zx at *
 refine tr_seqK ?_
 (apply tr_v tk; (conv => whnf); (repeat ((first | (apply VLdN.mk; (first | exact cells_blk_all (List.Sublist.subset sb c15) | exact cells_blk_all (List.Sublist.subset sb c5)); exact rfl) | (apply VCall.q; kernel_rfl; (focus (intro w1 hs; first | with_reducible apply q42 hs sb hV2))) | apply VBr.f | (refine sla ?_; first | refine otl_nil ?_ | (refine otl_cons ?_; apply ot_v tk) | skip) | (apply VK.mk; first | (refine otl_cons ?_; apply ot_v tk) | apply ot_v tk)); (conv => whnf))); apply VStop.mk)
 refine tr_seqK ?_
 (apply tr_v tk; (conv => whnf); (repeat ((first | (apply VLdN.mk; (first | exact cells_blk_all (List.Sublist.subset sb c15) | exact cells_blk_all (List.Sublist.subset sb c5)); exact rfl) | (refine sla ?_; first | refine otl_nil ?_ | (refine otl_cons ?_; apply ot_v tk) | skip) | (apply VK.mk; first | (refine otl_cons ?_; apply ot_v tk) | apply ot_v tk)); (conv => whnf))); apply VCall.stop)
 refine ot_callT (X := NumX) (us := []) (vs := []) (fun x => .slice x.x.1 R.length x.x.2) (fun x => []) (fun x => numCh R.length G x) _ (fun x c hc => numCh_mut hc) (by decide) rfl rfl rfl rfl (by kernel_rfl) (evl_of rfl) rfl (fun w1 hs => hgi w1 (hs.tab hT) (hs.reads hby)) ?_
 intro x hxx
 (dsimp only [List.cons_append, List.nil_append]; apply ot_v tk)
 ((conv => whnf); (repeat ((first | (refine sla ?_; first | refine otl_nil ?_ | (refine otl_cons ?_; apply ot_v tk) | skip) | (apply VK.mk; first | (refine otl_cons ?_; apply ot_v tk) | apply ot_v tk)); (conv => whnf))); apply VStop.mk)
 refine tr_perm List.perm_append_comm ?_
 refine tr_fact (p := _) (fun w' hs => num_put hs x hGl hGr hxx hi hk (fun {d} hd => List.mem_append_left _ hd) (nAt G i k + d)) ?_
 rintro ⟨nb, mb, nc, row, hxb, v3, v4, o1, hup⟩
 rw [hG2] at hup
 refine tr_seqK ?_
 (apply tr_v tk; (conv => whnf); (repeat ((first | (apply VLdN.mk; exact cells_blk_all (List.mem_append_right _ c5); exact rfl) | (apply VCall.q; kernel_rfl; (focus (intro w1 hs; first | with_reducible apply k21 hs hxx (fun {d} hd => List.mem_append_left _ hd)))) | (refine sla ?_; first | refine otl_nil ?_ | (refine otl_cons ?_; apply ot_v tk) | skip) | (apply VK.mk; first | (refine otl_cons ?_; apply ot_v tk) | apply ot_v tk)); (conv => whnf))); apply VStop.mk)
 refine tr_weak (l := [(1, _), (5, _), (11, _), (12, _), (13, _), (15, _), (16, _), (17, _)]) (B := _) ⟨rfl, rfl, rfl, rfl, rfl, rfl, rfl, rfl, trivial⟩ (List.Sublist.refl _) ?_
 refine tr_perm (B := .own (.slice (some ⟨nb, 0, none⟩) R.length x.x.2) 66 1 R.length (nsVs x.xs (nestI G)) :: (nsCh 2 1 x.xs (nestI G) ++ A1)) (by unfold numCh; rw [hxb]; exact List.Perm.refl _) ?_
 rw [hxb]
 have j1 : CellAt w (.own (.slice (some ⟨nb, 0, none⟩) R.length x.x.2) 66 1 R.length (nsVs x.xs (nestI G)) :: (nsCh 2 1 x.xs (nestI G) ++ A1)) nb (0 + i * 1) (.slice (some ⟨mb, 0, none⟩) C.length nc) := by rw [Nat.zero_add, Nat.mul_one]; exact cell_own (.head _) v3
 have j2 : CellAt w (.own (.slice (some ⟨nb, 0, none⟩) R.length x.x.2) 66 1 R.length (nsVs x.xs (nestI G)) :: (nsCh 2 1 x.xs (nestI G) ++ A1)) mb (0 + k * 1) (.int .i64 (nAt G i k)) := by rw [Nat.zero_add, Nat.mul_one]; exact cell_own (.tail _ (List.mem_append_left _ o1)) v4
 refine tr_seqK ?_
 (apply tr_v tk; (conv => whnf); (repeat ((first | (apply VIx.mk (j := i); exact rfl; omega) | (apply VIx.mk (j := k); exact rfl; omega) | (apply VLd.mk; first | exact j1 | exact j2) | (apply VSt.stop; refine ot_storeN_own (sz := 1) (vs := [.int .i64 (nAt G i k + d)]) tk rfl rfl rfl rfl rfl rfl rfl rfl rfl rfl (.there (hup A1)) (by simp only [List.length_cons, List.length_nil]; omega) (Nat.succ_pos _) ?_; apply ot_v tk) | (apply VRng.mk; omega) | (refine sla ?_; first | refine otl_nil ?_ | (refine otl_cons ?_; apply ot_v tk) | skip) | (apply VK.mk; first | (refine otl_cons ?_; apply ot_v tk) | apply ot_v tk)); (conv => whnf))); apply VStop.mk)
 refine tr_nameA2 ?_
 intro A2 hA2
 have hsub : A1.Sublist A2 := by rw [hA2]; exact (List.sublist_append_right _ _).cons _
 have hxA : ∀ {d}, d ∈ numCh R.length G2 x → d ∈ A2 := fun {e} he => by
  rw [hA2]
  unfold numCh at he
  rw [← hG2, nsVs_setN (by omega), hG2, hxb] at he
  exact List.mem_append_left A1 he
 clear hA2
 have e15 := hsub.subset c15
 have e5 := hsub.subset c5
 have p21 := fun {A' w1} (hs : St w A' w1) (h : A2.Sublist A') => q21 hs (hsub.trans h) hV2 (x := x) hxx (fun {d} hd => h.subset (hxA hd))
 rw [hxb] at p21
 have p25 := fun {A' w1} (hs : St w A' w1) (h : A2.Sublist A') => q25 hs (hsub.trans h)
 have p32 := fun {A' w1} (hs : St w A' w1) (h : A2.Sublist A') => q32 hs (hsub.trans h)
 have p34 := fun {A' w1} (hs : St w A' w1) (h : A2.Sublist A') => q34 hs (hsub.trans h)
 clear q21 q25 q32 q34 j1 j2 hup v3 v4 o1 q42 q42n
 refine tr_weak (l := [(5, _), (11, _), (12, _), (13, _), (15, _), (16, _), (17, _)]) (B := A2) ⟨rfl, rfl, rfl, rfl, rfl, rfl, rfl, trivial⟩ (List.Sublist.refl _) ?_
 refine tr_seqK ?_
 (apply tr_v tk; (conv => whnf); (repeat ((first | (apply VLdN.mk; (first | exact cells_blk_all (List.Sublist.subset sb e15) | exact cells_blk_all (List.Sublist.subset sb e5)); exact rfl) | (apply VCall.q; kernel_rfl; (focus (intro w1 hs; first | with_reducible apply p21 hs sb))) | (refine sla ?_; first | refine otl_nil ?_ | (refine otl_cons ?_; apply ot_v tk) | skip) | (apply VK.mk; first | (refine otl_cons ?_; apply ot_v tk) | apply ot_v tk)); (conv => whnf))); apply VStop.mk)
 refine tr_seqK ?_
 (apply tr_v tk; (conv => whnf); (repeat ((first | apply VBr.f | (apply v_f; omega) | (refine sla ?_; first | refine otl_nil ?_ | (refine otl_cons ?_; apply ot_v tk) | skip) | (apply VK.mk; first | (refine otl_cons ?_; apply ot_v tk) | apply ot_v tk)); (conv => whnf))); apply VStop.mk)
 refine tr_seqK ?_
 (apply tr_v tk; (conv => whnf); (repeat ((first | (apply VLdN.mk; (first | exact cells_blk_all (List.Sublist.subset sb e15) | exact cells_blk_all (List.Sublist.subset sb e5)); exact rfl) | (apply VCall.q; kernel_rfl; (focus (intro w1 hs; first | with_reducible apply k25 w1 (hs.tab hT)))) | (apply VNew.mk; intro g hg) | (apply VSt.mk; (focus ((repeat (first | (with_reducible exact At.here) | (with_reducible apply At.there))); done)); exact rfl) | (refine sla ?_; first | refine otl_nil ?_ | (refine otl_cons ?_; apply ot_v tk) | skip) | (apply VK.mk; first | (refine otl_cons ?_; apply ot_v tk) | apply ot_v tk)); (conv => whnf))); apply VStop.mk)
 revert g hg
 intro g19 hg19
 refine tr_seqK ?_
 (apply tr_v tk; (conv => whnf); (repeat ((first | (apply VLdN.mk; (first | exact cells_blk_all (List.Sublist.subset sb e15) | exact cells_blk_all (List.Sublist.subset sb e5)); exact rfl) | (apply VCall.q; kernel_rfl; (focus (intro w1 hs; first | with_reducible apply p25 hs sb))) | (apply VNew.mk; intro g hg) | (apply VSt.mk; (focus ((repeat (first | (with_reducible exact At.here) | (with_reducible apply At.there))); done)); exact rfl) | (refine sla ?_; first | refine otl_nil ?_ | (refine otl_cons ?_; apply ot_v tk) | skip) | (apply VK.mk; first | (refine otl_cons ?_; apply ot_v tk) | apply ot_v tk)); (conv => whnf))); apply VStop.mk)
 revert g hg
 intro g21 hg21
 refine tr_seqK ?_
 (apply tr_v tk; (conv => whnf); (repeat ((first | (apply VLdN.mk; (first | exact cells_blk_all (List.Sublist.subset sb e15) | exact cells_blk_all (List.Sublist.subset sb e5)); exact rfl) | (apply VCall.q; kernel_rfl; (focus (intro w1 hs; first | with_reducible apply k32 w1 (hs.tab hT)))) | (apply VNew.mk; intro g hg) | (apply VSt.mk; (focus ((repeat (first | (with_reducible exact At.here) | (with_reducible apply At.there))); done)); exact rfl) | (refine sla ?_; first | refine otl_nil ?_ | (refine otl_cons ?_; apply ot_v tk) | skip) | (apply VK.mk; first | (refine otl_cons ?_; apply ot_v tk) | apply ot_v tk)); (conv => whnf))); apply VStop.mk)
 revert g hg
 intro g23 hg23
 refine tr_seqK ?_
 (apply tr_v tk; (conv => whnf); (repeat ((first | (apply VLdN.mk; (first | exact cells_blk_all (List.Sublist.subset sb e15) | exact cells_blk_all (List.Sublist.subset sb e5)); exact rfl) | (apply VCall.q; kernel_rfl; (focus (intro w1 hs; first | with_reducible apply p32 hs sb))) | (apply VNew.mk; intro g hg) | (apply VSt.mk; (focus ((repeat (first | (with_reducible exact At.here) | (with_reducible apply At.there))); done)); exact rfl) | (refine sla ?_; first | refine otl_nil ?_ | (refine otl_cons ?_; apply ot_v tk) | skip) | (apply VK.mk; first | (refine otl_cons ?_; apply ot_v tk) | apply ot_v tk)); (conv => whnf))); apply VStop.mk)
 revert g hg
 intro g25 hg25
 refine tr_seqK ?_
 (apply tr_v tk; (conv => whnf); (repeat ((first | (apply VLdN.mk; (first | exact cells_blk_all (List.Sublist.subset sb e15) | exact cells_blk_all (List.Sublist.subset sb e5)); exact rfl) | (apply VCall.q; kernel_rfl; (focus (intro w1 hs; first | with_reducible apply k34 w1 (hs.tab hT)))) | (apply VNew.mk; intro g hg) | (apply VSt.mk; (focus ((repeat (first | (with_reducible exact At.here) | (with_reducible apply At.there))); done)); exact rfl) | (refine sla ?_; first | refine otl_nil ?_ | (refine otl_cons ?_; apply ot_v tk) | skip) | (apply VK.mk; first | (refine otl_cons ?_; apply ot_v tk) | apply ot_v tk)); (conv => whnf))); apply VStop.mk)
 revert g hg
 intro g27 hg27
 refine tr_seqK ?_
 (apply tr_v tk; (conv => whnf); (repeat ((first | (apply VLdN.mk; (first | exact cells_blk_all (List.Sublist.subset sb e15) | exact cells_blk_all (List.Sublist.subset sb e5)); exact rfl) | (apply VCall.q; kernel_rfl; (focus (intro w1 hs; first | with_reducible apply p34 hs sb))) | (apply VNew.mk; intro g hg) | (apply VSt.mk; (focus ((repeat (first | (with_reducible exact At.here) | (with_reducible apply At.there))); done)); exact rfl) | (refine sla ?_; first | refine otl_nil ?_ | (refine otl_cons ?_; apply ot_v tk) | skip) | (apply VK.mk; first | (refine otl_cons ?_; apply ot_v tk) | apply ot_v tk)); (conv => whnf))); apply VStop.mk)
 revert g hg
 intro g29 hg29
 refine tr_weak (l := [(13, _), (17, _), (19, _), (20, _), (21, _), (22, _), (23, _), (24, _), (25, _), (26, _), (27, _), (28, _), (29, _), (30, _)]) (B := _) ⟨rfl, rfl, rfl, rfl, rfl, rfl, rfl, rfl, rfl, rfl, rfl, rfl, rfl, rfl, trivial⟩ (List.Sublist.refl _) ?_
 refine tr_seqK ?_
 (apply tr_v tk; (conv => whnf); (repeat ((first | apply VBr.f | (apply v_f; omega) | (refine sla ?_; first | refine otl_nil ?_ | (refine otl_cons ?_; apply ot_v tk) | skip) | (apply VK.mk; first | (refine otl_cons ?_; apply ot_v tk) | apply ot_v tk)); (conv => whnf))); apply VStop.mk)
 rcases hf with rfl | ⟨rfl, hzx⟩
 ·obtain ⟨⟨y1, y2, y3, y4, y5⟩, ⟨y6, y7, y8, y9, y10⟩, y11, y12, y13, y14, y15⟩ := hyes rfl
  (apply tr_v tk; (conv => whnf); (repeat ((first | (apply VCall.q; kernel_rfl; (focus (intro w1 hs; first | with_reducible apply moved_yes y1 y2 y3 y4 y5 hd0 (by omega) w1 | with_reducible apply moved_yes y6 y7 y8 y9 y10 hd0 (by omega) w1 | with_reducible apply moved_yes y11 y12 y13 y14 y15 hd0 (by omega) w1 | with_reducible apply works_any w1))) | (apply VLdN.mk; (focus ((repeat (first | (with_reducible apply ldn_blk) | (with_reducible apply ldn_skip))); done)); exact rfl) | apply VBr.t | apply VBr.f | (apply v_f; omega) | (refine sla ?_; first | refine otl_nil ?_ | (refine otl_cons ?_; apply ot_v tk) | skip) | (apply VK.mk; first | (refine otl_cons ?_; apply ot_v tk) | apply ot_v tk)); (conv => whnf))))
  ((apply VRet.mk); refine ret1 (by first | exact .inl rfl | exact .inr rfl) rfl (by exact rv_tmp rfl) ?_; exact fun w h => ⟨rfl, h.base⟩)
 ·obtain rfl : zx = 20 := by rcases t1 with h | h; exact absurd h hzx; exact h
  (apply tr_v tk; (conv => whnf); (repeat ((first | (apply VCall.q; kernel_rfl; (focus (intro w1 hs; first | with_reducible apply works_any w1))) | apply VBr.t | (apply v_t; omega) | (refine sla ?_; first | refine otl_nil ?_ | (refine otl_cons ?_; apply ot_v tk) | skip) | (apply VK.mk; first | (refine otl_cons ?_; apply ot_v tk) | apply ot_v tk)); (conv => whnf))))
  ((apply VRet.mk); refine ret1 (by first | exact .inl rfl | exact .inr rfl) rfl (by exact rv_tmp rfl) ?_; exact fun w h => ⟨rfl, h.base⟩)
end
end Go.Proofs.Ytalcccgialpjgaa
