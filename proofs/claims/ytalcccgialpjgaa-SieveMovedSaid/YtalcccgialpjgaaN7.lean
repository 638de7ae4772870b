/- next: lemmas for the rows of this seat. No conditions. -/
import Derived.Test.YtalcccgialpjgaaN5
set_option linter.all false
namespace Go.Proofs.Ytalcccgialpjgaa
open Go.RowKit
/-! ## next -/
def encN (v : Nat) : List Value := [.int .i64 (v : Int)]
/-- The nodes to which something can flow from one. -/
def succs (N : Nat) (L : Nat → Nat → Bool) (u : Nat) : List Nat := (List.range N).filter (L u)
theorem succs_step (L : Nat → Nat → Bool) (u k : Nat) : succs (k + 1) L u = if L u k = true then succs k L u ++ [k] else succs k L u := by
 unfold succs
 rw [List.range_succ, List.filter_append]
 cases h : L u k <;> simp [h]
theorem succs_pre (L : Nat → Nat → Bool) (u : Nat) {k : Nat} : ∀ N, k ≤ N → succs k L u <+: succs N L u
 | 0, h => by obtain rfl : k = 0 := by omega
              exact List.prefix_refl _
 | N + 1, h => by
  rcases Nat.lt_or_ge k (N + 1) with h1 | h1
  ·refine (succs_pre L u N (by omega)).trans ?_
   rw [succs_step]
   split
   ·exact List.prefix_append _ _
   ·exact List.prefix_refl _
  ·obtain rfl : k = N + 1 := by omega
   exact List.prefix_refl _
/-- A map with keys from pairs, whatever it shows. -/
def LM (L : Nat → Nat → Bool) (h : Nat → Nat → Int) : Int × Int → Option Value := keyM L (intV h)
section
variable (RA : Option Addr) (rc : Nat) (CA : Option Addr) (cc : Nat) (n m : Nat) (L : Nat → Nat → Bool) (h : Nat → Nat → Int) (gn gl u b1 b2 b3 : Nat)
/-- What next$1 reads. -/
def NeedN (w0 : World) (R : List Chunk) : Prop := ∀ W, St w0 R W → W.cell? ⟨b1, 0, none⟩ = some (.pointer (some ⟨gn, 0, none⟩)) ∧ W.cell? ⟨b2, 0, none⟩ = some (.map (some gl)) ∧ W.cell? ⟨b3, 0, none⟩ = some (.int .i64 (u : Int)) ∧
 W.cell? ⟨gn, 0, none⟩ = some (.slice RA n rc) ∧ W.cell? ⟨gn, 1, none⟩ = some (.slice CA m cc) ∧ ∃ st, MapP pairE (LM L h) st W.heap[gl]?
set_option maxRecDepth 20000 in
theorem nodes'_any (w : World) (hc : w.cell? ⟨gn, 0, none⟩ = some (.slice RA n rc)) (hc1 : w.cell? ⟨gn, 1, none⟩ = some (.slice CA m cc)) (hr : n ≤ 1000) (hr1 : m ≤ 1000) : Calls Try.prog 101 #[.pointer (some ⟨gn, 0, none⟩)] w fun e w' => e = .returned (.int .i64 ((2 + n + m : Nat) : Int)) ∧ Below w.heap.size w w' := by
 have h2 : ((2 + n + m : Nat) : Int) = 2 + (n : Int) + (m : Int) := by omega
 rw [h2]
 have c1 : ∀ A, CellAt w A gn 0 _ := fun A => CellAt.base hc
 have c2 : ∀ A, CellAt w A gn 1 _ := fun A => CellAt.base hc1
 refine fn_v tk (n := 17) (A := []) Try.func101 rfl rfl (Nat.le_of_ble_eq_true rfl) (St.nil (Below.refl _ _)) ?_
 ((conv => whnf); (repeat ((first | (apply VStop.mk; refine tr_region_lex (id := 1) (by kernel_rfl) [.rd, .rd, .rd, .rd, .rd, .rd, .rd, .rd, .rd, .rd, .rd, .rd, .rd, .rd, .rd] rfl (by kernel_rfl) ?_; apply ot_v tk) | (apply VLd.mk; first | exact c1 _ | exact c2 _) | (apply VRng.mk; omega)); (conv => whnf))))
 ((apply VRet.mk); refine ret1 (by first | exact .inl rfl | exact .inr rfl) rfl (by exact rv_tmp rfl) ?_; exact fun w h => ⟨rfl, h.base⟩)
set_option maxHeartbeats 1000000 in
set_option maxRecDepth 20000 in
theorem next_it (hn : n ≤ 4) (hm : m ≤ 4) : ItT Try.prog 109 [] [.pointer (some ⟨b1, 0, none⟩), .pointer (some ⟨b2, 0, none⟩), .pointer (some ⟨b3, 0, none⟩)] encN (NeedN RA rc CA cc n m L h gn gl u b1 b2 b3) (succs (2 + n + m) L u) := by
 intro w0 l Jc Jx R W hNd hY h0 hS
 generalize hP : (fun (e : Ending) (W' : World) => (∃ v, e = .returned v) ∧ ((∃ R', Jc (succs (2 + n + m) L u) R' ∧ St w0 R' W') ∨ ∃ pre R', Jx pre R' ∧ St w0 R' W')) = POST
 have hdone : ∀ R' v W', Jc (succs (2 + n + m) L u) R' → St w0 R' W' → POST (.returned v) W' := fun R' v W' hJ hS => by
  rw [← hP]; exact ⟨⟨v, rfl⟩, .inl ⟨R', hJ, hS⟩⟩
 have hstop : ∀ pre R' v W', Jx pre R' → St w0 R' W' → POST (.returned v) W' := fun pre R' v W' hJ hS => by
  rw [← hP]; exact ⟨⟨v, rfl⟩, .inr ⟨pre, R', hJ, hS⟩⟩
 clear hP
 have c1 : ∀ pre R', Jc pre R' → CellAt w0 R' b1 0 (.pointer (some ⟨gn, 0, none⟩)) := fun pre R' hJ w hs => (hNd _ _ hJ w hs).1
 have c2 : ∀ pre R', Jc pre R' → CellAt w0 R' b2 0 (.map (some gl)) := fun pre R' hJ w hs => (hNd _ _ hJ w hs).2.1
 have c3 : ∀ pre R', Jc pre R' → CellAt w0 R' b3 0 (.int .i64 (u : Int)) := fun pre R' hJ w hs => (hNd _ _ hJ w hs).2.2.1
 have hnm : ∀ pre R', Jc pre R' → ∀ w1, St w0 R' w1 → Calls Try.prog 101 #[.pointer (some ⟨gn, 0, none⟩)] w1 fun e w' => e = .returned (.int .i64 ((2 + n + m : Nat) : Int)) ∧ Below w1.heap.size w1 w' := fun pre R' hJ w1 hs =>
  nodes'_any RA rc CA cc n m gn w1 (hNd _ _ hJ w1 hs).2.2.2.1 (hNd _ _ hJ w1 hs).2.2.2.2.1 (by omega) (by omega)
 have hmp : ∀ pre R', Jc pre R' → MapAt w0 R' gl pairE (LM L h) := fun pre R' hJ w hs => (hNd _ _ hJ w hs).2.2.2.2.2
 have d1 := c1 _ _ h0
 have n0 := hnm _ _ h0
 refine fn_v tk (n := 29) (A := R) Try.func109 rfl rfl (Nat.le_of_ble_eq_true rfl) hS ?_
 ((conv => whnf); (repeat ((first | (apply VLd.mk; first | exact d1) | (apply VCall.q; kernel_rfl; (focus (intro w1 hs; first | with_reducible apply n0 w1 hs)))); (conv => whnf))); apply VStop.mk)
 refine v_loop (fun gm' ds ts A => ds = [] ∧ ∃ k, k + gm' = 2 + n + m ∧ Jc (succs k L u) A ∧ ts = [(0, .func (.yield l) #[] #[]), (1, .pointer (some ⟨b1, 0, none⟩)), (2, .pointer (some ⟨b2, 0, none⟩)), (3, .pointer (some ⟨b3, 0, none⟩)), (9, .int .i64 ((2 + n + m : Nat) : Int)), (10, .int .i64 (k : Int))]) (2 + n + m)
  (l := [(0, _), (1, _), (2, _), (3, _), (9, _), (10, _)]) (B := _) ?_ (List.Sublist.refl _) ⟨rfl, 0, by omega, h0, rfl⟩ ?_
 ·exact ⟨rfl, rfl, rfl, rfl, rfl, rfl, trivial⟩
 rintro gm' ds ts A ⟨rfl, k, hk, hJ, rfl⟩
 by_cases hlt : k < 2 + n + m
 rotate_left
 ·obtain rfl : k = 2 + n + m := by omega
  (apply tr_v tk; (conv => whnf); (repeat ((first | apply VBr.f | (apply v_f; omega)); (conv => whnf))))
  (apply VRet.mk)
  exact ret0 (by first | exact .inl rfl | exact .inr rfl) rfl fun w hs => hdone _ _ _ hJ hs
 have e1 := c1 _ _ hJ
 have e2 := c2 _ _ hJ
 have e3 := c3 _ _ hJ
 have m1 := hmp _ _ hJ
 have hst := succs_step L u k
 have hlook : LM L h ((u : Int), (k : Int)) = _ := keyM_nat L (intV h) u k
 cases hv : L u k with
 | false =>
  rw [hv, if_neg (by simp)] at hlook hst
  (apply tr_v tk; (conv => whnf); (repeat ((first | (apply VStop.mk; (refine ot_look_no (k := ((u : Int), (k : Int))) hlook pairK mapF zv2 rfl rfl rfl rfl rfl m1 ?_); apply ot_v tk) | (apply VLd.mk; first | exact e1 | exact e2 | exact e3) | (apply VRng.mk; omega) | apply VBr.t | apply VBr.f | (apply v_t; omega)); (conv => whnf))))
  exact v_rnd (gm' - 1) (by omega) (l := [(0, _), (1, _), (2, _), (3, _), (9, _), (10, _)]) (B := _) ⟨rfl, rfl, rfl, rfl, rfl, rfl, trivial⟩ (List.Sublist.refl _) ⟨rfl, k + 1, by omega, by rw [hst]; exact hJ, rfl⟩
 | true =>
  rw [hv, if_pos rfl] at hlook hst
  have hpre := succs_pre L u (2 + n + m) (show k + 1 ≤ 2 + n + m by omega)
  rw [hst] at hpre
  (apply tr_v tk; (conv => whnf); (repeat ((first | (apply VStop.mk; (refine ot_look_yes (k := ((u : Int), (k : Int))) hlook pairK mapF zv2 rfl rfl rfl rfl rfl m1 ?_); apply ot_v tk) | (apply VLd.mk; first | exact e1 | exact e2 | exact e3) | apply VBr.t | (apply v_t; omega)); (conv => whnf))); apply VStop.mk)
  refine ot_yield (B := []) hY rfl rfl rfl rfl rfl (.cons rfl .nil) hpre hJ rfl ?_ ?_
  ·intro R' hJ'
   dsimp only [List.nil_append]
   (apply ot_v tk; (conv => whnf); (repeat ((first | (apply VRng.mk; omega) | apply VBr.t | apply VBr.f); (conv => whnf))))
   exact v_rnd (gm' - 1) (by omega) (l := [(0, _), (1, _), (2, _), (3, _), (9, _), (10, _)]) (B := _) ⟨rfl, rfl, rfl, rfl, rfl, rfl, trivial⟩ (List.Sublist.refl _) ⟨rfl, k + 1, by omega, by rw [hst]; exact hJ', rfl⟩
  ·intro R' hJ'
   dsimp only [List.nil_append]
   (apply ot_v tk; (conv => whnf); (repeat (apply VBr.t; (conv => whnf))))
   (apply VRet.mk)
   exact ret0 (by first | exact .inl rfl | exact .inr rfl) rfl fun w hs => hstop _ _ _ _ hJ' hs
set_option maxRecDepth 20000 in
theorem next_any (w : World) : Calls Try.prog 107 #[.pointer (some ⟨gn, 0, none⟩), .int .i64 (u : Int), .map (some gl)] w fun e w' => ∃ x : Nat × Nat × Nat, e = .returned (.func (.func 109) #[] #[.pointer (some ⟨x.1, 0, none⟩), .pointer (some ⟨x.2.1, 0, none⟩), .pointer (some ⟨x.2.2, 0, none⟩)]) ∧ True ∧ St w [.blk x.1 93 [.pointer (some ⟨gn, 0, none⟩)], .blk x.2.1 101 [.map (some gl)], .blk x.2.2 3 [.int .i64 (u : Int)]] w' := by
 refine fn_v tk (n := 8) (A := []) Try.func107 rfl rfl (Nat.le_of_ble_eq_true rfl) (St.nil (Below.refl _ _)) ?_
 ((conv => whnf); (repeat ((apply VNew.mk; intro g hg); (conv => whnf))))
 (apply VRet.mk)
 refine ret1 (by first | exact .inl rfl | exact .inr rfl) rfl (by exact rv_tmp rfl) ?_
 exact fun w hs => ⟨(_, _, _), rfl, trivial, Pick.st (by ((try dsimp only); repeat (first | exact Pick.nil | ((apply Pick.cons); (focus (repeat (first | exact Rem.here | apply Rem.there)); done))))) hs⟩
end
/-! ## way: what is reached, and from where -/
def natV (l : List Nat) : List Value := l.map fun x : Nat => .int .i64 (x : Int)
structure Bfs (N : Nat) (L : Nat → Nat → Bool) (frm dn todo opn : List Nat) (seen : Nat → Int) (rk : Nat → Nat) : Prop where
 root : ∀ f ∈ frm, seen f = (f : Int) + 1
 mark : ∀ v, v < 10 → seen v ≠ 0 → v ∈ dn ++ todo ∧ (v ∈ frm ∨ ∃ p : Nat, p < N ∧ seen v = (p : Int) + 1 ∧ L p v = true ∧ p ∈ dn ∧ rk p < rk v)
 all : ∀ x ∈ dn ++ todo, x < N ∧ seen x ≠ 0
 nd : (dn ++ todo).Nodup
 shut : ∀ u ∈ dn, u ∉ opn → ∀ v, v < N → L u v = true → seen v ≠ 0
theorem Bfs.pop {N : Nat} {L : Nat → Nat → Bool} {frm dn rest : List Nat} {a : Nat} {seen : Nat → Int} {rk : Nat → Nat} (h : Bfs N L frm dn (a :: rest) [] seen rk) : Bfs N L frm (dn ++ [a]) rest [a] seen rk := by
 have e : (dn ++ [a]) ++ rest = dn ++ a :: rest := by simp
 refine ⟨h.root, fun v hv hs => ?_, by rw [e]; exact h.all, by rw [e]; exact h.nd, fun u hu hn v hv hL => ?_⟩
 ·rw [e]
  obtain ⟨h1, h2⟩ := h.mark v hv hs
  refine ⟨h1, h2.imp id ?_⟩
  rintro ⟨p, p1, p2, p3, p4, p5⟩
  exact ⟨p, p1, p2, p3, List.mem_append_left _ p4, p5⟩
 ·rcases List.mem_append.1 hu with hu | hu
  ·exact h.shut u hu (by simp) v hv hL
  ·exact absurd hu hn
theorem Bfs.see {N : Nat} {L : Nat → Nat → Bool} {frm dn todo : List Nat} {a x : Nat} {seen : Nat → Int} {rk : Nat → Nat} (h : Bfs N L frm dn todo [a] seen rk) (ha : a ∈ dn) (hx : x < N) (h0 : seen x = 0) (hL : L a x = true) :
  Bfs N L frm dn (todo ++ [x]) [a] (fun v => if v = x then (a : Int) + 1 else seen v) (fun v => if v = x then rk a + 1 else rk v) := by
 have hne : ∀ y ∈ dn ++ todo, y ≠ x := fun y hy e => (h.all y hy).2 (by rw [e]; exact h0)
 have haN := (h.all a (List.mem_append_left _ ha)).1
 have hax := hne a (List.mem_append_left _ ha)
 refine ⟨fun f hf => ?_, fun v hv hs => ?_, fun y hy => ?_, ?_, fun u hu hn v hv hL' => ?_⟩
 ·have := h.root f hf
  rw [if_neg (by rintro rfl; omega)]
  exact this
 ·by_cases hvx : v = x
  ·subst hvx
   rw [if_pos rfl]
   refine ⟨by simp, .inr ⟨a, haN, rfl, hL, ha, ?_⟩⟩
   rw [if_neg hax, if_pos rfl]; omega
  ·rw [if_neg hvx] at hs ⊢
   obtain ⟨h1, h2⟩ := h.mark v hv hs
   refine ⟨by rw [← List.append_assoc]; exact List.mem_append_left _ h1, h2.imp id ?_⟩
   rintro ⟨p, p1, p2, p3, p4, p5⟩
   refine ⟨p, p1, p2, p3, p4, ?_⟩
   rw [if_neg (hne p (List.mem_append_left _ p4)), if_neg hvx]
   exact p5
 ·rw [← List.append_assoc, List.mem_append, List.mem_singleton] at hy
  rcases hy with hy | rfl
  ·rw [if_neg (hne y hy)]; exact h.all y hy
  ·rw [if_pos rfl]; exact ⟨hx, by omega⟩
 ·rw [← List.append_assoc]
  exact List.nodup_append.2 ⟨h.nd, by simp, fun p hp q hq e => by
   rw [List.mem_singleton] at hq
   exact hne p hp (by rw [e, hq])⟩
 ·split
  ·omega
  ·exact h.shut u hu hn v hv hL'
theorem Bfs.close {N : Nat} {L : Nat → Nat → Bool} {frm dn todo : List Nat} {a : Nat} {seen : Nat → Int} {rk : Nat → Nat} (h : Bfs N L frm dn todo [a] seen rk) (hall : ∀ v ∈ succs N L a, seen v ≠ 0) : Bfs N L frm dn todo [] seen rk :=
 ⟨h.root, h.mark, h.all, h.nd, fun u hu _ v hv hL => by
  by_cases e : u = a
  ·subst e; exact hall v (List.mem_filter.2 ⟨List.mem_range.2 hv, hL⟩)
  ·exact h.shut u hu (by simpa using e) v hv hL⟩
theorem Bfs.len {N : Nat} {L : Nat → Nat → Bool} {frm dn todo opn : List Nat} {seen : Nat → Int} {rk : Nat → Nat} (h : Bfs N L frm dn todo opn seen rk) : dn.length + todo.length ≤ N := by
 have := List.Nodup.length_le_of_subset h.nd (l₂ := List.range N) fun x hx => List.mem_range.2 (h.all x hx).1
 simpa using this
/-- What way returns. -/
def WayOK (N : Nat) (L : Nat → Nat → Bool) (frm : List Nat) (seen : Nat → Int) : Prop :=
 ∃ rk : Nat → Nat, (∀ f ∈ frm, seen f = (f : Int) + 1) ∧ (∀ v, v < N → seen v ≠ 0 → v ∈ frm ∨ ∃ p : Nat, p < N ∧ seen v = (p : Int) + 1 ∧ L p v = true ∧ seen p ≠ 0 ∧ rk p < rk v) ∧ (∀ u v, u < N → v < N → seen u ≠ 0 → L u v = true → seen v ≠ 0) ∧ ∀ v, v < 10 → N ≤ v → seen v = 0
theorem Bfs.done {N : Nat} {L : Nat → Nat → Bool} {frm dn : List Nat} {seen : Nat → Int} {rk : Nat → Nat} (hN : N ≤ 10) (h : Bfs N L frm dn [] [] seen rk) : WayOK N L frm seen := by
 refine ⟨rk, h.root, fun v hv hs => ?_, fun u v hu hv hs hL => ?_, fun v hv hN' => ?_⟩
 ·refine (h.mark v (by omega) hs).2.imp id ?_
  rintro ⟨p, p1, p2, p3, p4, p5⟩
  exact ⟨p, p1, p2, p3, (h.all p (List.mem_append_left _ p4)).2, p5⟩
 ·have := (h.mark u (by omega) hs).1
  rw [List.append_nil] at this
  exact h.shut u this (by simp) v hv hL
 ·exact Decidable.byContradiction fun hs => by
   have h1 := (h.mark v hv hs).1
   have := (h.all v h1).1
   omega
theorem ret1_many {P : Program} {w0 : World} {n : Nat} {ts : TS} {Ds : List Nat} {P1 : List Chunk} {fn : Func} {R : Ending → World → Prop} {e : Exit} {r1 : ResultVar} {v1 : Value} (he : e = .normal ∨ e = .ret) (hr : fn.results = #[r1]) (g1 : RV P w0 ts (P1 ++ Ds.map objN) r1 v1) (hR : ∀ w, St w0 (P1 ++ Ds.map objN) w → R (.returned v1) w) :
  RetOK P w0 n fn R e (Ds.map colD) ts (P1 ++ Ds.map objD) := by
 have := (ret1 (P := P) (n := n) he hr g1 hR).2
 have h2 := leave_many (P := P) (w0 := w0) (n := n) (fn := fn) (R := R) (ts := ts) Ds P1 [] (by rw [List.append_nil]; exact this)
 rw [List.append_nil] at h2
 exact ⟨he, h2⟩
def lessM (L : Nat → Nat → Bool) (p q : Nat) (u v : Nat) : Bool := (L u v && !decide (u = p ∧ v = q)) && !decide (u = q ∧ v = p)
section
variable {P : Program} {tab : TT} {w0 : World} {n : Nat} {ds : List Deferred} {ops : List Oper} {o : Oper} {os : List Oper} {ks : List Kind} {ts : TS} {A : List Chunk} {K : TS → List Chunk → Prop} {d : Tmp} {x y : Operand} {t u : TypeId} {i : TI}
theorem ot_eqnil {B : Option Addr} {l c e : Nat} (hT : TabOk P tab) (hop : o.op = .binOp .eql t x y u) (hd : o.dst = some d) (hw : wantB ops ts o = some true) (hx : evT ts x = some (.slice B l c)) (hy : evT ts y = some (.slice none 0 0)) (hi : lookI tab t = some i) (hdd : i.d = .sl e)
  (hk : OT P w0 n ds ops os ks.tail ((d, .bool B.isNone) :: ts) A K) : OT P w0 n ds ops (o :: os) ks ts A K :=
 ot_val _ hd hw (fun a w hd' => by
  have h1 := (hT t i hi).sl hdd
  have e0 := run_equal_slice_nil w t e B l c h1
  have e1 : (eqGuard .eql t x y (.slice B l c) (.slice none 0 0)).run P w = .ok () w := by simp [eqGuard, Sem.run_bind]
  have e2 : (binOp .eql t (.slice B l c) (.slice none 0 0)).run P w = .ok (.bool B.isNone) w := by simp [binOp, e0]
  simp only [execOp, hop, hd'.ev hx, hd'.ev hy, Sem.run_bind, e1, e2, Result.andThen_ok, Sem.run_pure]) hk
theorem ot_st {B : List Chunk} (hh : ks.headD .wr = .wr) (hp : ∀ w, St w0 A w → St w0 B w) (h : OT P w0 n ds ops (o :: os) ks ts B K) : OT P w0 n ds ops (o :: os) ks ts A K := by
 unfold OT at h ⊢
 rw [hh] at h ⊢
 exact fun a w hd => h a w ⟨hd.size, hd.slots, hd.ds, hp w hd.st⟩
end
set_option maxRecDepth 20000 in
theorem clone_any (a : Addr) (c : Nat) (l : List Nat) (w : World) (h : Reads w w.heap.size 1 (some a) l.length (natV l)) (hl : l.length ≤ 1000) :
  Calls Try.prog 106 #[.slice (some a) l.length c] w (OwnRet 3 1 l.length (natV l) w) := by
 refine fn_v tk (n := 8) (A := []) Try.func106 rfl rfl (Nat.le_of_ble_eq_true rfl) (St.nil (Below.refl _ _)) ?_
 ((conv => whnf); (repeat ((first | (apply VStop.mk; (refine ot_eqnil tk rfl rfl rfl rfl rfl rfl rfl ?_); apply ot_v tk) | apply VBr.f | (apply VNew.mk; intro g hg)); (conv => whnf))); apply VStop.mk)
 refine ot_st (B := [.own (.slice (some ⟨g, 0, none⟩) 0 0) 3 1 0 []]) rfl (fun w hs => hs.blk_own (sz := 1) rfl (Nat.zero_le _)) ?_
 refine ot_appendR (sz := 1) (A'v := fun v' => [.own v' 3 1 _ _]) tk rfl rfl rfl rfl rfl rfl rfl rfl rfl rfl (by decide) rfl (fun w1 hs => hs.reads h) (fun u hu => ?_) (fun v' => by (repeat (first | exact Upd.here | apply Upd.there))) (by omega) (by decide) (fun v' => ?_)
 ·unfold natV at hu
  obtain ⟨x, _, rfl⟩ := List.mem_map.1 hu
  rfl
 apply ot_v tk
 ((conv => whnf))
 (apply VRet.mk)
 refine ret1 (.inr rfl) rfl (by exact rv_tmp rfl) fun w' hs => ?_
 rw [Nat.zero_add, List.nil_append] at hs
 exact own_ret hs (.head _)
end Go.Proofs.Ytalcccgialpjgaa
