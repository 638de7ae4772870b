/- Lines: lemmas for the rows of this seat. No conditions. -/
import Derived.Test.YtojeeindlijgkaaGreatDoorTab
import Derived.Test.YtojeeindlijgkaaGreatDoorV8
set_option linter.all false
namespace Go.Proofs.YtojeeindlijgkaaGreatDoor
open Go.RowKit
/-! ## Lines -/
/-- Layer 1: a line of a book. -/
structure Ln where
 st : Int
 ck : Int
 kd : Int
 th : Int
 vl : Int
theorem Ln.ext' {a b : Ln} (h1 : a.st = b.st) (h2 : a.ck = b.ck) (h3 : a.kd = b.kd) (h4 : a.th = b.th) (h5 : a.vl = b.vl) : a = b := by
 cases a; cases b; simp_all
instance lnDec : DecidableEq Ln := fun a b => if h : a.st = b.st ∧ a.ck = b.ck ∧ a.kd = b.kd ∧ a.th = b.th ∧ a.vl = b.vl then isTrue (Ln.ext' h.1 h.2.1 h.2.2.1 h.2.2.2.1 h.2.2.2.2) else isFalse fun e => h (by subst e; exact ⟨rfl, rfl, rfl, rfl, rfl⟩)
def lnL (x : Ln) : List Value := [.int .i64 x.st, .int .i64 x.ck, .int .i64 x.kd, .int .i64 x.th, .int .i64 x.vl]
def lnV (x : Ln) : Value := .agg #[.int .i64 x.st, .int .i64 x.ck, .int .i64 x.kd, .int .i64 x.th, .int .i64 x.vl]
def lnC : List Ln → List Value
 | [] => []
 | x :: l => lnL x ++ lnC l
theorem lnC_append (l m : List Ln) : lnC (l ++ m) = lnC l ++ lnC m := by
 induction l with
 | nil => rfl
 | cons x l ih => simp [lnC, ih]
theorem lnC_snoc (l : List Ln) (x : Ln) : lnC (l ++ [x]) = lnC l ++ lnL x := by rw [lnC_append]; show lnC l ++ (lnL x ++ []) = _; rw [List.append_nil]
theorem lnC_length (l : List Ln) : (lnC l).length = l.length * 5 := by
 induction l with
 | nil => rfl
 | cons x l ih => simp [lnC, lnL, ih]; omega
theorem lnC_one (l : List Ln) : ∀ u ∈ lnC l, u.oneCell' = true := by
 induction l with
 | nil => simp [lnC]
 | cons x l ih =>
  intro u hu
  simp only [lnC, lnL, List.cons_append, List.nil_append, List.mem_cons] at hu
  rcases hu with rfl | rfl | rfl | rfl | rfl | hu
  ·rfl
  ·rfl
  ·rfl
  ·rfl
  ·rfl
  ·exact ih u hu
def lnAt (l : List Ln) (k : Nat) : Ln := l[k]?.getD ⟨0, 0, 0, 0, 0⟩
theorem lnAt_get {l : List Ln} {k : Nat} (h : k < l.length) : lnAt l k = l[k] := by unfold lnAt; rw [List.getElem?_eq_getElem h]; rfl
theorem lnC_get (l : List Ln) (k : Nat) (hk : k < l.length) (j : Nat) (hj : j < 5) : (lnC l)[k * 5 + j]? = (lnL (lnAt l k))[j]? := by
 induction l generalizing k with
 | nil => simp at hk
 | cons x l ih =>
  cases k with
  | zero =>
   simp only [lnC, Nat.zero_mul, Nat.zero_add]
   rw [List.getElem?_append_left (by simp [lnL]; omega)]
   rfl
  | succ k =>
   rw [show (k + 1) * 5 + j = 5 + (k * 5 + j) by omega, lnC, List.getElem?_append_right (by simp [lnL]), show 5 + (k * 5 + j) - (lnL x).length = k * 5 + j by simp [lnL]]
   rw [ih k (by simpa using hk)]
   rfl
/-- A book, read. -/
def BookR (w : World) (B : Option Addr) (l : List Ln) : Prop := Reads w w.heap.size 5 B l.length (lnC l)
theorem St.book {w0 w : World} {A : List Chunk} (hs : St w0 A w) {B : Option Addr} {l : List Ln} (h : BookR w0 B l) : BookR w B l := hs.reads h
theorem ln_cells {w : World} {b o : Nat} {l : List Ln} (h : BookR w (some ⟨b, o, none⟩) l) {k : Nat} (hk : k < l.length) (A : List Chunk) : CellsAt w A b (o + k * 5) (lnL (lnAt l k)) := by
 obtain ⟨b', o', he, hb, h1⟩ := h.2 (by omega)
 cases he
 intro w' hs j u hu
 have hj : j < 5 := (List.getElem?_eq_some_iff.1 hu).1
 rw [Nat.add_assoc, hs.base.cell (p := ⟨b, o + (k * 5 + j), none⟩) hb]
 exact h1 _ u (by rw [lnC_get l k hk j hj]; exact hu)
theorem ln_cell {w : World} {b o : Nat} {l : List Ln} (h : BookR w (some ⟨b, o, none⟩) l) {k : Nat} (hk : k < l.length) (j : Nat) {v : Value} (hv : (lnL (lnAt l k))[j]? = some v) (A : List Chunk) : CellAt w A b (o + k * 5 + j) v := fun w' hs => ln_cells h hk A w' hs j v hv
theorem book_addr {w : World} {B : Option Addr} {l : List Ln} (h : BookR w B l) {k : Nat} (hk : k < l.length) : ∃ b o, B = some ⟨b, o, none⟩ := by
 obtain ⟨b, o, e, _⟩ := h.2 (by omega)
 exact ⟨b, o, e⟩
/-! ## Valid lines -/
def inB (n lo hi : Int) : Bool := decide (lo ≤ n) && decide (n ≤ hi)
theorem inB_iff {n lo hi : Int} : inB n lo hi = true ↔ lo ≤ n ∧ n ≤ hi := by unfold inB; simp
theorem inB_not {n lo hi : Int} : inB n lo hi = false ↔ n < lo ∨ hi < n := by
 rw [← Bool.not_eq_true, inB_iff]; omega
def leastV (k : Int) : Int := if k = 1 then -1000 else 0
def isLine (x : Ln) : Bool := inB x.st 1 999 && inB x.ck 0 2 && inB x.kd 1 2 && inB x.th 0 7 && inB x.vl (leastV x.kd) 1000
def before (a b : Ln) : Bool := decide (a.st < b.st) || (decide (a.st = b.st) && decide (a.ck < b.ck))
theorem before_iff {a b : Ln} : before a b = true ↔ a.st < b.st ∨ (a.st = b.st ∧ a.ck < b.ck) := by unfold before; simp
/-- A book's lines, one by one, behind one. -/
def badP (p : Option Ln) (x : Ln) : Bool := match p with
 | none => false
 | some y => !before y x
def chkS (p : Option Ln) : List Ln → Int
 | [] => 0
 | x :: l => if isLine x = false then 3 else if badP p x = true then 16 else chkS (some x) l
def chkBook (l : List Ln) : Int := if 20 < l.length then 6 else chkS none l
def prevOf (l : List Ln) (j : Nat) : Option Ln := if j = 0 then none else some (lnAt l (j - 1))
theorem prevOf_succ (l : List Ln) (j : Nat) : prevOf l (j + 1) = some (lnAt l j) := by unfold prevOf; rw [if_neg (by omega)]; rfl
theorem chkS_step {l : List Ln} {j : Nat} (h : j < l.length) : chkS (prevOf l j) (l.drop j) = if isLine (lnAt l j) = false then 3 else if badP (prevOf l j) (lnAt l j) = true then 16 else chkS (prevOf l (j + 1)) (l.drop (j + 1)) := by
 rw [List.drop_eq_getElem_cons h, chkS, ← lnAt_get h, prevOf_succ]
theorem chkS_end (l : List Ln) (p : Option Ln) : chkS p (l.drop l.length) = 0 := by rw [List.drop_length]; rfl
theorem chkS_bad {l : List Ln} {j : Nat} {z : Int} (hz : z = chkS (prevOf l j) (l.drop j)) (h : j < l.length) (hi : isLine (lnAt l j) = false) : z = 3 := by rw [hz, chkS_step h, if_pos hi]
theorem chkS_rule {l : List Ln} {j : Nat} {z : Int} (hz : z = chkS (prevOf l j) (l.drop j)) (h : j < l.length) (hi : isLine (lnAt l j) = true) (hb : badP (prevOf l j) (lnAt l j) = true) : z = 16 := by rw [hz, chkS_step h, if_neg (by rw [hi]; decide), if_pos hb]
theorem chkS_next {l : List Ln} {j : Nat} {z : Int} (hz : z = chkS (prevOf l j) (l.drop j)) (h : j < l.length) (hi : isLine (lnAt l j) = true) (hb : badP (prevOf l j) (lnAt l j) = false) : z = chkS (prevOf l (j + 1)) (l.drop (j + 1)) := by rw [hz, chkS_step h, if_neg (by rw [hi]; decide), if_neg (by rw [hb]; decide)]
theorem is_any (n lo hi : Int) (w : World) : Calls Tryz.prog 57 #[.int .i64 n, .int .i64 lo, .int .i64 hi] w fun e w' => e = .returned (.bool (inB n lo hi)) ∧ Below w.heap.size w w' := by
 have hb : inB n lo hi = (decide (lo ≤ n) && decide (n ≤ hi)) := rfl
 refine fn_v tk (n := 15) (A := []) Tryz.func57 rfl rfl (Nat.le_of_ble_eq_true rfl) (St.nil (Below.refl _ _)) ?_
 by_cases e1 : lo ≤ n
 ·rw [decide_eq_true e1, Bool.true_and] at hb
  ((conv => whnf); (repeat ((first | apply VBr.t | (apply v_t; omega) | apply v_d); (conv => whnf))))
  (apply VRet.mk)
  refine ret1 (by first | exact .inl rfl | exact .inr rfl) rfl (by exact rv_tmp rfl) ?_
  exact fun w h => ⟨by rw [hb], h.base⟩
 ·rw [decide_eq_false e1, Bool.false_and] at hb
  ((conv => whnf); (repeat ((first | apply VBr.f | (apply v_f; omega)); (conv => whnf))))
  (apply VRet.mk)
  refine ret1 (by first | exact .inl rfl | exact .inr rfl) rfl (by exact rv_tmp rfl) ?_
  exact fun w h => ⟨by rw [hb], h.base⟩
theorem isLine_any (x : Ln) (w : World) : Calls Tryz.prog 60 #[lnV x] w fun e w' => e = .returned (.bool (isLine x)) ∧ Below w.heap.size w w' := by
 obtain ⟨st, ck, kd, th, vl⟩ := x
 have hi := fun (n lo hi : Int) w1 => is_any n lo hi w1
 unfold lnV isLine
 dsimp only
 have k1 := fun w1 => hi st 1 999 w1
 have k2 := fun w1 => hi ck 0 2 w1
 have k3 := fun w1 => hi kd 1 2 w1
 have k4 := fun w1 => hi th 0 7 w1
 clear hi
 have hb := inB_iff (n := vl) (lo := leastV kd) (hi := 1000)
 have hb' := inB_not (n := vl) (lo := leastV kd) (hi := 1000)
 have hk : inB kd 1 2 = true → kd = 1 ∨ kd = 2 := fun h => by have := inB_iff.1 h; omega
 generalize inB st 1 999 = a1 at *
 generalize inB ck 0 2 = a2 at *
 generalize inB kd 1 2 = a3 at *
 generalize inB th 0 7 = a4 at *
 refine fn_v tk (n := 38) (A := []) Tryz.func60 rfl rfl (Nat.le_of_ble_eq_true rfl) (St.nil (Below.refl _ _)) ?_
 cases a1
 ·((conv => whnf); (repeat ((first | (apply VCall.q; kernel_rfl; (focus (intro w1 hs; first | with_reducible apply k1 w1))) | (apply VLd.mk; (focus ((repeat (first | ((with_reducible apply ld_blk); exact rfl) | (with_reducible apply ld_skip))); done))) | apply VBr.t | (apply VNew.mk; intro g hg)); (conv => whnf))))
  ((apply VRet.mk); refine ret1 (by first | exact .inl rfl | exact .inr rfl) rfl (by exact rv_tmp rfl) ?_; exact fun w h => ⟨rfl, h.base⟩)
 cases a2
 ·((conv => whnf); (repeat ((first | (apply VCall.q; kernel_rfl; (focus (intro w1 hs; first | with_reducible apply k1 w1 | with_reducible apply k2 w1))) | (apply VLd.mk; (focus ((repeat (first | ((with_reducible apply ld_blk); exact rfl) | (with_reducible apply ld_skip))); done))) | apply VBr.t | apply VBr.f | (apply VNew.mk; intro g hg)); (conv => whnf))))
  ((apply VRet.mk); refine ret1 (by first | exact .inl rfl | exact .inr rfl) rfl (by exact rv_tmp rfl) ?_; exact fun w h => ⟨rfl, h.base⟩)
 cases a3
 ·((conv => whnf); (repeat ((first | (apply VCall.q; kernel_rfl; (focus (intro w1 hs; first | with_reducible apply k1 w1 | with_reducible apply k2 w1 | with_reducible apply k3 w1))) | (apply VLd.mk; (focus ((repeat (first | ((with_reducible apply ld_blk); exact rfl) | (with_reducible apply ld_skip))); done))) | apply VBr.t | apply VBr.f | (apply VNew.mk; intro g hg)); (conv => whnf))))
  ((apply VRet.mk); refine ret1 (by first | exact .inl rfl | exact .inr rfl) rfl (by exact rv_tmp rfl) ?_; exact fun w h => ⟨rfl, h.base⟩)
 cases a4
 ·((conv => whnf); (repeat ((first | (apply VCall.q; kernel_rfl; (focus (intro w1 hs; first | with_reducible apply k1 w1 | with_reducible apply k2 w1 | with_reducible apply k3 w1 | with_reducible apply k4 w1))) | (apply VLd.mk; (focus ((repeat (first | ((with_reducible apply ld_blk); exact rfl) | (with_reducible apply ld_skip))); done))) | apply VBr.t | apply VBr.f | (apply VNew.mk; intro g hg)); (conv => whnf))))
  ((apply VRet.mk); refine ret1 (by first | exact .inl rfl | exact .inr rfl) rfl (by exact rv_tmp rfl) ?_; exact fun w h => ⟨rfl, h.base⟩)
 simp only [Bool.true_and]
 unfold leastV at *
 rcases hk rfl with rfl | rfl
 ·rw [if_pos rfl] at *
  cases hv : inB vl (-1000) 1000
  ·rcases hb'.1 hv with h | h
   ·((conv => whnf); (repeat ((first | (apply VCall.q; kernel_rfl; (focus (intro w1 hs; first | with_reducible apply k1 w1 | with_reducible apply k2 w1 | with_reducible apply k3 w1 | with_reducible apply k4 w1))) | (apply VLd.mk; (focus ((repeat (first | ((with_reducible apply ld_blk); exact rfl) | (with_reducible apply ld_skip))); done))) | apply VBr.t | apply VBr.f | (apply v_t; omega) | (apply v_f; omega) | (apply VNew.mk; intro g hg)); (conv => whnf))))
    ((apply VRet.mk); refine ret1 (by first | exact .inl rfl | exact .inr rfl) rfl (by exact rv_tmp rfl) ?_; exact fun w h => ⟨rfl, h.base⟩)
   ·((conv => whnf); (repeat ((first | (apply VCall.q; kernel_rfl; (focus (intro w1 hs; first | with_reducible apply k1 w1 | with_reducible apply k2 w1 | with_reducible apply k3 w1 | with_reducible apply k4 w1))) | (apply VLd.mk; (focus ((repeat (first | ((with_reducible apply ld_blk); exact rfl) | (with_reducible apply ld_skip))); done))) | apply VBr.t | apply VBr.f | (apply v_t; omega) | (apply v_f; omega) | (apply VNew.mk; intro g hg)); (conv => whnf))))
    ((apply VRet.mk); refine ret1 (by first | exact .inl rfl | exact .inr rfl) rfl (by exact rv_tmp rfl) ?_; exact fun w h => ⟨rfl, h.base⟩)
  ·have := hb.1 hv
   ((conv => whnf); (repeat ((first | (apply VCall.q; kernel_rfl; (focus (intro w1 hs; first | with_reducible apply k1 w1 | with_reducible apply k2 w1 | with_reducible apply k3 w1 | with_reducible apply k4 w1))) | (apply VLd.mk; (focus ((repeat (first | ((with_reducible apply ld_blk); exact rfl) | (with_reducible apply ld_skip))); done))) | apply VBr.t | apply VBr.f | (apply v_t; omega) | (apply VNew.mk; intro g hg)); (conv => whnf))))
   ((apply VRet.mk); refine ret1 (by first | exact .inl rfl | exact .inr rfl) rfl (by exact rv_tmp rfl) ?_; exact fun w h => ⟨rfl, h.base⟩)
 ·rw [if_neg (by decide)] at *
  cases hv : inB vl 0 1000
  ·rcases hb'.1 hv with h | h
   ·((conv => whnf); (repeat ((first | (apply VCall.q; kernel_rfl; (focus (intro w1 hs; first | with_reducible apply k1 w1 | with_reducible apply k2 w1 | with_reducible apply k3 w1 | with_reducible apply k4 w1))) | (apply VLd.mk; (focus ((repeat (first | ((with_reducible apply ld_blk); exact rfl) | (with_reducible apply ld_skip))); done))) | apply VBr.f | (apply v_f; omega) | (apply VNew.mk; intro g hg)); (conv => whnf))))
    ((apply VRet.mk); refine ret1 (by first | exact .inl rfl | exact .inr rfl) rfl (by exact rv_tmp rfl) ?_; exact fun w h => ⟨rfl, h.base⟩)
   ·((conv => whnf); (repeat ((first | (apply VCall.q; kernel_rfl; (focus (intro w1 hs; first | with_reducible apply k1 w1 | with_reducible apply k2 w1 | with_reducible apply k3 w1 | with_reducible apply k4 w1))) | (apply VLd.mk; (focus ((repeat (first | ((with_reducible apply ld_blk); exact rfl) | (with_reducible apply ld_skip))); done))) | apply VBr.t | apply VBr.f | (apply v_t; omega) | (apply v_f; omega) | (apply VNew.mk; intro g hg)); (conv => whnf))))
    ((apply VRet.mk); refine ret1 (by first | exact .inl rfl | exact .inr rfl) rfl (by exact rv_tmp rfl) ?_; exact fun w h => ⟨rfl, h.base⟩)
  ·have := hb.1 hv
   ((conv => whnf); (repeat ((first | (apply VCall.q; kernel_rfl; (focus (intro w1 hs; first | with_reducible apply k1 w1 | with_reducible apply k2 w1 | with_reducible apply k3 w1 | with_reducible apply k4 w1))) | (apply VLd.mk; (focus ((repeat (first | ((with_reducible apply ld_blk); exact rfl) | (with_reducible apply ld_skip))); done))) | apply VBr.t | apply VBr.f | (apply v_t; omega) | (apply v_f; omega) | (apply VNew.mk; intro g hg)); (conv => whnf))))
   ((apply VRet.mk); refine ret1 (by first | exact .inl rfl | exact .inr rfl) rfl (by exact rv_tmp rfl) ?_; exact fun w h => ⟨rfl, h.base⟩)
theorem before_any (x y : Ln) (w : World) : Calls Tryz.prog 61 #[lnV x, lnV y] w fun e w' => e = .returned (.bool (before x y)) ∧ Below w.heap.size w w' := by
 obtain ⟨st, ck, kd, th, vl⟩ := x
 obtain ⟨st', ck', kd', th', vl'⟩ := y
 unfold lnV
 have hb : before ⟨st, ck, kd, th, vl⟩ ⟨st', ck', kd', th', vl'⟩ = (decide (st < st') || (decide (st = st') && decide (ck < ck'))) := rfl
 rw [hb]
 dsimp only
 refine fn_v tk (n := 24) (A := []) Tryz.func61 rfl rfl (Nat.le_of_ble_eq_true rfl) (St.nil (Below.refl _ _)) ?_
 by_cases e1 : st < st'
 ·rw [decide_eq_true e1, Bool.true_or]
  ((conv => whnf); (repeat ((first | (apply VLd.mk; (focus ((repeat (first | ((with_reducible apply ld_blk); exact rfl) | (with_reducible apply ld_skip))); done))) | apply VBr.t | (apply v_t; omega) | (apply VNew.mk; intro g hg)); (conv => whnf))))
  ((apply VRet.mk); refine ret1 (by first | exact .inl rfl | exact .inr rfl) rfl (by exact rv_tmp rfl) ?_; exact fun w h => ⟨rfl, h.base⟩)
 rw [decide_eq_false e1, Bool.false_or]
 by_cases e2 : st = st'
 ·rw [decide_eq_true e2, Bool.true_and]
  by_cases e3 : ck < ck'
  ·rw [decide_eq_true e3]
   ((conv => whnf); (repeat ((first | (apply VLd.mk; (focus ((repeat (first | ((with_reducible apply ld_blk); exact rfl) | (with_reducible apply ld_skip))); done))) | apply VBr.t | apply VBr.f | (apply v_t; omega) | (apply v_f; omega) | (apply VNew.mk; intro g hg)); (conv => whnf))))
   ((apply VRet.mk); refine ret1 (by first | exact .inl rfl | exact .inr rfl) rfl (by exact rv_tmp rfl) ?_; exact fun w h => ⟨rfl, h.base⟩)
  ·rw [decide_eq_false e3]
   ((conv => whnf); (repeat ((first | (apply VLd.mk; (focus ((repeat (first | ((with_reducible apply ld_blk); exact rfl) | (with_reducible apply ld_skip))); done))) | apply VBr.t | apply VBr.f | (apply v_t; omega) | (apply v_f; omega) | (apply VNew.mk; intro g hg)); (conv => whnf))))
   ((apply VRet.mk); refine ret1 (by first | exact .inl rfl | exact .inr rfl) rfl (by exact rv_tmp rfl) ?_; exact fun w h => ⟨rfl, h.base⟩)
 ·rw [decide_eq_false e2, Bool.false_and]
  ((conv => whnf); (repeat ((first | (apply VLd.mk; (focus ((repeat (first | ((with_reducible apply ld_blk); exact rfl) | (with_reducible apply ld_skip))); done))) | apply VBr.f | (apply v_f; omega) | (apply VNew.mk; intro g hg)); (conv => whnf))))
  ((apply VRet.mk); refine ret1 (by first | exact .inl rfl | exact .inr rfl) rfl (by exact rv_tmp rfl) ?_; exact fun w h => ⟨rfl, h.base⟩)
theorem refCheck_any (B : Option Addr) (c : Nat) (l : List Ln) (w : World) (h : BookR w B l) (hm : l.length ≤ maxLen) : Calls Tryz.prog 22 #[.agg #[.slice B l.length c]] w fun e w' => e = .returned (.int .i64 (chkBook l)) ∧ Below w.heap.size w w' := by
 unfold maxLen at hm
 refine fn_v tk (n := 39) (A := []) Tryz.func22 rfl rfl (Nat.le_of_ble_eq_true rfl) (St.nil (Below.refl _ _)) ?_
 by_cases h20 : 20 < l.length
 ·have e : chkBook l = 6 := if_pos h20
  rw [e]
  ((conv => whnf); (repeat ((first | (apply VLd.mk; (focus ((repeat (first | ((with_reducible apply ld_blk); exact rfl) | (with_reducible apply ld_skip))); done))) | apply VBr.t | (apply v_t; omega) | (apply VNew.mk; intro g hg)); (conv => whnf))))
  ((apply VRet.mk); refine ret1 (by first | exact .inl rfl | exact .inr rfl) rfl (by exact rv_tmp rfl) ?_; exact fun w h => ⟨rfl, h.base⟩)
 obtain ⟨z, hz⟩ : ∃ z, z = chkBook l := ⟨_, rfl⟩
 rw [← hz]
 replace hz : z = chkS (prevOf l 0) (l.drop 0) := hz.trans (if_neg h20)
 ((conv => whnf); (repeat ((first | (apply VLd.mk; (focus ((repeat (first | ((with_reducible apply ld_blk); exact rfl) | (with_reducible apply ld_skip))); done))) | apply VBr.f | (apply v_f; omega) | (apply VNew.mk; intro g hg)); (conv => whnf))); apply VStop.mk)
 revert g hg
 intro g1 hg1
 refine v_loop (fun gm ds ts A => ds = [] ∧ A = [.blk g1 24 [.slice B l.length c]] ∧ ∃ j : Nat, j + gm = l.length ∧ z = chkS (prevOf l j) (l.drop j) ∧ ts = [(1, .pointer (some ⟨g1, 0, none⟩)), (3, .int .i64 (j : Int))]) l.length (l := [(1, _), (3, _)]) (B := _) ?_ (List.Sublist.refl _) ⟨rfl, rfl, 0, by omega, hz, rfl⟩ ?_
 ·exact ⟨rfl, rfl, trivial⟩
 clear hz
 rintro gm ds ts A ⟨rfl, rfl, j, hj, hz, rfl⟩
 by_cases hlt : j < l.length
 ·obtain ⟨b, o, rfl⟩ := book_addr h hlt
  have c1 := fun A => ln_cells h hlt A
  have ki := fun w1 => isLine_any (lnAt l j) w1
  unfold lnV at ki
  unfold lnL at c1
  cases hi : isLine (lnAt l j)
  ·rw [hi] at ki
   obtain rfl := chkS_bad hz hlt hi
   (apply tr_v tk; (conv => whnf); (repeat ((first | (apply VLdN.mk; exact c1 _; exact rfl) | (apply VIx.mk (j := j); exact rfl; omega) | (apply VCall.q; kernel_rfl; (focus (intro w1 hs; first | with_reducible apply ki w1))) | (apply VLd.mk; (focus ((repeat (first | ((with_reducible apply ld_blk); exact rfl) | (with_reducible apply ld_skip))); done))) | apply VBr.t | (apply v_t; omega)); (conv => whnf))))
   ((apply VRet.mk); refine ret1 (by first | exact .inl rfl | exact .inr rfl) rfl (by exact rv_tmp rfl) ?_; exact fun w h => ⟨rfl, h.base⟩)
  rw [hi] at ki
  have h1 := chkS_rule hz hlt hi
  have h2 := chkS_next hz hlt hi
  clear hz
  cases j with
  | zero =>
   have hz := h2 rfl
   clear h1 h2
   (apply tr_v tk; (conv => whnf); (repeat ((first | ((first | apply VStop.mk | apply VCall.stop); refine tr_region_lex (id := 8) (by kernel_rfl) [.rd, .rd, .rd, .rd, .rd, .rd, .rd, .rd, .rd, .rd, .rd, .rd, .rd, .rd, .cr, .rd, .rd] rfl (by kernel_rfl) ?_; apply ot_v tk) | (apply VLdN.mk; exact c1 _; exact rfl) | (apply VIx.mk (j := 0); exact rfl; omega) | (apply VCall.q; kernel_rfl; (focus (intro w1 hs; first | with_reducible apply ki w1))) | (apply VLd.mk; (focus ((repeat (first | ((with_reducible apply ld_blk); exact rfl) | (with_reducible apply ld_skip))); done))) | (apply VRng.mk; omega) | apply VBr.t | apply VBr.f | (apply v_t; omega) | (apply v_f; omega)); (conv => whnf))))
   exact v_rnd (gm - 1) (by omega) (l := [(1, _), (3, _)]) (B := _) ⟨rfl, rfl, trivial⟩ (List.Sublist.refl _) ⟨rfl, rfl, 0 + 1, by omega, hz, rfl⟩
  | succ j =>
   rw [prevOf_succ] at h1 h2
   have c2 := fun A => ln_cells h (show j < l.length by omega) A
   have kb := fun w1 => before_any (lnAt l j) (lnAt l (j + 1)) w1
   unfold lnL at c2
   unfold lnV at kb
   have hbp : badP (some (lnAt l j)) (lnAt l (j + 1)) = !before (lnAt l j) (lnAt l (j + 1)) := rfl
   rw [hbp] at h1 h2
   clear hbp
   generalize before (lnAt l j) (lnAt l (j + 1)) = bb at *
   generalize lnAt l (j + 1) = x at *
   generalize lnAt l j = y at *
   cases bb
   ·obtain rfl := h1 rfl
    clear h2
    (apply tr_v tk; (conv => whnf); (repeat ((first | ((first | apply VStop.mk | apply VCall.stop); refine tr_region_lex (id := 8) (by kernel_rfl) [.rd, .rd, .rd, .rd, .rd, .rd, .rd, .rd, .rd, .rd, .rd, .rd, .rd, .rd, .cr, .rd, .rd] rfl (by kernel_rfl) ?_; apply ot_v tk) | (apply VLdN.mk; (first | exact c1 _ | exact c2 _); exact rfl) | (apply VIx.mk (j := j + 1); exact rfl; omega) | (apply VIx.mk (j := j); omega; omega) | (apply VCall.q; kernel_rfl; (focus (intro w1 hs; first | with_reducible apply ki w1 | with_reducible apply kb w1))) | (apply VLd.mk; (focus ((repeat (first | ((with_reducible apply ld_blk); exact rfl) | (with_reducible apply ld_skip))); done))) | (apply VRng.mk; omega) | apply VBr.t | apply VBr.f | (apply v_t; omega)); (conv => whnf))))
    ((apply VRet.mk); refine ret1 (by first | exact .inl rfl | exact .inr rfl) rfl (by exact rv_tmp rfl) ?_; exact fun w h => ⟨rfl, h.base⟩)
   ·have hz := h2 rfl
    clear h1 h2
    (apply tr_v tk; (conv => whnf); (repeat ((first | ((first | apply VStop.mk | apply VCall.stop); refine tr_region_lex (id := 8) (by kernel_rfl) [.rd, .rd, .rd, .rd, .rd, .rd, .rd, .rd, .rd, .rd, .rd, .rd, .rd, .rd, .cr, .rd, .rd] rfl (by kernel_rfl) ?_; apply ot_v tk) | (apply VLdN.mk; (first | exact c1 _ | exact c2 _); exact rfl) | (apply VIx.mk (j := j + 1); exact rfl; omega) | (apply VIx.mk (j := j); omega; omega) | (apply VCall.q; kernel_rfl; (focus (intro w1 hs; first | with_reducible apply ki w1 | with_reducible apply kb w1))) | (apply VLd.mk; (focus ((repeat (first | ((with_reducible apply ld_blk); exact rfl) | (with_reducible apply ld_skip))); done))) | (apply VRng.mk; omega) | apply VBr.t | apply VBr.f | (apply v_t; omega)); (conv => whnf))))
    exact v_rnd (gm - 1) (by omega) (l := [(1, _), (3, _)]) (B := _) ⟨rfl, rfl, trivial⟩ (List.Sublist.refl _) ⟨rfl, rfl, j + 1 + 1, by omega, hz, rfl⟩
 ·obtain rfl : j = l.length := by omega
  rw [chkS_end] at hz
  subst hz
  (apply tr_v tk; (conv => whnf); (repeat ((first | (apply VLd.mk; (focus ((repeat (first | ((with_reducible apply ld_blk); exact rfl) | (with_reducible apply ld_skip))); done))) | apply VBr.f | (apply v_f; omega)); (conv => whnf))))
  ((apply VRet.mk); refine ret1 (by first | exact .inl rfl | exact .inr rfl) rfl (by exact rv_tmp rfl) ?_; exact fun w h => ⟨rfl, h.base⟩)
end Go.Proofs.YtojeeindlijgkaaGreatDoor
