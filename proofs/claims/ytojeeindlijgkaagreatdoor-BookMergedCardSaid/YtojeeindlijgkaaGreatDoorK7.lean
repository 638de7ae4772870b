/- Numbers within bounds: lemmas for the rows of this seat. No conditions. -/
import Derived.Laws.StructEq
import Derived.Test.YtojeeindlijgkaaGreatDoorK5
set_option linter.all false
namespace Go.Proofs.YtojeeindlijgkaaGreatDoor
open Go.RowKit
/-! ## Numbers within bounds -/
/-- Layer 1: what is out of bounds. -/
def badIn (lo hi n : Int) : Bool := decide (n < lo) || decide (hi < n)
def within (lo hi : Int) (l : List Int) : Bool := !l.any (badIn lo hi)
def firstBad {α : Type} (bad : α → Bool) (d : α) (l : List α) : Nat → Nat → Int
 | 0, _ => -1
 | k + 1, j => if bad (l[j]?.getD d) then j else firstBad bad d l k (j + 1)
theorem firstBad_any {α : Type} (bad : α → Bool) (d : α) (l : List α) : ∀ k j, j + k = l.length → decide (0 ≤ firstBad bad d l k j) = (l.drop j).any bad := by
 intro k
 induction k with
 | zero => intro j hj; rw [List.drop_of_length_le (by omega)]; rfl
 | succ k ih =>
  intro j hj
  rw [List.drop_eq_getElem_cons (show j < l.length by omega), List.any_cons, firstBad, List.getElem?_eq_getElem (show j < l.length by omega), Option.getD_some]
  cases h : bad l[j]
  ·simp only [Bool.false_eq_true, if_false, Bool.false_or]; exact ih (j + 1) (by omega)
  ·simp only [if_true, Bool.true_or]; exact decide_eq_true (by omega)
theorem int_cell {w : World} {n : Nat} {b o : Nat} {l : List Int} (h : Reads w w.heap.size 1 (some ⟨b, o, none⟩) n (i64s l)) {k : Nat} (hk : k < n) (A : List Chunk) : CellAt w A b (o + k * 1) (.int .i64 (l[k]?.getD 0)) := by
 obtain ⟨b', o', he, _, h1⟩ := h.int hk
 cases he
 rw [Nat.mul_one]
 exact CellAt.base h1
set_option maxRecDepth 20000 in
theorem within1_any (n lo hi : Int) (g1 g2 : Nat) (w : World) (h1 : w.cell? ⟨g1, 0, none⟩ = some (.int .i64 lo)) (h2 : w.cell? ⟨g2, 0, none⟩ = some (.int .i64 hi)) :
  Calls Tryz.prog 82 #[.int .i64 n, .pointer (some ⟨g1, 0, none⟩), .pointer (some ⟨g2, 0, none⟩)] w fun e w' => e = .returned (.bool (badIn lo hi n)) ∧ Below w.heap.size w w' := by
 have hb : badIn lo hi n = (decide (n < lo) || decide (hi < n)) := rfl
 refine fn_v tk (n := 13) (A := []) Tryz.func82 rfl rfl (Nat.le_of_ble_eq_true rfl) (St.nil (Below.refl _ _)) ?_
 by_cases e1 : n < lo
 ·rw [decide_eq_true e1] at hb
  ((conv => whnf); (repeat ((first | (apply VLd.mk; (focus ((repeat (first | ((with_reducible apply ld_blk); exact rfl) | ((with_reducible apply ld_row); exact rfl) | ((with_reducible apply ld_row0); exact rfl) | (with_reducible assumption) | (with_reducible exact CellAt.base (by assumption)) | (with_reducible apply ld_skip))); done))) | apply VBr.t | (apply v_t; omega)); (conv => whnf))))
  (apply VRet.mk)
  refine ret1 (by first | exact .inl rfl | exact .inr rfl) rfl (by exact rv_tmp rfl) ?_
  exact fun w h => ⟨by rw [hb]; rfl, h.base⟩
 ·rw [decide_eq_false e1] at hb
  ((conv => whnf); (repeat ((first | (apply VLd.mk; (focus ((repeat (first | ((with_reducible apply ld_blk); exact rfl) | ((with_reducible apply ld_row); exact rfl) | ((with_reducible apply ld_row0); exact rfl) | (with_reducible assumption) | (with_reducible exact CellAt.base (by assumption)) | (with_reducible apply ld_skip))); done))) | apply VBr.f | (apply v_f; omega) | apply v_d); (conv => whnf))))
  (apply VRet.mk)
  refine ret1 (by first | exact .inl rfl | exact .inr rfl) rfl (by exact rv_tmp rfl) ?_
  exact fun w h => ⟨by rw [hb]; rfl, h.base⟩
set_option maxRecDepth 20000 in
theorem index103_any (Al : Option Addr) (c : Nat) (l : List Int) (lo hi : Int) (g1 g2 : Nat) (w : World) (h : Reads w w.heap.size 1 Al l.length (i64s l)) (hm : l.length ≤ maxLen) (h1 : w.cell? ⟨g1, 0, none⟩ = some (.int .i64 lo)) (h2 : w.cell? ⟨g2, 0, none⟩ = some (.int .i64 hi)) :
  Calls Tryz.prog 103 #[.slice Al l.length c, .func (.func 82) #[] #[.pointer (some ⟨g1, 0, none⟩), .pointer (some ⟨g2, 0, none⟩)]] w fun e w' => e = .returned (.int .i64 (firstBad (badIn lo hi) 0 l l.length 0)) ∧ Below w.heap.size w w' := by
 unfold maxLen at hm
 have c1 : ∀ A, CellAt w A g1 0 _ := fun A => CellAt.base h1
 have c2 : ∀ A, CellAt w A g2 0 _ := fun A => CellAt.base h2
 refine fn_v tk (n := 19) (A := []) Tryz.func103 rfl rfl (Nat.le_of_ble_eq_true rfl) (St.nil (Below.refl _ _)) ?_
 ((conv => whnf); apply VStop.mk)
 refine v_loop (fun gm ds ts A => ds = [] ∧ A = [] ∧ ∃ j, j + gm = l.length ∧ firstBad (badIn lo hi) 0 l l.length 0 = firstBad (badIn lo hi) 0 l gm j ∧ ts = [(0, .slice Al l.length c), (1, .func (.func 82) #[] #[.pointer (some ⟨g1, 0, none⟩), .pointer (some ⟨g2, 0, none⟩)]), (7, .int .i64 (l.length : Int)), (8, .int .i64 (j : Int))]) l.length (l := [(0, _), (1, _), (7, _), (8, _)]) (B := _) ?_ (List.Sublist.refl _) ⟨rfl, rfl, 0, by omega, rfl, rfl⟩ ?_
 ·exact ⟨rfl, rfl, rfl, rfl, trivial⟩
 rintro gm ds ts A ⟨rfl, rfl, j, hj, hres, rfl⟩
 by_cases hlt : j < l.length
 ·obtain ⟨b, o, rfl, _⟩ := h.2 (by omega)
  have hc := int_cell h hlt
  have hf := fun w1 (hs : St w [] w1) => within1_any (l[j]?.getD 0) lo hi g1 g2 w1 (c1 _ w1 hs) (c2 _ w1 hs)
  obtain ⟨gm, rfl⟩ : ∃ g, gm = g + 1 := ⟨gm - 1, by omega⟩
  rw [firstBad] at hres
  generalize l[j]?.getD 0 = x at *
  cases hx : badIn lo hi x with
  | true =>
   rw [hx] at hf
   rw [hx, if_pos rfl] at hres
   (apply tr_v tk; (conv => whnf); (repeat ((first | (apply VLd.mk; exact hc _) | (apply VCall.q; kernel_rfl; (focus (intro w1 hs; first | with_reducible apply hf w1 hs))) | apply VBr.t | (apply v_t; omega) | (apply VIx.mk; exact rfl; omega)); (conv => whnf))))
   (apply VRet.mk)
   refine ret1 (by first | exact .inl rfl | exact .inr rfl) rfl (by exact rv_tmp rfl) ?_
   exact fun w h => ⟨by rw [hres], h.base⟩
  | false =>
   rw [hx] at hf
   rw [hx, if_neg (by simp)] at hres
   (apply tr_v tk; (conv => whnf); (repeat ((first | (apply VLd.mk; exact hc _) | (apply VCall.q; kernel_rfl; (focus (intro w1 hs; first | with_reducible apply hf w1 hs))) | (apply VRng.mk; omega) | apply VBr.t | apply VBr.f | (apply v_t; omega) | (apply VIx.mk; exact rfl; omega)); (conv => whnf))))
   exact v_rnd gm (by omega) (l := [(0, _), (1, _), (7, _), (8, _)]) (B := []) ⟨rfl, rfl, rfl, rfl, trivial⟩ (List.nil_sublist _) ⟨rfl, rfl, j + 1, by omega, hres, rfl⟩
 ·obtain rfl : gm = 0 := by omega
  (apply tr_v tk; (conv => whnf); (repeat ((first | apply VBr.f | (apply v_f; omega)); (conv => whnf))))
  (apply VRet.mk)
  refine ret1 (by first | exact .inl rfl | exact .inr rfl) rfl (by exact rv_tmp rfl) ?_
  exact fun w h => ⟨by rw [hres]; rfl, h.base⟩
set_option maxRecDepth 20000 in
theorem contains81_any (Al : Option Addr) (c : Nat) (l : List Int) (lo hi : Int) (g1 g2 : Nat) (w : World) (h : Reads w w.heap.size 1 Al l.length (i64s l)) (hm : l.length ≤ maxLen) (h1 : w.cell? ⟨g1, 0, none⟩ = some (.int .i64 lo)) (h2 : w.cell? ⟨g2, 0, none⟩ = some (.int .i64 hi)) :
  Calls Tryz.prog 81 #[.slice Al l.length c, .func (.func 82) #[] #[.pointer (some ⟨g1, 0, none⟩), .pointer (some ⟨g2, 0, none⟩)]] w fun e w' => e = .returned (.bool (l.any (badIn lo hi))) ∧ Below w.heap.size w w' := by
 have hq := firstBad_any (badIn lo hi) 0 l l.length 0 (by omega)
 rw [List.drop_zero] at hq
 rw [← hq]
 have hf := fun w1 (hs : St w [] w1) => index103_any Al c l lo hi g1 g2 w1 (hs.reads h) hm (CellAt.base h1 w1 hs) (CellAt.base h2 w1 hs)
 refine fn_v tk (n := 9) (A := []) Tryz.func81 rfl rfl (Nat.le_of_ble_eq_true rfl) (St.nil (Below.refl _ _)) ?_
 ((conv => whnf); (repeat ((first | (apply VCall.q; kernel_rfl; (focus (intro w1 hs; first | with_reducible apply hf w1 hs))) | apply v_d); (conv => whnf))))
 ((apply VRet.mk); refine ret1 (by first | exact .inl rfl | exact .inr rfl) rfl (by exact rv_tmp rfl) ?_; exact fun w h => ⟨rfl, h.base⟩)
set_option maxRecDepth 20000 in
theorem within_any (A : Option Addr) (c : Nat) (l : List Int) (lo hi : Int) (w : World) (h : Reads w w.heap.size 1 A l.length (i64s l)) (hm : l.length ≤ maxLen) :
  Calls Tryz.prog 55 #[.int .i64 lo, .int .i64 hi, .slice A l.length c] w fun e w' => e = .returned (.bool (within lo hi l)) ∧ Below w.heap.size w w' := by
 refine fn_v tk (n := 11) (A := []) Tryz.func55 rfl rfl (Nat.le_of_ble_eq_true rfl) (St.nil (Below.refl _ _)) ?_
 ((conv => whnf); (repeat ((apply VNew.mk; intro g hg); (conv => whnf))); apply VCall.stop)
 refine ot_call_q rfl rfl rfl (by kernel_rfl) (evl_of rfl) (fun w1 hs => contains81_any A c l lo hi _ _ w1 (hs.reads h) hm (cell_blk (by (repeat (first | exact List.Mem.head _ | assumption | refine List.Mem.tail _ ?_))) rfl w1 hs) (cell_blk (by (repeat (first | exact List.Mem.head _ | assumption | refine List.Mem.tail _ ?_))) rfl w1 hs)) ?_
 (apply ot_v tk; (conv => whnf))
 ((apply VRet.mk); refine ret1 (by first | exact .inl rfl | exact .inr rfl) rfl (by exact rv_tmp rfl) ?_; exact fun w h => ⟨rfl, h.base⟩)
theorem within_one (lo hi n : Int) : within lo hi [n] = decide (lo ≤ n ∧ n ≤ hi) := by
 unfold within badIn
 rw [Bool.eq_iff_iff]
 simp
theorem within_inB (lo hi n : Int) : within lo hi [n] = inB n lo hi := by
 rw [within_one, Bool.eq_iff_iff, inB_iff]; simp
theorem within1_mem {a lo hi : Int} {bb : Bool} (hb : inB a lo hi = bb) {g t : Nat} {A : List Chunk} {w0 w : World} (hs : St w0 A w) (hm : Chunk.blk g t [.int .i64 a] ∈ A) :
  Calls Tryz.prog 55 #[.int .i64 lo, .int .i64 hi, .slice (some ⟨g, 0, none⟩) 1 1] w fun e w' => e = .returned (.bool bb) ∧ Below w.heap.size w w' := by
 subst hb
 rw [← within_inB]
 exact within_any (some ⟨g, 0, none⟩) 1 [a] lo hi w (hs.blk_reads hm rfl) (by simp [maxLen])
/-! ## The order of lines -/
def cmpI (a b : Int) : Int := if a < b then -1 else if b < a then 1 else 0
def orI (a b : Int) : Int := if a = 0 then b else a
def ordI (x y : Ln) : Int := orI (cmpI x.st y.st) (cmpI x.ck y.ck)
theorem ordI_cases (x y : Ln) : (ordI x y = -1 ∧ before x y = true) ∨ (ordI x y = 1 ∧ before y x = true) ∨ (ordI x y = 0 ∧ x.st = y.st ∧ x.ck = y.ck) := by
 rw [before_iff, before_iff]
 unfold ordI orI cmpI
 split <;> split <;> (try split) <;> omega
theorem ordI_neg (x y : Ln) : ordI x y < 0 ↔ before x y = true := by
 rw [before_iff]
 unfold ordI orI cmpI
 constructor
 ·intro h
  split at h <;> split at h <;> (try split at h) <;> omega
 ·intro h
  split <;> split <;> (try split) <;> omega
theorem isNaN_any (a : Int) (w : World) : Calls Tryz.prog 104 #[.int .i64 a] w fun e w' => e = .returned (.bool false) ∧ Below w.heap.size w w' := by
 refine fn_v tk (n := 6) (A := []) Tryz.func104 rfl rfl (Nat.le_of_ble_eq_true rfl) (St.nil (Below.refl _ _)) ?_
 ((conv => whnf); (repeat ((apply v_f; omega); (conv => whnf))))
 (apply VRet.mk)
 refine ret1 (by first | exact .inl rfl | exact .inr rfl) rfl (by exact rv_tmp rfl) ?_
 exact fun w h => ⟨by simp, h.base⟩
theorem cmp_any (a b : Int) (w : World) : Calls Tryz.prog 85 #[.int .i64 a, .int .i64 b] w fun e w' => e = .returned (.int .i64 (cmpI a b)) ∧ Below w.heap.size w w' := by
 have k1 := fun w1 => isNaN_any a w1
 have k2 := fun w1 => isNaN_any b w1
 unfold cmpI
 refine fn_v tk (n := 20) (A := []) Tryz.func85 rfl rfl (Nat.le_of_ble_eq_true rfl) (St.nil (Below.refl _ _)) ?_
 by_cases h1 : a < b
 ·rw [if_pos h1]
  ((conv => whnf); (repeat ((first | (apply VCall.q; kernel_rfl; (focus (intro w1 hs; first | with_reducible apply k1 w1 | with_reducible apply k2 w1))) | apply VBr.t | apply VBr.f | (apply v_t; omega)); (conv => whnf))))
  ((apply VRet.mk); refine ret1 (by first | exact .inl rfl | exact .inr rfl) rfl (by exact rv_tmp rfl) ?_; exact fun w h => ⟨rfl, h.base⟩)
 rw [if_neg h1]
 by_cases h2 : b < a
 ·rw [if_pos h2]
  ((conv => whnf); (repeat ((first | (apply VCall.q; kernel_rfl; (focus (intro w1 hs; first | with_reducible apply k1 w1 | with_reducible apply k2 w1))) | apply VBr.t | apply VBr.f | (apply v_t; omega) | (apply v_f; omega)); (conv => whnf))))
  ((apply VRet.mk); refine ret1 (by first | exact .inl rfl | exact .inr rfl) rfl (by exact rv_tmp rfl) ?_; exact fun w h => ⟨rfl, h.base⟩)
 rw [if_neg h2]
 ((conv => whnf); (repeat ((first | (apply VCall.q; kernel_rfl; (focus (intro w1 hs; first | with_reducible apply k1 w1 | with_reducible apply k2 w1))) | apply VBr.f | (apply v_f; omega)); (conv => whnf))))
 ((apply VRet.mk); refine ret1 (by first | exact .inl rfl | exact .inr rfl) rfl (by exact rv_tmp rfl) ?_; exact fun w h => ⟨rfl, h.base⟩)
set_option maxRecDepth 20000 in
theorem or_mem {a b : Int} {g t : Nat} {A : List Chunk} {w0 w : World} (hs : St w0 A w) (hm : Chunk.blk g t [.int .i64 a, .int .i64 b] ∈ A) : Calls Tryz.prog 84 #[.slice (some ⟨g, 0, none⟩) 2 2] w fun e w' => e = .returned (.int .i64 (orI a b)) ∧ Below w.heap.size w w' := by
 have hr : Reads w w.heap.size 1 (some ⟨g, 0, none⟩) 2 (i64s [a, b]) := hs.blk_reads hm rfl
 clear hm hs
 have c0 : CellAt w [] g (0 + 0 * 1) (.int .i64 a) := int_cell hr (k := 0) (by omega) []
 have c1 : CellAt w [] g (0 + 1 * 1) (.int .i64 b) := int_cell hr (k := 1) (by omega) []
 clear hr
 unfold orI
 refine fn_v tk (n := 18) (A := []) Tryz.func84 rfl rfl (Nat.le_of_ble_eq_true rfl) (St.nil (Below.refl _ _)) ?_
 ((conv => whnf); apply VStop.mk)
 refine v_loop (fun gm ds ts A => ds = [] ∧ A = [] ∧ ∃ j : Nat, j + gm = 2 ∧ (1 ≤ j → a = 0) ∧ (2 ≤ j → b = 0) ∧ ts = [(3, .int .i64 0), (6, .slice (some ⟨g, 0, none⟩) 2 2), (7, .int .i64 2), (8, .int .i64 (j : Int))]) 2 (l := [(3, _), (6, _), (7, _), (8, _)]) (B := []) ?_ (List.nil_sublist _) ⟨rfl, rfl, 0, by omega, by omega, by omega, rfl⟩ ?_
 ·exact ⟨rfl, rfl, rfl, rfl, trivial⟩
 rintro gm ds ts A ⟨rfl, rfl, j, hj, ha, hb, rfl⟩
 obtain rfl | rfl | rfl : j = 0 ∨ j = 1 ∨ j = 2 := by omega
 ·by_cases h : a = 0
  ·(apply tr_v tk; (conv => whnf); (repeat ((first | (apply VLd.mk; exact c0) | (apply VRng.mk; omega) | apply VBr.t | apply VBr.f | (apply v_t; omega) | (apply v_f; omega) | (apply VIx.mk; exact rfl; omega)); (conv => whnf))))
   exact v_rnd (gm - 1) (by omega) (l := [(3, _), (6, _), (7, _), (8, _)]) (B := []) ⟨rfl, rfl, rfl, rfl, trivial⟩ (List.nil_sublist _) ⟨rfl, rfl, 1, by omega, fun _ => h, by omega, rfl⟩
  ·rw [if_neg h]
   (apply tr_v tk; (conv => whnf); (repeat ((first | (apply VLd.mk; exact c0) | apply VBr.t | (apply v_t; omega) | (apply VIx.mk; exact rfl; omega)); (conv => whnf))))
   ((apply VRet.mk); refine ret1 (by first | exact .inl rfl | exact .inr rfl) rfl (by exact rv_tmp rfl) ?_; exact fun w h => ⟨rfl, h.base⟩)
 ·rw [if_pos (ha (by omega))]
  by_cases h : b = 0
  ·(apply tr_v tk; (conv => whnf); (repeat ((first | (apply VLd.mk; exact c1) | (apply VRng.mk; omega) | apply VBr.t | apply VBr.f | (apply v_t; omega) | (apply v_f; omega) | (apply VIx.mk; exact rfl; omega)); (conv => whnf))))
   exact v_rnd (gm - 1) (by omega) (l := [(3, _), (6, _), (7, _), (8, _)]) (B := []) ⟨rfl, rfl, rfl, rfl, trivial⟩ (List.nil_sublist _) ⟨rfl, rfl, 2, by omega, fun _ => ha (by omega), fun _ => h, rfl⟩
  ·(apply tr_v tk; (conv => whnf); (repeat ((first | (apply VLd.mk; exact c1) | apply VBr.t | (apply v_t; omega) | (apply VIx.mk; exact rfl; omega)); (conv => whnf))))
   ((apply VRet.mk); refine ret1 (by first | exact .inl rfl | exact .inr rfl) rfl (by exact rv_tmp rfl) ?_; exact fun w h => ⟨rfl, h.base⟩)
 ·rw [if_pos (ha (by omega)), hb (by omega)]
  (apply tr_v tk; (conv => whnf); (repeat ((first | apply VBr.f | (apply v_f; omega)); (conv => whnf))))
  ((apply VRet.mk); refine ret1 (by first | exact .inl rfl | exact .inr rfl) rfl (by exact rv_tmp rfl) ?_; exact fun w h => ⟨rfl, h.base⟩)
set_option maxRecDepth 20000 in
theorem order_any (x y : Ln) (w : World) : Calls Tryz.prog 59 #[lnV x, lnV y] w fun e w' => e = .returned (.int .i64 (ordI x y)) ∧ Below w.heap.size w w' := by
 obtain ⟨st, ck, kd, th, vl⟩ := x
 obtain ⟨st', ck', kd', th', vl'⟩ := y
 have k1 := fun w1 => cmp_any st st' w1
 have k2 := fun w1 => cmp_any ck ck' w1
 unfold lnV ordI
 dsimp only
 generalize cmpI st st' = a at *
 generalize cmpI ck ck' = b at *
 refine fn_v tk (n := 17) (A := []) Tryz.func59 rfl rfl (Nat.le_of_ble_eq_true rfl) (St.nil (Below.refl _ _)) ?_
 ((conv => whnf); (repeat ((first | ((first | apply VStop.mk | apply VCall.stop); refine tr_region_lex (id := 1) (by kernel_rfl) [.rd, .rd, .rd, .rd, .rd, .rd, .rd, .rd, .rd, .rd, .cr, .rd, .rd] rfl (by kernel_rfl) ?_; apply ot_v tk) | (apply VCall.q; kernel_rfl; (focus (intro w1 hs; first | with_reducible apply k1 w1 | with_reducible apply k2 w1 | ((with_reducible apply or_mem (a := a) (b := b) hs); (repeat (first | exact List.Mem.head _ | assumption | refine List.Mem.tail _ ?_)))))) | (apply VLd.mk; (focus ((repeat (first | ((with_reducible apply ld_blk); exact rfl) | (with_reducible apply ld_skip))); done))) | (apply VNew.mk; intro g hg)); (conv => whnf))))
 ((apply VRet.mk); refine ret1 (by first | exact .inl rfl | exact .inr rfl) rfl (by exact rv_tmp rfl) ?_; exact fun w h => ⟨rfl, h.base⟩)
/-! ## Valid lines and books, as the program has it -/
set_option maxRecDepth 20000 in
theorem fits_any (x : Ln) (w : World) : Calls Tryz.prog 58 #[lnV x] w fun e w' => e = .returned (.bool (isLine x)) ∧ Below w.heap.size w w' := by
 obtain ⟨st, ck, kd, th, vl⟩ := x
 unfold lnV isLine
 dsimp only
 have hv : inB vl (leastV kd) 1000 = (decide (leastV kd ≤ vl) && decide (vl ≤ 1000)) := rfl
 have k1 := fun {g t : Nat} {A : List Chunk} {w0 w1 : World} (hs : St w0 A w1) (hm : Chunk.blk g t [.int .i64 st] ∈ A) => within1_mem (lo := 1) (hi := 999) rfl hs hm
 have k2 := fun {g t : Nat} {A : List Chunk} {w0 w1 : World} (hs : St w0 A w1) (hm : Chunk.blk g t [.int .i64 ck] ∈ A) => within1_mem (lo := 0) (hi := 2) rfl hs hm
 have k3 := fun {g t : Nat} {A : List Chunk} {w0 w1 : World} (hs : St w0 A w1) (hm : Chunk.blk g t [.int .i64 kd] ∈ A) => within1_mem (lo := 1) (hi := 2) rfl hs hm
 have k4 := fun {g t : Nat} {A : List Chunk} {w0 w1 : World} (hs : St w0 A w1) (hm : Chunk.blk g t [.int .i64 th] ∈ A) => within1_mem (lo := 0) (hi := 7) rfl hs hm
 have hL : leastV kd = -1000 ∨ leastV kd = 0 := by unfold leastV; split <;> simp
 have hL1 : kd = 1 → leastV kd = -1000 := fun h => if_pos h
 have hL2 : kd ≠ 1 → leastV kd = 0 := fun h => if_neg h
 generalize inB vl (leastV kd) 1000 = a5 at *
 generalize leastV kd = L at *
 generalize inB st 1 999 = a1 at *
 generalize inB ck 0 2 = a2 at *
 generalize inB kd 1 2 = a3 at *
 generalize inB th 0 7 = a4 at *
 subst hv
 refine fn_v tk (n := 40) (A := []) Tryz.func58 rfl rfl (Nat.le_of_ble_eq_true rfl) (St.nil (Below.refl _ _)) ?_
 by_cases e1 : kd = 1
 ·obtain rfl := hL1 e1
  clear hL hL1 hL2
  cases a1
  ·((conv => whnf); (repeat ((first | (apply VCall.q; kernel_rfl; (focus (intro w1 hs; first | ((with_reducible apply k1 hs); (repeat (first | exact List.Mem.head _ | assumption | refine List.Mem.tail _ ?_)))))) | (apply VLd.mk; (focus ((repeat (first | ((with_reducible apply ld_blk); exact rfl) | (with_reducible apply ld_skip))); done))) | apply VBr.t | apply VBr.f | (apply v_t; omega) | (apply VNew.mk; intro g hg)); (conv => whnf))))
   ((apply VRet.mk); refine ret1 (by first | exact .inl rfl | exact .inr rfl) rfl (by exact rv_tmp rfl) ?_; exact fun w h => ⟨rfl, h.base⟩)
  cases a2
  ·((conv => whnf); (repeat ((first | (apply VCall.q; kernel_rfl; (focus (intro w1 hs; first | ((with_reducible apply k1 hs); (repeat (first | exact List.Mem.head _ | assumption | refine List.Mem.tail _ ?_))) | ((with_reducible apply k2 hs); (repeat (first | exact List.Mem.head _ | assumption | refine List.Mem.tail _ ?_)))))) | (apply VLd.mk; (focus ((repeat (first | ((with_reducible apply ld_blk); exact rfl) | (with_reducible apply ld_skip))); done))) | apply VBr.t | apply VBr.f | (apply v_t; omega) | (apply VNew.mk; intro g hg)); (conv => whnf))))
   ((apply VRet.mk); refine ret1 (by first | exact .inl rfl | exact .inr rfl) rfl (by exact rv_tmp rfl) ?_; exact fun w h => ⟨rfl, h.base⟩)
  cases a3
  ·((conv => whnf); (repeat ((first | (apply VCall.q; kernel_rfl; (focus (intro w1 hs; first | ((with_reducible apply k1 hs); (repeat (first | exact List.Mem.head _ | assumption | refine List.Mem.tail _ ?_))) | ((with_reducible apply k2 hs); (repeat (first | exact List.Mem.head _ | assumption | refine List.Mem.tail _ ?_))) | ((with_reducible apply k3 hs); (repeat (first | exact List.Mem.head _ | assumption | refine List.Mem.tail _ ?_)))))) | (apply VLd.mk; (focus ((repeat (first | ((with_reducible apply ld_blk); exact rfl) | (with_reducible apply ld_skip))); done))) | apply VBr.t | apply VBr.f | (apply v_t; omega) | (apply VNew.mk; intro g hg)); (conv => whnf))))
   ((apply VRet.mk); refine ret1 (by first | exact .inl rfl | exact .inr rfl) rfl (by exact rv_tmp rfl) ?_; exact fun w h => ⟨rfl, h.base⟩)
  cases a4
  ·((conv => whnf); (repeat ((first | (apply VCall.q; kernel_rfl; (focus (intro w1 hs; first | ((with_reducible apply k1 hs); (repeat (first | exact List.Mem.head _ | assumption | refine List.Mem.tail _ ?_))) | ((with_reducible apply k2 hs); (repeat (first | exact List.Mem.head _ | assumption | refine List.Mem.tail _ ?_))) | ((with_reducible apply k3 hs); (repeat (first | exact List.Mem.head _ | assumption | refine List.Mem.tail _ ?_))) | ((with_reducible apply k4 hs); (repeat (first | exact List.Mem.head _ | assumption | refine List.Mem.tail _ ?_)))))) | (apply VLd.mk; (focus ((repeat (first | ((with_reducible apply ld_blk); exact rfl) | (with_reducible apply ld_skip))); done))) | apply VBr.t | apply VBr.f | (apply v_t; omega) | (apply VNew.mk; intro g hg)); (conv => whnf))))
   ((apply VRet.mk); refine ret1 (by first | exact .inl rfl | exact .inr rfl) rfl (by exact rv_tmp rfl) ?_; exact fun w h => ⟨rfl, h.base⟩)
  simp only [Bool.true_and]
  by_cases e2 : -1000 ≤ vl
  ·rw [decide_eq_true e2, Bool.true_and]
   ((conv => whnf); (repeat ((first | (apply VCall.q; kernel_rfl; (focus (intro w1 hs; first | ((with_reducible apply k1 hs); (repeat (first | exact List.Mem.head _ | assumption | refine List.Mem.tail _ ?_))) | ((with_reducible apply k2 hs); (repeat (first | exact List.Mem.head _ | assumption | refine List.Mem.tail _ ?_))) | ((with_reducible apply k3 hs); (repeat (first | exact List.Mem.head _ | assumption | refine List.Mem.tail _ ?_))) | ((with_reducible apply k4 hs); (repeat (first | exact List.Mem.head _ | assumption | refine List.Mem.tail _ ?_)))))) | (apply VLd.mk; (focus ((repeat (first | ((with_reducible apply ld_blk); exact rfl) | (with_reducible apply ld_skip))); done))) | apply VBr.t | (apply v_t; omega) | apply v_d | (apply VNew.mk; intro g hg)); (conv => whnf))))
   ((apply VRet.mk); refine ret1 (by first | exact .inl rfl | exact .inr rfl) rfl (by exact rv_tmp rfl) ?_; exact fun w h => ⟨rfl, h.base⟩)
  ·rw [decide_eq_false e2, Bool.false_and]
   ((conv => whnf); (repeat ((first | (apply VCall.q; kernel_rfl; (focus (intro w1 hs; first | ((with_reducible apply k1 hs); (repeat (first | exact List.Mem.head _ | assumption | refine List.Mem.tail _ ?_))) | ((with_reducible apply k2 hs); (repeat (first | exact List.Mem.head _ | assumption | refine List.Mem.tail _ ?_))) | ((with_reducible apply k3 hs); (repeat (first | exact List.Mem.head _ | assumption | refine List.Mem.tail _ ?_))) | ((with_reducible apply k4 hs); (repeat (first | exact List.Mem.head _ | assumption | refine List.Mem.tail _ ?_)))))) | (apply VLd.mk; (focus ((repeat (first | ((with_reducible apply ld_blk); exact rfl) | (with_reducible apply ld_skip))); done))) | apply VBr.t | apply VBr.f | (apply v_t; omega) | (apply v_f; omega) | (apply VNew.mk; intro g hg)); (conv => whnf))))
   ((apply VRet.mk); refine ret1 (by first | exact .inl rfl | exact .inr rfl) rfl (by exact rv_tmp rfl) ?_; exact fun w h => ⟨rfl, h.base⟩)
 ·obtain rfl := hL2 e1
  clear hL hL1 hL2
  cases a1
  ·((conv => whnf); (repeat ((first | (apply VCall.q; kernel_rfl; (focus (intro w1 hs; first | ((with_reducible apply k1 hs); (repeat (first | exact List.Mem.head _ | assumption | refine List.Mem.tail _ ?_)))))) | (apply VLd.mk; (focus ((repeat (first | ((with_reducible apply ld_blk); exact rfl) | (with_reducible apply ld_skip))); done))) | apply VBr.f | (apply v_f; omega) | (apply VNew.mk; intro g hg)); (conv => whnf))))
   ((apply VRet.mk); refine ret1 (by first | exact .inl rfl | exact .inr rfl) rfl (by exact rv_tmp rfl) ?_; exact fun w h => ⟨rfl, h.base⟩)
  cases a2
  ·((conv => whnf); (repeat ((first | (apply VCall.q; kernel_rfl; (focus (intro w1 hs; first | ((with_reducible apply k1 hs); (repeat (first | exact List.Mem.head _ | assumption | refine List.Mem.tail _ ?_))) | ((with_reducible apply k2 hs); (repeat (first | exact List.Mem.head _ | assumption | refine List.Mem.tail _ ?_)))))) | (apply VLd.mk; (focus ((repeat (first | ((with_reducible apply ld_blk); exact rfl) | (with_reducible apply ld_skip))); done))) | apply VBr.t | apply VBr.f | (apply v_f; omega) | (apply VNew.mk; intro g hg)); (conv => whnf))))
   ((apply VRet.mk); refine ret1 (by first | exact .inl rfl | exact .inr rfl) rfl (by exact rv_tmp rfl) ?_; exact fun w h => ⟨rfl, h.base⟩)
  cases a3
  ·((conv => whnf); (repeat ((first | (apply VCall.q; kernel_rfl; (focus (intro w1 hs; first | ((with_reducible apply k1 hs); (repeat (first | exact List.Mem.head _ | assumption | refine List.Mem.tail _ ?_))) | ((with_reducible apply k2 hs); (repeat (first | exact List.Mem.head _ | assumption | refine List.Mem.tail _ ?_))) | ((with_reducible apply k3 hs); (repeat (first | exact List.Mem.head _ | assumption | refine List.Mem.tail _ ?_)))))) | (apply VLd.mk; (focus ((repeat (first | ((with_reducible apply ld_blk); exact rfl) | (with_reducible apply ld_skip))); done))) | apply VBr.t | apply VBr.f | (apply v_f; omega) | (apply VNew.mk; intro g hg)); (conv => whnf))))
   ((apply VRet.mk); refine ret1 (by first | exact .inl rfl | exact .inr rfl) rfl (by exact rv_tmp rfl) ?_; exact fun w h => ⟨rfl, h.base⟩)
  cases a4
  ·((conv => whnf); (repeat ((first | (apply VCall.q; kernel_rfl; (focus (intro w1 hs; first | ((with_reducible apply k1 hs); (repeat (first | exact List.Mem.head _ | assumption | refine List.Mem.tail _ ?_))) | ((with_reducible apply k2 hs); (repeat (first | exact List.Mem.head _ | assumption | refine List.Mem.tail _ ?_))) | ((with_reducible apply k3 hs); (repeat (first | exact List.Mem.head _ | assumption | refine List.Mem.tail _ ?_))) | ((with_reducible apply k4 hs); (repeat (first | exact List.Mem.head _ | assumption | refine List.Mem.tail _ ?_)))))) | (apply VLd.mk; (focus ((repeat (first | ((with_reducible apply ld_blk); exact rfl) | (with_reducible apply ld_skip))); done))) | apply VBr.t | apply VBr.f | (apply v_f; omega) | (apply VNew.mk; intro g hg)); (conv => whnf))))
   ((apply VRet.mk); refine ret1 (by first | exact .inl rfl | exact .inr rfl) rfl (by exact rv_tmp rfl) ?_; exact fun w h => ⟨rfl, h.base⟩)
  simp only [Bool.true_and]
  by_cases e2 : 0 ≤ vl
  ·rw [decide_eq_true e2, Bool.true_and]
   ((conv => whnf); (repeat ((first | (apply VCall.q; kernel_rfl; (focus (intro w1 hs; first | ((with_reducible apply k1 hs); (repeat (first | exact List.Mem.head _ | assumption | refine List.Mem.tail _ ?_))) | ((with_reducible apply k2 hs); (repeat (first | exact List.Mem.head _ | assumption | refine List.Mem.tail _ ?_))) | ((with_reducible apply k3 hs); (repeat (first | exact List.Mem.head _ | assumption | refine List.Mem.tail _ ?_))) | ((with_reducible apply k4 hs); (repeat (first | exact List.Mem.head _ | assumption | refine List.Mem.tail _ ?_)))))) | (apply VLd.mk; (focus ((repeat (first | ((with_reducible apply ld_blk); exact rfl) | (with_reducible apply ld_skip))); done))) | apply VBr.t | apply VBr.f | (apply v_t; omega) | (apply v_f; omega) | apply v_d | (apply VNew.mk; intro g hg)); (conv => whnf))))
   ((apply VRet.mk); refine ret1 (by first | exact .inl rfl | exact .inr rfl) rfl (by exact rv_tmp rfl) ?_; exact fun w h => ⟨rfl, h.base⟩)
  ·rw [decide_eq_false e2, Bool.false_and]
   ((conv => whnf); (repeat ((first | (apply VCall.q; kernel_rfl; (focus (intro w1 hs; first | ((with_reducible apply k1 hs); (repeat (first | exact List.Mem.head _ | assumption | refine List.Mem.tail _ ?_))) | ((with_reducible apply k2 hs); (repeat (first | exact List.Mem.head _ | assumption | refine List.Mem.tail _ ?_))) | ((with_reducible apply k3 hs); (repeat (first | exact List.Mem.head _ | assumption | refine List.Mem.tail _ ?_))) | ((with_reducible apply k4 hs); (repeat (first | exact List.Mem.head _ | assumption | refine List.Mem.tail _ ?_)))))) | (apply VLd.mk; (focus ((repeat (first | ((with_reducible apply ld_blk); exact rfl) | (with_reducible apply ld_skip))); done))) | apply VBr.t | apply VBr.f | (apply v_f; omega) | (apply VNew.mk; intro g hg)); (conv => whnf))))
   ((apply VRet.mk); refine ret1 (by first | exact .inl rfl | exact .inr rfl) rfl (by exact rv_tmp rfl) ?_; exact fun w h => ⟨rfl, h.base⟩)
set_option maxRecDepth 20000 in
theorem checkBook_any (B : Option Addr) (c : Nat) (l : List Ln) (w : World) (h : BookR w B l) (hm : l.length ≤ maxLen) : Calls Tryz.prog 21 #[.agg #[.slice B l.length c]] w fun e w' => e = .returned (.int .i64 (chkBook l)) ∧ Below w.heap.size w w' := by
 unfold maxLen at hm
 refine fn_v tk (n := 36) (A := []) Tryz.func21 rfl rfl (Nat.le_of_ble_eq_true rfl) (St.nil (Below.refl _ _)) ?_
 by_cases h20 : 20 < l.length
 ·have e : chkBook l = 6 := if_pos h20
  rw [e]
  ((conv => whnf); (repeat ((first | (apply VLd.mk; (focus ((repeat (first | ((with_reducible apply ld_blk); exact rfl) | (with_reducible apply ld_skip))); done))) | apply VBr.t | (apply v_t; omega) | (apply VNew.mk; intro g hg)); (conv => whnf))))
  ((apply VRet.mk); refine ret1 (by first | exact .inl rfl | exact .inr rfl) rfl (by exact rv_tmp rfl) ?_; exact fun w h => ⟨rfl, h.base⟩)
 obtain ⟨z, hz⟩ : ∃ z, z = chkBook l := ⟨_, rfl⟩
 rw [← hz]
 replace hz : z = chkS (prevOf l 0) (l.drop 0) := hz.trans (if_neg h20)
 ((conv => whnf); (repeat ((first | (apply VLd.mk; (focus ((repeat (first | ((with_reducible apply ld_blk); exact rfl) | (with_reducible apply ld_skip))); done))) | apply VBr.f | (apply v_f; omega) | (apply VNew.mk; intro g hg)); (conv => whnf))); apply VStop.mk)
 revert g hg
 intro g1 hg1
 refine v_loop (fun gm ds ts A => ds = [] ∧ A = [.blk g1 24 [.slice B l.length c]] ∧ ∃ j : Nat, j + gm = l.length ∧ z = chkS (prevOf l j) (l.drop j) ∧ ts = [(1, .pointer (some ⟨g1, 0, none⟩)), (10, .slice B l.length c), (11, .int .i64 (l.length : Int)), (12, .int .i64 (j : Int))]) l.length (l := [(1, _), (10, _), (11, _), (12, _)]) (B := _) ?_ (List.Sublist.refl _) ⟨rfl, rfl, 0, by omega, hz, rfl⟩ ?_
 ·exact ⟨rfl, rfl, rfl, rfl, trivial⟩
 clear hz
 rintro gm ds ts A ⟨rfl, rfl, j, hj, hz, rfl⟩
 by_cases hlt : j < l.length
 ·obtain ⟨b, o, rfl⟩ := book_addr h hlt
  have c1 := fun A => ln_cells h hlt A
  have ki := fun w1 => fits_any (lnAt l j) w1
  unfold lnV at ki
  unfold lnL at c1
  cases hi : isLine (lnAt l j)
  ·rw [hi] at ki
   obtain rfl := chkS_bad hz hlt hi
   (apply tr_v tk; (conv => whnf); (repeat ((first | (apply VLdN.mk; exact c1 _; exact rfl) | (apply VIx.mk (j := j); exact rfl; omega) | (apply VCall.q; kernel_rfl; (focus (intro w1 hs; first | with_reducible apply ki w1))) | (apply VLdN.mk; (focus ((repeat (first | (with_reducible apply ldn_blk) | (with_reducible apply ldn_skip))); done)); exact rfl) | apply VBr.t | (apply v_t; omega) | (apply VNew.mk; intro g hg) | (apply VSt.mk; (focus ((repeat (first | (with_reducible exact At.here) | (with_reducible apply At.there))); done)); exact rfl)); (conv => whnf))))
   ((apply VRet.mk); refine ret1 (by first | exact .inl rfl | exact .inr rfl) rfl (by exact rv_tmp rfl) ?_; exact fun w h => ⟨rfl, h.base⟩)
  rw [hi] at ki
  have h1 := chkS_rule hz hlt hi
  have h2 := chkS_next hz hlt hi
  clear hz
  cases j with
  | zero =>
   have hz := h2 rfl
   clear h1 h2
   (apply tr_v tk; (conv => whnf); (repeat ((first | ((first | apply VStop.mk | apply VCall.stop); refine tr_region_lex (id := 8) (by kernel_rfl) [.rd, .rd, .rd, .rd, .rd, .rd, .rd, .rd, .rd, .rd, .cr, .rd, .rd, .rd] rfl (by kernel_rfl) ?_; apply ot_v tk) | (apply VLdN.mk; exact c1 _; exact rfl) | (apply VIx.mk (j := 0); exact rfl; omega) | (apply VCall.q; kernel_rfl; (focus (intro w1 hs; first | with_reducible apply ki w1))) | (apply VLdN.mk; (focus ((repeat (first | (with_reducible apply ldn_blk) | (with_reducible apply ldn_skip))); done)); exact rfl) | (apply VRng.mk; omega) | apply VBr.t | apply VBr.f | (apply v_t; omega) | (apply v_f; omega) | (apply VNew.mk; intro g hg) | (apply VSt.mk; (focus ((repeat (first | (with_reducible exact At.here) | (with_reducible apply At.there))); done)); exact rfl)); (conv => whnf))))
   exact v_rnd (gm - 1) (by omega) (l := [(1, _), (10, _), (11, _), (12, _)]) (B := _) ⟨rfl, rfl, rfl, rfl, trivial⟩ (.cons _ (List.Sublist.refl _)) ⟨rfl, rfl, 0 + 1, by omega, hz, rfl⟩
  | succ j =>
   rw [prevOf_succ] at h1 h2
   have c2 := fun A => ln_cells h (show j < l.length by omega) A
   have kb := fun w1 => order_any (lnAt l j) (lnAt l (j + 1)) w1
   unfold lnL at c2
   unfold lnV at kb
   have hbp : badP (some (lnAt l j)) (lnAt l (j + 1)) = !before (lnAt l j) (lnAt l (j + 1)) := rfl
   rw [hbp] at h1 h2
   clear hbp
   have hn := ordI_neg (lnAt l j) (lnAt l (j + 1))
   generalize before (lnAt l j) (lnAt l (j + 1)) = bb at *
   generalize ordI (lnAt l j) (lnAt l (j + 1)) = oo at *
   generalize lnAt l (j + 1) = x at *
   generalize lnAt l j = y at *
   cases bb
   ·obtain rfl := h1 rfl
    have : 0 ≤ oo := by have : ¬oo < 0 := fun h => by simpa using hn.1 h
                        omega
    clear h2 hn
    (apply tr_v tk; (conv => whnf); (repeat ((first | ((first | apply VStop.mk | apply VCall.stop); refine tr_region_lex (id := 8) (by kernel_rfl) [.rd, .rd, .rd, .rd, .rd, .rd, .rd, .rd, .rd, .rd, .cr, .rd, .rd, .rd] rfl (by kernel_rfl) ?_; apply ot_v tk) | (apply VLdN.mk; (first | exact c1 _ | exact c2 _); exact rfl) | (apply VIx.mk (j := j + 1); exact rfl; omega) | (apply VIx.mk (j := j); omega; omega) | (apply VCall.q; kernel_rfl; (focus (intro w1 hs; first | with_reducible apply ki w1 | with_reducible apply kb w1))) | (apply VLd.mk; (focus ((repeat (first | ((with_reducible apply ld_blk); exact rfl) | (with_reducible apply ld_skip))); done))) | (apply VLdN.mk; (focus ((repeat (first | (with_reducible apply ldn_blk) | (with_reducible apply ldn_skip))); done)); exact rfl) | (apply VRng.mk; omega) | apply VBr.t | apply VBr.f | (apply v_t; omega) | (apply VNew.mk; intro g hg) | (apply VSt.mk; (focus ((repeat (first | (with_reducible exact At.here) | (with_reducible apply At.there))); done)); exact rfl)); (conv => whnf))))
    ((apply VRet.mk); refine ret1 (by first | exact .inl rfl | exact .inr rfl) rfl (by exact rv_tmp rfl) ?_; exact fun w h => ⟨rfl, h.base⟩)
   ·have hz := h2 rfl
    have : oo < 0 := hn.2 rfl
    clear h1 h2 hn
    (apply tr_v tk; (conv => whnf); (repeat ((first | ((first | apply VStop.mk | apply VCall.stop); refine tr_region_lex (id := 8) (by kernel_rfl) [.rd, .rd, .rd, .rd, .rd, .rd, .rd, .rd, .rd, .rd, .cr, .rd, .rd, .rd] rfl (by kernel_rfl) ?_; apply ot_v tk) | (apply VLdN.mk; (first | exact c1 _ | exact c2 _); exact rfl) | (apply VIx.mk (j := j + 1); exact rfl; omega) | (apply VIx.mk (j := j); omega; omega) | (apply VCall.q; kernel_rfl; (focus (intro w1 hs; first | with_reducible apply ki w1 | with_reducible apply kb w1))) | (apply VLd.mk; (focus ((repeat (first | ((with_reducible apply ld_blk); exact rfl) | (with_reducible apply ld_skip))); done))) | (apply VLdN.mk; (focus ((repeat (first | (with_reducible apply ldn_blk) | (with_reducible apply ldn_skip))); done)); exact rfl) | (apply VRng.mk; omega) | apply VBr.t | apply VBr.f | (apply v_t; omega) | (apply v_f; omega) | (apply VNew.mk; intro g hg) | (apply VSt.mk; (focus ((repeat (first | (with_reducible exact At.here) | (with_reducible apply At.there))); done)); exact rfl)); (conv => whnf))))
    exact v_rnd (gm - 1) (by omega) (l := [(1, _), (10, _), (11, _), (12, _)]) (B := _) ⟨rfl, rfl, rfl, rfl, trivial⟩ (.cons _ (List.Sublist.refl _)) ⟨rfl, rfl, j + 1 + 1, by omega, hz, rfl⟩
 ·obtain rfl : j = l.length := by omega
  rw [chkS_end] at hz
  subst hz
  (apply tr_v tk; (conv => whnf); (repeat ((first | apply VBr.f | (apply v_f; omega)); (conv => whnf))))
  ((apply VRet.mk); refine ret1 (by first | exact .inl rfl | exact .inr rfl) rfl (by exact rv_tmp rfl) ?_; exact fun w h => ⟨rfl, h.base⟩)
end Go.Proofs.YtojeeindlijgkaaGreatDoor
