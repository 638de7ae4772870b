/- Lines that a book has; parts: lemmas for the rows of this seat. No conditions. -/
import Derived.Laws.StructEq
import Derived.Test.YtojeeindlijgkaaGreatDoorK2
set_option linter.all false
namespace Go.Proofs.YtojeeindlijgkaaGreatDoor
open Go.RowKit
/-! ## Lines that a book has; parts -/
def hasL (l : List Ln) (x : Ln) : Bool := decide (x ∈ l)
theorem mem_lnAt {l : List Ln} {x : Ln} : x ∈ l ↔ ∃ j, j < l.length ∧ lnAt l j = x := by
 rw [List.mem_iff_getElem]
 constructor
 ·rintro ⟨j, hj, e⟩; exact ⟨j, hj, by rw [lnAt_get hj, e]⟩
 ·rintro ⟨j, hj, e⟩; exact ⟨j, hj, by rw [← lnAt_get hj, e]⟩
theorem has_any (B : Option Addr) (c : Nat) (l : List Ln) (x : Ln) (w : World) (h : BookR w B l) (hm : l.length ≤ 1000) : Calls Tryz.prog 87 #[.slice B l.length c, lnV x] w fun e w' => e = .returned (.bool (hasL l x)) ∧ Below w.heap.size w w' := by
 obtain ⟨r, hr⟩ : ∃ r, hasL l x = r := ⟨_, rfl⟩
 rw [hr]
 have h0 : ∀ j, j < l.length → lnAt l j = x → r = true := fun j hj e => by rw [← hr]; exact decide_eq_true (mem_lnAt.2 ⟨j, hj, e⟩)
 have h1 : (∀ j, j < l.length → lnAt l j ≠ x) → r = false := fun hn => by
  rw [← hr]
  refine decide_eq_false fun hx => ?_
  obtain ⟨j, hj, e⟩ := mem_lnAt.1 hx
  exact hn j hj e
 clear hr
 unfold lnV
 refine fn_v tk (n := 18) (A := []) Tryz.func87 rfl rfl (Nat.le_of_ble_eq_true rfl) (St.nil (Below.refl _ _)) ?_
 ((conv => whnf); (repeat ((apply VNew.mk; intro g hg); (conv => whnf))); apply VStop.mk)
 revert g hg
 intro g3 hg3
 refine v_loop (fun gm ds ts A => ds = [] ∧ ∃ j : Nat, j + gm = l.length ∧ (∀ i, i < j → lnAt l i ≠ x) ∧ A = [.blk g3 61 [.int .i64 x.st, .int .i64 x.ck, .int .i64 x.kd, .int .i64 x.th, .int .i64 x.vl]] ∧ ts = [(0, .slice B l.length c), (3, .pointer (some ⟨g3, 0, none⟩)), (5, .int .i64 (j : Int))]) l.length (l := [(0, _), (3, _), (5, _)]) (B := _) ?_ (List.Sublist.refl _) ⟨rfl, 0, by omega, fun i hi => absurd hi (Nat.not_lt_zero _), rfl, rfl⟩ ?_
 ·exact ⟨rfl, rfl, rfl, trivial⟩
 rintro gm ds ts A ⟨rfl, j, hj, hn, rfl, rfl⟩
 by_cases hlt : j < l.length
 ·obtain ⟨b, o, rfl⟩ := book_addr h hlt
  have c1 := fun A => ln_cells h hlt A
  have h0 := h0 j hlt
  have hn1 : lnAt l j ≠ x → ∀ i, i < j + 1 → lnAt l i ≠ x := fun hne i hi => by
   by_cases e : i = j
   ·subst e; exact hne
   ·exact hn i (by omega)
  unfold lnL at c1
  generalize lnAt l j = y at *
  by_cases e : y = x
  ·obtain rfl := h0 e
   have he := fun w1 => ln_eqV (decide_eq_true e) w1
   (apply tr_v tk; (conv => whnf); (repeat ((first | (apply VStop.mk; refine tr_region_draw (id := 4) (by kernel_rfl) [0, 1, 2, 3, 4, 5] [.rd, .rd, .rd, .rd, .rd, .rd] rfl (by kernel_rfl) ?_; apply ot_v tk) | (apply VLdN.mk; (first | exact c1 _); exact rfl) | (apply VIx.mk (j := j); exact rfl; omega) | (apply VEq.mk true; kernel_rfl; exact he) | (apply VLdN.mk; (focus ((repeat (first | (with_reducible apply ldn_blk) | (with_reducible apply ldn_skip))); done)); exact rfl) | apply VBr.t | (apply v_t; omega)); (conv => whnf))))
   ((apply VRet.mk); refine ret1 (by first | exact .inl rfl | exact .inr rfl) rfl (by exact rv_tmp rfl) ?_; exact fun w h => ⟨rfl, h.base⟩)
  ·have he := fun w1 => ln_eqV (decide_eq_false e) w1
   (apply tr_v tk; (conv => whnf); (repeat ((first | (apply VStop.mk; refine tr_region_draw (id := 4) (by kernel_rfl) [0, 1, 2, 3, 4, 5] [.rd, .rd, .rd, .rd, .rd, .rd] rfl (by kernel_rfl) ?_; apply ot_v tk) | (apply VLdN.mk; (first | exact c1 _); exact rfl) | (apply VIx.mk (j := j); exact rfl; omega) | (apply VEq.mk false; kernel_rfl; exact he) | (apply VLdN.mk; (focus ((repeat (first | (with_reducible apply ldn_blk) | (with_reducible apply ldn_skip))); done)); exact rfl) | (apply VRng.mk; omega) | apply VBr.t | apply VBr.f | (apply v_t; omega)); (conv => whnf))))
   exact v_rnd (gm - 1) (by omega) (l := [(0, _), (3, _), (5, _)]) (B := _) ⟨rfl, rfl, rfl, trivial⟩ (List.Sublist.refl _) ⟨rfl, j + 1, by omega, hn1 e, rfl, rfl⟩
 obtain rfl : j = l.length := by omega
 obtain rfl := h1 hn
 (apply tr_v tk; (conv => whnf); (repeat ((first | apply VBr.f | (apply v_f; omega)); (conv => whnf))))
 ((apply VRet.mk); refine ret1 (by first | exact .inl rfl | exact .inr rfl) rfl (by exact rv_tmp rfl) ?_; exact fun w h => ⟨rfl, h.base⟩)
theorem both_any (A1 : Option Addr) (c1 : Nat) (l1 : List Ln) (A2 : Option Addr) (c2 : Nat) (l2 : List Ln) (w : World) (h1 : BookR w A1 l1) (h2 : BookR w A2 l2) (hm1 : l1.length ≤ maxLen) (hm2 : l2.length ≤ maxLen) :
  Calls Tryz.prog 65 #[.agg #[.slice A1 l1.length c1], .agg #[.slice A2 l2.length c2]] w fun e w' => e = .returned (.int .i64 (if chkBook l1 ≠ 0 then chkBook l1 else chkBook l2)) ∧ Below w.heap.size w w' := by
 have k1 := fun w1 h => refCheck_any A1 c1 l1 w1 h hm1
 have k2 := fun w1 h => refCheck_any A2 c2 l2 w1 h hm2
 generalize chkBook l1 = z1 at *
 generalize chkBook l2 = z2 at *
 refine fn_v tk (n := 12) (A := []) Tryz.func65 rfl rfl (Nat.le_of_ble_eq_true rfl) (St.nil (Below.refl _ _)) ?_
 by_cases e : z1 = 0
 ·rw [if_neg (by omega)]
  ((conv => whnf); (repeat ((first | (apply VCall.q; kernel_rfl; (focus (intro w1 hs; first | with_reducible apply k1 w1 (hs.book h1) | with_reducible apply k2 w1 (hs.book h2)))) | (apply VLdN.mk; (focus ((repeat (first | (with_reducible apply ldn_blk) | (with_reducible apply ldn_skip))); done)); exact rfl) | apply VBr.f | (apply v_f; omega) | (apply VNew.mk; intro g hg)); (conv => whnf))))
  ((apply VRet.mk); refine ret1 (by first | exact .inl rfl | exact .inr rfl) rfl (by exact rv_tmp rfl) ?_; exact fun w h => ⟨rfl, h.base⟩)
 ·rw [if_pos e]
  ((conv => whnf); (repeat ((first | (apply VCall.q; kernel_rfl; (focus (intro w1 hs; first | with_reducible apply k1 w1 (hs.book h1)))) | (apply VLdN.mk; (focus ((repeat (first | (with_reducible apply ldn_blk) | (with_reducible apply ldn_skip))); done)); exact rfl) | apply VBr.t | (apply v_t; omega) | (apply VNew.mk; intro g hg)); (conv => whnf))))
  ((apply VRet.mk); refine ret1 (by first | exact .inl rfl | exact .inr rfl) rfl (by exact rv_tmp rfl) ?_; exact fun w h => ⟨rfl, h.base⟩)
section
variable {P : Program} {tab : TT} {w0 : World} {n : Nat} {ds : List Deferred} {ops : List Oper} {o : Oper} {os : List Oper} {ks : List Kind} {ts : TS} {A : List Chunk} {K : TS → List Chunk → Prop} {d : Tmp} {x y : Operand} {t u : TypeId}
theorem ot_eqlb {p q : Bool} (b : Bool) (hop : o.op = .binOp .eql t x y u) (hd : o.dst = some d) (hw : wantB ops ts o = some true) (hx : evT ts x = some (.bool p)) (hy : evT ts y = some (.bool q)) (he : ∀ w, (Op.equal t (.bool p) (.bool q)).run P w = .ok (p == q) w) (hb : (p == q) = b)
  (hk : OT P w0 n ds ops os ks.tail ((d, .bool b) :: ts) A K) : OT P w0 n ds ops (o :: os) ks ts A K :=
 ot_val _ hd hw (fun a w hh => by
  have e1 : eqGuard .eql t x y (.bool p) (.bool q) = pure () := rfl
  have e2 : (binOp .eql t (.bool p) (.bool q)).run P w = .ok (.bool b) w := by simp [binOp, he, hb]
  simp [execOp, hop, hh.ev hx, hh.ev hy, e1, e2]) hk
end
theorem bool_eq4 (p q : Bool) (w : World) : (Op.equal 4 (.bool p) (.bool q)).run Tryz.prog w = .ok (p == q) w := by
 simp only [Op.equal, Op.maxDepth]
 exact run_equalIn_bool w 9999 4 p q Tryz.underlying4
def partP (m : List Ln) (b : Bool) (x : Ln) : Bool := hasL m x == b
theorem filter_step {α : Type} (p : α → Bool) {l : List α} {j : Nat} (h : j < l.length) : (l.take (j + 1)).filter p = (l.take j).filter p ++ (if p l[j] then [l[j]] else []) := by
 rw [List.take_succ_eq_append_getElem h, List.filter_append]
 cases hp : p l[j] <;> simp [hp]
theorem filter_le {α : Type} (p : α → Bool) (l : List α) (j : Nat) : ((l.take j).filter p).length ≤ j := by
 refine Nat.le_trans (List.length_filter_le _ _) ?_
 rw [List.length_take]; omega
set_option maxHeartbeats 2000000 in
set_option maxRecDepth 20000 in
theorem part_any (A1 : Option Addr) (c1 : Nat) (l1 : List Ln) (A2 : Option Addr) (c2 : Nat) (l2 : List Ln) (b : Bool) (w : World) (h1 : BookR w A1 l1) (h2 : BookR w A2 l2) (hm1 : l1.length ≤ 1000) (hm2 : l2.length ≤ 1000) :
  Calls Tryz.prog 71 #[.agg #[.slice A1 l1.length c1], .agg #[.slice A2 l2.length c2], .bool b] w fun e w' => ∃ x : SlX, e = .returned (.agg #[.slice x.1 (l1.filter (partP l2 b)).length x.2]) ∧ True ∧ St w ([] ++ [.own (.slice x.1 (l1.filter (partP l2 b)).length x.2) 61 5 (l1.filter (partP l2 b)).length (lnC (l1.filter (partP l2 b)))]) w' := by
 refine fn_v tk (n := 37) (A := []) Tryz.func71 rfl rfl (Nat.le_of_ble_eq_true rfl) (St.nil (Below.refl _ _)) ?_
 ((conv => whnf); (repeat ((apply VNew.mk; intro g hg); (conv => whnf))); apply VStop.mk)
 revert g hg
 intro g7 hg7
 revert g hg
 intro g6 hg6
 revert g hg
 intro g4 hg4
 revert g hg
 intro g3 hg3
 refine tr_own_nil 61 5 ?_
 refine v_loop (fun gm ds ts A => ds = [] ∧ ∃ (j : Nat) (Bx : Option Addr) (cx : Nat), j + gm = l1.length ∧ A = [.own (.slice Bx ((l1.take j).filter (partP l2 b)).length cx) 61 5 ((l1.take j).filter (partP l2 b)).length (lnC ((l1.take j).filter (partP l2 b))), .blk g7 24 [.slice Bx ((l1.take j).filter (partP l2 b)).length cx], .blk g6 24 [.slice none 0 0], .blk g4 24 [.slice A2 l2.length c2], .blk g3 24 [.slice A1 l1.length c1]] ∧ ts = [(2, .bool b), (3, .pointer (some ⟨g3, 0, none⟩)), (4, .pointer (some ⟨g4, 0, none⟩)), (6, .pointer (some ⟨g6, 0, none⟩)), (7, .pointer (some ⟨g7, 0, none⟩)), (8, .int .i64 (j : Int))]) l1.length (l := [(2, _), (3, _), (4, _), (6, _), (7, _), (8, _)]) (B := _) ?_ (List.Sublist.refl _) ⟨rfl, 0, none, 0, by omega, rfl, rfl⟩ ?_
 ·exact ⟨rfl, rfl, rfl, rfl, rfl, rfl, trivial⟩
 rintro gm ds ts A ⟨rfl, j, Bx, cx, hj, rfl, rfl⟩
 by_cases hlt : j < l1.length
 ·obtain ⟨ba, oa, rfl⟩ := book_addr h1 hlt
  have cA := fun A => ln_cells h1 hlt A
  have kh := fun w1 h => has_any A2 c2 l2 (lnAt l1 j) w1 h hm2
  have hst := filter_step (partP l2 b) hlt
  have hle := filter_le (partP l2 b) l1 j
  have hpp : partP l2 b l1[j] = (hasL l2 (lnAt l1 j) == b) := by rw [← lnAt_get hlt]; rfl
  rw [hpp, ← lnAt_get hlt] at hst
  generalize hasL l2 (lnAt l1 j) = r at *
  generalize lnAt l1 j = x at *
  generalize (l1.take j).filter (partP l2 b) = O at *
  unfold lnV at kh
  unfold lnL at cA
  have be := fun w1 => bool_eq4 r b w1
  cases hb : (r == b)
  ·rw [hb] at hst
   rw [if_neg (by decide), List.append_nil] at hst
   (apply tr_v tk; (conv => whnf); (repeat ((first | ((first | apply VStop.mk | apply VCall.stop); (first | refine tr_region_draw (id := 5) (by kernel_rfl) [0, 1, 2, 3, 4, 5, 6, 8, 7, 9] [.rd, .rd, .rd, .rd, .rd, .rd, .rd, .rd, .cr, .rd] rfl (by kernel_rfl) ?_ | (refine ot_eqlb false rfl rfl rfl rfl rfl be hb ?_)); apply ot_v tk) | (apply VLdN.mk; (first | exact cA _); exact rfl) | (apply VIx.mk (j := j); exact rfl; omega) | (apply VCall.q; kernel_rfl; (focus (intro w1 hs; first | with_reducible apply kh w1 (hs.book h2)))) | (apply VLd.mk; (focus ((repeat (first | ((with_reducible apply ld_blk); exact rfl) | (with_reducible apply ld_skip))); done))) | (apply VRng.mk; omega) | apply VBr.t | apply VBr.f | (apply v_t; omega)); (conv => whnf))))
   exact v_rnd (gm - 1) (by omega) (l := [(2, _), (3, _), (4, _), (6, _), (7, _), (8, _)]) (B := _) ⟨rfl, rfl, rfl, rfl, rfl, rfl, trivial⟩ (List.Sublist.refl _) ⟨rfl, j + 1, Bx, cx, by omega, by rw [hst], rfl⟩
  ·rw [hb] at hst
   rw [if_pos rfl] at hst
   have hs2 : (O ++ [x]).length = O.length + 1 := by rw [List.length_append]; rfl
   have hs3 := lnC_snoc O x
   unfold lnL at hs3
   (apply tr_v tk; (conv => whnf); (repeat ((first | ((first | apply VStop.mk | apply VCall.stop); (first | refine tr_region_draw (id := 5) (by kernel_rfl) [0, 1, 2, 3, 4, 5, 6, 8, 7, 9] [.rd, .rd, .rd, .rd, .rd, .rd, .rd, .rd, .cr, .rd] rfl (by kernel_rfl) ?_ | refine tr_region_lex (id := 6) (by kernel_rfl) [.rd, .rd, .rd, .rd, .rd, .rd, .rd, .cr, .wr, .rd, .wr] rfl (by kernel_rfl) ?_ | (refine ot_eqlb true rfl rfl rfl rfl rfl be hb ?_) | (refine ot_appendS (sz := 5) (sl := O.length) (A'v := fun v' => _ :: .own v' 61 5 (O.length + 1) (lnC O ++ [.int .i64 x.st, .int .i64 x.ck, .int .i64 x.kd, .int .i64 x.th, .int .i64 x.vl]) :: _) tk rfl rfl rfl rfl rfl rfl rfl rfl rfl rfl (by decide) rfl (cells_blk_all (.head _)) rfl rfl (fun v' => .there .here) (by omega) (by decide) (fun B3 c3 => ?_))); apply ot_v tk) | (apply VLdN.mk; (first | exact cA _); exact rfl) | (apply VIx.mk (j := j); exact rfl; omega) | (apply VCall.q; kernel_rfl; (focus (intro w1 hs; first | with_reducible apply kh w1 (hs.book h2)))) | (apply VLd.mk; (focus ((repeat (first | ((with_reducible apply ld_blk); exact rfl) | (with_reducible apply ld_skip))); done))) | (apply VRng.mk; omega) | apply VBr.t | (apply v_t; omega) | (apply VNew.mk; intro g hg) | (apply VSt.mk; (focus ((repeat (first | (with_reducible exact At.here) | (with_reducible apply At.there))); done)); exact rfl)); (conv => whnf))))
   exact v_rnd (gm - 1) (by omega) (l := [(2, _), (3, _), (4, _), (6, _), (7, _), (8, _)]) (B := _) ⟨rfl, rfl, rfl, rfl, rfl, rfl, trivial⟩ (.cons _ (List.Sublist.refl _)) ⟨rfl, j + 1, B3, c3, by omega, by rw [hst, hs2, hs3], rfl⟩
 obtain rfl : j = l1.length := by omega
 rw [List.take_length]
 (apply tr_v tk; (conv => whnf); (repeat ((first | (apply VLd.mk; (focus ((repeat (first | ((with_reducible apply ld_blk); exact rfl) | (with_reducible apply ld_skip))); done))) | (apply VLdN.mk; (focus ((repeat (first | (with_reducible apply ldn_blk) | (with_reducible apply ldn_skip))); done)); exact rfl) | apply VBr.f | (apply v_f; omega) | (apply VSt.mk; (focus ((repeat (first | (with_reducible exact At.here) | (with_reducible apply At.there))); done)); exact rfl)); (conv => whnf))))
 (apply VRet.mk)
 refine ret1 (by first | exact .inl rfl | exact .inr rfl) rfl (by exact rv_row tk rfl rfl rfl (by first | exact cells_blk_all (by (repeat (first | exact List.Mem.head _ | assumption | refine List.Mem.tail _ ?_))) | exact cells_row0 (by (repeat (first | exact List.Mem.head _ | assumption | refine List.Mem.tail _ ?_)))) rfl) ?_
 exact fun w hs => ⟨(Bx, cx), rfl, trivial, hs.sub (.cons_cons _ (List.nil_sublist _))⟩
/-! ## Valid books, plainly -/
structure Valid (l : List Ln) : Prop where
 len : l.length ≤ 20
 ok : Lines l
 ord : ∀ i j, i < j → j < l.length → before (lnAt l i) (lnAt l j) = true
theorem before_trans {a b c : Ln} (h1 : before a b = true) (h2 : before b c = true) : before a c = true := by
 rw [before_iff] at *; omega
theorem before_irrefl (a : Ln) : before a a = false := by
 rw [← Bool.not_eq_true, before_iff]; omega
theorem before_asymm {a b : Ln} (h1 : before a b = true) : before b a = false := by
 rw [← Bool.not_eq_true]
 rw [before_iff] at *; omega
theorem chkS_zero {l : List Ln} : ∀ k j, j + k = l.length → (chkS (prevOf l j) (l.drop j) = 0 ↔ ∀ i, j ≤ i → i < l.length → isLine (lnAt l i) = true ∧ badP (prevOf l i) (lnAt l i) = false)
 | 0, j, h => by
  obtain rfl : j = l.length := by omega
  rw [chkS_end]
  exact ⟨fun _ i h1 h2 => by omega, fun _ => rfl⟩
 | k + 1, j, h => by
  have ih := chkS_zero (l := l) k (j + 1) (by omega)
  rw [chkS_step (by omega)]
  constructor
  ·intro h0
   split at h0
   ·exact absurd h0 (by decide)
   ·rename_i e1
    split at h0
    ·exact absurd h0 (by decide)
    ·rename_i e2
     intro i h1 h2
     by_cases e : i = j
     ·subst e
      exact ⟨by simpa using e1, by simpa using e2⟩
     ·exact ih.1 h0 i (by omega) h2
  ·intro h0
   obtain ⟨e1, e2⟩ := h0 j (Nat.le_refl _) (by omega)
   rw [if_neg (by rw [e1]; decide), if_neg (by rw [e2]; decide)]
   exact ih.2 fun i h1 h2 => h0 i (by omega) h2
theorem ord_of {l : List Ln} (h : ∀ i, i + 1 < l.length → before (lnAt l i) (lnAt l (i + 1)) = true) : ∀ d i, i + d + 1 < l.length → before (lnAt l i) (lnAt l (i + d + 1)) = true
 | 0, i, hi => h i hi
 | d + 1, i, hi => before_trans (ord_of h d i (by omega)) (h (i + d + 1) (by omega))
theorem chk_valid {l : List Ln} : chkBook l = 0 ↔ Valid l := by
 unfold chkBook
 constructor
 ·intro h
  split at h
  ·exact absurd h (by decide)
  ·rename_i h20
   have h1 := (chkS_zero (l := l) l.length 0 (by omega)).1 h
   refine ⟨by omega, fun j hj => (h1 j (Nat.zero_le _) hj).1, fun i j hij hj => ?_⟩
   have h2 := ord_of (l := l) (fun i hi => by
    have := (h1 (i + 1) (Nat.zero_le _) hi).2
    rw [prevOf_succ] at this
    exact (by simpa [badP] using this)) (j - i - 1) i (by omega)
   rwa [show i + (j - i - 1) + 1 = j by omega] at h2
 ·intro hV
  rw [if_neg (by have := hV.len; omega)]
  refine (chkS_zero (l := l) l.length 0 (by omega)).2 fun i _ hi => ⟨hV.ok i hi, ?_⟩
  cases i with
  | zero => rfl
  | succ i =>
   rw [prevOf_succ]
   show (!before _ _) = false
   rw [hV.ord i (i + 1) (by omega) hi]; rfl
theorem chkS_vals : ∀ (l : List Ln) (p : Option Ln), chkS p l = 0 ∨ chkS p l = 3 ∨ chkS p l = 16
 | [], _ => .inl rfl
 | x :: l, p => by
  rw [chkS]
  split
  ·exact .inr (.inl rfl)
  ·split
   ·exact .inr (.inr rfl)
   ·exact chkS_vals l _
theorem chkBook_vals (l : List Ln) : chkBook l = 0 ∨ chkBook l = 3 ∨ chkBook l = 6 ∨ chkBook l = 16 := by
 unfold chkBook
 split
 ·exact .inr (.inr (.inl rfl))
 ·rcases chkS_vals l none with h | h | h
  ·exact .inl h
  ·exact .inr (.inl h)
  ·exact .inr (.inr (.inr h))
theorem Valid.lnOk {l : List Ln} (h : Valid l) {j : Nat} (hj : j < l.length) : LnOk (lnAt l j) := isLine_ok (h.ok j hj)
theorem Valid.max {l : List Ln} (h : Valid l) : l.length ≤ maxLen := by have := h.len; unfold maxLen; omega
/-! ## Stock, At -/
theorem refStock_err (B : Option Addr) (c : Nat) (l : List Ln) (w : World) (h : BookR w B l) (hm : l.length ≤ maxLen) (hE : chkBook l ≠ 0) : Calls Tryz.prog 18 #[.agg #[.slice B l.length c]] w fun e w' => e = .returned (.tuple #[.slice none 0 0, .int .i64 (chkBook l)]) ∧ Below w.heap.size w w' := by
 have k1 := fun w1 h => refCheck_any B c l w1 h hm
 generalize chkBook l = z at *
 refine fn_v tk (n := 12) (A := []) Tryz.func18 rfl rfl (Nat.le_of_ble_eq_true rfl) (St.nil (Below.refl _ _)) ?_
 ((conv => whnf); (repeat ((first | (apply VCall.q; kernel_rfl; (focus (intro w1 hs; first | with_reducible apply k1 w1 (hs.book h)))) | (apply VLdN.mk; (focus ((repeat (first | (with_reducible apply ldn_blk) | (with_reducible apply ldn_skip))); done)); exact rfl) | apply VBr.t | (apply v_t; omega) | (apply VNew.mk; intro g hg)); (conv => whnf))))
 (apply VRet.mk)
 refine ret2 (by first | exact .inl rfl | exact .inr rfl) rfl (by exact rv_tmp rfl) (by exact rv_tmp rfl) ?_
 exact fun w h => ⟨rfl, h.base⟩
set_option maxRecDepth 20000 in
theorem refStock_ok (B : Option Addr) (c : Nat) (l : List Ln) (w : World) (h : BookR w B l) (hV : Valid l) : Calls Tryz.prog 18 #[.agg #[.slice B l.length c]] w fun e w' => ∃ x : SlX, e = .returned (.tuple #[.slice x.1 8 x.2, .int .i64 0]) ∧ True ∧ St w ([] ++ [.own (.slice x.1 8 x.2) 2 1 8 (fnC (stF 999 l) 8)]) w' := by
 have k1 := fun w1 h => refCheck_any B c l w1 h hV.max
 rw [chk_valid.2 hV] at k1
 have k2 := fun w1 h => stockOf_any 999 B c l w1 h hV.ok (by have := hV.len; omega)
 refine fn_v tk (n := 12) (A := []) Tryz.func18 rfl rfl (Nat.le_of_ble_eq_true rfl) (St.nil (Below.refl _ _)) ?_
 ((conv => whnf); (repeat ((first | (apply VCall.q; kernel_rfl; (focus (intro w1 hs; first | with_reducible apply k1 w1 (hs.book h)))) | (apply VLd.mk; (focus ((repeat (first | ((with_reducible apply ld_blk); exact rfl) | (with_reducible apply ld_skip))); done))) | (apply VLdN.mk; (focus ((repeat (first | (with_reducible apply ldn_blk) | (with_reducible apply ldn_skip))); done)); exact rfl) | apply VBr.f | (apply v_f; omega) | (apply VNew.mk; intro g hg)); (conv => whnf))); apply VCall.stop)
 refine ot_callT (X := SlX) (us := []) (vs := []) (fun x => .slice x.1 8 x.2) (fun x => []) (fun x => [.own (.slice x.1 8 x.2) 2 1 8 (fnC (stF 999 l) 8)]) _ (fun x c hc => one_mut hc) (by decide) rfl rfl rfl rfl (by kernel_rfl) (evl_of rfl) rfl (fun w1 hs => k2 w1 (hs.book h)) ?_
 intro x _
 (dsimp only [List.cons_append, List.nil_append]; apply ot_v tk)
 ((conv => whnf))
 (apply VRet.mk)
 refine ret2 (by first | exact .inl rfl | exact .inr rfl) rfl (by exact rv_tmp rfl) (by exact rv_tmp rfl) ?_
 exact fun w hs => ⟨x, rfl, trivial, hs.sub (.cons _ (List.Sublist.refl _))⟩
theorem refAt_err (B : Option Addr) (c : Nat) (l : List Ln) (a : Int) (w : World) (h : BookR w B l) (hm : l.length ≤ maxLen) (hE : chkBook l ≠ 0) : Calls Tryz.prog 20 #[.agg #[.slice B l.length c], .int .i64 a] w fun e w' => e = .returned (.tuple #[.slice none 0 0, .int .i64 (chkBook l)]) ∧ Below w.heap.size w w' := by
 have k1 := fun w1 h => refCheck_any B c l w1 h hm
 generalize chkBook l = z at *
 refine fn_v tk (n := 18) (A := []) Tryz.func20 rfl rfl (Nat.le_of_ble_eq_true rfl) (St.nil (Below.refl _ _)) ?_
 ((conv => whnf); (repeat ((first | (apply VCall.q; kernel_rfl; (focus (intro w1 hs; first | with_reducible apply k1 w1 (hs.book h)))) | (apply VLdN.mk; (focus ((repeat (first | (with_reducible apply ldn_blk) | (with_reducible apply ldn_skip))); done)); exact rfl) | apply VBr.t | (apply v_t; omega) | (apply VNew.mk; intro g hg)); (conv => whnf))))
 (apply VRet.mk)
 refine ret2 (by first | exact .inl rfl | exact .inr rfl) rfl (by exact rv_tmp rfl) (by exact rv_tmp rfl) ?_
 exact fun w h => ⟨rfl, h.base⟩
theorem refAt_arg (B : Option Addr) (c : Nat) (l : List Ln) (a : Int) (w : World) (h : BookR w B l) (hV : Valid l) (ha : inB a 0 999 = false) : Calls Tryz.prog 20 #[.agg #[.slice B l.length c], .int .i64 a] w fun e w' => e = .returned (.tuple #[.slice none 0 0, .int .i64 2]) ∧ Below w.heap.size w w' := by
 have k1 := fun w1 h => refCheck_any B c l w1 h hV.max
 rw [chk_valid.2 hV] at k1
 have k2 := fun w1 => is_any a 0 999 w1
 rw [ha] at k2
 refine fn_v tk (n := 18) (A := []) Tryz.func20 rfl rfl (Nat.le_of_ble_eq_true rfl) (St.nil (Below.refl _ _)) ?_
 ((conv => whnf); (repeat ((first | (apply VCall.q; kernel_rfl; (focus (intro w1 hs; first | with_reducible apply k1 w1 (hs.book h) | with_reducible apply k2 w1))) | (apply VLdN.mk; (focus ((repeat (first | (with_reducible apply ldn_blk) | (with_reducible apply ldn_skip))); done)); exact rfl) | apply VBr.t | apply VBr.f | (apply v_f; omega) | (apply VNew.mk; intro g hg)); (conv => whnf))))
 (apply VRet.mk)
 refine ret2 (by first | exact .inl rfl | exact .inr rfl) rfl (by exact rv_tmp rfl) (by exact rv_tmp rfl) ?_
 exact fun w h => ⟨rfl, h.base⟩
set_option maxRecDepth 20000 in
theorem refAt_ok (B : Option Addr) (c : Nat) (l : List Ln) (a : Int) (w : World) (h : BookR w B l) (hV : Valid l) (ha : inB a 0 999 = true) : Calls Tryz.prog 20 #[.agg #[.slice B l.length c], .int .i64 a] w fun e w' => ∃ x : SlX, e = .returned (.tuple #[.slice x.1 8 x.2, .int .i64 0]) ∧ True ∧ St w ([] ++ [.own (.slice x.1 8 x.2) 2 1 8 (fnC (stF a l) 8)]) w' := by
 have k1 := fun w1 h => refCheck_any B c l w1 h hV.max
 rw [chk_valid.2 hV] at k1
 have k2 := fun w1 => is_any a 0 999 w1
 rw [ha] at k2
 have k3 := fun w1 h => stockOf_any a B c l w1 h hV.ok (by have := hV.len; omega)
 refine fn_v tk (n := 18) (A := []) Tryz.func20 rfl rfl (Nat.le_of_ble_eq_true rfl) (St.nil (Below.refl _ _)) ?_
 ((conv => whnf); (repeat ((first | (apply VCall.q; kernel_rfl; (focus (intro w1 hs; first | with_reducible apply k1 w1 (hs.book h) | with_reducible apply k2 w1))) | (apply VLd.mk; (focus ((repeat (first | ((with_reducible apply ld_blk); exact rfl) | (with_reducible apply ld_skip))); done))) | (apply VLdN.mk; (focus ((repeat (first | (with_reducible apply ldn_blk) | (with_reducible apply ldn_skip))); done)); exact rfl) | apply VBr.f | (apply v_f; omega) | (apply VNew.mk; intro g hg)); (conv => whnf))); apply VCall.stop)
 refine ot_callT (X := SlX) (us := []) (vs := []) (fun x => .slice x.1 8 x.2) (fun x => []) (fun x => [.own (.slice x.1 8 x.2) 2 1 8 (fnC (stF a l) 8)]) _ (fun x c hc => one_mut hc) (by decide) rfl rfl rfl rfl (by kernel_rfl) (evl_of rfl) rfl (fun w1 hs => k3 w1 (hs.book h)) ?_
 intro x _
 (dsimp only [List.cons_append, List.nil_append]; apply ot_v tk)
 ((conv => whnf))
 (apply VRet.mk)
 refine ret2 (by first | exact .inl rfl | exact .inr rfl) rfl (by exact rv_tmp rfl) (by exact rv_tmp rfl) ?_
 exact fun w hs => ⟨x, rfl, trivial, hs.sub (.cons _ (List.Sublist.refl _))⟩
/-! ## Common, Only -/
def errTwo (l1 l2 : List Ln) : Int := if chkBook l1 ≠ 0 then chkBook l1 else chkBook l2
section
variable (A1 : Option Addr) (c1 : Nat) (l1 : List Ln) (A2 : Option Addr) (c2 : Nat) (l2 : List Ln) (w : World) (h1 : BookR w A1 l1) (h2 : BookR w A2 l2)
include h1 h2
theorem refCommon_err (hm1 : l1.length ≤ maxLen) (hm2 : l2.length ≤ maxLen) (hE : errTwo l1 l2 ≠ 0) : Calls Tryz.prog 30 #[.agg #[.slice A1 l1.length c1], .agg #[.slice A2 l2.length c2]] w fun e w' => e = .returned (.tuple #[.agg #[.slice none 0 0], .int .i64 (errTwo l1 l2)]) ∧ Below w.heap.size w w' := by
 have k1 := fun w1 h h' => both_any A1 c1 l1 A2 c2 l2 w1 h h' hm1 hm2
 unfold errTwo at *
 generalize (if chkBook l1 ≠ 0 then chkBook l1 else chkBook l2) = z at *
 refine fn_v tk (n := 17) (A := []) Tryz.func30 rfl rfl (Nat.le_of_ble_eq_true rfl) (St.nil (Below.refl _ _)) ?_
 ((conv => whnf); (repeat ((first | (apply VCall.q; kernel_rfl; (focus (intro w1 hs; first | with_reducible apply k1 w1 (hs.book h1) (hs.book h2)))) | (apply VLdN.mk; (focus ((repeat (first | (with_reducible apply ldn_blk) | (with_reducible apply ldn_skip))); done)); exact rfl) | apply VBr.t | (apply v_t; omega) | (apply VNew.mk; intro g hg) | (apply VSt.mk; (focus ((repeat (first | (with_reducible exact At.here) | (with_reducible apply At.there))); done)); exact rfl)); (conv => whnf))))
 (apply VRet.mk)
 refine ret2 (by first | exact .inl rfl | exact .inr rfl) rfl (by exact rv_row tk rfl rfl rfl (by first | exact cells_blk_all (by (repeat (first | exact List.Mem.head _ | assumption | refine List.Mem.tail _ ?_))) | exact cells_row0 (by (repeat (first | exact List.Mem.head _ | assumption | refine List.Mem.tail _ ?_)))) rfl) (by exact rv_tmp rfl) ?_
 exact fun w h => ⟨rfl, h.base⟩
theorem refOnly_err (hm1 : l1.length ≤ maxLen) (hm2 : l2.length ≤ maxLen) (hE : errTwo l1 l2 ≠ 0) : Calls Tryz.prog 32 #[.agg #[.slice A1 l1.length c1], .agg #[.slice A2 l2.length c2]] w fun e w' => e = .returned (.tuple #[.agg #[.slice none 0 0], .int .i64 (errTwo l1 l2)]) ∧ Below w.heap.size w w' := by
 have k1 := fun w1 h h' => both_any A1 c1 l1 A2 c2 l2 w1 h h' hm1 hm2
 unfold errTwo at *
 generalize (if chkBook l1 ≠ 0 then chkBook l1 else chkBook l2) = z at *
 refine fn_v tk (n := 17) (A := []) Tryz.func32 rfl rfl (Nat.le_of_ble_eq_true rfl) (St.nil (Below.refl _ _)) ?_
 ((conv => whnf); (repeat ((first | (apply VCall.q; kernel_rfl; (focus (intro w1 hs; first | with_reducible apply k1 w1 (hs.book h1) (hs.book h2)))) | (apply VLdN.mk; (focus ((repeat (first | (with_reducible apply ldn_blk) | (with_reducible apply ldn_skip))); done)); exact rfl) | apply VBr.t | (apply v_t; omega) | (apply VNew.mk; intro g hg) | (apply VSt.mk; (focus ((repeat (first | (with_reducible exact At.here) | (with_reducible apply At.there))); done)); exact rfl)); (conv => whnf))))
 (apply VRet.mk)
 refine ret2 (by first | exact .inl rfl | exact .inr rfl) rfl (by exact rv_row tk rfl rfl rfl (by first | exact cells_blk_all (by (repeat (first | exact List.Mem.head _ | assumption | refine List.Mem.tail _ ?_))) | exact cells_row0 (by (repeat (first | exact List.Mem.head _ | assumption | refine List.Mem.tail _ ?_)))) rfl) (by exact rv_tmp rfl) ?_
 exact fun w h => ⟨rfl, h.base⟩
set_option maxRecDepth 20000 in
theorem refCommon_ok (hV1 : Valid l1) (hV2 : Valid l2) : Calls Tryz.prog 30 #[.agg #[.slice A1 l1.length c1], .agg #[.slice A2 l2.length c2]] w fun e w' => ∃ x : SlX, e = .returned (.tuple #[.agg #[.slice x.1 (l1.filter (partP l2 true)).length x.2], .int .i64 0]) ∧ True ∧ St w ([] ++ [.own (.slice x.1 (l1.filter (partP l2 true)).length x.2) 61 5 (l1.filter (partP l2 true)).length (lnC (l1.filter (partP l2 true)))]) w' := by
 have k1 := fun w1 h h' => both_any A1 c1 l1 A2 c2 l2 w1 h h' hV1.max hV2.max
 rw [chk_valid.2 hV1, chk_valid.2 hV2] at k1
 have k2 := fun w1 h h' => part_any A1 c1 l1 A2 c2 l2 true w1 h h' (by have := hV1.len; omega) (by have := hV2.len; omega)
 generalize l1.filter (partP l2 true) = O at *
 refine fn_v tk (n := 17) (A := []) Tryz.func30 rfl rfl (Nat.le_of_ble_eq_true rfl) (St.nil (Below.refl _ _)) ?_
 ((conv => whnf); (repeat ((first | (apply VCall.q; kernel_rfl; (focus (intro w1 hs; first | with_reducible apply k1 w1 (hs.book h1) (hs.book h2)))) | (apply VLdN.mk; (focus ((repeat (first | (with_reducible apply ldn_blk) | (with_reducible apply ldn_skip))); done)); exact rfl) | apply VBr.f | (apply v_f; omega) | (apply VNew.mk; intro g hg)); (conv => whnf))); apply VCall.stop)
 refine ot_callT (X := SlX) (us := []) (vs := []) (fun x => .agg #[.slice x.1 O.length x.2]) (fun x => []) (fun x => [.own (.slice x.1 O.length x.2) 61 5 O.length (lnC O)]) _ (fun x c hc => one_mut hc) (by decide) rfl rfl rfl rfl (by kernel_rfl) (evl_of rfl) rfl (fun w1 hs => k2 w1 (hs.book h1) (hs.book h2)) ?_
 intro x _
 (dsimp only [List.cons_append, List.nil_append]; apply ot_v tk)
 ((conv => whnf); (repeat ((apply VSt.mk; (focus ((repeat (first | (with_reducible exact At.here) | (with_reducible apply At.there))); done)); exact rfl); (conv => whnf))))
 (apply VRet.mk)
 refine ret2 (by first | exact .inl rfl | exact .inr rfl) rfl (by exact rv_row tk rfl rfl rfl (by first | exact cells_blk_all (by (repeat (first | exact List.Mem.head _ | assumption | refine List.Mem.tail _ ?_))) | exact cells_row0 (by (repeat (first | exact List.Mem.head _ | assumption | refine List.Mem.tail _ ?_)))) rfl) (by exact rv_tmp rfl) ?_
 exact fun w hs => ⟨x, rfl, trivial, hs.sub (.cons _ (.cons _ (.cons _ (List.Sublist.refl _))))⟩
set_option maxRecDepth 20000 in
theorem refOnly_ok (hV1 : Valid l1) (hV2 : Valid l2) : Calls Tryz.prog 32 #[.agg #[.slice A1 l1.length c1], .agg #[.slice A2 l2.length c2]] w fun e w' => ∃ x : SlX, e = .returned (.tuple #[.agg #[.slice x.1 (l1.filter (partP l2 false)).length x.2], .int .i64 0]) ∧ True ∧ St w ([] ++ [.own (.slice x.1 (l1.filter (partP l2 false)).length x.2) 61 5 (l1.filter (partP l2 false)).length (lnC (l1.filter (partP l2 false)))]) w' := by
 have k1 := fun w1 h h' => both_any A1 c1 l1 A2 c2 l2 w1 h h' hV1.max hV2.max
 rw [chk_valid.2 hV1, chk_valid.2 hV2] at k1
 have k2 := fun w1 h h' => part_any A1 c1 l1 A2 c2 l2 false w1 h h' (by have := hV1.len; omega) (by have := hV2.len; omega)
 generalize l1.filter (partP l2 false) = O at *
 refine fn_v tk (n := 17) (A := []) Tryz.func32 rfl rfl (Nat.le_of_ble_eq_true rfl) (St.nil (Below.refl _ _)) ?_
 ((conv => whnf); (repeat ((first | (apply VCall.q; kernel_rfl; (focus (intro w1 hs; first | with_reducible apply k1 w1 (hs.book h1) (hs.book h2)))) | (apply VLdN.mk; (focus ((repeat (first | (with_reducible apply ldn_blk) | (with_reducible apply ldn_skip))); done)); exact rfl) | apply VBr.f | (apply v_f; omega) | (apply VNew.mk; intro g hg)); (conv => whnf))); apply VCall.stop)
 refine ot_callT (X := SlX) (us := []) (vs := []) (fun x => .agg #[.slice x.1 O.length x.2]) (fun x => []) (fun x => [.own (.slice x.1 O.length x.2) 61 5 O.length (lnC O)]) _ (fun x c hc => one_mut hc) (by decide) rfl rfl rfl rfl (by kernel_rfl) (evl_of rfl) rfl (fun w1 hs => k2 w1 (hs.book h1) (hs.book h2)) ?_
 intro x _
 (dsimp only [List.cons_append, List.nil_append]; apply ot_v tk)
 ((conv => whnf); (repeat ((apply VSt.mk; (focus ((repeat (first | (with_reducible exact At.here) | (with_reducible apply At.there))); done)); exact rfl); (conv => whnf))))
 (apply VRet.mk)
 refine ret2 (by first | exact .inl rfl | exact .inr rfl) rfl (by exact rv_row tk rfl rfl rfl (by first | exact cells_blk_all (by (repeat (first | exact List.Mem.head _ | assumption | refine List.Mem.tail _ ?_))) | exact cells_row0 (by (repeat (first | exact List.Mem.head _ | assumption | refine List.Mem.tail _ ?_)))) rfl) (by exact rv_tmp rfl) ?_
 exact fun w hs => ⟨x, rfl, trivial, hs.sub (.cons _ (.cons _ (.cons _ (List.Sublist.refl _))))⟩
end
end Go.Proofs.YtojeeindlijgkaaGreatDoor
