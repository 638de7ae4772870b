/- Two books together: lemmas for the rows of this seat. No conditions. -/
import Derived.Laws.StructEq
import Derived.Test.YtojeeindlijgkaaGreatDoorK11
set_option linter.all false
namespace Go.Proofs.YtojeeindlijgkaaGreatDoor
open Go.RowKit
/-! ## Two books together -/
def mrg : List Ln → List Ln → List Ln
 | [], m => m
 | x :: a, [] => x :: a
 | x :: a, y :: b => if ordI x y < 0 then x :: mrg a (y :: b) else if 0 < ordI x y then y :: mrg (x :: a) b else y :: mrg a b
termination_by a b => a.length + b.length
theorem mrg_nil (a : List Ln) : mrg a [] = a := by
 cases a <;> simp [mrg]
theorem mrg_lt {x y : Ln} (a b : List Ln) (h : ordI x y < 0) : mrg (x :: a) (y :: b) = x :: mrg a (y :: b) := by rw [mrg, if_pos h]
theorem mrg_gt {x y : Ln} (a b : List Ln) (h : 0 < ordI x y) : mrg (x :: a) (y :: b) = y :: mrg (x :: a) b := by rw [mrg, if_neg (by omega), if_pos h]
theorem mrg_eq {x y : Ln} (a b : List Ln) (h : ordI x y = 0) : mrg (x :: a) (y :: b) = y :: mrg a b := by rw [mrg, if_neg (by omega), if_neg (by omega)]
theorem drop_lnAt {l : List Ln} {i : Nat} (h : i < l.length) : l.drop i = lnAt l i :: l.drop (i + 1) := by rw [List.drop_eq_getElem_cons h, lnAt_get h]
theorem mrg_len : ∀ (n : Nat) (a b : List Ln), a.length + b.length ≤ n → (mrg a b).length ≤ a.length + b.length
 | _, [], m, _ => by simp [mrg]
 | _, x :: a, [], _ => by simp [mrg]
 | 0, x :: a, y :: b, h => by simp at h
 | n + 1, x :: a, y :: b, h => by
  simp only [List.length_cons] at h ⊢
  rcases Int.lt_trichotomy (ordI x y) 0 with e | e | e
  ·have := mrg_len n a (y :: b) (by simp; omega)
   rw [mrg_lt _ _ e]; simp at this ⊢; omega
  ·have := mrg_len n a b (by omega)
   rw [mrg_eq _ _ e]; simp at this ⊢; omega
  ·have := mrg_len n (x :: a) b (by simp; omega)
   rw [mrg_gt _ _ e]; simp at this ⊢; omega
/-- Lines of the same stamp and clerk are the same. -/
def Agree (a b : List Ln) : Prop := ∀ x ∈ a, ∀ y ∈ b, key x = key y → x = y
theorem mrg_mem : ∀ (n : Nat) (a b : List Ln), a.length + b.length ≤ n → Agree a b → ∀ z, z ∈ mrg a b ↔ z ∈ a ∨ z ∈ b
 | _, [], m, _, _ => fun z => by simp [mrg]
 | _, x :: a, [], _, _ => fun z => by simp [mrg]
 | 0, x :: a, y :: b, h, _ => by simp at h
 | n + 1, x :: a, y :: b, h, hA => fun z => by
  simp only [List.length_cons] at h
  rcases Int.lt_trichotomy (ordI x y) 0 with e | e | e
  ·have := mrg_mem n a (y :: b) (by simp; omega) (fun u hu v hv => hA u (.tail _ hu) v hv) z
   rw [mrg_lt _ _ e, List.mem_cons, this, List.mem_cons, List.mem_cons]
   constructor
   ·rintro (h | h | h | h) <;> simp [h]
   ·rintro ((h | h) | h | h) <;> simp [h]
  ·have := mrg_mem n a b (by omega) (fun u hu v hv => hA u (.tail _ hu) v (.tail _ hv)) z
   have hxy : x = y := hA x (.head _) y (.head _) (by
    rcases ordI_cases x y with h | h | h
    ·omega
    ·omega
    ·unfold key; rw [h.2.1, h.2.2])
   rw [mrg_eq _ _ e, List.mem_cons, this, List.mem_cons, List.mem_cons, hxy]
   constructor
   ·rintro (h | h | h) <;> simp [h]
   ·rintro ((h | h) | h | h) <;> simp [h]
  ·have := mrg_mem n (x :: a) b (by simp; omega) (fun u hu v hv => hA u hu v (.tail _ hv)) z
   rw [mrg_gt _ _ e, List.mem_cons, this, List.mem_cons, List.mem_cons]
   constructor
   ·rintro (h | (h | h) | h) <;> simp [h]
   ·rintro ((h | h) | h | h) <;> simp [h]
theorem Sorted.cons {x : Ln} {l : List Ln} (h : Sorted l) (hx : ∀ y ∈ l, before x y = true) : Sorted (x :: l) := fun i j hij hj => by
 match i, j, hij with
 | 0, j + 1, _ => exact hx _ (by
   have hj : j < l.length := by simpa using hj
   rw [show lnAt (x :: l) (j + 1) = lnAt l j from rfl, lnAt_get hj]
   exact List.getElem_mem hj)
 | i + 1, j + 1, hij => exact h i j (by omega) (by simpa using hj)
theorem mrg_sorted : ∀ (n : Nat) (a b : List Ln), a.length + b.length ≤ n → Agree a b → Sorted a → Sorted b → Sorted (mrg a b)
 | _, [], m, _, _, _, hb => by rw [mrg]; exact hb
 | _, x :: a, [], _, _, ha, _ => by rw [mrg]; exact ha
 | 0, x :: a, y :: b, h, _, _, _ => by simp at h
 | n + 1, x :: a, y :: b, h, hA, ha, hb => by
  simp only [List.length_cons] at h
  rcases ordI_cases x y with ⟨e, eb⟩ | ⟨e, eb⟩ | ⟨e, e1, e2⟩
  ·have hA' : Agree a (y :: b) := fun u hu v hv => hA u (.tail _ hu) v hv
   rw [mrg_lt _ _ (by omega)]
   refine (mrg_sorted n a (y :: b) (by simp; omega) hA' ha.tail hb).cons fun z hz => ?_
   rcases (mrg_mem n a (y :: b) (by simp; omega) hA' z).1 hz with h | h
   ·exact ha.head h
   ·rcases List.mem_cons.1 h with rfl | h
    ·exact eb
    ·exact before_trans eb (hb.head h)
  ·have hA' : Agree (x :: a) b := fun u hu v hv => hA u hu v (.tail _ hv)
   rw [mrg_gt _ _ (by omega)]
   refine (mrg_sorted n (x :: a) b (by simp; omega) hA' ha hb.tail).cons fun z hz => ?_
   rcases (mrg_mem n (x :: a) b (by simp; omega) hA' z).1 hz with h | h
   ·rcases List.mem_cons.1 h with rfl | h
    ·exact eb
    ·exact before_trans eb (ha.head h)
   ·exact hb.head h
  ·have hA' : Agree a b := fun u hu v hv => hA u (.tail _ hu) v (.tail _ hv)
   have hxy : x = y := hA x (.head _) y (.head _) (by unfold key; rw [e1, e2])
   rw [mrg_eq _ _ e]
   refine (mrg_sorted n a b (by omega) hA' ha.tail hb.tail).cons fun z hz => ?_
   rcases (mrg_mem n a b (by omega) hA' z).1 hz with h | h
   ·rw [← hxy]; exact ha.head h
   ·exact hb.head h
theorem Valid.sorted {l : List Ln} (h : Valid l) : Sorted l := h.ord
theorem agree_of {l1 l2 : List Ln} (h : l1.find? (clashB l2) = none) : Agree l1 l2 := fun x hx y hy e => by
 have h1 := List.find?_eq_none.1 h x hx
 by_cases hxy : x = y
 ·exact hxy
 ·refine absurd ?_ h1
  unfold clashB
  rw [List.any_eq_true]
  refine ⟨y, hy, ?_⟩
  have e1 := congrArg Prod.fst e
  have e2 := congrArg Prod.snd e
  unfold key at e1 e2
  unfold clB
  simp only [Bool.and_eq_true, decide_eq_true_eq, Bool.not_eq_true', decide_eq_false_iff_not]
  exact ⟨⟨e1, e2⟩, hxy⟩
theorem not_same {l : List Ln} (h : Sorted l) {a b : Nat} (ha : a < l.length) (hb : b < l.length) (hab : a ≠ b) : ¬sameAt (lnAt l a) (lnAt l b) := fun ⟨e1, e2⟩ => by
 rcases Nat.lt_or_gt_of_ne hab with h1 | h1
 ·have := before_iff.1 (h a b h1 hb); omega
 ·have := before_iff.1 (h b a h1 ha); omega
theorem pw_of_sorted {l : List Ln} (h : Sorted l) : l.Pairwise fun x y => before x y = true := by
 rw [List.pairwise_iff_getElem]
 intro i j hi hj hij
 have := h i j hij hj
 rwa [lnAt_get hi, lnAt_get hj] at this
theorem sameAt_not {x y : Ln} (h : before x y = true) : ¬sameAt x y := fun ⟨e1, e2⟩ => by
 have := before_iff.1 h; omega
theorem tog_mrg {l1 l2 : List Ln} (hV1 : Valid l1) (hV2 : Valid l2) (hx : l1.find? (clashB l2) = none) : togL l1 l2 = mrg l1 l2 := by
 have hA := agree_of hx
 have hpw : (unionL l1 l2).Pairwise fun x y => ¬sameAt x y := by
  unfold unionL
  rw [List.pairwise_append]
  refine ⟨(pw_of_sorted hV1.sorted).imp fun h => sameAt_not h, ((pw_of_sorted hV2.sorted).filter _).imp fun h => sameAt_not h, fun x hx y hy ⟨e1, e2⟩ => ?_⟩
  obtain ⟨hy, hn⟩ := List.mem_filter.1 hy
  have e := hA x hx y hy (by unfold key; rw [e1, e2])
  subst e
  unfold hasL at hn
  rw [decide_eq_true hx] at hn
  cases hn
 have hd : ∀ a b, a < (unionL l1 l2).length → b < (unionL l1 l2).length → a ≠ b → ¬sameAt (lnAt (unionL l1 l2) a) (lnAt (unionL l1 l2) b) := fun a b ha hb hab => by
  rw [List.pairwise_iff_getElem] at hpw
  rw [lnAt_get ha, lnAt_get hb]
  rcases Nat.lt_or_gt_of_ne hab with h | h
  ·exact hpw a b ha hb h
  ·exact fun ⟨e1, e2⟩ => hpw b a hb ha h ⟨e1.symm, e2.symm⟩
 refine sorted_ext (sortS_sorted hd) (mrg_sorted _ l1 l2 (Nat.le_refl _) hA hV1.sorted hV2.sorted) fun z => ?_
 rw [mrg_mem _ l1 l2 (Nat.le_refl _) hA z]
 refine ((sortS_same _ (Nat.le_refl _)).mem z).trans ?_
 unfold unionL hasL
 rw [List.mem_append, List.mem_filter]
 constructor
 ·rintro (h | h)
  ·exact .inl h
  ·exact .inr h.1
 ·rintro (h | h)
  ·exact .inl h
  ·by_cases e : z ∈ l1
   ·exact .inl e
   ·exact .inr ⟨h, by rw [decide_eq_false e]; rfl⟩
/-! ## The lines of both, one by one -/
def encLn (x : Ln) : List Value := [lnV x]
def NeedM (p1 p2 gd : Nat) (A1 : Option Addr) (c1 : Nat) (l1 : List Ln) (A2 : Option Addr) (c2 : Nat) (l2 : List Ln) (w0 : World) (R : List Chunk) : Prop :=
 BookR w0 A1 l1 ∧ BookR w0 A2 l2 ∧ ∀ W, St w0 R W → W.cell? ⟨p1, 0, none⟩ = some (.pointer (some ⟨gd, 0, none⟩)) ∧ W.cell? ⟨gd, 0, none⟩ = some (.slice A1 l1.length c1) ∧ W.cell? ⟨p2, 0, none⟩ = some (.slice A2 l2.length c2)
set_option maxHeartbeats 2000000 in
set_option maxRecDepth 20000 in
theorem together_it (p1 p2 gd : Nat) (A1 : Option Addr) (c1 : Nat) (l1 : List Ln) (A2 : Option Addr) (c2 : Nat) (l2 : List Ln) (hm1 : l1.length ≤ 1000) (hm2 : l2.length ≤ 1000) : ItT Tryz.prog 86 [] [.pointer (some ⟨p1, 0, none⟩), .pointer (some ⟨p2, 0, none⟩)] encLn (NeedM p1 p2 gd A1 c1 l1 A2 c2 l2) (mrg l1 l2) := by
 intro w0 l Jc Jx R W hNd hY h0 hS
 generalize hP : (fun (e : Ending) (W' : World) => (∃ v, e = .returned v) ∧ ((∃ R', Jc (mrg l1 l2) R' ∧ St w0 R' W') ∨ ∃ pre R', Jx pre R' ∧ St w0 R' W')) = POST
 have hdone : ∀ R' v W', Jc (mrg l1 l2) R' → St w0 R' W' → POST (.returned v) W' := fun R' v W' hJ hS => by
  rw [← hP]; exact ⟨⟨v, rfl⟩, .inl ⟨R', hJ, hS⟩⟩
 have hstop : ∀ pre R' v W', Jx pre R' → St w0 R' W' → POST (.returned v) W' := fun pre R' v W' hJ hS => by
  rw [← hP]; exact ⟨⟨v, rfl⟩, .inr ⟨pre, R', hJ, hS⟩⟩
 clear hP
 have b1 : BookR w0 A1 l1 := (hNd _ _ h0).1
 have b2 : BookR w0 A2 l2 := (hNd _ _ h0).2.1
 have d1 : ∀ pre R', Jc pre R' → CellAt w0 R' p1 0 (.pointer (some ⟨gd, 0, none⟩)) := fun pre R' hJ w hs => ((hNd _ _ hJ).2.2 w hs).1
 have d2 : ∀ pre R', Jc pre R' → CellAt w0 R' gd 0 (.slice A1 l1.length c1) := fun pre R' hJ w hs => ((hNd _ _ hJ).2.2 w hs).2.1
 have d3 : ∀ pre R', Jc pre R' → CellAt w0 R' p2 0 (.slice A2 l2.length c2) := fun pre R' hJ w hs => ((hNd _ _ hJ).2.2 w hs).2.2
 clear hNd
 refine fn_v tk (n := 73) (A := R) Tryz.func86 rfl rfl (Nat.le_of_ble_eq_true rfl) hS ?_
 ((conv => whnf); apply VStop.mk)
 refine v_loop (fun gm ds ts A => ds = [] ∧ ∃ (i k : Nat) (pre : List Ln), i ≤ l1.length ∧ k ≤ l2.length ∧ (l1.length - i) + (l2.length - k) = gm ∧ pre ++ mrg (l1.drop i) (l2.drop k) = mrg l1 l2 ∧ Jc pre A ∧ ts = [(0, .func (.yield l) #[] #[]), (1, .pointer (some ⟨p1, 0, none⟩)), (2, .pointer (some ⟨p2, 0, none⟩)), (4, .int .i64 (i : Int)), (5, .int .i64 (k : Int))]) (l1.length + l2.length)
  (l := [(0, _), (1, _), (2, _), (4, _), (5, _)]) (B := _) ?_ (List.Sublist.refl _) ⟨rfl, 0, 0, [], by omega, by omega, by omega, rfl, h0, rfl⟩ ?_
 ·exact ⟨rfl, rfl, rfl, rfl, rfl, trivial⟩
 clear h0
 rintro gm ds ts A ⟨rfl, i, k, pre, hi, hk, hgm, hpm, hJ, rfl⟩
 have e1 := d1 _ _ hJ
 have e2 := d2 _ _ hJ
 have e3 := d3 _ _ hJ
 by_cases hli : i < l1.length
 ·obtain ⟨ba, oa, rfl⟩ := book_addr b1 hli
  have ca := fun A => ln_cells b1 hli A
  rw [drop_lnAt hli] at hpm
  by_cases hlk : k < l2.length
  ·obtain ⟨bb, ob, rfl⟩ := book_addr b2 hlk
   have cb := fun A => ln_cells b2 hlk A
   rw [drop_lnAt hlk] at hpm
   have ko := fun w1 => order_any (lnAt l1 i) (lnAt l2 k) w1
   have m1 := fun h => mrg_lt (x := lnAt l1 i) (y := lnAt l2 k) (l1.drop (i + 1)) (l2.drop (k + 1)) h
   have m2 := fun h => mrg_gt (x := lnAt l1 i) (y := lnAt l2 k) (l1.drop (i + 1)) (l2.drop (k + 1)) h
   have m3 := fun h => mrg_eq (x := lnAt l1 i) (y := lnAt l2 k) (l1.drop (i + 1)) (l2.drop (k + 1)) h
   have r1 := drop_lnAt hli
   have r2 := drop_lnAt hlk
   have hoc := ordI_cases (lnAt l1 i) (lnAt l2 k)
   unfold lnL at ca cb
   unfold lnV at ko
   generalize lnAt l1 i = x at *
   generalize lnAt l2 k = y at *
   generalize ordI x y = oo at *
   rcases hoc with ⟨rfl, _⟩ | ⟨rfl, _⟩ | ⟨rfl, _⟩
   ·have m := m1 (by decide)
    have hq : pre ++ x :: mrg (l1.drop (i + 1)) (l2.drop (k)) = mrg l1 l2 := by rw [r2, ← m]; exact hpm
    have hpre : pre ++ [x] <+: mrg l1 l2 := ⟨_, by rw [← hq, List.append_assoc]; rfl⟩
    (apply tr_v tk; (conv => whnf); (repeat ((first | ((first | apply VStop.mk | apply VCall.stop); refine tr_region_lex (id := 3) (by kernel_rfl) [.rd, .rd, .rd, .rd, .rd, .rd, .rd, .rd, .rd, .rd, .rd, .rd, .cr, .rd] rfl (by kernel_rfl) ?_; apply ot_v tk) | (apply VLd.mk; (first | exact e1 | exact e2 | exact e3 | exact ld_skip e1 | exact ld_skip e2 | exact ld_skip e3)) | (apply VLdN.mk; (first | exact ca _ | exact cb _); exact rfl) | (apply VIx.mk (j := i); exact rfl; omega) | (apply VIx.mk (j := k); exact rfl; omega) | (apply VCall.q; kernel_rfl; (focus (intro w1 hs; first | with_reducible apply ko w1))) | (apply VLdN.mk; (focus ((repeat (first | (with_reducible apply ldn_blk) | (with_reducible apply ldn_skip))); done)); exact rfl) | (apply VRng.mk; omega) | apply VBr.t | apply VBr.f | (apply v_t; omega) | (apply v_f; omega) | (apply VNew.mk; intro g hg) | (apply VSt.mk; (focus ((repeat (first | (with_reducible exact At.here) | (with_reducible apply At.there))); done)); exact rfl)); (conv => whnf))); apply VStop.mk)
    refine ot_yield (B := [_]) (x := x) hY rfl rfl rfl rfl rfl (.cons rfl .nil) hpre hJ rfl ?_ ?_
    ·intro R' hJ'
     dsimp only [List.cons_append, List.nil_append]
     (apply ot_v tk; (conv => whnf); (repeat (apply VBr.f; (conv => whnf))))
     exact v_rnd (gm - 1) (by omega) (l := [(0, _), (1, _), (2, _), (4, _), (5, _)]) (B := R') ⟨rfl, rfl, rfl, rfl, rfl, trivial⟩ (.cons _ (List.Sublist.refl _)) ⟨rfl, i + 1, k, pre ++ [x], by omega, by omega, by omega, by rw [← hq, List.append_assoc]; rfl, hJ', rfl⟩
    ·intro R' hJ'
     dsimp only [List.cons_append, List.nil_append]
     (apply ot_v tk; (conv => whnf); (repeat (apply VBr.t; (conv => whnf))))
     (apply VRet.mk)
     exact ret0 (by first | exact .inl rfl | exact .inr rfl) rfl fun w hs => hstop _ _ _ _ hJ' (hs.sub (.cons _ (List.Sublist.refl _)))
   ·have m := m2 (by decide)
    have hq : pre ++ y :: mrg (l1.drop (i)) (l2.drop (k + 1)) = mrg l1 l2 := by rw [r1, ← m]; exact hpm
    have hpre : pre ++ [y] <+: mrg l1 l2 := ⟨_, by rw [← hq, List.append_assoc]; rfl⟩
    (apply tr_v tk; (conv => whnf); (repeat ((first | ((first | apply VStop.mk | apply VCall.stop); refine tr_region_lex (id := 3) (by kernel_rfl) [.rd, .rd, .rd, .rd, .rd, .rd, .rd, .rd, .rd, .rd, .rd, .rd, .cr, .rd] rfl (by kernel_rfl) ?_; apply ot_v tk) | (apply VLd.mk; (first | exact e1 | exact e2 | exact e3 | exact ld_skip e1 | exact ld_skip e2 | exact ld_skip e3)) | (apply VLdN.mk; (first | exact ca _ | exact cb _); exact rfl) | (apply VIx.mk (j := i); exact rfl; omega) | (apply VIx.mk (j := k); exact rfl; omega) | (apply VCall.q; kernel_rfl; (focus (intro w1 hs; first | with_reducible apply ko w1))) | (apply VLdN.mk; (focus ((repeat (first | (with_reducible apply ldn_blk) | (with_reducible apply ldn_skip))); done)); exact rfl) | (apply VRng.mk; omega) | apply VBr.t | apply VBr.f | (apply v_t; omega) | (apply v_f; omega) | (apply VNew.mk; intro g hg) | (apply VSt.mk; (focus ((repeat (first | (with_reducible exact At.here) | (with_reducible apply At.there))); done)); exact rfl)); (conv => whnf))); apply VStop.mk)
    refine ot_yield (B := [_]) (x := y) hY rfl rfl rfl rfl rfl (.cons rfl .nil) hpre hJ rfl ?_ ?_
    ·intro R' hJ'
     dsimp only [List.cons_append, List.nil_append]
     (apply ot_v tk; (conv => whnf); (repeat (apply VBr.f; (conv => whnf))))
     exact v_rnd (gm - 1) (by omega) (l := [(0, _), (1, _), (2, _), (4, _), (5, _)]) (B := R') ⟨rfl, rfl, rfl, rfl, rfl, trivial⟩ (.cons _ (List.Sublist.refl _)) ⟨rfl, i, k + 1, pre ++ [y], by omega, by omega, by omega, by rw [← hq, List.append_assoc]; rfl, hJ', rfl⟩
    ·intro R' hJ'
     dsimp only [List.cons_append, List.nil_append]
     (apply ot_v tk; (conv => whnf); (repeat (apply VBr.t; (conv => whnf))))
     (apply VRet.mk)
     exact ret0 (by first | exact .inl rfl | exact .inr rfl) rfl fun w hs => hstop _ _ _ _ hJ' (hs.sub (.cons _ (List.Sublist.refl _)))
   ·have m := m3 rfl
    have hq : pre ++ y :: mrg (l1.drop (i + 1)) (l2.drop (k + 1)) = mrg l1 l2 := by rw [← m]; exact hpm
    have hpre : pre ++ [y] <+: mrg l1 l2 := ⟨_, by rw [← hq, List.append_assoc]; rfl⟩
    (apply tr_v tk; (conv => whnf); (repeat ((first | ((first | apply VStop.mk | apply VCall.stop); refine tr_region_lex (id := 3) (by kernel_rfl) [.rd, .rd, .rd, .rd, .rd, .rd, .rd, .rd, .rd, .rd, .rd, .rd, .cr, .rd] rfl (by kernel_rfl) ?_; apply ot_v tk) | (apply VLd.mk; (first | exact e1 | exact e2 | exact e3 | exact ld_skip e1 | exact ld_skip e2 | exact ld_skip e3)) | (apply VLdN.mk; (first | exact ca _ | exact cb _); exact rfl) | (apply VIx.mk (j := i); exact rfl; omega) | (apply VIx.mk (j := k); exact rfl; omega) | (apply VCall.q; kernel_rfl; (focus (intro w1 hs; first | with_reducible apply ko w1))) | (apply VLdN.mk; (focus ((repeat (first | (with_reducible apply ldn_blk) | (with_reducible apply ldn_skip))); done)); exact rfl) | (apply VRng.mk; omega) | apply VBr.t | apply VBr.f | (apply v_t; omega) | (apply v_f; omega) | (apply VNew.mk; intro g hg) | (apply VSt.mk; (focus ((repeat (first | (with_reducible exact At.here) | (with_reducible apply At.there))); done)); exact rfl)); (conv => whnf))); apply VStop.mk)
    refine ot_yield (B := [_]) (x := y) hY rfl rfl rfl rfl rfl (.cons rfl .nil) hpre hJ rfl ?_ ?_
    ·intro R' hJ'
     dsimp only [List.cons_append, List.nil_append]
     (apply ot_v tk; (conv => whnf); (repeat (apply VBr.f; (conv => whnf))))
     exact v_rnd (gm - 2) (by omega) (l := [(0, _), (1, _), (2, _), (4, _), (5, _)]) (B := R') ⟨rfl, rfl, rfl, rfl, rfl, trivial⟩ (.cons _ (List.Sublist.refl _)) ⟨rfl, i + 1, k + 1, pre ++ [y], by omega, by omega, by omega, by rw [← hq, List.append_assoc]; rfl, hJ', rfl⟩
    ·intro R' hJ'
     dsimp only [List.cons_append, List.nil_append]
     (apply ot_v tk; (conv => whnf); (repeat (apply VBr.t; (conv => whnf))))
     (apply VRet.mk)
     exact ret0 (by first | exact .inl rfl | exact .inr rfl) rfl fun w hs => hstop _ _ _ _ hJ' (hs.sub (.cons _ (List.Sublist.refl _)))
  ·obtain rfl : k = l2.length := by omega
   unfold lnL at ca
   generalize lnAt l1 i = x at *
   have hq : pre ++ x :: mrg (l1.drop (i + 1)) (l2.drop (l2.length)) = mrg l1 l2 := by rw [List.drop_length, mrg_nil] at hpm ⊢; exact hpm
   have hpre : pre ++ [x] <+: mrg l1 l2 := ⟨_, by rw [← hq, List.append_assoc]; rfl⟩
   (apply tr_v tk; (conv => whnf); (repeat ((first | (apply VLd.mk; (first | exact e1 | exact e2 | exact e3 | exact ld_skip e1 | exact ld_skip e2 | exact ld_skip e3)) | (apply VLdN.mk; (first | exact ca _); exact rfl) | (apply VIx.mk (j := i); exact rfl; omega) | (apply VLdN.mk; (focus ((repeat (first | (with_reducible apply ldn_blk) | (with_reducible apply ldn_skip))); done)); exact rfl) | (apply VRng.mk; omega) | apply VBr.t | apply VBr.f | (apply v_t; omega) | (apply v_f; omega) | (apply VNew.mk; intro g hg) | (apply VSt.mk; (focus ((repeat (first | (with_reducible exact At.here) | (with_reducible apply At.there))); done)); exact rfl)); (conv => whnf))); apply VStop.mk)
   refine ot_yield (B := [_]) (x := x) hY rfl rfl rfl rfl rfl (.cons rfl .nil) hpre hJ rfl ?_ ?_
   ·intro R' hJ'
    dsimp only [List.cons_append, List.nil_append]
    (apply ot_v tk; (conv => whnf); (repeat (apply VBr.f; (conv => whnf))))
    exact v_rnd (gm - 1) (by omega) (l := [(0, _), (1, _), (2, _), (4, _), (5, _)]) (B := R') ⟨rfl, rfl, rfl, rfl, rfl, trivial⟩ (.cons _ (List.Sublist.refl _)) ⟨rfl, i + 1, l2.length, pre ++ [x], by omega, by omega, by omega, by rw [← hq, List.append_assoc]; rfl, hJ', rfl⟩
   ·intro R' hJ'
    dsimp only [List.cons_append, List.nil_append]
    (apply ot_v tk; (conv => whnf); (repeat (apply VBr.t; (conv => whnf))))
    (apply VRet.mk)
    exact ret0 (by first | exact .inl rfl | exact .inr rfl) rfl fun w hs => hstop _ _ _ _ hJ' (hs.sub (.cons _ (List.Sublist.refl _)))
 ·obtain rfl : i = l1.length := by omega
  by_cases hlk : k < l2.length
  ·obtain ⟨bb, ob, rfl⟩ := book_addr b2 hlk
   have cb := fun A => ln_cells b2 hlk A
   rw [drop_lnAt hlk] at hpm
   unfold lnL at cb
   generalize lnAt l2 k = y at *
   have hq : pre ++ y :: mrg (l1.drop (l1.length)) (l2.drop (k + 1)) = mrg l1 l2 := by rw [List.drop_length, mrg] at hpm ⊢; exact hpm
   have hpre : pre ++ [y] <+: mrg l1 l2 := ⟨_, by rw [← hq, List.append_assoc]; rfl⟩
   (apply tr_v tk; (conv => whnf); (repeat ((first | (apply VLd.mk; (first | exact e1 | exact e2 | exact e3 | exact ld_skip e1 | exact ld_skip e2 | exact ld_skip e3)) | (apply VLdN.mk; (first | exact cb _); exact rfl) | (apply VIx.mk (j := k); exact rfl; omega) | (apply VLdN.mk; (focus ((repeat (first | (with_reducible apply ldn_blk) | (with_reducible apply ldn_skip))); done)); exact rfl) | (apply VRng.mk; omega) | apply VBr.t | apply VBr.f | (apply v_t; omega) | (apply v_f; omega) | (apply VNew.mk; intro g hg) | (apply VSt.mk; (focus ((repeat (first | (with_reducible exact At.here) | (with_reducible apply At.there))); done)); exact rfl)); (conv => whnf))); apply VStop.mk)
   refine ot_yield (B := [_]) (x := y) hY rfl rfl rfl rfl rfl (.cons rfl .nil) hpre hJ rfl ?_ ?_
   ·intro R' hJ'
    dsimp only [List.cons_append, List.nil_append]
    (apply ot_v tk; (conv => whnf); (repeat (apply VBr.f; (conv => whnf))))
    exact v_rnd (gm - 1) (by omega) (l := [(0, _), (1, _), (2, _), (4, _), (5, _)]) (B := R') ⟨rfl, rfl, rfl, rfl, rfl, trivial⟩ (.cons _ (List.Sublist.refl _)) ⟨rfl, l1.length, k + 1, pre ++ [y], by omega, by omega, by omega, by rw [← hq, List.append_assoc]; rfl, hJ', rfl⟩
   ·intro R' hJ'
    dsimp only [List.cons_append, List.nil_append]
    (apply ot_v tk; (conv => whnf); (repeat (apply VBr.t; (conv => whnf))))
    (apply VRet.mk)
    exact ret0 (by first | exact .inl rfl | exact .inr rfl) rfl fun w hs => hstop _ _ _ _ hJ' (hs.sub (.cons _ (List.Sublist.refl _)))
  ·obtain rfl : k = l2.length := by omega
   rw [List.drop_length, List.drop_length, mrg, List.append_nil] at hpm
   subst hpm
   (apply tr_v tk; (conv => whnf); (repeat ((first | (apply VLd.mk; (first | exact e1 | exact e2 | exact e3)) | apply VBr.f | (apply v_f; omega)); (conv => whnf))))
   (apply VRet.mk)
   exact ret0 (by first | exact .inl rfl | exact .inr rfl) rfl fun w hs => hdone _ _ _ hJ hs
end Go.Proofs.YtojeeindlijgkaaGreatDoor
