/- A line read, as the definition says: lemmas for the rows of this seat. No conditions. -/
import Derived.Laws.StructEq
import Derived.Laws.IdiomStrings
import Derived.Laws.Strings2
import Derived.Laws.Strings3
import Derived.Test.YtojeeindlijgkaaGreatDoorK11
import Derived.Test.YtojeeindlijgkaaGreatDoorK24
set_option linter.all false
namespace Go.Proofs.YtojeeindlijgkaaGreatDoor
open Go.RowKit
/-! ## A line read, as the definition says -/
set_option maxHeartbeats 2000000 in
set_option maxRecDepth 20000 in
theorem refRead_bad (l : List UInt8) (w : World) (hm : l.length ≤ 10000) (hb : goodW (spl 32 [] l) = false) : Calls Tryz.prog 77 #[.string (bs l)] w fun e w' => e = .returned (.tuple #[zV, .int .i64 0, .bool false]) ∧ Below w.heap.size w w' := by
 have kw := fun w1 => words_any l w1 hm
 have hsub := fun w => spl_sub 32 l [] w
 generalize spl 32 [] l = W at *
 unfold zV
 refine fn_v tk (n := 99) (A := []) Tryz.func77 rfl rfl (Nat.le_of_ble_eq_true rfl) (St.nil (Below.refl _ _)) ?_
 ((conv => whnf); (repeat ((apply VNew.mk; intro g hg); (conv => whnf))); apply VCall.stop)
 refine ot_callT (X := SlX) (us := []) (vs := []) (fun x => .slice x.1 W.length x.2) (fun x => []) (fun x => [.own (.slice x.1 W.length x.2) 9 1 W.length (strs W)]) _ (fun x c hc => one_mut hc) (by decide) rfl rfl rfl rfl (by kernel_rfl) (evl_of rfl) rfl (fun w1 hs => kw w1) ?_
 rintro ⟨Bx, cx⟩ _
 dsimp only [List.cons_append, List.nil_append]
 by_cases h6 : W.length = 6
 rotate_left
 ·apply ot_v tk
  ((conv => whnf); (repeat ((first | apply VBr.t | (apply v_t; omega) | (apply VSt.mk; (focus ((repeat (first | (with_reducible exact At.here) | (with_reducible apply At.there))); done)); exact rfl)); (conv => whnf))))
  (apply VRet.mk)
  refine ret3 (by first | exact .inl rfl | exact .inr rfl) rfl (by exact rv_row tk rfl rfl rfl (by first | exact cells_blk_all (by (repeat (first | exact List.Mem.head _ | assumption | refine List.Mem.tail _ ?_))) | exact cells_row0 (by (repeat (first | exact List.Mem.head _ | assumption | refine List.Mem.tail _ ?_)))) rfl) (by exact rv_tmp rfl) (by exact rv_tmp rfl) ?_
  exact fun w h => ⟨rfl, h.base⟩
 obtain ⟨w0, w1, w2, w3, w4, w5, rfl⟩ := six h6
 have hb : ((decide (w2 = addT) || decide (w2 = setT)) && (digB w5 && decide (w5.length = 5))) = false := hb
 have h5l : w5.length ≤ l.length := by have := hsub w5 (by simp); simpa using this
 have kd := fun w' => digits_any w5 w' (by omega)
 clear h6 hsub kw
 dsimp only [List.length_cons, List.length_nil, strs, List.map_cons, List.map_nil]
 refine ot_own_addr (B := Bx) (m := 6) (cc := cx) (te := 9) (sz := 1) (xs := [.string (bs w0), .string (bs w1), .string (bs w2), .string (bs w3), .string (bs w4), .string (bs w5)]) (by (repeat (first | exact List.Mem.head _ | assumption | refine List.Mem.tail _ ?_))) (by omega) rfl ?_
 rintro bx rfl
 obtain ⟨b1, hb1⟩ : ∃ b1, decide (w2 = addT) = !b1 := ⟨!decide (w2 = addT), by simp⟩
 obtain ⟨b2, hb2⟩ : ∃ b2, decide (w2 = setT) = !b2 := ⟨!decide (w2 = setT), by simp⟩
 rw [hb1, hb2] at hb
 generalize digB w5 = dg at *
 apply ot_v tk
 by_cases h5 : w5.length = 5
 ·rw [decide_eq_true h5] at hb
  cases b1 <;> cases b2 <;> cases dg
  all_goals try (exfalso; revert hb; decide)
  all_goals
   ((conv => whnf); (repeat ((first | ((first | apply VStop.mk | apply VCall.stop); (first | (refine ot_strn (m := addT) _ hb1 rfl rfl rfl rfl rfl ?_) | (refine ot_strn (m := setT) _ hb2 rfl rfl rfl rfl rfl ?_)); apply ot_v tk) | (apply VLd.mk; first | exact cell_own (j := 2) (by (repeat (first | exact List.Mem.head _ | assumption | refine List.Mem.tail _ ?_))) rfl | exact cell_own (j := 5) (by (repeat (first | exact List.Mem.head _ | assumption | refine List.Mem.tail _ ?_))) rfl) | (apply VIx.mk (j := 2); exact rfl; omega) | (apply VIx.mk (j := 5); exact rfl; omega) | (apply VCall.q; kernel_rfl; (focus (intro w1 hs; first | with_reducible apply kd w1))) | apply VBr.t | apply VBr.f | (apply v_f; omega) | (apply VSt.mk; (focus ((repeat (first | (with_reducible exact At.here) | (with_reducible apply At.there))); done)); exact rfl)); (conv => whnf))))
   (apply VRet.mk)
   refine ret3 (by first | exact .inl rfl | exact .inr rfl) rfl (by exact rv_row tk rfl rfl rfl (by first | exact cells_blk_all (by (repeat (first | exact List.Mem.head _ | assumption | refine List.Mem.tail _ ?_))) | exact cells_row0 (by (repeat (first | exact List.Mem.head _ | assumption | refine List.Mem.tail _ ?_)))) rfl) (by exact rv_tmp rfl) (by exact rv_tmp rfl) ?_
   exact fun w h => ⟨rfl, h.base⟩
 ·cases b1 <;> cases b2 <;> cases dg
  all_goals
   ((conv => whnf); (repeat ((first | ((first | apply VStop.mk | apply VCall.stop); (first | (refine ot_strn (m := addT) _ hb1 rfl rfl rfl rfl rfl ?_) | (refine ot_strn (m := setT) _ hb2 rfl rfl rfl rfl rfl ?_) | (refine ot_slen Tryz.underlying9 rfl rfl rfl rfl ?_)); apply ot_v tk) | (apply VLd.mk; first | exact cell_own (j := 2) (by (repeat (first | exact List.Mem.head _ | assumption | refine List.Mem.tail _ ?_))) rfl | exact cell_own (j := 5) (by (repeat (first | exact List.Mem.head _ | assumption | refine List.Mem.tail _ ?_))) rfl) | (apply VIx.mk (j := 2); exact rfl; omega) | (apply VIx.mk (j := 5); exact rfl; omega) | (apply VCall.q; kernel_rfl; (focus (intro w1 hs; first | with_reducible apply kd w1))) | apply VBr.t | apply VBr.f | (apply v_t; omega) | (apply v_f; omega) | (apply VSt.mk; (focus ((repeat (first | (with_reducible exact At.here) | (with_reducible apply At.there))); done)); exact rfl)); (conv => whnf))))
   (apply VRet.mk)
   refine ret3 (by first | exact .inl rfl | exact .inr rfl) rfl (by exact rv_row tk rfl rfl rfl (by first | exact cells_blk_all (by (repeat (first | exact List.Mem.head _ | assumption | refine List.Mem.tail _ ?_))) | exact cells_row0 (by (repeat (first | exact List.Mem.head _ | assumption | refine List.Mem.tail _ ?_)))) rfl) (by exact rv_tmp rfl) (by exact rv_tmp rfl) ?_
   exact fun w h => ⟨rfl, h.base⟩
set_option maxHeartbeats 2000000 in
set_option maxRecDepth 20000 in
theorem refRead_ok (l : List UInt8) (w : World) (hm : l.length ≤ 10000) (hb : goodW (spl 32 [] l) = true) : Calls Tryz.prog 77 #[.string (bs l)] w fun e w' => e = .returned (.tuple #[lnV (lnR (spl 32 [] l)), .int .i64 (valT (wd (spl 32 [] l) 5)), .bool (okR (spl 32 [] l))]) ∧ Below w.heap.size w w' := by
 have kw := fun w1 => words_any l w1 hm
 have hsub := fun w => spl_sub 32 l [] w
 generalize spl 32 [] l = W at *
 refine fn_v tk (n := 99) (A := []) Tryz.func77 rfl rfl (Nat.le_of_ble_eq_true rfl) (St.nil (Below.refl _ _)) ?_
 ((conv => whnf); (repeat ((apply VNew.mk; intro g hg); (conv => whnf))); apply VCall.stop)
 refine ot_callT (X := SlX) (us := []) (vs := []) (fun x => .slice x.1 W.length x.2) (fun x => []) (fun x => [.own (.slice x.1 W.length x.2) 9 1 W.length (strs W)]) _ (fun x c hc => one_mut hc) (by decide) rfl rfl rfl rfl (by kernel_rfl) (evl_of rfl) rfl (fun w1 hs => kw w1) ?_
 rintro ⟨Bx, cx⟩ _
 dsimp only [List.cons_append, List.nil_append]
 have h6 : W.length = 6 := by
  unfold goodW at hb
  simp only [Bool.and_eq_true, decide_eq_true_eq] at hb
  exact hb.1
 obtain ⟨w0, w1, w2, w3, w4, w5, rfl⟩ := six h6
 have hb : ((decide (w2 = addT) || decide (w2 = setT)) && (digB w5 && decide (w5.length = 5))) = true := hb
 have h5l : w5.length ≤ l.length := by have := hsub w5 (by simp); simpa using this
 have kd := fun w' => digits_any w5 w' (by omega)
 have h0l : w0.length ≤ l.length := by have := hsub w0 (by simp); simpa using this
 have h1l : w1.length ≤ l.length := by have := hsub w1 (by simp); simpa using this
 have h3l : w3.length ≤ l.length := by have := hsub w3 (by simp); simpa using this
 have h4l : w4.length ≤ l.length := by have := hsub w4 (by simp); simpa using this
 have q0 := fun w' => refNumber_any w0 w' (by omega)
 have q1 := fun w' => refNumber_any w1 w' (by omega)
 have q3 := fun w' => refNumber_any w3 w' (by omega)
 have q4 := fun w' => signed_any w4 w' (by omega)
 have hd0 : digB w5 = true ∧ w5.length = 5 := by
  simp only [Bool.and_eq_true, decide_eq_true_eq] at hb
  exact hb.2
 have qv := fun w' => value_any w5 w' (by have := hd0.1; unfold digB at this; simp only [Bool.and_eq_true] at this; exact this.1) (by omega)
 have h5 := hd0.2
 rw [hd0.1] at kd
 have hres : Ending.returned (.tuple #[lnV (lnR [w0, w1, w2, w3, w4, w5]), .int .i64 (valT (wd [w0, w1, w2, w3, w4, w5] 5)), .bool (okR [w0, w1, w2, w3, w4, w5])]) = .returned (.tuple #[.agg #[.int .i64 (numV w0), .int .i64 (numV w1), .int .i64 (if w2 = setT then 2 else 1), .int .i64 (numV w3), .int .i64 (sgnV w4)], .int .i64 (valT w5), .bool (numOk w0 && (numOk w1 && (numOk w3 && sgnOk w4)))]) := rfl
 rw [hres]
 clear hres hd0
 clear h6 hsub kw
 dsimp only [List.length_cons, List.length_nil, strs, List.map_cons, List.map_nil]
 refine ot_own_addr (B := Bx) (m := 6) (cc := cx) (te := 9) (sz := 1) (xs := [.string (bs w0), .string (bs w1), .string (bs w2), .string (bs w3), .string (bs w4), .string (bs w5)]) (by (repeat (first | exact List.Mem.head _ | assumption | refine List.Mem.tail _ ?_))) (by omega) rfl ?_
 rintro bx rfl
 obtain ⟨b1, hb1⟩ : ∃ b1, decide (w2 = addT) = !b1 := ⟨!decide (w2 = addT), by simp⟩
 obtain ⟨b2, hb2⟩ : ∃ b2, decide (w2 = setT) = !b2 := ⟨!decide (w2 = setT), by simp⟩
 have hb : ((!b1 || !b2)) = true := by rw [hb1, hb2] at hb; revert hb; cases b1 <;> cases b2 <;> simp
 have hss : b2 = false → w2 = setT := fun h => by rw [h] at hb2; exact of_decide_eq_true hb2
 have hsn : b2 = true → w2 ≠ setT := fun h => by rw [h] at hb2; exact of_decide_eq_false hb2
 generalize numOk w0 = o0 at *
 generalize numOk w1 = o1 at *
 generalize numOk w3 = o3 at *
 generalize sgnOk w4 = o4 at *
 generalize numV w0 = n0 at *
 generalize numV w1 = n1 at *
 generalize numV w3 = n3 at *
 generalize sgnV w4 = n4 at *
 generalize valT w5 = n5 at *
 apply ot_v tk
 cases b2
 ·rw [if_pos (hss rfl)]
  clear hss hsn
  cases b1
  ·((conv => whnf); (repeat ((first | ((first | apply VStop.mk | apply VCall.stop); (first | (refine ot_strn (m := addT) _ hb1 rfl rfl rfl rfl rfl ?_) | (refine ot_strq (m := setT) _ hb2 rfl rfl rfl rfl rfl ?_) | (refine ot_slen Tryz.underlying9 rfl rfl rfl rfl ?_)); apply ot_v tk) | (apply VLd.mk; first | exact cell_own (j := 0) (by (repeat (first | exact List.Mem.head _ | assumption | refine List.Mem.tail _ ?_))) rfl | exact cell_own (j := 1) (by (repeat (first | exact List.Mem.head _ | assumption | refine List.Mem.tail _ ?_))) rfl | exact cell_own (j := 2) (by (repeat (first | exact List.Mem.head _ | assumption | refine List.Mem.tail _ ?_))) rfl | exact cell_own (j := 3) (by (repeat (first | exact List.Mem.head _ | assumption | refine List.Mem.tail _ ?_))) rfl | exact cell_own (j := 4) (by (repeat (first | exact List.Mem.head _ | assumption | refine List.Mem.tail _ ?_))) rfl | exact cell_own (j := 5) (by (repeat (first | exact List.Mem.head _ | assumption | refine List.Mem.tail _ ?_))) rfl) | (apply VIx.mk (j := 1); exact rfl; omega) | (apply VIx.mk (j := 2); exact rfl; omega) | (apply VIx.mk (j := 3); exact rfl; omega) | (apply VIx.mk (j := 4); exact rfl; omega) | (apply VIx.mk (j := 5); exact rfl; omega) | (apply VCall.q; kernel_rfl; (focus (intro w1 hs; first | with_reducible apply kd w1 | with_reducible apply q0 w1 | with_reducible apply q1 w1 | with_reducible apply q3 w1 | with_reducible apply q4 w1 | with_reducible apply qv w1))) | apply VBr.t | apply VBr.f | (apply v_f; omega) | (apply VIx.mk (j := 0); exact rfl; omega)); (conv => whnf))))
   cases o0 <;> cases o1 <;> cases o3
   all_goals
    ((conv => whnf); (repeat ((first | apply VBr.t | apply VBr.f | (apply VSt.mk; (focus ((repeat (first | (with_reducible exact At.here) | (with_reducible apply At.there))); done)); exact rfl)); (conv => whnf))))
    (apply VRet.mk)
    refine ret3 (by first | exact .inl rfl | exact .inr rfl) rfl (by exact rv_row tk rfl rfl rfl (by first | exact cells_blk_all (by (repeat (first | exact List.Mem.head _ | assumption | refine List.Mem.tail _ ?_))) | exact cells_row0 (by (repeat (first | exact List.Mem.head _ | assumption | refine List.Mem.tail _ ?_)))) rfl) (by exact rv_tmp rfl) (by exact rv_tmp rfl) ?_
    exact fun w h => ⟨rfl, h.base⟩
  ·((conv => whnf); (repeat ((first | ((first | apply VStop.mk | apply VCall.stop); (first | (refine ot_strn (m := addT) _ hb1 rfl rfl rfl rfl rfl ?_) | (refine ot_strn (m := setT) _ hb2 rfl rfl rfl rfl rfl ?_) | (refine ot_strq (m := setT) _ hb2 rfl rfl rfl rfl rfl ?_) | (refine ot_slen Tryz.underlying9 rfl rfl rfl rfl ?_)); apply ot_v tk) | (apply VLd.mk; first | exact cell_own (j := 0) (by (repeat (first | exact List.Mem.head _ | assumption | refine List.Mem.tail _ ?_))) rfl | exact cell_own (j := 1) (by (repeat (first | exact List.Mem.head _ | assumption | refine List.Mem.tail _ ?_))) rfl | exact cell_own (j := 2) (by (repeat (first | exact List.Mem.head _ | assumption | refine List.Mem.tail _ ?_))) rfl | exact cell_own (j := 3) (by (repeat (first | exact List.Mem.head _ | assumption | refine List.Mem.tail _ ?_))) rfl | exact cell_own (j := 4) (by (repeat (first | exact List.Mem.head _ | assumption | refine List.Mem.tail _ ?_))) rfl | exact cell_own (j := 5) (by (repeat (first | exact List.Mem.head _ | assumption | refine List.Mem.tail _ ?_))) rfl) | (apply VIx.mk (j := 1); exact rfl; omega) | (apply VIx.mk (j := 2); exact rfl; omega) | (apply VIx.mk (j := 3); exact rfl; omega) | (apply VIx.mk (j := 4); exact rfl; omega) | (apply VIx.mk (j := 5); exact rfl; omega) | (apply VCall.q; kernel_rfl; (focus (intro w1 hs; first | with_reducible apply kd w1 | with_reducible apply q0 w1 | with_reducible apply q1 w1 | with_reducible apply q3 w1 | with_reducible apply q4 w1 | with_reducible apply qv w1))) | apply VBr.t | apply VBr.f | (apply v_f; omega) | (apply VIx.mk (j := 0); exact rfl; omega)); (conv => whnf))))
   cases o0 <;> cases o1 <;> cases o3
   all_goals
    ((conv => whnf); (repeat ((first | apply VBr.t | apply VBr.f | (apply VSt.mk; (focus ((repeat (first | (with_reducible exact At.here) | (with_reducible apply At.there))); done)); exact rfl)); (conv => whnf))))
    (apply VRet.mk)
    refine ret3 (by first | exact .inl rfl | exact .inr rfl) rfl (by exact rv_row tk rfl rfl rfl (by first | exact cells_blk_all (by (repeat (first | exact List.Mem.head _ | assumption | refine List.Mem.tail _ ?_))) | exact cells_row0 (by (repeat (first | exact List.Mem.head _ | assumption | refine List.Mem.tail _ ?_)))) rfl) (by exact rv_tmp rfl) (by exact rv_tmp rfl) ?_
    exact fun w h => ⟨rfl, h.base⟩
 ·rw [if_neg (hsn rfl)]
  clear hss hsn
  cases b1
  ·((conv => whnf); (repeat ((first | ((first | apply VStop.mk | apply VCall.stop); (first | (refine ot_strn (m := addT) _ hb1 rfl rfl rfl rfl rfl ?_) | (refine ot_strq (m := setT) _ hb2 rfl rfl rfl rfl rfl ?_) | (refine ot_slen Tryz.underlying9 rfl rfl rfl rfl ?_)); apply ot_v tk) | (apply VLd.mk; first | exact cell_own (j := 0) (by (repeat (first | exact List.Mem.head _ | assumption | refine List.Mem.tail _ ?_))) rfl | exact cell_own (j := 1) (by (repeat (first | exact List.Mem.head _ | assumption | refine List.Mem.tail _ ?_))) rfl | exact cell_own (j := 2) (by (repeat (first | exact List.Mem.head _ | assumption | refine List.Mem.tail _ ?_))) rfl | exact cell_own (j := 3) (by (repeat (first | exact List.Mem.head _ | assumption | refine List.Mem.tail _ ?_))) rfl | exact cell_own (j := 4) (by (repeat (first | exact List.Mem.head _ | assumption | refine List.Mem.tail _ ?_))) rfl | exact cell_own (j := 5) (by (repeat (first | exact List.Mem.head _ | assumption | refine List.Mem.tail _ ?_))) rfl) | (apply VIx.mk (j := 1); exact rfl; omega) | (apply VIx.mk (j := 2); exact rfl; omega) | (apply VIx.mk (j := 3); exact rfl; omega) | (apply VIx.mk (j := 4); exact rfl; omega) | (apply VIx.mk (j := 5); exact rfl; omega) | (apply VCall.q; kernel_rfl; (focus (intro w1 hs; first | with_reducible apply kd w1 | with_reducible apply q0 w1 | with_reducible apply q1 w1 | with_reducible apply q3 w1 | with_reducible apply q4 w1 | with_reducible apply qv w1))) | apply VBr.f | (apply v_f; omega) | (apply VIx.mk (j := 0); exact rfl; omega)); (conv => whnf))))
   cases o0 <;> cases o1 <;> cases o3
   all_goals
    ((conv => whnf); (repeat ((first | apply VBr.t | apply VBr.f | (apply VSt.mk; (focus ((repeat (first | (with_reducible exact At.here) | (with_reducible apply At.there))); done)); exact rfl)); (conv => whnf))))
    (apply VRet.mk)
    refine ret3 (by first | exact .inl rfl | exact .inr rfl) rfl (by exact rv_row tk rfl rfl rfl (by first | exact cells_blk_all (by (repeat (first | exact List.Mem.head _ | assumption | refine List.Mem.tail _ ?_))) | exact cells_row0 (by (repeat (first | exact List.Mem.head _ | assumption | refine List.Mem.tail _ ?_)))) rfl) (by exact rv_tmp rfl) (by exact rv_tmp rfl) ?_
    exact fun w h => ⟨rfl, h.base⟩
  ·exfalso; revert hb; decide
end Go.Proofs.YtojeeindlijgkaaGreatDoor
