/- A line read, as the program does: lemmas for the rows of this seat. No conditions. -/
import Derived.Laws.StructEq
import Derived.Laws.IdiomStrings
import Derived.Laws.Strings2
import Derived.Laws.Strings3
import Derived.Lib.ItoaLen
import Derived.Lib.AtoiAllCases
import Derived.WideLaws
import Derived.Test.YtojeeindlijgkaaGreatDoorK11
import Derived.Test.YtojeeindlijgkaaGreatDoorK28
import Derived.Test.YtojeeindlijgkaaGreatDoorK30
set_option linter.all false
namespace Go.Proofs.YtojeeindlijgkaaGreatDoor
open Go.RowKit
/-! ## A line read, as the program does -/
theorem idx_kind (w2 : List UInt8) : 1 + Go.Lib.idxOfS ([bs addT, bs setT].take 2) (bs w2) = if w2 = addT then 1 else if w2 = setT then 2 else 0 := by
 have hb : ∀ a b : List UInt8, (bs a = bs b) ↔ a = b := fun a b => by
  constructor
  ·intro h
   have := congrArg (fun s => s.data.toList) h
   simpa [bs] using this
  ·rintro rfl; rfl
 show 1 + Go.Lib.idxOfS [bs addT, bs setT] (bs w2) = _
 unfold Go.Lib.idxOfS Go.Lib.idxFromS Go.Lib.idxFromS Go.Lib.idxFromS
 by_cases h1 : w2 = addT
 ·subst h1; simp
 ·by_cases h2 : w2 = setT
  ·subst h2
   rw [if_neg h1, if_pos rfl]
   have : ¬ bs addT = bs setT := fun h => h1 ((hb _ _).1 h).symm
   simp [this]
  ·have n1 : ¬ bs addT = bs w2 := fun h => h1 ((hb _ _).1 h).symm
   have n2 : ¬ bs setT = bs w2 := fun h => h2 ((hb _ _).1 h).symm
   simp [h1, h2, n1, n2]
theorem idx_mem (w2 : List UInt8) {g t : Nat} {A : List Chunk} {w0 w : World} (hs : St w0 A w) (hm : Chunk.blk g t [.string (bs addT), .string (bs setT)] ∈ A) :
  Calls Tryz.prog 95 #[.slice (some ⟨g, 0, none⟩) 2 2, .string (bs w2)] w fun e w' => e = .returned (.int .i64 ((if w2 = addT then 1 else if w2 = setT then 2 else 0) - 1)) ∧ Below w.heap.size w w' := by
 refine (Tryz.slices_Index_string g 0 2 2 [bs addT, bs setT] (bs w2) w (by decide) (by decide) (fun j hj => ?_)).mono fun e w' ⟨he, hw⟩ => ⟨?_, hw ▸ Below.refl _ _⟩
 ·rw [Nat.zero_add]
  match j, hj with
  | 0, _ => exact cell_blk hm rfl w hs
  | 1, _ => exact cell_blk hm rfl w hs
 ·rw [he, ← idx_kind w2, show ∀ z : Int, 1 + z - 1 = z by intro z; omega]
theorem sgn_three {a b c : List UInt8} {p q r : Int} (ha : sgnOk a = true) (hb : sgnOk b = true) (hc : sgnOk c = true) (ep : p = sgnV a) (eq : q = sgnV b) (er : r = sgnV c) :
  within 0 9999 [p, q, r] = (numOk a && (numOk b && numOk c)) := by
 have k : ∀ {l : List UInt8}, sgnOk l = true → (numOk l = true ↔ 0 ≤ sgnV l ∧ sgnV l ≤ 9999) := fun {l} h => by
  constructor
  ·intro hn
   have := numV_bd l
   rw [(num_sgn hn).2]
   exact this
  ·exact fun h2 => sgn_num h h2.1
 subst ep; subst eq; subst er
 rw [Bool.eq_iff_iff]
 unfold within badIn
 simp only [List.any_cons, List.any_nil, Bool.or_false, Bool.not_eq_true', Bool.or_eq_false_iff, decide_eq_false_iff_not, Bool.and_eq_true, k ha, k hb, k hc]
 omega
theorem within3_mem {a b c : Int} {g t : Nat} {A : List Chunk} {w0 w : World} (hs : St w0 A w) (hm : Chunk.blk g t [.int .i64 a, .int .i64 b, .int .i64 c] ∈ A) :
  Calls Tryz.prog 55 #[.int .i64 0, .int .i64 9999, .slice (some ⟨g, 0, none⟩) 3 3] w fun e w' => e = .returned (.bool (within 0 9999 [a, b, c])) ∧ Below w.heap.size w w' := by
 exact within_any (some ⟨g, 0, none⟩) 3 [a, b, c] 0 9999 w (hs.blk_reads hm rfl) (by simp [maxLen])
set_option maxHeartbeats 2000000 in
set_option maxRecDepth 20000 in
theorem read_no (l : List UInt8) (w : World) (hE : LayE w) (hM : MaxL w) (hm : l.length ≤ 10000) (hb : goodW (spl 32 [] l) = false) : Calls Tryz.prog 76 #[.string (bs l)] w fun e w' => e = .returned (.tuple #[.agg #[.int .i64 0, .int .i64 0, .int .i64 0, .int .i64 0, .int .i64 0], .bool false]) ∧ Below w.heap.size w w' := by
 have kw : ∀ w1, MaxL w1 → _ := fun w1 h => split75_any 32 l w1 h (by omega)
 rw [show (32 : UInt8).toNat = 32 from rfl] at kw
 have hsub := fun w => spl_sub 32 l [] w
 generalize spl 32 [] l = W at *
 refine fn_v tk (n := 101) (A := []) Tryz.func76 rfl rfl (Nat.le_of_ble_eq_true rfl) (St.nil (Below.refl _ _)) ?_
 ((conv => whnf); (repeat ((apply VNew.mk; intro g hg); (conv => whnf))); apply VCall.stop)
 refine ot_callT (X := SlX) (us := []) (vs := []) (fun x => .slice x.1 W.length x.2) (fun x => []) (fun x => [.own (.slice x.1 W.length x.2) 9 1 W.length (strs W)]) _ (fun x c hc => one_mut hc) (by decide) rfl rfl rfl rfl (by kernel_rfl) (evl_of rfl) rfl (fun w1 hs => kw w1 (hM.st hs)) ?_
 rintro ⟨Bx, cx⟩ _
 dsimp only [List.cons_append, List.nil_append]
 by_cases h6 : W.length = 6
 rotate_left
 ·apply ot_v tk
  ((conv => whnf); (repeat ((first | apply VBr.t | (apply v_t; omega) | (apply VSt.mk; (focus ((repeat (first | (with_reducible exact At.here) | (with_reducible apply At.there))); done)); exact rfl)); (conv => whnf))))
  (apply VRet.mk)
  refine ret2 (by first | exact .inl rfl | exact .inr rfl) rfl (by exact rv_row tk rfl rfl rfl (by first | exact cells_blk_all (by (repeat (first | exact List.Mem.head _ | assumption | refine List.Mem.tail _ ?_))) | exact cells_row0 (by (repeat (first | exact List.Mem.head _ | assumption | refine List.Mem.tail _ ?_)))) rfl) (by exact rv_tmp rfl) ?_
  exact fun w h => ⟨rfl, h.base⟩
 obtain ⟨w0, w1, w2, w3, w4, w5, rfl⟩ := six h6
 have hb : ((decide (w2 = addT) || decide (w2 = setT)) && (digB w5 && decide (w5.length = 5))) = false := hb
 have h5l : w5.length ≤ l.length := by have := hsub w5 (by simp); simpa using this
 have h0l : w0.length ≤ l.length := by have := hsub w0 (by simp); simpa using this
 have h1l : w1.length ≤ l.length := by have := hsub w1 (by simp); simpa using this
 have h3l : w3.length ≤ l.length := by have := hsub w3 (by simp); simpa using this
 have h4l : w4.length ≤ l.length := by have := hsub w4 (by simp); simpa using this
 have kt : ∀ w' : World, Calls Tryz.prog 94 #[.string (bs w5), .string { data := #[48, 49, 50, 51, 52, 53, 54, 55, 56, 57] }] w' fun e w'' => e = .returned (.string (bs (Go.Lib.trimS w5 digT))) ∧ Below w'.heap.size w' w'' := fun w' => trim94_any w5 w' (by omega)
 clear h6 hsub kw
 dsimp only [List.length_cons, List.length_nil, strs, List.map_cons, List.map_nil]
 refine ot_own_addr (B := Bx) (m := 6) (cc := cx) (te := 9) (sz := 1) (xs := [.string (bs w0), .string (bs w1), .string (bs w2), .string (bs w3), .string (bs w4), .string (bs w5)]) (by (repeat (first | exact List.Mem.head _ | assumption | refine List.Mem.tail _ ?_))) (by omega) rfl ?_
 rintro bx rfl
 obtain ⟨bt, ht⟩ : ∃ bt, decide (Go.Lib.trimS w5 digT = []) = !bt := ⟨!decide (Go.Lib.trimS w5 digT = []), by simp⟩
 apply ot_v tk
 by_cases h5 : w5.length = 5
 ·cases bt
  ·have hd : digB w5 = true := by
    unfold digB
    rw [(trim_dig w5).1 (of_decide_eq_true ht), h5]; rfl
   rw [hd, decide_eq_true h5] at hb
   have hk : (if w2 = addT then (1 : Int) else if w2 = setT then 2 else 0) = 0 := by
    by_cases e1 : w2 = addT
    ·rw [decide_eq_true e1] at hb; cases hb
    ·by_cases e2 : w2 = setT
     ·rw [decide_eq_true e2, Bool.or_true] at hb; cases hb
     ·rw [if_neg e1, if_neg e2]
   have ki := fun {g t : Nat} {A : List Chunk} {w0 w1 : World} (hs : St w0 A w1) (hm : Chunk.blk g t [.string (bs addT), .string (bs setT)] ∈ A) => idx_mem w2 hs hm
   rw [hk] at ki
   ((conv => whnf); (repeat ((first | ((first | apply VStop.mk | apply VCall.stop); (first | (refine ot_strn (m := []) _ ht rfl rfl rfl rfl rfl ?_) | (refine ot_slen Tryz.underlying9 rfl rfl rfl rfl ?_)); apply ot_v tk) | (apply VLd.mk; first | exact cell_own (j := 0) (by (repeat (first | exact List.Mem.head _ | assumption | refine List.Mem.tail _ ?_))) rfl | exact cell_own (j := 1) (by (repeat (first | exact List.Mem.head _ | assumption | refine List.Mem.tail _ ?_))) rfl | exact cell_own (j := 2) (by (repeat (first | exact List.Mem.head _ | assumption | refine List.Mem.tail _ ?_))) rfl | exact cell_own (j := 3) (by (repeat (first | exact List.Mem.head _ | assumption | refine List.Mem.tail _ ?_))) rfl | exact cell_own (j := 4) (by (repeat (first | exact List.Mem.head _ | assumption | refine List.Mem.tail _ ?_))) rfl | exact cell_own (j := 5) (by (repeat (first | exact List.Mem.head _ | assumption | refine List.Mem.tail _ ?_))) rfl) | (apply VIx.mk (j := 2); exact rfl; omega) | (apply VIx.mk (j := 5); exact rfl; omega) | (apply VCall.q; kernel_rfl; (focus (intro w1 hs; first | with_reducible apply kt w1 | ((with_reducible apply ki hs); (repeat (first | exact List.Mem.head _ | assumption | refine List.Mem.tail _ ?_)))))) | (apply VRng.mk; omega) | apply VBr.f | (apply v_f; omega) | (apply VNew.mk; intro g hg) | (apply VIx.mk (j := 0); exact rfl; omega)); (conv => whnf))); apply VCall.stop)
   refine ot_callQ (X := Int) (us := []) (vs := []) (fun v => .tuple #[.int .i64 v, .bool (sgnOk w0)]) (fun v => sgnOk w0 = true → v = sgnV w0) (by decide) rfl rfl rfl rfl (by kernel_rfl) (evl_of rfl) rfl (fun wz hs => number96_any w0 wz (hE.st hs) (by omega)) ?_
   rintro v0 hv0
   dsimp only
   apply ot_v tk
   ((conv => whnf); (repeat ((first | (apply VLd.mk; exact cell_own (j := 1) (by (repeat (first | exact List.Mem.head _ | assumption | refine List.Mem.tail _ ?_))) rfl) | (apply VIx.mk (j := 1); exact rfl; omega)); (conv => whnf))); apply VCall.stop)
   refine ot_callQ (X := Int) (us := []) (vs := []) (fun v => .tuple #[.int .i64 v, .bool (sgnOk w1)]) (fun v => sgnOk w1 = true → v = sgnV w1) (by decide) rfl rfl rfl rfl (by kernel_rfl) (evl_of rfl) rfl (fun wz hs => number96_any w1 wz (hE.st hs) (by omega)) ?_
   rintro v1 hv1
   dsimp only
   apply ot_v tk
   ((conv => whnf); (repeat ((first | (apply VLd.mk; exact cell_own (j := 3) (by (repeat (first | exact List.Mem.head _ | assumption | refine List.Mem.tail _ ?_))) rfl) | (apply VIx.mk (j := 3); exact rfl; omega)); (conv => whnf))); apply VCall.stop)
   refine ot_callQ (X := Int) (us := []) (vs := []) (fun v => .tuple #[.int .i64 v, .bool (sgnOk w3)]) (fun v => sgnOk w3 = true → v = sgnV w3) (by decide) rfl rfl rfl rfl (by kernel_rfl) (evl_of rfl) rfl (fun wz hs => number96_any w3 wz (hE.st hs) (by omega)) ?_
   rintro v3 hv3
   dsimp only
   apply ot_v tk
   ((conv => whnf); (repeat ((first | (apply VLd.mk; exact cell_own (j := 4) (by (repeat (first | exact List.Mem.head _ | assumption | refine List.Mem.tail _ ?_))) rfl) | (apply VIx.mk (j := 4); exact rfl; omega)); (conv => whnf))); apply VCall.stop)
   refine ot_callQ (X := Int) (us := []) (vs := []) (fun v => .tuple #[.int .i64 v, .bool (sgnOk w4)]) (fun v => sgnOk w4 = true → v = sgnV w4) (by decide) rfl rfl rfl rfl (by kernel_rfl) (evl_of rfl) rfl (fun wz hs => number96_any w4 wz (hE.st hs) (by omega)) ?_
   rintro v4 hv4
   dsimp only
   apply ot_v tk
   ((conv => whnf); (repeat ((first | apply VBr.t | (apply v_t; omega) | (apply VSt.mk; (focus ((repeat (first | (with_reducible exact At.here) | (with_reducible apply At.there))); done)); exact rfl)); (conv => whnf))))
   (apply VRet.mk)
   refine ret2 (by first | exact .inl rfl | exact .inr rfl) rfl (by exact rv_row tk rfl rfl rfl (by first | exact cells_blk_all (by (repeat (first | exact List.Mem.head _ | assumption | refine List.Mem.tail _ ?_))) | exact cells_row0 (by (repeat (first | exact List.Mem.head _ | assumption | refine List.Mem.tail _ ?_)))) rfl) (by exact rv_tmp rfl) ?_
   exact fun w h => ⟨rfl, h.base⟩
  ·((conv => whnf); (repeat ((first | ((first | apply VStop.mk | apply VCall.stop); (first | (refine ot_strn (m := []) _ ht rfl rfl rfl rfl rfl ?_) | (refine ot_slen Tryz.underlying9 rfl rfl rfl rfl ?_)); apply ot_v tk) | (apply VLd.mk; first | exact cell_own (j := 0) (by (repeat (first | exact List.Mem.head _ | assumption | refine List.Mem.tail _ ?_))) rfl | exact cell_own (j := 1) (by (repeat (first | exact List.Mem.head _ | assumption | refine List.Mem.tail _ ?_))) rfl | exact cell_own (j := 2) (by (repeat (first | exact List.Mem.head _ | assumption | refine List.Mem.tail _ ?_))) rfl | exact cell_own (j := 3) (by (repeat (first | exact List.Mem.head _ | assumption | refine List.Mem.tail _ ?_))) rfl | exact cell_own (j := 4) (by (repeat (first | exact List.Mem.head _ | assumption | refine List.Mem.tail _ ?_))) rfl | exact cell_own (j := 5) (by (repeat (first | exact List.Mem.head _ | assumption | refine List.Mem.tail _ ?_))) rfl) | (apply VIx.mk (j := 5); exact rfl; omega) | (apply VCall.q; kernel_rfl; (focus (intro w1 hs; first | with_reducible apply kt w1))) | apply VBr.t | apply VBr.f | (apply v_f; omega) | (apply VSt.mk; (focus ((repeat (first | (with_reducible exact At.here) | (with_reducible apply At.there))); done)); exact rfl)); (conv => whnf))))
   (apply VRet.mk)
   refine ret2 (by first | exact .inl rfl | exact .inr rfl) rfl (by exact rv_row tk rfl rfl rfl (by first | exact cells_blk_all (by (repeat (first | exact List.Mem.head _ | assumption | refine List.Mem.tail _ ?_))) | exact cells_row0 (by (repeat (first | exact List.Mem.head _ | assumption | refine List.Mem.tail _ ?_)))) rfl) (by exact rv_tmp rfl) ?_
   exact fun w h => ⟨rfl, h.base⟩
 ·((conv => whnf); (repeat ((first | (apply VStop.mk; (refine ot_slen Tryz.underlying9 rfl rfl rfl rfl ?_); apply ot_v tk) | (apply VLd.mk; first | exact cell_own (j := 0) (by (repeat (first | exact List.Mem.head _ | assumption | refine List.Mem.tail _ ?_))) rfl | exact cell_own (j := 1) (by (repeat (first | exact List.Mem.head _ | assumption | refine List.Mem.tail _ ?_))) rfl | exact cell_own (j := 2) (by (repeat (first | exact List.Mem.head _ | assumption | refine List.Mem.tail _ ?_))) rfl | exact cell_own (j := 3) (by (repeat (first | exact List.Mem.head _ | assumption | refine List.Mem.tail _ ?_))) rfl | exact cell_own (j := 4) (by (repeat (first | exact List.Mem.head _ | assumption | refine List.Mem.tail _ ?_))) rfl | exact cell_own (j := 5) (by (repeat (first | exact List.Mem.head _ | assumption | refine List.Mem.tail _ ?_))) rfl) | (apply VIx.mk (j := 5); exact rfl; omega) | apply VBr.t | apply VBr.f | (apply v_t; omega) | (apply v_f; omega) | (apply VSt.mk; (focus ((repeat (first | (with_reducible exact At.here) | (with_reducible apply At.there))); done)); exact rfl)); (conv => whnf))))
  (apply VRet.mk)
  refine ret2 (by first | exact .inl rfl | exact .inr rfl) rfl (by exact rv_row tk rfl rfl rfl (by first | exact cells_blk_all (by (repeat (first | exact List.Mem.head _ | assumption | refine List.Mem.tail _ ?_))) | exact cells_row0 (by (repeat (first | exact List.Mem.head _ | assumption | refine List.Mem.tail _ ?_)))) rfl) (by exact rv_tmp rfl) ?_
  exact fun w h => ⟨rfl, h.base⟩
set_option maxHeartbeats 4000000 in
set_option maxRecDepth 20000 in
theorem read_num (l : List UInt8) (w : World) (hE : LayE w) (hM : MaxL w) (hm : l.length ≤ 10000) (hb : goodW (spl 32 [] l) = true) : Calls Tryz.prog 76 #[.string (bs l)] w fun e w' => e = .returned (.tuple #[lnV (if okR (spl 32 [] l) = true then lnR (spl 32 [] l) else ⟨0, 0, 0, 0, 0⟩), .bool (okR (spl 32 [] l))]) ∧ Below w.heap.size w w' := by
 have kw : ∀ w1, MaxL w1 → _ := fun w1 h => split75_any 32 l w1 h (by omega)
 rw [show (32 : UInt8).toNat = 32 from rfl] at kw
 have hsub := fun w => spl_sub 32 l [] w
 generalize spl 32 [] l = W at *
 refine fn_v tk (n := 101) (A := []) Tryz.func76 rfl rfl (Nat.le_of_ble_eq_true rfl) (St.nil (Below.refl _ _)) ?_
 ((conv => whnf); (repeat ((apply VNew.mk; intro g hg); (conv => whnf))); apply VCall.stop)
 refine ot_callT (X := SlX) (us := []) (vs := []) (fun x => .slice x.1 W.length x.2) (fun x => []) (fun x => [.own (.slice x.1 W.length x.2) 9 1 W.length (strs W)]) _ (fun x c hc => one_mut hc) (by decide) rfl rfl rfl rfl (by kernel_rfl) (evl_of rfl) rfl (fun w1 hs => kw w1 (hM.st hs)) ?_
 rintro ⟨Bx, cx⟩ _
 dsimp only [List.cons_append, List.nil_append]
 have h6 : W.length = 6 := by
  unfold goodW at hb
  simp only [Bool.and_eq_true, decide_eq_true_eq] at hb
  exact hb.1
 obtain ⟨w0, w1, w2, w3, w4, w5, rfl⟩ := six h6
 have hb : ((decide (w2 = addT) || decide (w2 = setT)) && (digB w5 && decide (w5.length = 5))) = true := hb
 have h5l : w5.length ≤ l.length := by have := hsub w5 (by simp); simpa using this
 have h0l : w0.length ≤ l.length := by have := hsub w0 (by simp); simpa using this
 have h1l : w1.length ≤ l.length := by have := hsub w1 (by simp); simpa using this
 have h3l : w3.length ≤ l.length := by have := hsub w3 (by simp); simpa using this
 have h4l : w4.length ≤ l.length := by have := hsub w4 (by simp); simpa using this
 have kt : ∀ w' : World, Calls Tryz.prog 94 #[.string (bs w5), .string { data := #[48, 49, 50, 51, 52, 53, 54, 55, 56, 57] }] w' fun e w'' => e = .returned (.string (bs (Go.Lib.trimS w5 digT))) ∧ Below w'.heap.size w' w'' := fun w' => trim94_any w5 w' (by omega)
 clear h6 hsub kw
 dsimp only [List.length_cons, List.length_nil, strs, List.map_cons, List.map_nil]
 refine ot_own_addr (B := Bx) (m := 6) (cc := cx) (te := 9) (sz := 1) (xs := [.string (bs w0), .string (bs w1), .string (bs w2), .string (bs w3), .string (bs w4), .string (bs w5)]) (by (repeat (first | exact List.Mem.head _ | assumption | refine List.Mem.tail _ ?_))) (by omega) rfl ?_
 rintro bx rfl
 simp only [Bool.and_eq_true, Bool.or_eq_true, decide_eq_true_eq] at hb
 obtain ⟨hk0, hd5, h5⟩ := hb
 have ht : decide (Go.Lib.trimS w5 digT = []) = !false := decide_eq_true ((trim_dig w5).2 (by unfold digB at hd5; simp only [Bool.and_eq_true] at hd5; exact hd5.1))
 have ki := fun {g t : Nat} {A : List Chunk} {w0 w1 : World} (hs : St w0 A w1) (hm : Chunk.blk g t [.string (bs addT), .string (bs setT)] ∈ A) => idx_mem w2 hs hm
 have hl : lnR [w0, w1, w2, w3, w4, w5] = ⟨numV w0, numV w1, if w2 = setT then 2 else 1, numV w3, sgnV w4⟩ := rfl
 have ho : okR [w0, w1, w2, w3, w4, w5] = (numOk w0 && (numOk w1 && (numOk w3 && sgnOk w4))) := rfl
 rw [hl, ho]
 obtain ⟨kk, hkk, hk1, hk2⟩ : ∃ kk : Int, (kk = 1 ∨ kk = 2) ∧ (if w2 = addT then (1 : Int) else if w2 = setT then 2 else 0) = kk ∧ (if w2 = setT then (2 : Int) else 1) = kk := by
  rcases hk0 with rfl | rfl
  ·exact ⟨1, .inl rfl, rfl, rfl⟩
  ·exact ⟨2, .inr rfl, rfl, rfl⟩
 rw [hk1] at ki
 rw [hk2]
 clear hl ho hk1 hk2 hk0
 have n0 : sgnOk w0 = false → numOk w0 = false := fun h => by
  cases hn : numOk w0
  ·rfl
  ·rw [(num_sgn hn).1] at h; cases h
 have n1 : sgnOk w1 = false → numOk w1 = false := fun h => by
  cases hn : numOk w1
  ·rfl
  ·rw [(num_sgn hn).1] at h; cases h
 have n3 : sgnOk w3 = false → numOk w3 = false := fun h => by
  cases hn : numOk w3
  ·rfl
  ·rw [(num_sgn hn).1] at h; cases h
 have three := fun (p q r : Int) (h0 : sgnOk w0 = true) (h1 : sgnOk w1 = true) (h3 : sgnOk w3 = true) => sgn_three (p := p) (q := q) (r := r) h0 h1 h3
 have val0 := fun h => (num_sgn (l := w0) h).2
 have val1 := fun h => (num_sgn (l := w1) h).2
 have val3 := fun h => (num_sgn (l := w3) h).2
 apply ot_v tk
 ((conv => whnf); (repeat ((first | ((first | apply VStop.mk | apply VCall.stop); (first | (refine ot_strn (m := []) _ ht rfl rfl rfl rfl rfl ?_) | (refine ot_slen Tryz.underlying9 rfl rfl rfl rfl ?_)); apply ot_v tk) | (apply VLd.mk; first | exact cell_own (j := 0) (by (repeat (first | exact List.Mem.head _ | assumption | refine List.Mem.tail _ ?_))) rfl | exact cell_own (j := 1) (by (repeat (first | exact List.Mem.head _ | assumption | refine List.Mem.tail _ ?_))) rfl | exact cell_own (j := 2) (by (repeat (first | exact List.Mem.head _ | assumption | refine List.Mem.tail _ ?_))) rfl | exact cell_own (j := 3) (by (repeat (first | exact List.Mem.head _ | assumption | refine List.Mem.tail _ ?_))) rfl | exact cell_own (j := 4) (by (repeat (first | exact List.Mem.head _ | assumption | refine List.Mem.tail _ ?_))) rfl | exact cell_own (j := 5) (by (repeat (first | exact List.Mem.head _ | assumption | refine List.Mem.tail _ ?_))) rfl) | (apply VIx.mk (j := 2); exact rfl; omega) | (apply VIx.mk (j := 5); exact rfl; omega) | (apply VCall.q; kernel_rfl; (focus (intro w1 hs; first | with_reducible apply kt w1 | ((with_reducible apply ki hs); (repeat (first | exact List.Mem.head _ | assumption | refine List.Mem.tail _ ?_)))))) | (apply VRng.mk; omega) | apply VBr.f | (apply v_f; omega) | (apply VNew.mk; intro g hg) | (apply VIx.mk (j := 0); exact rfl; omega)); (conv => whnf))); apply VCall.stop)
 refine ot_callQ (X := Int) (us := []) (vs := []) (fun v => .tuple #[.int .i64 v, .bool (sgnOk w0)]) (fun v => sgnOk w0 = true → v = sgnV w0) (by decide) rfl rfl rfl rfl (by kernel_rfl) (evl_of rfl) rfl (fun wz hs => number96_any w0 wz (hE.st hs) (by omega)) ?_
 rintro v0 hv0
 dsimp only
 apply ot_v tk
 ((conv => whnf); (repeat ((first | (apply VLd.mk; exact cell_own (j := 1) (by (repeat (first | exact List.Mem.head _ | assumption | refine List.Mem.tail _ ?_))) rfl) | (apply VIx.mk (j := 1); exact rfl; omega)); (conv => whnf))); apply VCall.stop)
 refine ot_callQ (X := Int) (us := []) (vs := []) (fun v => .tuple #[.int .i64 v, .bool (sgnOk w1)]) (fun v => sgnOk w1 = true → v = sgnV w1) (by decide) rfl rfl rfl rfl (by kernel_rfl) (evl_of rfl) rfl (fun wz hs => number96_any w1 wz (hE.st hs) (by omega)) ?_
 rintro v1 hv1
 dsimp only
 apply ot_v tk
 ((conv => whnf); (repeat ((first | (apply VLd.mk; exact cell_own (j := 3) (by (repeat (first | exact List.Mem.head _ | assumption | refine List.Mem.tail _ ?_))) rfl) | (apply VIx.mk (j := 3); exact rfl; omega)); (conv => whnf))); apply VCall.stop)
 refine ot_callQ (X := Int) (us := []) (vs := []) (fun v => .tuple #[.int .i64 v, .bool (sgnOk w3)]) (fun v => sgnOk w3 = true → v = sgnV w3) (by decide) rfl rfl rfl rfl (by kernel_rfl) (evl_of rfl) rfl (fun wz hs => number96_any w3 wz (hE.st hs) (by omega)) ?_
 rintro v3 hv3
 dsimp only
 apply ot_v tk
 ((conv => whnf); (repeat ((first | (apply VLd.mk; exact cell_own (j := 4) (by (repeat (first | exact List.Mem.head _ | assumption | refine List.Mem.tail _ ?_))) rfl) | (apply VIx.mk (j := 4); exact rfl; omega)); (conv => whnf))); apply VCall.stop)
 refine ot_callQ (X := Int) (us := []) (vs := []) (fun v => .tuple #[.int .i64 v, .bool (sgnOk w4)]) (fun v => sgnOk w4 = true → v = sgnV w4) (by decide) rfl rfl rfl rfl (by kernel_rfl) (evl_of rfl) rfl (fun wz hs => number96_any w4 wz (hE.st hs) (by omega)) ?_
 rintro v4 hv4
 dsimp only
 apply ot_v tk
 generalize sgnOk w0 = s0 at *
 generalize sgnOk w1 = s1 at *
 generalize sgnOk w3 = s3 at *
 generalize sgnOk w4 = s4 at *
 cases s0
 ·rw [n0 rfl]
  rcases hkk with rfl | rfl
  all_goals
   ((conv => whnf); (repeat ((first | apply VBr.t | apply VBr.f | (apply v_f; omega) | (apply VSt.mk; (focus ((repeat (first | (with_reducible exact At.here) | (with_reducible apply At.there))); done)); exact rfl)); (conv => whnf))))
   (apply VRet.mk)
   refine ret2 (by first | exact .inl rfl | exact .inr rfl) rfl (by exact rv_row tk rfl rfl rfl (by first | exact cells_blk_all (by (repeat (first | exact List.Mem.head _ | assumption | refine List.Mem.tail _ ?_))) | exact cells_row0 (by (repeat (first | exact List.Mem.head _ | assumption | refine List.Mem.tail _ ?_)))) rfl) (by exact rv_tmp rfl) ?_
   exact fun w h => ⟨rfl, h.base⟩
 cases s1
 ·rw [n1 rfl, Bool.false_and, Bool.and_false]
  rcases hkk with rfl | rfl
  all_goals
   ((conv => whnf); (repeat ((first | apply VBr.t | apply VBr.f | (apply v_f; omega) | (apply VSt.mk; (focus ((repeat (first | (with_reducible exact At.here) | (with_reducible apply At.there))); done)); exact rfl)); (conv => whnf))))
   (apply VRet.mk)
   refine ret2 (by first | exact .inl rfl | exact .inr rfl) rfl (by exact rv_row tk rfl rfl rfl (by first | exact cells_blk_all (by (repeat (first | exact List.Mem.head _ | assumption | refine List.Mem.tail _ ?_))) | exact cells_row0 (by (repeat (first | exact List.Mem.head _ | assumption | refine List.Mem.tail _ ?_)))) rfl) (by exact rv_tmp rfl) ?_
   exact fun w h => ⟨rfl, h.base⟩
 cases s3
 ·rw [n3 rfl, Bool.false_and, Bool.and_false, Bool.and_false]
  rcases hkk with rfl | rfl
  all_goals
   ((conv => whnf); (repeat ((first | apply VBr.t | apply VBr.f | (apply v_f; omega) | (apply VSt.mk; (focus ((repeat (first | (with_reducible exact At.here) | (with_reducible apply At.there))); done)); exact rfl)); (conv => whnf))))
   (apply VRet.mk)
   refine ret2 (by first | exact .inl rfl | exact .inr rfl) rfl (by exact rv_row tk rfl rfl rfl (by first | exact cells_blk_all (by (repeat (first | exact List.Mem.head _ | assumption | refine List.Mem.tail _ ?_))) | exact cells_row0 (by (repeat (first | exact List.Mem.head _ | assumption | refine List.Mem.tail _ ?_)))) rfl) (by exact rv_tmp rfl) ?_
   exact fun w h => ⟨rfl, h.base⟩
 cases s4
 ·rw [Bool.and_false, Bool.and_false, Bool.and_false]
  rcases hkk with rfl | rfl
  all_goals
   ((conv => whnf); (repeat ((first | apply VBr.t | apply VBr.f | (apply v_f; omega) | (apply VSt.mk; (focus ((repeat (first | (with_reducible exact At.here) | (with_reducible apply At.there))); done)); exact rfl)); (conv => whnf))))
   (apply VRet.mk)
   refine ret2 (by first | exact .inl rfl | exact .inr rfl) rfl (by exact rv_row tk rfl rfl rfl (by first | exact cells_blk_all (by (repeat (first | exact List.Mem.head _ | assumption | refine List.Mem.tail _ ?_))) | exact cells_row0 (by (repeat (first | exact List.Mem.head _ | assumption | refine List.Mem.tail _ ?_)))) rfl) (by exact rv_tmp rfl) ?_
   exact fun w h => ⟨rfl, h.base⟩
 rw [Bool.and_true]
 have e0 := hv0 rfl
 have e1 := hv1 rfl
 have e3 := hv3 rfl
 have e4 := hv4 rfl
 have hw := three v0 v1 v3 rfl rfl rfl e0 e1 e3
 have kwi := fun {g t : Nat} {A : List Chunk} {w0 w1 : World} (hs : St w0 A w1) (hm : Chunk.blk g t [.int .i64 v0, .int .i64 v1, .int .i64 v3] ∈ A) => within3_mem hs hm
 rw [hw] at kwi
 by_cases hall : (numOk w0 && (numOk w1 && numOk w3)) = true
 ·have h3 := hall
  simp only [Bool.and_eq_true] at h3
  rw [val0 h3.1] at e0
  rw [val1 h3.2.1] at e1
  rw [val3 h3.2.2] at e3
  rw [hall] at kwi ⊢
  rw [if_pos rfl, ← e0, ← e1, ← e3, ← e4]
  rcases hkk with rfl | rfl
  all_goals
   ((conv => whnf); (repeat ((first | (apply VCall.q; kernel_rfl; (focus (intro w1 hs; first | ((with_reducible apply kwi hs); (repeat (first | exact List.Mem.head _ | assumption | refine List.Mem.tail _ ?_)))))) | apply VBr.f | (apply v_f; omega) | (apply VNew.mk; intro g hg) | (apply VSt.mk; (focus ((repeat (first | (with_reducible exact At.here) | (with_reducible apply At.there))); done)); exact rfl)); (conv => whnf))))
   (apply VRet.mk)
   refine ret2 (by first | exact .inl rfl | exact .inr rfl) rfl (by exact rv_row tk rfl rfl rfl (by first | exact cells_blk_all (by (repeat (first | exact List.Mem.head _ | assumption | refine List.Mem.tail _ ?_))) | exact cells_row0 (by (repeat (first | exact List.Mem.head _ | assumption | refine List.Mem.tail _ ?_)))) rfl) (by exact rv_tmp rfl) ?_
   exact fun w h => ⟨rfl, h.base⟩
 ·rw [Bool.eq_false_iff.2 hall] at kwi ⊢
  rcases hkk with rfl | rfl
  all_goals
   ((conv => whnf); (repeat ((first | (apply VCall.q; kernel_rfl; (focus (intro w1 hs; first | ((with_reducible apply kwi hs); (repeat (first | exact List.Mem.head _ | assumption | refine List.Mem.tail _ ?_)))))) | apply VBr.t | apply VBr.f | (apply v_f; omega) | (apply VNew.mk; intro g hg) | (apply VSt.mk; (focus ((repeat (first | (with_reducible exact At.here) | (with_reducible apply At.there))); done)); exact rfl)); (conv => whnf))))
   (apply VRet.mk)
   refine ret2 (by first | exact .inl rfl | exact .inr rfl) rfl (by exact rv_row tk rfl rfl rfl (by first | exact cells_blk_all (by (repeat (first | exact List.Mem.head _ | assumption | refine List.Mem.tail _ ?_))) | exact cells_row0 (by (repeat (first | exact List.Mem.head _ | assumption | refine List.Mem.tail _ ?_)))) rfl) (by exact rv_tmp rfl) ?_
   exact fun w h => ⟨rfl, h.base⟩
def rd1 (l : List UInt8) : Ln := if (rdR l).2.2 = true then (rdR l).1 else ⟨0, 0, 0, 0, 0⟩
theorem read_any (l : List UInt8) (w : World) (hE : LayE w) (hM : MaxL w) (hm : l.length ≤ 10000) : Calls Tryz.prog 76 #[.string (bs l)] w fun e w' => e = .returned (.tuple #[lnV (rd1 l), .bool (rdR l).2.2]) ∧ Below w.heap.size w w' := by
 unfold rd1 rdR
 cases h : goodW (spl 32 [] l)
 ·exact read_no l w hE hM hm h
 ·exact read_num l w hE hM hm h
end Go.Proofs.YtojeeindlijgkaaGreatDoor
