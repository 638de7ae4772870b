/- Load, as the definition says: lemmas for the rows of this seat. No conditions. -/
import Derived.Laws.StructEq
import Derived.Laws.IdiomStrings
import Derived.Laws.Strings2
import Derived.Laws.Strings3
import Derived.Test.YtojeeindlijgkaaGreatDoorK25
set_option linter.all false
namespace Go.Proofs.YtojeeindlijgkaaGreatDoor
open Go.RowKit
/-! ## Load, as the definition says -/
theorem refRead_any (l : List UInt8) (w : World) (hm : l.length ≤ 10000) : Calls Tryz.prog 77 #[.string (bs l)] w fun e w' => e = .returned (.tuple #[lnV (rdR l).1, .int .i64 (rdR l).2.1, .bool (rdR l).2.2]) ∧ Below w.heap.size w w' := by
 unfold rdR
 cases h : goodW (spl 32 [] l)
 ·exact refRead_bad l w hm h
 ·exact refRead_ok l w hm h
theorem refLoad_long (s : List UInt8) (w : World) (h : 2000 < s.length) : Calls Tryz.prog 41 #[.string (bs s)] w fun e w' => e = .returned (.tuple #[.agg #[.slice none 0 0], .int .i64 7]) ∧ Below w.heap.size w w' := by
 refine fn_v tk (n := 85) (A := []) Tryz.func41 rfl rfl (Nat.le_of_ble_eq_true rfl) (St.nil (Below.refl _ _)) ?_
 ((conv => whnf); (repeat ((first | (apply VStop.mk; (refine ot_slen Tryz.underlying9 rfl rfl rfl rfl ?_); apply ot_v tk) | apply VBr.t | (apply v_t; omega) | (apply VNew.mk; intro g hg) | (apply VSt.mk; (focus ((repeat (first | (with_reducible exact At.here) | (with_reducible apply At.there))); done)); exact rfl)); (conv => whnf))))
 (apply VRet.mk)
 refine ret2 (by first | exact .inl rfl | exact .inr rfl) rfl (by exact rv_row tk rfl rfl rfl (by first | exact cells_blk_all (by (repeat (first | exact List.Mem.head _ | assumption | refine List.Mem.tail _ ?_))) | exact cells_row0 (by (repeat (first | exact List.Mem.head _ | assumption | refine List.Mem.tail _ ?_)))) rfl) (by exact rv_tmp rfl) ?_
 exact fun w h => ⟨rfl, h.base⟩
set_option maxHeartbeats 2000000 in
set_option maxRecDepth 20000 in
theorem refLoad_form (s : List UInt8) (w : World) (hs2 : s.length ≤ 2000) (hF : formOk (spl 10 [] s) = false) : Calls Tryz.prog 41 #[.string (bs s)] w fun e w' => e = .returned (.tuple #[.agg #[.slice none 0 0], .int .i64 8]) ∧ Below w.heap.size w w' := by
 obtain ⟨P, hP⟩ : ∃ P, P = spl 10 [] s := ⟨_, rfl⟩
 have hPl := spl_len 10 s []
 have h0 : ([] : List (List UInt8)) ++ spl 10 (part' s 0 0) (s.drop 0) = P := hP.symm
 rw [← hP] at hPl hF
 clear hP
 refine fn_v tk (n := 85) (A := []) Tryz.func41 rfl rfl (Nat.le_of_ble_eq_true rfl) (St.nil (Below.refl _ _)) ?_
 ((conv => whnf); (repeat ((first | (apply VStop.mk; (refine ot_slen Tryz.underlying9 rfl rfl rfl rfl ?_); apply ot_v tk) | apply VBr.f | (apply v_f; omega) | (apply VNew.mk; intro g hg)); (conv => whnf))); apply VStop.mk)
 rename_i g2 _
 revert g hg
 intro g4 hg4
 refine tr_own_nil 61 5 ?_
 refine tr_own_nil 3 1 ?_
 refine v_loop (fun gm ds ts A => ds = [] ∧ ∃ (i fr : Nat) (D : List (List UInt8)) (Bx : Option Addr) (cx : Nat) (By : Option Addr) (cy : Nat), i + gm = s.length ∧ fr ≤ i ∧ D ++ spl 10 (part' s fr i) (s.drop i) = P ∧ D.all (fun p => (rdR p).2.2) = true ∧ A = [.own (.slice By D.length cy) 3 1 D.length (i64s (D.map fun p => (rdR p).2.1)), .own (.slice Bx D.length cx) 61 5 D.length (lnC (D.map fun p => (rdR p).1)), .blk g4 24 [.slice Bx D.length cx], .blk g2 24 [.slice none 0 0]] ∧ ts = [(0, .string (bs s)), (2, .pointer (some ⟨g2, 0, none⟩)), (4, .pointer (some ⟨g4, 0, none⟩)), (5, .slice By D.length cy), (6, .int .i64 (fr : Int)), (7, .int .i64 (i : Int))]) s.length (l := [(0, _), (2, _), (4, _), (5, _), (6, _), (7, _)]) (B := _) ?_ (List.Sublist.refl _) ⟨rfl, 0, 0, [], none, 0, none, 0, by omega, Nat.le_refl _, h0, rfl, rfl, rfl⟩ ?_
 ·exact ⟨rfl, rfl, rfl, rfl, rfl, rfl, trivial⟩
 clear h0
 rintro gm ds ts A ⟨rfl, i, fr, D, Bx, cx, By, cy, hi, hfr, hin, hD, rfl, rfl⟩
 have hile : i ≤ s.length := by omega
 have hol : D.length ≤ 2001 := by
  have := congrArg List.length hin
  rw [List.length_append] at this
  omega
 by_cases hlt : i < s.length
 ·have hst := spl_step (s := 10) (cur := part' s fr i) hlt
  have hq : cAt s i = s[i]?.getD 0 := rfl
  by_cases hc : (cAt s i).toNat = 10
  ·rw [if_pos hc] at hst
   rw [hst] at hin
   rw [hq] at hc
   have hrne := spl_ne 10 (s.drop (i + 1)) []
   have hsm := rdLn_sm (part' s fr i)
   have hpl : (part' s fr i).length ≤ 10000 := by unfold part'; simp; omega
   have kr := fun w1 => refRead_any (part' s fr i) w1 hpl
   have e1 : (D ++ [part' s fr i]).length = D.length + 1 := by simp
   have e2 : lnC ((D ++ [part' s fr i]).map fun p => (rdR p).1) = lnC (D.map fun p => (rdR p).1) ++ lnL (rdR (part' s fr i)).1 := by rw [List.map_append]; exact lnC_snoc _ _
   have e3 : i64s ((D ++ [part' s fr i]).map fun p => (rdR p).2.1) = i64s (D.map fun p => (rdR p).2.1) ++ [.int .i64 (rdR (part' s fr i)).2.1] := by simp [i64s]
   have hn : (D ++ [part' s fr i]) ++ spl 10 (part' s (i + 1) (i + 1)) (s.drop (i + 1)) = P := by rw [part_self, List.append_assoc]; exact hin
   have hD' : (rdR (part' s fr i)).2.2 = true → (D ++ [part' s fr i]).all (fun p => (rdR p).2.2) = true := fun h => by rw [List.all_append, hD, Bool.true_and, List.all_cons, h]; rfl
   unfold lnV at kr
   unfold lnL at e2
   generalize hrd : rdR (part' s fr i) = rd at *
   obtain ⟨y, z, ok⟩ := rd
   dsimp only at kr e2 e3 hD'
   unfold part' at kr
   cases ok
   ·(apply tr_v tk; (conv => whnf); (repeat ((first | ((first | apply VStop.mk | apply VCall.stop); (first | (refine ot_slen Tryz.underlying9 rfl rfl rfl rfl ?_) | (refine ot_sidx hlt Tryz.underlying9 rfl rfl rfl rfl rfl ?_) | (refine ot_sslice hfr hile Tryz.underlying9 rfl rfl rfl rfl rfl rfl ?_)); apply ot_v tk) | (apply VCall.q; kernel_rfl; (focus (intro w1 hs; first | with_reducible apply kr w1))) | apply VBr.t | apply VBr.f | (apply v_t; omega) | (apply v_f; omega) | (apply VNew.mk; intro g hg) | (apply VSt.mk; (focus ((repeat (first | (with_reducible exact At.here) | (with_reducible apply At.there))); done)); exact rfl)); (conv => whnf))))
    (apply VRet.mk)
    refine ret2 (by first | exact .inl rfl | exact .inr rfl) rfl (by exact rv_row tk rfl rfl rfl (by first | exact cells_blk_all (by (repeat (first | exact List.Mem.head _ | assumption | refine List.Mem.tail _ ?_))) | exact cells_row0 (by (repeat (first | exact List.Mem.head _ | assumption | refine List.Mem.tail _ ?_)))) rfl) (by exact rv_tmp rfl) ?_
    exact fun w h => ⟨rfl, h.base⟩
   ·(apply tr_v tk; (conv => whnf); (repeat ((first | ((first | apply VStop.mk | apply VCall.stop); (first | (refine ot_slen Tryz.underlying9 rfl rfl rfl rfl ?_) | (refine ot_sidx hlt Tryz.underlying9 rfl rfl rfl rfl rfl ?_) | (refine ot_sslice hfr hile Tryz.underlying9 rfl rfl rfl rfl rfl rfl ?_) | (refine ot_appendS (sz := 5) (sl := D.length) (A'v := fun v' => _ :: _ :: _ :: .own v' 61 5 (D.length + 1) (lnC (D.map fun p => (rdR p).1) ++ [.int .i64 y.st, .int .i64 y.ck, .int .i64 y.kd, .int .i64 y.th, .int .i64 y.vl]) :: _) tk rfl rfl rfl rfl rfl rfl rfl rfl rfl rfl (by decide) rfl (cells_blk_all (.head _)) rfl rfl (fun v' => .there (.there (.there .here))) (by omega) (by decide) (fun B3 c3 => ?_)) | (refine ot_appendS (sz := 1) (sl := D.length) (A'v := fun v' => _ :: _ :: _ :: .own v' 3 1 (D.length + 1) (i64s (D.map fun p => (rdR p).2.1) ++ [.int .i64 z]) :: _) tk rfl rfl rfl rfl rfl rfl rfl rfl rfl rfl (by decide) rfl (cells_blk_all (.head _)) rfl rfl (fun v' => .there (.there (.there .here))) (by omega) (by decide) (fun B4 c4 => ?_))); apply ot_v tk) | (apply VLdN.mk; exact ldn_blk; exact rfl) | (apply VCall.q; kernel_rfl; (focus (intro w1 hs; first | with_reducible apply kr w1))) | (apply VLd.mk; (focus ((repeat (first | ((with_reducible apply ld_blk); exact rfl) | (with_reducible apply ld_skip))); done))) | (apply VRng.mk; omega) | apply VBr.t | apply VBr.f | (apply v_t; omega) | (apply v_f; omega) | (apply VNew.mk; intro g hg) | (apply VSt.mk; (focus ((repeat (first | (with_reducible exact At.here) | (with_reducible apply At.there))); done)); exact rfl)); (conv => whnf))))
    exact v_rnd (gm - 1) (by omega) (l := [(0, _), (2, _), (4, _), (5, _), (6, _), (7, _)]) (B := _) ⟨rfl, rfl, rfl, rfl, rfl, rfl, trivial⟩ (.cons _ (.cons _ (.cons _ (List.Sublist.refl _)))) ⟨rfl, i + 1, i + 1, D ++ [part' s fr i], B3, c3, B4, c4, by omega, Nat.le_refl _, hn, hD' rfl, by rw [e1, e2, e3], by rw [e1]; rfl⟩
  ·rw [if_neg hc, ← part_snoc hfr hlt] at hst
   rw [hst] at hin
   rw [hq] at hc
   (apply tr_v tk; (conv => whnf); (repeat ((first | (apply VStop.mk; (first | (refine ot_slen Tryz.underlying9 rfl rfl rfl rfl ?_) | (refine ot_sidx hlt Tryz.underlying9 rfl rfl rfl rfl rfl ?_)); apply ot_v tk) | (apply VRng.mk; omega) | apply VBr.t | (apply v_t; omega)); (conv => whnf))))
   exact v_rnd (gm - 1) (by omega) (l := [(0, _), (2, _), (4, _), (5, _), (6, _), (7, _)]) (B := _) ⟨rfl, rfl, rfl, rfl, rfl, rfl, trivial⟩ (List.Sublist.refl _) ⟨rfl, i + 1, fr, D, Bx, cx, By, cy, by omega, by omega, hin, hD, rfl, rfl⟩
 obtain rfl : i = s.length := by omega
 rw [List.drop_length, spl] at hin
 have hq : part' s fr s.length ≠ [] := fun e => by rw [← hin, form_end hD, decide_eq_true e] at hF; cases hF
 have hne : fr ≠ s.length := fun e => hq ((part_nil hfr (Nat.le_refl _)).2 e)
 (apply tr_v tk; (conv => whnf); (repeat ((first | (apply VStop.mk; (refine ot_slen Tryz.underlying9 rfl rfl rfl rfl ?_); apply ot_v tk) | apply VBr.t | apply VBr.f | (apply v_t; omega) | (apply v_f; omega) | (apply VSt.mk; (focus ((repeat (first | (with_reducible exact At.here) | (with_reducible apply At.there))); done)); exact rfl)); (conv => whnf))))
 (apply VRet.mk)
 refine ret2 (by first | exact .inl rfl | exact .inr rfl) rfl (by exact rv_row tk rfl rfl rfl (by first | exact cells_blk_all (by (repeat (first | exact List.Mem.head _ | assumption | refine List.Mem.tail _ ?_))) | exact cells_row0 (by (repeat (first | exact List.Mem.head _ | assumption | refine List.Mem.tail _ ?_)))) rfl) (by exact rv_tmp rfl) ?_
 exact fun w h => ⟨rfl, h.base⟩
set_option maxHeartbeats 2000000 in
set_option maxRecDepth 20000 in
theorem refLoad_sum (s : List UInt8) (w : World) (hs2 : s.length ≤ 2000) (hT : T10 w) (hF : formOk (spl 10 [] s) = true) (hS : ¬(∀ k, k < ((spl 10 [] s).dropLast.map fun p => (rdR p).1).length → (fileF (((spl 10 [] s).dropLast.map fun p => (rdR p).1).take (k + 1))).1 = iAtK ((spl 10 [] s).dropLast.map fun p => (rdR p).2.1) k)) : Calls Tryz.prog 41 #[.string (bs s)] w fun e w' => e = .returned (.tuple #[.agg #[.slice none 0 0], .int .i64 14]) ∧ Below w.heap.size w w' := by
 obtain ⟨P, hP⟩ : ∃ P, P = spl 10 [] s := ⟨_, rfl⟩
 have hPl := spl_len 10 s []
 have h0 : ([] : List (List UInt8)) ++ spl 10 (part' s 0 0) (s.drop 0) = P := hP.symm
 rw [← hP] at hPl hF hS
 clear hP
 refine fn_v tk (n := 85) (A := []) Tryz.func41 rfl rfl (Nat.le_of_ble_eq_true rfl) (St.nil (Below.refl _ _)) ?_
 ((conv => whnf); (repeat ((first | (apply VStop.mk; (refine ot_slen Tryz.underlying9 rfl rfl rfl rfl ?_); apply ot_v tk) | apply VBr.f | (apply v_f; omega) | (apply VNew.mk; intro g hg)); (conv => whnf))); apply VStop.mk)
 rename_i g2 _
 revert g hg
 intro g4 hg4
 refine tr_own_nil 61 5 ?_
 refine tr_own_nil 3 1 ?_
 refine v_loop (fun gm ds ts A => ds = [] ∧ ∃ (i fr : Nat) (D : List (List UInt8)) (Bx : Option Addr) (cx : Nat) (By : Option Addr) (cy : Nat), i + gm = s.length ∧ fr ≤ i ∧ D ++ spl 10 (part' s fr i) (s.drop i) = P ∧ D.all (fun p => (rdR p).2.2) = true ∧ A = [.own (.slice By D.length cy) 3 1 D.length (i64s (D.map fun p => (rdR p).2.1)), .own (.slice Bx D.length cx) 61 5 D.length (lnC (D.map fun p => (rdR p).1)), .blk g4 24 [.slice Bx D.length cx], .blk g2 24 [.slice none 0 0]] ∧ ts = [(0, .string (bs s)), (2, .pointer (some ⟨g2, 0, none⟩)), (4, .pointer (some ⟨g4, 0, none⟩)), (5, .slice By D.length cy), (6, .int .i64 (fr : Int)), (7, .int .i64 (i : Int))]) s.length (l := [(0, _), (2, _), (4, _), (5, _), (6, _), (7, _)]) (B := _) ?_ (List.Sublist.refl _) ⟨rfl, 0, 0, [], none, 0, none, 0, by omega, Nat.le_refl _, h0, rfl, rfl, rfl⟩ ?_
 ·exact ⟨rfl, rfl, rfl, rfl, rfl, rfl, trivial⟩
 clear h0
 rintro gm ds ts A ⟨rfl, i, fr, D, Bx, cx, By, cy, hi, hfr, hin, hD, rfl, rfl⟩
 have hile : i ≤ s.length := by omega
 have hol : D.length ≤ 2001 := by
  have := congrArg List.length hin
  rw [List.length_append] at this
  omega
 by_cases hlt : i < s.length
 ·have hst := spl_step (s := 10) (cur := part' s fr i) hlt
  have hq : cAt s i = s[i]?.getD 0 := rfl
  by_cases hc : (cAt s i).toNat = 10
  ·rw [if_pos hc] at hst
   rw [hst] at hin
   rw [hq] at hc
   have hrne := spl_ne 10 (s.drop (i + 1)) []
   have hsm := rdLn_sm (part' s fr i)
   have hpl : (part' s fr i).length ≤ 10000 := by unfold part'; simp; omega
   have kr := fun w1 => refRead_any (part' s fr i) w1 hpl
   have e1 : (D ++ [part' s fr i]).length = D.length + 1 := by simp
   have e2 : lnC ((D ++ [part' s fr i]).map fun p => (rdR p).1) = lnC (D.map fun p => (rdR p).1) ++ lnL (rdR (part' s fr i)).1 := by rw [List.map_append]; exact lnC_snoc _ _
   have e3 : i64s ((D ++ [part' s fr i]).map fun p => (rdR p).2.1) = i64s (D.map fun p => (rdR p).2.1) ++ [.int .i64 (rdR (part' s fr i)).2.1] := by simp [i64s]
   have hn : (D ++ [part' s fr i]) ++ spl 10 (part' s (i + 1) (i + 1)) (s.drop (i + 1)) = P := by rw [part_self, List.append_assoc]; exact hin
   have hD' : (rdR (part' s fr i)).2.2 = true → (D ++ [part' s fr i]).all (fun p => (rdR p).2.2) = true := fun h => by rw [List.all_append, hD, Bool.true_and, List.all_cons, h]; rfl
   unfold lnV at kr
   unfold lnL at e2
   generalize hrd : rdR (part' s fr i) = rd at *
   obtain ⟨y, z, ok⟩ := rd
   dsimp only at kr e2 e3 hD'
   unfold part' at kr
   cases ok
   ·exfalso
    have := form_mid (D := D) (p := part' s fr i) hrne (by rw [hin]; exact hF)
    rw [hrd] at this
    cases this
   ·(apply tr_v tk; (conv => whnf); (repeat ((first | ((first | apply VStop.mk | apply VCall.stop); (first | (refine ot_slen Tryz.underlying9 rfl rfl rfl rfl ?_) | (refine ot_sidx hlt Tryz.underlying9 rfl rfl rfl rfl rfl ?_) | (refine ot_sslice hfr hile Tryz.underlying9 rfl rfl rfl rfl rfl rfl ?_) | (refine ot_appendS (sz := 5) (sl := D.length) (A'v := fun v' => _ :: _ :: _ :: .own v' 61 5 (D.length + 1) (lnC (D.map fun p => (rdR p).1) ++ [.int .i64 y.st, .int .i64 y.ck, .int .i64 y.kd, .int .i64 y.th, .int .i64 y.vl]) :: _) tk rfl rfl rfl rfl rfl rfl rfl rfl rfl rfl (by decide) rfl (cells_blk_all (.head _)) rfl rfl (fun v' => .there (.there (.there .here))) (by omega) (by decide) (fun B3 c3 => ?_)) | (refine ot_appendS (sz := 1) (sl := D.length) (A'v := fun v' => _ :: _ :: _ :: .own v' 3 1 (D.length + 1) (i64s (D.map fun p => (rdR p).2.1) ++ [.int .i64 z]) :: _) tk rfl rfl rfl rfl rfl rfl rfl rfl rfl rfl (by decide) rfl (cells_blk_all (.head _)) rfl rfl (fun v' => .there (.there (.there .here))) (by omega) (by decide) (fun B4 c4 => ?_))); apply ot_v tk) | (apply VLdN.mk; exact ldn_blk; exact rfl) | (apply VCall.q; kernel_rfl; (focus (intro w1 hs; first | with_reducible apply kr w1))) | (apply VLd.mk; (focus ((repeat (first | ((with_reducible apply ld_blk); exact rfl) | (with_reducible apply ld_skip))); done))) | (apply VRng.mk; omega) | apply VBr.t | apply VBr.f | (apply v_t; omega) | (apply v_f; omega) | (apply VNew.mk; intro g hg) | (apply VSt.mk; (focus ((repeat (first | (with_reducible exact At.here) | (with_reducible apply At.there))); done)); exact rfl)); (conv => whnf))))
    exact v_rnd (gm - 1) (by omega) (l := [(0, _), (2, _), (4, _), (5, _), (6, _), (7, _)]) (B := _) ⟨rfl, rfl, rfl, rfl, rfl, rfl, trivial⟩ (.cons _ (.cons _ (.cons _ (List.Sublist.refl _)))) ⟨rfl, i + 1, i + 1, D ++ [part' s fr i], B3, c3, B4, c4, by omega, Nat.le_refl _, hn, hD' rfl, by rw [e1, e2, e3], by rw [e1]; rfl⟩
  ·rw [if_neg hc, ← part_snoc hfr hlt] at hst
   rw [hst] at hin
   rw [hq] at hc
   (apply tr_v tk; (conv => whnf); (repeat ((first | (apply VStop.mk; (first | (refine ot_slen Tryz.underlying9 rfl rfl rfl rfl ?_) | (refine ot_sidx hlt Tryz.underlying9 rfl rfl rfl rfl rfl ?_)); apply ot_v tk) | (apply VRng.mk; omega) | apply VBr.t | (apply v_t; omega)); (conv => whnf))))
   exact v_rnd (gm - 1) (by omega) (l := [(0, _), (2, _), (4, _), (5, _), (6, _), (7, _)]) (B := _) ⟨rfl, rfl, rfl, rfl, rfl, rfl, trivial⟩ (List.Sublist.refl _) ⟨rfl, i + 1, fr, D, Bx, cx, By, cy, by omega, by omega, hin, hD, rfl, rfl⟩
 obtain rfl : i = s.length := by omega
 rw [List.drop_length, spl] at hin
 have hq : part' s fr s.length = [] := by rw [← hin, form_end hD] at hF; exact of_decide_eq_true hF
 obtain rfl : fr = s.length := (part_nil hfr (Nat.le_refl _)).1 hq
 have hDP : P.dropLast = D := by rw [← hin, List.dropLast_concat]
 rw [hDP] at hS
 have hsm : ∀ j, j < (D.map fun p => (rdR p).1).length → LnSm (lnAt (D.map fun p => (rdR p).1) j) := fun j hj => by
  rw [lnAt_get hj, List.getElem_map]; exact rdLn_sm _
 have hLl : (D.map fun p => (rdR p).1).length = D.length := by simp
 have hSl : (D.map fun p => (rdR p).2.1).length = D.length := by simp
 clear hin hD hF hPl hDP hq
 generalize (D.map fun p => (rdR p).1) = L at *
 generalize (D.map fun p => (rdR p).2.1) = S at *
 generalize D.length = N at *
 (apply tr_v tk; (conv => whnf); (repeat ((first | (apply VStop.mk; (refine ot_slen Tryz.underlying9 rfl rfl rfl rfl ?_); apply ot_v tk) | apply VBr.f | (apply v_f; omega)); (conv => whnf))); apply VStop.mk)
 refine v_loop (fun gm ds ts A => ds = [] ∧ ∃ j : Nat, j + gm = N ∧ (∀ k, k < j → (fileF (L.take (k + 1))).1 = iAtK S k) ∧ A = [.own (.slice By N cy) 3 1 N (i64s S), .own (.slice Bx N cx) 61 5 N (lnC L), .blk g4 24 [.slice Bx N cx], .blk g2 24 [.slice none 0 0]] ∧ ts = [(2, .pointer (some ⟨g2, 0, none⟩)), (4, .pointer (some ⟨g4, 0, none⟩)), (5, .slice By N cy), (11, .int .i64 (fileF (L.take j)).1), (12, .int .i64 (j : Int))]) N (l := [(2, _), (4, _), (5, _), (11, _), (12, _)]) (B := _) ?_ (List.Sublist.refl _) ⟨rfl, 0, by omega, by omega, rfl, rfl⟩ ?_
 ·exact ⟨rfl, rfl, rfl, rfl, rfl, trivial⟩
 rintro gm ds ts A ⟨rfl, j, hj, hall, rfl, rfl⟩
 by_cases hlt : j < N
 ·refine tr_own_addr (B := Bx) (m := N) (cc := cx) (te := 61) (sz := 5) (xs := lnC L) (.tail _ (.head _)) (by omega) ?_
  rintro bx rfl
  refine tr_own_addr (B := By) (m := N) (cc := cy) (te := 3) (sz := 1) (xs := i64s S) (.head _) (by omega) ?_
  rintro by' rfl
  have hjL : j < L.length := by omega
  have hst := fileF_step hjL
  have hbd := fileF_bd L j (by omega)
  have hsj := hsm j hjL
  have hll := lineT_len hsj
  have k1 := fun w1 h => refText_any (lnAt L j) hsj w1 h
  have k2 := fun w1 => sumOf_any (fileF (L.take j)).1 (lineT (lnAt L j)) w1 hbd (by omega)
  have cl := fun {A : List Chunk} (h : Chunk.own (.slice (some ⟨bx, 0, none⟩) N cx) 61 5 N (lnC L) ∈ A) => own_ln (w0 := w) h hjL
  have cs : ∀ {A : List Chunk}, Chunk.own (.slice (some ⟨by', 0, none⟩) N cy) 3 1 N (i64s S) ∈ A → CellAt w A by' (0 + j * 1) (.int .i64 (iAtK S j)) := fun h => by
   rw [Nat.zero_add, Nat.mul_one]
   exact cell_own h (by unfold iAtK; simp [i64s, List.getElem?_eq_getElem (show j < S.length by omega)])
  have hst1 := congrArg Prod.fst hst
  dsimp only at hst1
  unfold lnV at k1
  unfold lnL at cl
  generalize lineT (lnAt L j) = t at *
  generalize lnAt L j = y at *
  rw [← hst1] at k2
  by_cases he : (fileF (L.take (j + 1))).1 = iAtK S j
  ·rw [he] at k2
   (apply tr_v tk; (conv => whnf); (repeat ((first | (apply VLdN.mk; exact cl (by (repeat (first | exact List.Mem.head _ | assumption | refine List.Mem.tail _ ?_))); exact rfl) | (apply VLd.mk; exact cs (by (repeat (first | exact List.Mem.head _ | assumption | refine List.Mem.tail _ ?_)))) | (apply VIx.mk (j := j); exact rfl; omega) | (apply VCall.q; kernel_rfl; (focus (intro w1 hs; first | with_reducible apply k1 w1 (hT.st hs) | with_reducible apply k2 w1))) | (apply VLd.mk; (focus ((repeat (first | ((with_reducible apply ld_blk); exact rfl) | (with_reducible apply ld_skip))); done))) | (apply VRng.mk; omega) | apply VBr.t | apply VBr.f | (apply v_t; omega) | (apply v_f; omega)); (conv => whnf))))
   exact v_rnd (gm - 1) (by omega) (l := [(2, _), (4, _), (5, _), (11, _), (12, _)]) (B := _) ⟨rfl, rfl, rfl, rfl, rfl, trivial⟩ (List.Sublist.refl _) ⟨rfl, j + 1, by omega, fun k hk => by
    rcases Nat.lt_or_ge k j with h | h
    ·exact hall k h
    ·rw [show k = j by omega]; exact he, rfl, by rw [he]; rfl⟩
  ·(apply tr_v tk; (conv => whnf); (repeat ((first | (apply VLdN.mk; exact cl (by (repeat (first | exact List.Mem.head _ | assumption | refine List.Mem.tail _ ?_))); exact rfl) | (apply VLd.mk; exact cs (by (repeat (first | exact List.Mem.head _ | assumption | refine List.Mem.tail _ ?_)))) | (apply VIx.mk (j := j); exact rfl; omega) | (apply VCall.q; kernel_rfl; (focus (intro w1 hs; first | with_reducible apply k1 w1 (hT.st hs) | with_reducible apply k2 w1))) | (apply VLd.mk; (focus ((repeat (first | ((with_reducible apply ld_blk); exact rfl) | (with_reducible apply ld_skip))); done))) | apply VBr.t | (apply v_t; omega) | (apply VSt.mk; (focus ((repeat (first | (with_reducible exact At.here) | (with_reducible apply At.there))); done)); exact rfl)); (conv => whnf))))
   (apply VRet.mk)
   refine ret2 (by first | exact .inl rfl | exact .inr rfl) rfl (by exact rv_row tk rfl rfl rfl (by first | exact cells_blk_all (by (repeat (first | exact List.Mem.head _ | assumption | refine List.Mem.tail _ ?_))) | exact cells_row0 (by (repeat (first | exact List.Mem.head _ | assumption | refine List.Mem.tail _ ?_)))) rfl) (by exact rv_tmp rfl) ?_
   exact fun w h => ⟨rfl, h.base⟩
 obtain rfl : j = N := by omega
 exact absurd (fun k hk => hall k (by omega)) hS
set_option maxHeartbeats 2000000 in
set_option maxRecDepth 20000 in
theorem refLoad_chk (s : List UInt8) (w : World) (hs2 : s.length ≤ 2000) (hT : T10 w) (hF : formOk (spl 10 [] s) = true) (hS : ∀ k, k < ((spl 10 [] s).dropLast.map fun p => (rdR p).1).length → (fileF (((spl 10 [] s).dropLast.map fun p => (rdR p).1).take (k + 1))).1 = iAtK ((spl 10 [] s).dropLast.map fun p => (rdR p).2.1) k) (hC : chkBook ((spl 10 [] s).dropLast.map fun p => (rdR p).1) ≠ 0) : Calls Tryz.prog 41 #[.string (bs s)] w fun e w' => e = .returned (.tuple #[.agg #[.slice none 0 0], .int .i64 (chkBook ((spl 10 [] s).dropLast.map fun p => (rdR p).1))]) ∧ Below w.heap.size w w' := by
 obtain ⟨P, hP⟩ : ∃ P, P = spl 10 [] s := ⟨_, rfl⟩
 have hPl := spl_len 10 s []
 have h0 : ([] : List (List UInt8)) ++ spl 10 (part' s 0 0) (s.drop 0) = P := hP.symm
 rw [← hP] at hPl hF hS hC ⊢
 clear hP
 refine fn_v tk (n := 85) (A := []) Tryz.func41 rfl rfl (Nat.le_of_ble_eq_true rfl) (St.nil (Below.refl _ _)) ?_
 ((conv => whnf); (repeat ((first | (apply VStop.mk; (refine ot_slen Tryz.underlying9 rfl rfl rfl rfl ?_); apply ot_v tk) | apply VBr.f | (apply v_f; omega) | (apply VNew.mk; intro g hg)); (conv => whnf))); apply VStop.mk)
 rename_i g2 _
 revert g hg
 intro g4 hg4
 refine tr_own_nil 61 5 ?_
 refine tr_own_nil 3 1 ?_
 refine v_loop (fun gm ds ts A => ds = [] ∧ ∃ (i fr : Nat) (D : List (List UInt8)) (Bx : Option Addr) (cx : Nat) (By : Option Addr) (cy : Nat), i + gm = s.length ∧ fr ≤ i ∧ D ++ spl 10 (part' s fr i) (s.drop i) = P ∧ D.all (fun p => (rdR p).2.2) = true ∧ A = [.own (.slice By D.length cy) 3 1 D.length (i64s (D.map fun p => (rdR p).2.1)), .own (.slice Bx D.length cx) 61 5 D.length (lnC (D.map fun p => (rdR p).1)), .blk g4 24 [.slice Bx D.length cx], .blk g2 24 [.slice none 0 0]] ∧ ts = [(0, .string (bs s)), (2, .pointer (some ⟨g2, 0, none⟩)), (4, .pointer (some ⟨g4, 0, none⟩)), (5, .slice By D.length cy), (6, .int .i64 (fr : Int)), (7, .int .i64 (i : Int))]) s.length (l := [(0, _), (2, _), (4, _), (5, _), (6, _), (7, _)]) (B := _) ?_ (List.Sublist.refl _) ⟨rfl, 0, 0, [], none, 0, none, 0, by omega, Nat.le_refl _, h0, rfl, rfl, rfl⟩ ?_
 ·exact ⟨rfl, rfl, rfl, rfl, rfl, rfl, trivial⟩
 clear h0
 rintro gm ds ts A ⟨rfl, i, fr, D, Bx, cx, By, cy, hi, hfr, hin, hD, rfl, rfl⟩
 have hile : i ≤ s.length := by omega
 have hol : D.length ≤ 2001 := by
  have := congrArg List.length hin
  rw [List.length_append] at this
  omega
 by_cases hlt : i < s.length
 ·have hst := spl_step (s := 10) (cur := part' s fr i) hlt
  have hq : cAt s i = s[i]?.getD 0 := rfl
  by_cases hc : (cAt s i).toNat = 10
  ·rw [if_pos hc] at hst
   rw [hst] at hin
   rw [hq] at hc
   have hrne := spl_ne 10 (s.drop (i + 1)) []
   have hsm := rdLn_sm (part' s fr i)
   have hpl : (part' s fr i).length ≤ 10000 := by unfold part'; simp; omega
   have kr := fun w1 => refRead_any (part' s fr i) w1 hpl
   have e1 : (D ++ [part' s fr i]).length = D.length + 1 := by simp
   have e2 : lnC ((D ++ [part' s fr i]).map fun p => (rdR p).1) = lnC (D.map fun p => (rdR p).1) ++ lnL (rdR (part' s fr i)).1 := by rw [List.map_append]; exact lnC_snoc _ _
   have e3 : i64s ((D ++ [part' s fr i]).map fun p => (rdR p).2.1) = i64s (D.map fun p => (rdR p).2.1) ++ [.int .i64 (rdR (part' s fr i)).2.1] := by simp [i64s]
   have hn : (D ++ [part' s fr i]) ++ spl 10 (part' s (i + 1) (i + 1)) (s.drop (i + 1)) = P := by rw [part_self, List.append_assoc]; exact hin
   have hD' : (rdR (part' s fr i)).2.2 = true → (D ++ [part' s fr i]).all (fun p => (rdR p).2.2) = true := fun h => by rw [List.all_append, hD, Bool.true_and, List.all_cons, h]; rfl
   unfold lnV at kr
   unfold lnL at e2
   generalize hrd : rdR (part' s fr i) = rd at *
   obtain ⟨y, z, ok⟩ := rd
   dsimp only at kr e2 e3 hD'
   unfold part' at kr
   cases ok
   ·exfalso
    have := form_mid (D := D) (p := part' s fr i) hrne (by rw [hin]; exact hF)
    rw [hrd] at this
    cases this
   ·(apply tr_v tk; (conv => whnf); (repeat ((first | ((first | apply VStop.mk | apply VCall.stop); (first | (refine ot_slen Tryz.underlying9 rfl rfl rfl rfl ?_) | (refine ot_sidx hlt Tryz.underlying9 rfl rfl rfl rfl rfl ?_) | (refine ot_sslice hfr hile Tryz.underlying9 rfl rfl rfl rfl rfl rfl ?_) | (refine ot_appendS (sz := 5) (sl := D.length) (A'v := fun v' => _ :: _ :: _ :: .own v' 61 5 (D.length + 1) (lnC (D.map fun p => (rdR p).1) ++ [.int .i64 y.st, .int .i64 y.ck, .int .i64 y.kd, .int .i64 y.th, .int .i64 y.vl]) :: _) tk rfl rfl rfl rfl rfl rfl rfl rfl rfl rfl (by decide) rfl (cells_blk_all (.head _)) rfl rfl (fun v' => .there (.there (.there .here))) (by omega) (by decide) (fun B3 c3 => ?_)) | (refine ot_appendS (sz := 1) (sl := D.length) (A'v := fun v' => _ :: _ :: _ :: .own v' 3 1 (D.length + 1) (i64s (D.map fun p => (rdR p).2.1) ++ [.int .i64 z]) :: _) tk rfl rfl rfl rfl rfl rfl rfl rfl rfl rfl (by decide) rfl (cells_blk_all (.head _)) rfl rfl (fun v' => .there (.there (.there .here))) (by omega) (by decide) (fun B4 c4 => ?_))); apply ot_v tk) | (apply VLdN.mk; exact ldn_blk; exact rfl) | (apply VCall.q; kernel_rfl; (focus (intro w1 hs; first | with_reducible apply kr w1))) | (apply VLd.mk; (focus ((repeat (first | ((with_reducible apply ld_blk); exact rfl) | (with_reducible apply ld_skip))); done))) | (apply VRng.mk; omega) | apply VBr.t | apply VBr.f | (apply v_t; omega) | (apply v_f; omega) | (apply VNew.mk; intro g hg) | (apply VSt.mk; (focus ((repeat (first | (with_reducible exact At.here) | (with_reducible apply At.there))); done)); exact rfl)); (conv => whnf))))
    exact v_rnd (gm - 1) (by omega) (l := [(0, _), (2, _), (4, _), (5, _), (6, _), (7, _)]) (B := _) ⟨rfl, rfl, rfl, rfl, rfl, rfl, trivial⟩ (.cons _ (.cons _ (.cons _ (List.Sublist.refl _)))) ⟨rfl, i + 1, i + 1, D ++ [part' s fr i], B3, c3, B4, c4, by omega, Nat.le_refl _, hn, hD' rfl, by rw [e1, e2, e3], by rw [e1]; rfl⟩
  ·rw [if_neg hc, ← part_snoc hfr hlt] at hst
   rw [hst] at hin
   rw [hq] at hc
   (apply tr_v tk; (conv => whnf); (repeat ((first | (apply VStop.mk; (first | (refine ot_slen Tryz.underlying9 rfl rfl rfl rfl ?_) | (refine ot_sidx hlt Tryz.underlying9 rfl rfl rfl rfl rfl ?_)); apply ot_v tk) | (apply VRng.mk; omega) | apply VBr.t | (apply v_t; omega)); (conv => whnf))))
   exact v_rnd (gm - 1) (by omega) (l := [(0, _), (2, _), (4, _), (5, _), (6, _), (7, _)]) (B := _) ⟨rfl, rfl, rfl, rfl, rfl, rfl, trivial⟩ (List.Sublist.refl _) ⟨rfl, i + 1, fr, D, Bx, cx, By, cy, by omega, by omega, hin, hD, rfl, rfl⟩
 obtain rfl : i = s.length := by omega
 rw [List.drop_length, spl] at hin
 have hq : part' s fr s.length = [] := by rw [← hin, form_end hD] at hF; exact of_decide_eq_true hF
 obtain rfl : fr = s.length := (part_nil hfr (Nat.le_refl _)).1 hq
 have hDP : P.dropLast = D := by rw [← hin, List.dropLast_concat]
 rw [hDP] at hS hC ⊢
 have hsm : ∀ j, j < (D.map fun p => (rdR p).1).length → LnSm (lnAt (D.map fun p => (rdR p).1) j) := fun j hj => by
  rw [lnAt_get hj, List.getElem_map]; exact rdLn_sm _
 have hLl : (D.map fun p => (rdR p).1).length = D.length := by simp
 have hSl : (D.map fun p => (rdR p).2.1).length = D.length := by simp
 clear hin hD hF hPl hDP hq
 generalize (D.map fun p => (rdR p).1) = L at *
 generalize (D.map fun p => (rdR p).2.1) = S at *
 generalize D.length = N at *
 (apply tr_v tk; (conv => whnf); (repeat ((first | (apply VStop.mk; (refine ot_slen Tryz.underlying9 rfl rfl rfl rfl ?_); apply ot_v tk) | apply VBr.f | (apply v_f; omega)); (conv => whnf))); apply VStop.mk)
 refine v_loop (fun gm ds ts A => ds = [] ∧ ∃ j : Nat, j + gm = N ∧ (∀ k, k < j → (fileF (L.take (k + 1))).1 = iAtK S k) ∧ A = [.own (.slice By N cy) 3 1 N (i64s S), .own (.slice Bx N cx) 61 5 N (lnC L), .blk g4 24 [.slice Bx N cx], .blk g2 24 [.slice none 0 0]] ∧ ts = [(2, .pointer (some ⟨g2, 0, none⟩)), (4, .pointer (some ⟨g4, 0, none⟩)), (5, .slice By N cy), (11, .int .i64 (fileF (L.take j)).1), (12, .int .i64 (j : Int))]) N (l := [(2, _), (4, _), (5, _), (11, _), (12, _)]) (B := _) ?_ (List.Sublist.refl _) ⟨rfl, 0, by omega, by omega, rfl, rfl⟩ ?_
 ·exact ⟨rfl, rfl, rfl, rfl, rfl, trivial⟩
 rintro gm ds ts A ⟨rfl, j, hj, hall, rfl, rfl⟩
 by_cases hlt : j < N
 ·refine tr_own_addr (B := Bx) (m := N) (cc := cx) (te := 61) (sz := 5) (xs := lnC L) (.tail _ (.head _)) (by omega) ?_
  rintro bx rfl
  refine tr_own_addr (B := By) (m := N) (cc := cy) (te := 3) (sz := 1) (xs := i64s S) (.head _) (by omega) ?_
  rintro by' rfl
  have hjL : j < L.length := by omega
  have hst := fileF_step hjL
  have hbd := fileF_bd L j (by omega)
  have hsj := hsm j hjL
  have hll := lineT_len hsj
  have k1 := fun w1 h => refText_any (lnAt L j) hsj w1 h
  have k2 := fun w1 => sumOf_any (fileF (L.take j)).1 (lineT (lnAt L j)) w1 hbd (by omega)
  have cl := fun {A : List Chunk} (h : Chunk.own (.slice (some ⟨bx, 0, none⟩) N cx) 61 5 N (lnC L) ∈ A) => own_ln (w0 := w) h hjL
  have cs : ∀ {A : List Chunk}, Chunk.own (.slice (some ⟨by', 0, none⟩) N cy) 3 1 N (i64s S) ∈ A → CellAt w A by' (0 + j * 1) (.int .i64 (iAtK S j)) := fun h => by
   rw [Nat.zero_add, Nat.mul_one]
   exact cell_own h (by unfold iAtK; simp [i64s, List.getElem?_eq_getElem (show j < S.length by omega)])
  have hst1 := congrArg Prod.fst hst
  dsimp only at hst1
  unfold lnV at k1
  unfold lnL at cl
  generalize lineT (lnAt L j) = t at *
  generalize lnAt L j = y at *
  rw [← hst1] at k2
  by_cases he : (fileF (L.take (j + 1))).1 = iAtK S j
  ·rw [he] at k2
   (apply tr_v tk; (conv => whnf); (repeat ((first | (apply VLdN.mk; exact cl (by (repeat (first | exact List.Mem.head _ | assumption | refine List.Mem.tail _ ?_))); exact rfl) | (apply VLd.mk; exact cs (by (repeat (first | exact List.Mem.head _ | assumption | refine List.Mem.tail _ ?_)))) | (apply VIx.mk (j := j); exact rfl; omega) | (apply VCall.q; kernel_rfl; (focus (intro w1 hs; first | with_reducible apply k1 w1 (hT.st hs) | with_reducible apply k2 w1))) | (apply VLd.mk; (focus ((repeat (first | ((with_reducible apply ld_blk); exact rfl) | (with_reducible apply ld_skip))); done))) | (apply VRng.mk; omega) | apply VBr.t | apply VBr.f | (apply v_t; omega) | (apply v_f; omega)); (conv => whnf))))
   exact v_rnd (gm - 1) (by omega) (l := [(2, _), (4, _), (5, _), (11, _), (12, _)]) (B := _) ⟨rfl, rfl, rfl, rfl, rfl, trivial⟩ (List.Sublist.refl _) ⟨rfl, j + 1, by omega, fun k hk => by
    rcases Nat.lt_or_ge k j with h | h
    ·exact hall k h
    ·rw [show k = j by omega]; exact he, rfl, by rw [he]; rfl⟩
  ·exact absurd (hS j (by omega)) he
 obtain rfl : j = N := by omega
 have kc := fun {A : List Chunk} {w1 : World} (hs : St w A w1) (hA : Chunk.own (.slice Bx j cx) 61 5 j (lnC L) ∈ A) => refCheck_any Bx cx L w1 (by unfold BookR; rw [hLl]; exact hs.own_rd hA) (by rw [hLl]; unfold maxLen; omega)
 rw [hLl] at kc
 have hcv := chkBook_vals L
 generalize chkBook L = z at *
 clear hS hall
 (apply tr_v tk; (conv => whnf); (repeat ((first | (apply VCall.q; kernel_rfl; (focus (intro w1 hs; first | ((with_reducible apply kc hs); (repeat (first | exact List.Mem.head _ | assumption | refine List.Mem.tail _ ?_)))))) | (apply VLd.mk; (focus ((repeat (first | ((with_reducible apply ld_blk); exact rfl) | (with_reducible apply ld_skip))); done))) | (apply VLdN.mk; (focus ((repeat (first | (with_reducible apply ldn_blk) | (with_reducible apply ldn_skip))); done)); exact rfl) | apply VBr.t | apply VBr.f | (apply v_t; omega) | (apply v_f; omega) | (apply VSt.mk; (focus ((repeat (first | (with_reducible exact At.here) | (with_reducible apply At.there))); done)); exact rfl)); (conv => whnf))))
 (apply VRet.mk)
 refine ret2 (by first | exact .inl rfl | exact .inr rfl) rfl (by exact rv_row tk rfl rfl rfl (by first | exact cells_blk_all (by (repeat (first | exact List.Mem.head _ | assumption | refine List.Mem.tail _ ?_))) | exact cells_row0 (by (repeat (first | exact List.Mem.head _ | assumption | refine List.Mem.tail _ ?_)))) rfl) (by exact rv_tmp rfl) ?_
 exact fun w h => ⟨rfl, h.base⟩
set_option maxHeartbeats 2000000 in
set_option maxRecDepth 20000 in
theorem refLoad_ok (s : List UInt8) (w : World) (hs2 : s.length ≤ 2000) (hT : T10 w) (hF : formOk (spl 10 [] s) = true) (hS : ∀ k, k < ((spl 10 [] s).dropLast.map fun p => (rdR p).1).length → (fileF (((spl 10 [] s).dropLast.map fun p => (rdR p).1).take (k + 1))).1 = iAtK ((spl 10 [] s).dropLast.map fun p => (rdR p).2.1) k) (hC : chkBook ((spl 10 [] s).dropLast.map fun p => (rdR p).1) = 0) : Calls Tryz.prog 41 #[.string (bs s)] w fun e w' => ∃ x : SlX, e = .returned (.tuple #[.agg #[.slice x.1 ((spl 10 [] s).dropLast.map fun p => (rdR p).1).length x.2], .int .i64 0]) ∧ True ∧ St w ([] ++ [.own (.slice x.1 ((spl 10 [] s).dropLast.map fun p => (rdR p).1).length x.2) 61 5 ((spl 10 [] s).dropLast.map fun p => (rdR p).1).length (lnC ((spl 10 [] s).dropLast.map fun p => (rdR p).1))]) w' := by
 obtain ⟨P, hP⟩ : ∃ P, P = spl 10 [] s := ⟨_, rfl⟩
 have hPl := spl_len 10 s []
 have h0 : ([] : List (List UInt8)) ++ spl 10 (part' s 0 0) (s.drop 0) = P := hP.symm
 rw [← hP] at hPl hF hS hC ⊢
 clear hP
 refine fn_v tk (n := 85) (A := []) Tryz.func41 rfl rfl (Nat.le_of_ble_eq_true rfl) (St.nil (Below.refl _ _)) ?_
 ((conv => whnf); (repeat ((first | (apply VStop.mk; (refine ot_slen Tryz.underlying9 rfl rfl rfl rfl ?_); apply ot_v tk) | apply VBr.f | (apply v_f; omega) | (apply VNew.mk; intro g hg)); (conv => whnf))); apply VStop.mk)
 rename_i g2 _
 revert g hg
 intro g4 hg4
 refine tr_own_nil 61 5 ?_
 refine tr_own_nil 3 1 ?_
 refine v_loop (fun gm ds ts A => ds = [] ∧ ∃ (i fr : Nat) (D : List (List UInt8)) (Bx : Option Addr) (cx : Nat) (By : Option Addr) (cy : Nat), i + gm = s.length ∧ fr ≤ i ∧ D ++ spl 10 (part' s fr i) (s.drop i) = P ∧ D.all (fun p => (rdR p).2.2) = true ∧ A = [.own (.slice By D.length cy) 3 1 D.length (i64s (D.map fun p => (rdR p).2.1)), .own (.slice Bx D.length cx) 61 5 D.length (lnC (D.map fun p => (rdR p).1)), .blk g4 24 [.slice Bx D.length cx], .blk g2 24 [.slice none 0 0]] ∧ ts = [(0, .string (bs s)), (2, .pointer (some ⟨g2, 0, none⟩)), (4, .pointer (some ⟨g4, 0, none⟩)), (5, .slice By D.length cy), (6, .int .i64 (fr : Int)), (7, .int .i64 (i : Int))]) s.length (l := [(0, _), (2, _), (4, _), (5, _), (6, _), (7, _)]) (B := _) ?_ (List.Sublist.refl _) ⟨rfl, 0, 0, [], none, 0, none, 0, by omega, Nat.le_refl _, h0, rfl, rfl, rfl⟩ ?_
 ·exact ⟨rfl, rfl, rfl, rfl, rfl, rfl, trivial⟩
 clear h0
 rintro gm ds ts A ⟨rfl, i, fr, D, Bx, cx, By, cy, hi, hfr, hin, hD, rfl, rfl⟩
 have hile : i ≤ s.length := by omega
 have hol : D.length ≤ 2001 := by
  have := congrArg List.length hin
  rw [List.length_append] at this
  omega
 by_cases hlt : i < s.length
 ·have hst := spl_step (s := 10) (cur := part' s fr i) hlt
  have hq : cAt s i = s[i]?.getD 0 := rfl
  by_cases hc : (cAt s i).toNat = 10
  ·rw [if_pos hc] at hst
   rw [hst] at hin
   rw [hq] at hc
   have hrne := spl_ne 10 (s.drop (i + 1)) []
   have hsm := rdLn_sm (part' s fr i)
   have hpl : (part' s fr i).length ≤ 10000 := by unfold part'; simp; omega
   have kr := fun w1 => refRead_any (part' s fr i) w1 hpl
   have e1 : (D ++ [part' s fr i]).length = D.length + 1 := by simp
   have e2 : lnC ((D ++ [part' s fr i]).map fun p => (rdR p).1) = lnC (D.map fun p => (rdR p).1) ++ lnL (rdR (part' s fr i)).1 := by rw [List.map_append]; exact lnC_snoc _ _
   have e3 : i64s ((D ++ [part' s fr i]).map fun p => (rdR p).2.1) = i64s (D.map fun p => (rdR p).2.1) ++ [.int .i64 (rdR (part' s fr i)).2.1] := by simp [i64s]
   have hn : (D ++ [part' s fr i]) ++ spl 10 (part' s (i + 1) (i + 1)) (s.drop (i + 1)) = P := by rw [part_self, List.append_assoc]; exact hin
   have hD' : (rdR (part' s fr i)).2.2 = true → (D ++ [part' s fr i]).all (fun p => (rdR p).2.2) = true := fun h => by rw [List.all_append, hD, Bool.true_and, List.all_cons, h]; rfl
   unfold lnV at kr
   unfold lnL at e2
   generalize hrd : rdR (part' s fr i) = rd at *
   obtain ⟨y, z, ok⟩ := rd
   dsimp only at kr e2 e3 hD'
   unfold part' at kr
   cases ok
   ·exfalso
    have := form_mid (D := D) (p := part' s fr i) hrne (by rw [hin]; exact hF)
    rw [hrd] at this
    cases this
   ·(apply tr_v tk; (conv => whnf); (repeat ((first | ((first | apply VStop.mk | apply VCall.stop); (first | (refine ot_slen Tryz.underlying9 rfl rfl rfl rfl ?_) | (refine ot_sidx hlt Tryz.underlying9 rfl rfl rfl rfl rfl ?_) | (refine ot_sslice hfr hile Tryz.underlying9 rfl rfl rfl rfl rfl rfl ?_) | (refine ot_appendS (sz := 5) (sl := D.length) (A'v := fun v' => _ :: _ :: _ :: .own v' 61 5 (D.length + 1) (lnC (D.map fun p => (rdR p).1) ++ [.int .i64 y.st, .int .i64 y.ck, .int .i64 y.kd, .int .i64 y.th, .int .i64 y.vl]) :: _) tk rfl rfl rfl rfl rfl rfl rfl rfl rfl rfl (by decide) rfl (cells_blk_all (.head _)) rfl rfl (fun v' => .there (.there (.there .here))) (by omega) (by decide) (fun B3 c3 => ?_)) | (refine ot_appendS (sz := 1) (sl := D.length) (A'v := fun v' => _ :: _ :: _ :: .own v' 3 1 (D.length + 1) (i64s (D.map fun p => (rdR p).2.1) ++ [.int .i64 z]) :: _) tk rfl rfl rfl rfl rfl rfl rfl rfl rfl rfl (by decide) rfl (cells_blk_all (.head _)) rfl rfl (fun v' => .there (.there (.there .here))) (by omega) (by decide) (fun B4 c4 => ?_))); apply ot_v tk) | (apply VLdN.mk; exact ldn_blk; exact rfl) | (apply VCall.q; kernel_rfl; (focus (intro w1 hs; first | with_reducible apply kr w1))) | (apply VLd.mk; (focus ((repeat (first | ((with_reducible apply ld_blk); exact rfl) | (with_reducible apply ld_skip))); done))) | (apply VRng.mk; omega) | apply VBr.t | apply VBr.f | (apply v_t; omega) | (apply v_f; omega) | (apply VNew.mk; intro g hg) | (apply VSt.mk; (focus ((repeat (first | (with_reducible exact At.here) | (with_reducible apply At.there))); done)); exact rfl)); (conv => whnf))))
    exact v_rnd (gm - 1) (by omega) (l := [(0, _), (2, _), (4, _), (5, _), (6, _), (7, _)]) (B := _) ⟨rfl, rfl, rfl, rfl, rfl, rfl, trivial⟩ (.cons _ (.cons _ (.cons _ (List.Sublist.refl _)))) ⟨rfl, i + 1, i + 1, D ++ [part' s fr i], B3, c3, B4, c4, by omega, Nat.le_refl _, hn, hD' rfl, by rw [e1, e2, e3], by rw [e1]; rfl⟩
  ·rw [if_neg hc, ← part_snoc hfr hlt] at hst
   rw [hst] at hin
   rw [hq] at hc
   (apply tr_v tk; (conv => whnf); (repeat ((first | (apply VStop.mk; (first | (refine ot_slen Tryz.underlying9 rfl rfl rfl rfl ?_) | (refine ot_sidx hlt Tryz.underlying9 rfl rfl rfl rfl rfl ?_)); apply ot_v tk) | (apply VRng.mk; omega) | apply VBr.t | (apply v_t; omega)); (conv => whnf))))
   exact v_rnd (gm - 1) (by omega) (l := [(0, _), (2, _), (4, _), (5, _), (6, _), (7, _)]) (B := _) ⟨rfl, rfl, rfl, rfl, rfl, rfl, trivial⟩ (List.Sublist.refl _) ⟨rfl, i + 1, fr, D, Bx, cx, By, cy, by omega, by omega, hin, hD, rfl, rfl⟩
 obtain rfl : i = s.length := by omega
 rw [List.drop_length, spl] at hin
 have hq : part' s fr s.length = [] := by rw [← hin, form_end hD] at hF; exact of_decide_eq_true hF
 obtain rfl : fr = s.length := (part_nil hfr (Nat.le_refl _)).1 hq
 have hDP : P.dropLast = D := by rw [← hin, List.dropLast_concat]
 rw [hDP] at hS hC ⊢
 have hsm : ∀ j, j < (D.map fun p => (rdR p).1).length → LnSm (lnAt (D.map fun p => (rdR p).1) j) := fun j hj => by
  rw [lnAt_get hj, List.getElem_map]; exact rdLn_sm _
 have hLl : (D.map fun p => (rdR p).1).length = D.length := by simp
 have hSl : (D.map fun p => (rdR p).2.1).length = D.length := by simp
 clear hin hD hF hPl hDP hq
 generalize (D.map fun p => (rdR p).1) = L at *
 generalize (D.map fun p => (rdR p).2.1) = S at *
 generalize D.length = N at *
 (apply tr_v tk; (conv => whnf); (repeat ((first | (apply VStop.mk; (refine ot_slen Tryz.underlying9 rfl rfl rfl rfl ?_); apply ot_v tk) | apply VBr.f | (apply v_f; omega)); (conv => whnf))); apply VStop.mk)
 refine v_loop (fun gm ds ts A => ds = [] ∧ ∃ j : Nat, j + gm = N ∧ (∀ k, k < j → (fileF (L.take (k + 1))).1 = iAtK S k) ∧ A = [.own (.slice By N cy) 3 1 N (i64s S), .own (.slice Bx N cx) 61 5 N (lnC L), .blk g4 24 [.slice Bx N cx], .blk g2 24 [.slice none 0 0]] ∧ ts = [(2, .pointer (some ⟨g2, 0, none⟩)), (4, .pointer (some ⟨g4, 0, none⟩)), (5, .slice By N cy), (11, .int .i64 (fileF (L.take j)).1), (12, .int .i64 (j : Int))]) N (l := [(2, _), (4, _), (5, _), (11, _), (12, _)]) (B := _) ?_ (List.Sublist.refl _) ⟨rfl, 0, by omega, by omega, rfl, rfl⟩ ?_
 ·exact ⟨rfl, rfl, rfl, rfl, rfl, trivial⟩
 rintro gm ds ts A ⟨rfl, j, hj, hall, rfl, rfl⟩
 by_cases hlt : j < N
 ·refine tr_own_addr (B := Bx) (m := N) (cc := cx) (te := 61) (sz := 5) (xs := lnC L) (.tail _ (.head _)) (by omega) ?_
  rintro bx rfl
  refine tr_own_addr (B := By) (m := N) (cc := cy) (te := 3) (sz := 1) (xs := i64s S) (.head _) (by omega) ?_
  rintro by' rfl
  have hjL : j < L.length := by omega
  have hst := fileF_step hjL
  have hbd := fileF_bd L j (by omega)
  have hsj := hsm j hjL
  have hll := lineT_len hsj
  have k1 := fun w1 h => refText_any (lnAt L j) hsj w1 h
  have k2 := fun w1 => sumOf_any (fileF (L.take j)).1 (lineT (lnAt L j)) w1 hbd (by omega)
  have cl := fun {A : List Chunk} (h : Chunk.own (.slice (some ⟨bx, 0, none⟩) N cx) 61 5 N (lnC L) ∈ A) => own_ln (w0 := w) h hjL
  have cs : ∀ {A : List Chunk}, Chunk.own (.slice (some ⟨by', 0, none⟩) N cy) 3 1 N (i64s S) ∈ A → CellAt w A by' (0 + j * 1) (.int .i64 (iAtK S j)) := fun h => by
   rw [Nat.zero_add, Nat.mul_one]
   exact cell_own h (by unfold iAtK; simp [i64s, List.getElem?_eq_getElem (show j < S.length by omega)])
  have hst1 := congrArg Prod.fst hst
  dsimp only at hst1
  unfold lnV at k1
  unfold lnL at cl
  generalize lineT (lnAt L j) = t at *
  generalize lnAt L j = y at *
  rw [← hst1] at k2
  by_cases he : (fileF (L.take (j + 1))).1 = iAtK S j
  ·rw [he] at k2
   (apply tr_v tk; (conv => whnf); (repeat ((first | (apply VLdN.mk; exact cl (by (repeat (first | exact List.Mem.head _ | assumption | refine List.Mem.tail _ ?_))); exact rfl) | (apply VLd.mk; exact cs (by (repeat (first | exact List.Mem.head _ | assumption | refine List.Mem.tail _ ?_)))) | (apply VIx.mk (j := j); exact rfl; omega) | (apply VCall.q; kernel_rfl; (focus (intro w1 hs; first | with_reducible apply k1 w1 (hT.st hs) | with_reducible apply k2 w1))) | (apply VLd.mk; (focus ((repeat (first | ((with_reducible apply ld_blk); exact rfl) | (with_reducible apply ld_skip))); done))) | (apply VRng.mk; omega) | apply VBr.t | apply VBr.f | (apply v_t; omega) | (apply v_f; omega)); (conv => whnf))))
   exact v_rnd (gm - 1) (by omega) (l := [(2, _), (4, _), (5, _), (11, _), (12, _)]) (B := _) ⟨rfl, rfl, rfl, rfl, rfl, trivial⟩ (List.Sublist.refl _) ⟨rfl, j + 1, by omega, fun k hk => by
    rcases Nat.lt_or_ge k j with h | h
    ·exact hall k h
    ·rw [show k = j by omega]; exact he, rfl, by rw [he]; rfl⟩
  ·exact absurd (hS j (by omega)) he
 obtain rfl : j = N := by omega
 have kc := fun {A : List Chunk} {w1 : World} (hs : St w A w1) (hA : Chunk.own (.slice Bx j cx) 61 5 j (lnC L) ∈ A) => refCheck_any Bx cx L w1 (by unfold BookR; rw [hLl]; exact hs.own_rd hA) (by rw [hLl]; unfold maxLen; omega)
 rw [hLl, hC] at kc
 clear hS hall
 (apply tr_v tk; (conv => whnf); (repeat ((first | (apply VCall.q; kernel_rfl; (focus (intro w1 hs; first | ((with_reducible apply kc hs); (repeat (first | exact List.Mem.head _ | assumption | refine List.Mem.tail _ ?_)))))) | (apply VLd.mk; (focus ((repeat (first | ((with_reducible apply ld_blk); exact rfl) | (with_reducible apply ld_skip))); done))) | (apply VLdN.mk; (focus ((repeat (first | (with_reducible apply ldn_blk) | (with_reducible apply ldn_skip))); done)); exact rfl) | apply VBr.f | (apply v_f; omega) | (apply VSt.mk; (focus ((repeat (first | (with_reducible exact At.here) | (with_reducible apply At.there))); done)); exact rfl)); (conv => whnf))))
 (apply VRet.mk)
 refine ret2 (by first | exact .inl rfl | exact .inr rfl) rfl (by exact rv_row tk rfl rfl rfl (by first | exact cells_blk_all (by (repeat (first | exact List.Mem.head _ | assumption | refine List.Mem.tail _ ?_))) | exact cells_row0 (by (repeat (first | exact List.Mem.head _ | assumption | refine List.Mem.tail _ ?_)))) rfl) (by exact rv_tmp rfl) ?_
 rw [hLl]
 exact fun w hs => ⟨(Bx, cx), rfl, trivial, hs.sub (List.singleton_sublist.2 (by (repeat (first | exact List.Mem.head _ | assumption | refine List.Mem.tail _ ?_))))⟩
end Go.Proofs.YtojeeindlijgkaaGreatDoor
