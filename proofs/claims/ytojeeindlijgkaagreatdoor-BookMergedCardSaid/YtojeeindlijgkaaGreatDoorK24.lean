/- Numbers read, as the definition says: lemmas for the rows of this seat. No conditions. -/
import Derived.Laws.StructEq
import Derived.Laws.IdiomStrings
import Derived.Laws.Strings2
import Derived.Laws.Strings3
import Derived.Test.YtojeeindlijgkaaGreatDoorKp
set_option linter.all false
namespace Go.Proofs.YtojeeindlijgkaaGreatDoor
open Go.RowKit
/-! ## Numbers read, as the definition says -/
section
variable {P : Program} {tab : TT} {w0 : World} {n : Nat} {ds : List Deferred} {ops : List Oper} {o : Oper} {os : List Oper} {ks : List Kind} {ts : TS} {A : List Chunk} {K : TS → List Chunk → Prop} {d : Tmp} {x y z : Operand} {t u : TypeId}
theorem ot_subU8 {p q : Int} (hop : o.op = .binOp .sub t x y u) (hd : o.dst = some d) (hw : wantB ops ts o = some true) (hx : evT ts x = some (.int .u8 p)) (hy : evT ts y = some (.int .u8 q)) (hr : 0 ≤ p - q ∧ p - q ≤ 255)
  (hk : OT P w0 n ds ops os ks.tail ((d, .int .u8 (p - q)) :: ts) A K) : OT P w0 n ds ops (o :: os) ks ts A K :=
 ot_bin hop hd hw hx hy (fun w => by simp [binOp_sub, Op.intArith, IntWalk.u8_in _ hr]) hk
end
theorem digits_any (l : List UInt8) (w : World) (hm : l.length ≤ 100000) : Calls Tryz.prog 98 #[.string (bs l)] w fun e w' => e = .returned (.bool (digB l)) ∧ Below w.heap.size w w' := by
 obtain ⟨r, hr⟩ : ∃ r, r = digB l := ⟨_, rfl⟩
 rw [← hr]
 replace hr : r = ((l.drop 0).all isDig && decide (0 < l.length)) := hr
 refine fn_v tk (n := 23) (A := []) Tryz.func98 rfl rfl (Nat.le_of_ble_eq_true rfl) (St.nil (Below.refl _ _)) ?_
 ((conv => whnf); apply VStop.mk)
 refine v_loop (fun gm ds ts A => ds = [] ∧ A = [] ∧ ∃ j : Nat, j + gm = l.length ∧ r = ((l.drop j).all isDig && decide (0 < l.length)) ∧ ts = [(0, .string (bs l)), (3, .int .i64 (j : Int))]) l.length (l := [(0, _), (3, _)]) (B := []) ?_ (List.nil_sublist _) ⟨rfl, rfl, 0, by omega, hr, rfl⟩ ?_
 ·exact ⟨rfl, rfl, trivial⟩
 clear hr
 rintro gm ds ts A ⟨rfl, rfl, j, hj, hr, rfl⟩
 by_cases hlt : j < l.length
 ·rw [all_step hlt] at hr
  have hdig : isDig (cAt l j) = (decide (48 ≤ ((cAt l j).toNat : Int)) && decide (((cAt l j).toNat : Int) ≤ 57)) := rfl
  rw [hdig] at hr
  have hq : cAt l j = l[j]?.getD 0 := rfl
  rw [hq] at hr
  by_cases e1 : ((l[j]?.getD 0).toNat : Int) < 48
  ·rw [decide_eq_false (show ¬(48 ≤ ((l[j]?.getD 0).toNat : Int)) by omega), Bool.false_and, Bool.false_and, Bool.false_and] at hr
   (apply tr_v tk; (conv => whnf); (repeat ((first | (apply VStop.mk; (first | (refine ot_slen Tryz.underlying9 rfl rfl rfl rfl ?_) | (refine ot_sidx hlt Tryz.underlying9 rfl rfl rfl rfl rfl ?_)); apply ot_v tk) | apply VBr.t | (apply v_t; omega)); (conv => whnf))))
   (apply VRet.mk)
   refine ret1 (by first | exact .inl rfl | exact .inr rfl) rfl (by exact rv_tmp rfl) ?_
   exact fun w h => ⟨by rw [hr], h.base⟩
  rw [decide_eq_true (show 48 ≤ ((l[j]?.getD 0).toNat : Int) by omega), Bool.true_and] at hr
  by_cases e2 : ((l[j]?.getD 0).toNat : Int) ≤ 57
  ·rw [decide_eq_true e2, Bool.true_and] at hr
   (apply tr_v tk; (conv => whnf); (repeat ((first | (apply VStop.mk; (first | (refine ot_slen Tryz.underlying9 rfl rfl rfl rfl ?_) | (refine ot_sidx hlt Tryz.underlying9 rfl rfl rfl rfl rfl ?_)); apply ot_v tk) | (apply VRng.mk; omega) | apply VBr.t | apply VBr.f | (apply v_t; omega) | (apply v_f; omega)); (conv => whnf))))
   exact v_rnd (gm - 1) (by omega) (l := [(0, _), (3, _)]) (B := []) ⟨rfl, rfl, trivial⟩ (List.nil_sublist _) ⟨rfl, rfl, j + 1, by omega, hr, rfl⟩
  ·rw [decide_eq_false e2, Bool.false_and, Bool.false_and] at hr
   (apply tr_v tk; (conv => whnf); (repeat ((first | (apply VStop.mk; (first | (refine ot_slen Tryz.underlying9 rfl rfl rfl rfl ?_) | (refine ot_sidx hlt Tryz.underlying9 rfl rfl rfl rfl rfl ?_)); apply ot_v tk) | apply VBr.t | apply VBr.f | (apply v_t; omega) | (apply v_f; omega)); (conv => whnf))))
   (apply VRet.mk)
   refine ret1 (by first | exact .inl rfl | exact .inr rfl) rfl (by exact rv_tmp rfl) ?_
   exact fun w h => ⟨by rw [hr], h.base⟩
 obtain rfl : j = l.length := by omega
 rw [List.drop_length] at hr
 by_cases h0 : 0 < l.length
 ·rw [decide_eq_true h0] at hr
  (apply tr_v tk; (conv => whnf); (repeat ((first | (apply VStop.mk; (refine ot_slen Tryz.underlying9 rfl rfl rfl rfl ?_); apply ot_v tk) | apply VBr.f | (apply v_t; omega) | (apply v_f; omega)); (conv => whnf))))
  (apply VRet.mk)
  refine ret1 (by first | exact .inl rfl | exact .inr rfl) rfl (by exact rv_tmp rfl) ?_
  exact fun w h => ⟨by rw [hr]; rfl, h.base⟩
 ·rw [decide_eq_false h0] at hr
  (apply tr_v tk; (conv => whnf); (repeat ((first | (apply VStop.mk; (refine ot_slen Tryz.underlying9 rfl rfl rfl rfl ?_); apply ot_v tk) | apply VBr.f | (apply v_f; omega)); (conv => whnf))))
  (apply VRet.mk)
  refine ret1 (by first | exact .inl rfl | exact .inr rfl) rfl (by exact rv_tmp rfl) ?_
  exact fun w h => ⟨by rw [hr]; rfl, h.base⟩
set_option maxRecDepth 20000 in
theorem value_any (l : List UInt8) (w : World) (hd : l.all isDig = true) (hm : l.length ≤ 9) : Calls Tryz.prog 101 #[.string (bs l)] w fun e w' => e = .returned (.int .i64 (valT l)) ∧ Below w.heap.size w w' := by
 refine fn_v tk (n := 20) (A := []) Tryz.func101 rfl rfl (Nat.le_of_ble_eq_true rfl) (St.nil (Below.refl _ _)) ?_
 ((conv => whnf); apply VStop.mk)
 refine v_loop (fun gm ds ts A => ds = [] ∧ A = [] ∧ ∃ j : Nat, j + gm = l.length ∧ ts = [(0, .string (bs l)), (3, .int .i64 (valT (l.take j))), (4, .int .i64 (j : Int))]) l.length (l := [(0, _), (3, _), (4, _)]) (B := []) ?_ (List.nil_sublist _) ⟨rfl, rfl, 0, by omega, rfl⟩ ?_
 ·exact ⟨rfl, rfl, rfl, trivial⟩
 rintro gm ds ts A ⟨rfl, rfl, j, hj, rfl⟩
 by_cases hlt : j < l.length
 ·have hst := valT_step hlt
  have hbd := valT_bd hd hm j (by omega)
  have hp : (10 : Int) ^ j ≤ 10 ^ 9 := by
   have : 10 ^ j ≤ 10 ^ 9 := Nat.pow_le_pow_right (by decide) (show j ≤ 9 by omega)
   exact_mod_cast this
  have hq : cAt l j = l[j]?.getD 0 := rfl
  have hdg := dig_at hd hlt
  rw [hq] at hst hdg
  unfold valS at hst
  generalize valT (l.take j) = n at *
  have hn : n < 1000000000 := by have : (10 : Int) ^ 9 = 1000000000 := by decide
                                 omega
  (apply tr_v tk; (conv => whnf); (repeat ((first | (apply VStop.mk; (first | (refine ot_slen Tryz.underlying9 rfl rfl rfl rfl ?_) | (refine ot_sidx hlt Tryz.underlying9 rfl rfl rfl rfl rfl ?_) | (refine ot_subU8 rfl rfl rfl rfl rfl (by omega) ?_)); apply ot_v tk) | (apply VRng.mk; omega) | apply VBr.t | (apply v_t; omega) | (apply v_wr64; omega)); (conv => whnf))))
  exact v_rnd (gm - 1) (by omega) (l := [(0, _), (3, _), (4, _)]) (B := []) ⟨rfl, rfl, rfl, trivial⟩ (List.nil_sublist _) ⟨rfl, rfl, j + 1, by omega, by rw [hst]; rfl⟩
 obtain rfl : j = l.length := by omega
 rw [List.take_length]
 (apply tr_v tk; (conv => whnf); (repeat ((first | (apply VStop.mk; (refine ot_slen Tryz.underlying9 rfl rfl rfl rfl ?_); apply ot_v tk) | apply VBr.f | (apply v_f; omega)); (conv => whnf))))
 ((apply VRet.mk); refine ret1 (by first | exact .inl rfl | exact .inr rfl) rfl (by exact rv_tmp rfl) ?_; exact fun w h => ⟨rfl, h.base⟩)
set_option maxRecDepth 20000 in
theorem refNumber_any (l : List UInt8) (w : World) (hm : l.length ≤ 100000) : Calls Tryz.prog 99 #[.string (bs l)] w fun e w' => e = .returned (.tuple #[.int .i64 (numV l), .bool (numOk l)]) ∧ Below w.heap.size w w' := by
 have k1 := fun w1 => digits_any l w1 hm
 have k2 := fun w1 (h4 : l.length ≤ 4) hd => value_any l w1 hd (show l.length ≤ 9 by omega)
 unfold numV
 have hN : numOk l = (digB l && decide (l.length ≤ 4) && !(decide (1 < l.length) && decide ((cAt l 0).toNat = 48))) := rfl
 cases hd : digB l
 ·rw [hd, Bool.false_and, Bool.false_and] at hN
  rw [hN]
  rw [hd] at k1
  refine fn_v tk (n := 24) (A := []) Tryz.func99 rfl rfl (Nat.le_of_ble_eq_true rfl) (St.nil (Below.refl _ _)) ?_
  ((conv => whnf); (repeat ((first | (apply VCall.q; kernel_rfl; (focus (intro w1 hs; first | with_reducible apply k1 w1))) | apply VBr.t); (conv => whnf))))
  (apply VRet.mk)
  refine ret2 (by first | exact .inl rfl | exact .inr rfl) rfl (by exact rv_tmp rfl) (by exact rv_tmp rfl) ?_
  exact fun w h => ⟨rfl, h.base⟩
 rw [hd, Bool.true_and] at hN
 rw [hd] at k1
 have hall : l.all isDig = true ∧ 0 < l.length := by unfold digB at hd; simpa using hd
 by_cases h4 : l.length ≤ 4
 rotate_left
 ·rw [decide_eq_false h4, Bool.false_and] at hN
  rw [hN]
  refine fn_v tk (n := 24) (A := []) Tryz.func99 rfl rfl (Nat.le_of_ble_eq_true rfl) (St.nil (Below.refl _ _)) ?_
  ((conv => whnf); (repeat ((first | ((first | apply VStop.mk | apply VCall.stop); (refine ot_slen Tryz.underlying9 rfl rfl rfl rfl ?_); apply ot_v tk) | (apply VCall.q; kernel_rfl; (focus (intro w1 hs; first | with_reducible apply k1 w1))) | apply VBr.t | apply VBr.f | (apply v_t; omega)); (conv => whnf))))
  (apply VRet.mk)
  refine ret2 (by first | exact .inl rfl | exact .inr rfl) rfl (by exact rv_tmp rfl) (by exact rv_tmp rfl) ?_
  exact fun w h => ⟨rfl, h.base⟩
 rw [decide_eq_true h4, Bool.true_and] at hN
 have hq : cAt l 0 = l[0]?.getD 0 := rfl
 have k2 := fun w1 => k2 w1 h4 hall.1
 by_cases h1 : 1 < l.length
 ·rw [decide_eq_true h1, Bool.true_and] at hN
  by_cases h48 : (cAt l 0).toNat = 48
  ·rw [decide_eq_true h48, Bool.not_true] at hN
   rw [hN]
   rw [hq] at h48
   refine fn_v tk (n := 24) (A := []) Tryz.func99 rfl rfl (Nat.le_of_ble_eq_true rfl) (St.nil (Below.refl _ _)) ?_
   ((conv => whnf); (repeat ((first | ((first | apply VStop.mk | apply VCall.stop); (first | (refine ot_slen Tryz.underlying9 rfl rfl rfl rfl ?_) | (refine ot_sidx (j := 0) hall.2 Tryz.underlying9 rfl rfl rfl rfl rfl ?_)); apply ot_v tk) | (apply VCall.q; kernel_rfl; (focus (intro w1 hs; first | with_reducible apply k1 w1))) | apply VBr.t | apply VBr.f | (apply v_t; omega) | (apply v_f; omega)); (conv => whnf))))
   (apply VRet.mk)
   refine ret2 (by first | exact .inl rfl | exact .inr rfl) rfl (by exact rv_tmp rfl) (by exact rv_tmp rfl) ?_
   exact fun w h => ⟨rfl, h.base⟩
  ·rw [decide_eq_false h48, Bool.not_false] at hN
   rw [hN, if_pos rfl]
   rw [hq] at h48
   refine fn_v tk (n := 24) (A := []) Tryz.func99 rfl rfl (Nat.le_of_ble_eq_true rfl) (St.nil (Below.refl _ _)) ?_
   ((conv => whnf); (repeat ((first | ((first | apply VStop.mk | apply VCall.stop); (first | (refine ot_slen Tryz.underlying9 rfl rfl rfl rfl ?_) | (refine ot_sidx (j := 0) hall.2 Tryz.underlying9 rfl rfl rfl rfl rfl ?_)); apply ot_v tk) | (apply VCall.q; kernel_rfl; (focus (intro w1 hs; first | with_reducible apply k1 w1 | with_reducible apply k2 w1))) | apply VBr.t | apply VBr.f | (apply v_t; omega) | (apply v_f; omega)); (conv => whnf))))
   (apply VRet.mk)
   refine ret2 (by first | exact .inl rfl | exact .inr rfl) rfl (by exact rv_tmp rfl) (by exact rv_tmp rfl) ?_
   exact fun w h => ⟨rfl, h.base⟩
 ·rw [decide_eq_false h1, Bool.false_and, Bool.not_false] at hN
  rw [hN, if_pos rfl]
  refine fn_v tk (n := 24) (A := []) Tryz.func99 rfl rfl (Nat.le_of_ble_eq_true rfl) (St.nil (Below.refl _ _)) ?_
  ((conv => whnf); (repeat ((first | ((first | apply VStop.mk | apply VCall.stop); (refine ot_slen Tryz.underlying9 rfl rfl rfl rfl ?_); apply ot_v tk) | (apply VCall.q; kernel_rfl; (focus (intro w1 hs; first | with_reducible apply k1 w1 | with_reducible apply k2 w1))) | apply VBr.f | (apply v_f; omega)); (conv => whnf))))
  (apply VRet.mk)
  refine ret2 (by first | exact .inl rfl | exact .inr rfl) rfl (by exact rv_tmp rfl) (by exact rv_tmp rfl) ?_
  exact fun w h => ⟨rfl, h.base⟩
set_option maxRecDepth 20000 in
theorem signed_any (l : List UInt8) (w : World) (hm : l.length ≤ 100000) : Calls Tryz.prog 100 #[.string (bs l)] w fun e w' => e = .returned (.tuple #[.int .i64 (sgnV l), .bool (sgnOk l)]) ∧ Below w.heap.size w w' := by
 have k1 := fun w1 => refNumber_any l w1 hm
 have k2 := fun w1 => refNumber_any (l.drop 1) w1 (by simp; omega)
 have hb1 := numV_bd l
 have hb2 := numV_bd (l.drop 1)
 unfold sgnOk sgnV
 have hS : sgnB l = (decide (0 < l.length) && decide ((cAt l 0).toNat = 45)) := rfl
 have hq : cAt l 0 = l[0]?.getD 0 := rfl
 generalize numV l = n1 at *
 generalize numV (l.drop 1) = n2 at *
 generalize numOk l = o1 at *
 generalize numOk (l.drop 1) = o2 at *
 by_cases h0 : 0 < l.length
 rotate_left
 ·rw [decide_eq_false h0, Bool.false_and] at hS
  rw [hS]
  refine fn_v tk (n := 31) (A := []) Tryz.func100 rfl rfl (Nat.le_of_ble_eq_true rfl) (St.nil (Below.refl _ _)) ?_
  ((conv => whnf); (repeat ((first | ((first | apply VStop.mk | apply VCall.stop); (refine ot_slen Tryz.underlying9 rfl rfl rfl rfl ?_); apply ot_v tk) | (apply VCall.q; kernel_rfl; (focus (intro w1 hs; first | with_reducible apply k1 w1))) | apply VBr.t | (apply v_t; omega)); (conv => whnf))))
  (apply VRet.mk)
  refine ret2 (by first | exact .inl rfl | exact .inr rfl) rfl (by exact rv_tmp rfl) (by exact rv_tmp rfl) ?_
  exact fun w h => ⟨rfl, h.base⟩
 rw [decide_eq_true h0, Bool.true_and] at hS
 by_cases h45 : (cAt l 0).toNat = 45
 ·rw [decide_eq_true h45] at hS
  rw [hS]
  rw [hq] at h45
  refine fn_v tk (n := 31) (A := []) Tryz.func100 rfl rfl (Nat.le_of_ble_eq_true rfl) (St.nil (Below.refl _ _)) ?_
  cases o2
  ·((conv => whnf); (repeat ((first | ((first | apply VStop.mk | apply VCall.stop); (first | (refine ot_slen Tryz.underlying9 rfl rfl rfl rfl ?_) | (refine ot_sidx (j := 0) h0 Tryz.underlying9 rfl rfl rfl rfl rfl ?_) | (refine ot_sfrom (i := 1) (by omega) Tryz.underlying9 rfl rfl rfl rfl rfl ?_)); apply ot_v tk) | (apply VCall.q; kernel_rfl; (focus (intro w1 hs; first | with_reducible apply k2 w1))) | (apply VRng.mk; omega) | apply VBr.f | (apply v_f; omega)); (conv => whnf))))
   (apply VRet.mk)
   refine ret2 (by first | exact .inl rfl | exact .inr rfl) rfl (by exact rv_tmp rfl) (by exact rv_tmp rfl) ?_
   exact fun w h => ⟨rfl, h.base⟩
  ·by_cases hp : 0 < n2
   ·rw [decide_eq_true hp]
    ((conv => whnf); (repeat ((first | ((first | apply VStop.mk | apply VCall.stop); (first | (refine ot_slen Tryz.underlying9 rfl rfl rfl rfl ?_) | (refine ot_sidx (j := 0) h0 Tryz.underlying9 rfl rfl rfl rfl rfl ?_) | (refine ot_sfrom (i := 1) (by omega) Tryz.underlying9 rfl rfl rfl rfl rfl ?_)); apply ot_v tk) | (apply VCall.q; kernel_rfl; (focus (intro w1 hs; first | with_reducible apply k2 w1))) | (apply VRng.mk; omega) | apply VBr.t | apply VBr.f | (apply v_t; omega) | (apply v_f; omega)); (conv => whnf))))
    (apply VRet.mk)
    refine ret2 (by first | exact .inl rfl | exact .inr rfl) rfl (by exact rv_tmp rfl) (by exact rv_tmp rfl) ?_
    exact fun w h => ⟨rfl, h.base⟩
   ·rw [decide_eq_false hp]
    ((conv => whnf); (repeat ((first | ((first | apply VStop.mk | apply VCall.stop); (first | (refine ot_slen Tryz.underlying9 rfl rfl rfl rfl ?_) | (refine ot_sidx (j := 0) h0 Tryz.underlying9 rfl rfl rfl rfl rfl ?_) | (refine ot_sfrom (i := 1) (by omega) Tryz.underlying9 rfl rfl rfl rfl rfl ?_)); apply ot_v tk) | (apply VCall.q; kernel_rfl; (focus (intro w1 hs; first | with_reducible apply k2 w1))) | (apply VRng.mk; omega) | apply VBr.t | apply VBr.f | (apply v_f; omega)); (conv => whnf))))
    (apply VRet.mk)
    refine ret2 (by first | exact .inl rfl | exact .inr rfl) rfl (by exact rv_tmp rfl) (by exact rv_tmp rfl) ?_
    exact fun w h => ⟨rfl, h.base⟩
 ·rw [decide_eq_false h45] at hS
  rw [hS]
  rw [hq] at h45
  refine fn_v tk (n := 31) (A := []) Tryz.func100 rfl rfl (Nat.le_of_ble_eq_true rfl) (St.nil (Below.refl _ _)) ?_
  ((conv => whnf); (repeat ((first | ((first | apply VStop.mk | apply VCall.stop); (first | (refine ot_slen Tryz.underlying9 rfl rfl rfl rfl ?_) | (refine ot_sidx (j := 0) h0 Tryz.underlying9 rfl rfl rfl rfl rfl ?_)); apply ot_v tk) | (apply VCall.q; kernel_rfl; (focus (intro w1 hs; first | with_reducible apply k1 w1))) | apply VBr.t | apply VBr.f | (apply v_t; omega) | (apply v_f; omega)); (conv => whnf))))
  (apply VRet.mk)
  refine ret2 (by first | exact .inl rfl | exact .inr rfl) rfl (by exact rv_tmp rfl) (by exact rv_tmp rfl) ?_
  exact fun w h => ⟨rfl, h.base⟩
/-! ## Words -/
set_option maxHeartbeats 1000000 in
set_option maxRecDepth 20000 in
theorem words_any (l : List UInt8) (w : World) (hm : l.length ≤ 10000) : Calls Tryz.prog 97 #[.string (bs l)] w fun e w' => ∃ x : SlX, e = .returned (.slice x.1 (spl 32 [] l).length x.2) ∧ True ∧ St w ([] ++ [.own (.slice x.1 (spl 32 [] l).length x.2) 9 1 (spl 32 [] l).length (strs (spl 32 [] l))]) w' := by
 obtain ⟨W, hW⟩ : ∃ W, W = spl 32 [] l := ⟨_, rfl⟩
 have hWl := spl_len 32 l []
 rw [← hW] at hWl ⊢
 have h0 : ([] : List (List UInt8)) ++ spl 32 (part' l 0 0) (l.drop 0) = W := hW.symm
 clear hW
 refine fn_v tk (n := 32) (A := []) Tryz.func97 rfl rfl (Nat.le_of_ble_eq_true rfl) (St.nil (Below.refl _ _)) ?_
 ((conv => whnf); apply VStop.mk)
 refine tr_own_nil 9 1 ?_
 refine v_loop (fun gm ds ts A => ds = [] ∧ ∃ (i fr : Nat) (out : List (List UInt8)) (Bx : Option Addr) (cx : Nat), i + gm = l.length + 1 ∧ fr ≤ i ∧ (i ≤ l.length → out ++ spl 32 (part' l fr i) (l.drop i) = W) ∧ (i = l.length + 1 → out = W) ∧ A = [.own (.slice Bx out.length cx) 9 1 out.length (strs out)] ∧ ts = [(0, .string (bs l)), (3, .slice Bx out.length cx), (4, .int .i64 (fr : Int)), (5, .int .i64 (i : Int))]) (l.length + 1) (l := [(0, _), (3, _), (4, _), (5, _)]) (B := _) ?_ (List.Sublist.refl _) ⟨rfl, 0, 0, [], none, 0, by omega, Nat.le_refl _, fun _ => h0, by omega, rfl, rfl⟩ ?_
 ·exact ⟨rfl, rfl, rfl, rfl, trivial⟩
 clear h0
 rintro gm ds ts A ⟨rfl, i, fr, out, Bx, cx, hi, hfr, hin, hend, rfl, rfl⟩
 by_cases hle : i ≤ l.length
 ·have hin := hin hle
  clear hend
  have hol : out.length ≤ 10001 := by
   have := congrArg List.length hin
   rw [List.length_append] at this
   omega
  have sl : ∀ v : List UInt8, (out ++ [v]).length = out.length + 1 := fun v => by simp
  by_cases hlt : i < l.length
  ·have hst := spl_step (s := 32) (cur := part' l fr i) hlt
   have hq : cAt l i = l[i]?.getD 0 := rfl
   by_cases hc : (cAt l i).toNat = 32
   ·rw [if_pos hc] at hst
    rw [hst] at hin
    rw [hq] at hc
    have hn : (out ++ [part' l fr i]) ++ spl 32 (part' l (i + 1) (i + 1)) (l.drop (i + 1)) = W := by rw [part_self, List.append_assoc]; exact hin
    have s2 := strs_snoc out (part' l fr i)
    (apply tr_v tk; (conv => whnf); (repeat ((first | (apply VStop.mk; (first | (refine ot_slen Tryz.underlying9 rfl rfl rfl rfl ?_) | (refine ot_sidx hlt Tryz.underlying9 rfl rfl rfl rfl rfl ?_) | (refine ot_sslice hfr hle Tryz.underlying9 rfl rfl rfl rfl rfl rfl ?_) | (refine ot_appendS (sz := 1) (sl := out.length) (A'v := fun v' => _ :: .own v' 9 1 (out.length + 1) (strs out ++ [.string (bs (part' l fr i))]) :: _) tk rfl rfl rfl rfl rfl rfl rfl rfl rfl rfl (by decide) rfl (cells_blk_all (.head _)) rfl rfl (fun v' => .there .here) (by omega) (by decide) (fun B3 c3 => ?_))); apply ot_v tk) | (apply VRng.mk; omega) | apply VBr.t | apply VBr.f | (apply v_t; omega) | (apply v_f; omega) | (apply VNew.mk; intro g hg)); (conv => whnf))))
    exact v_rnd (gm - 1) (by omega) (l := [(0, _), (3, _), (4, _), (5, _)]) (B := _) ⟨rfl, rfl, rfl, rfl, trivial⟩ (.cons _ (List.Sublist.refl _)) ⟨rfl, i + 1, i + 1, out ++ [part' l fr i], B3, c3, by omega, Nat.le_refl _, fun _ => hn, by omega, by rw [sl, s2], by rw [sl]; rfl⟩
   ·rw [if_neg hc, ← part_snoc hfr hlt] at hst
    rw [hst] at hin
    rw [hq] at hc
    (apply tr_v tk; (conv => whnf); (repeat ((first | (apply VStop.mk; (first | (refine ot_slen Tryz.underlying9 rfl rfl rfl rfl ?_) | (refine ot_sidx hlt Tryz.underlying9 rfl rfl rfl rfl rfl ?_)); apply ot_v tk) | (apply VRng.mk; omega) | apply VBr.t | apply VBr.f | (apply v_t; omega) | (apply v_f; omega)); (conv => whnf))))
    exact v_rnd (gm - 1) (by omega) (l := [(0, _), (3, _), (4, _), (5, _)]) (B := _) ⟨rfl, rfl, rfl, rfl, trivial⟩ (List.Sublist.refl _) ⟨rfl, i + 1, fr, out, Bx, cx, by omega, by omega, fun _ => hin, by omega, rfl, rfl⟩
  ·obtain rfl : i = l.length := by omega
   rw [List.drop_length, spl] at hin
   have s2 := strs_snoc out (part' l fr l.length)
   (apply tr_v tk; (conv => whnf); (repeat ((first | (apply VStop.mk; (first | (refine ot_slen Tryz.underlying9 rfl rfl rfl rfl ?_) | (refine ot_sslice hfr hle Tryz.underlying9 rfl rfl rfl rfl rfl rfl ?_) | (refine ot_appendS (sz := 1) (sl := out.length) (A'v := fun v' => _ :: .own v' 9 1 (out.length + 1) (strs out ++ [.string (bs (part' l fr l.length))]) :: _) tk rfl rfl rfl rfl rfl rfl rfl rfl rfl rfl (by decide) rfl (cells_blk_all (.head _)) rfl rfl (fun v' => .there .here) (by omega) (by decide) (fun B3 c3 => ?_))); apply ot_v tk) | (apply VRng.mk; omega) | apply VBr.t | (apply v_t; omega) | (apply VNew.mk; intro g hg)); (conv => whnf))))
   exact v_rnd (gm - 1) (by omega) (l := [(0, _), (3, _), (4, _), (5, _)]) (B := _) ⟨rfl, rfl, rfl, rfl, trivial⟩ (.cons _ (List.Sublist.refl _)) ⟨rfl, l.length + 1, l.length + 1, out ++ [part' l fr l.length], B3, c3, by omega, Nat.le_refl _, by omega, fun _ => hin, by rw [sl, s2], by rw [sl]; rfl⟩
 ·obtain rfl : i = l.length + 1 := by omega
  have hend := hend rfl
  subst hend
  (apply tr_v tk; (conv => whnf); (repeat ((first | (apply VStop.mk; (refine ot_slen Tryz.underlying9 rfl rfl rfl rfl ?_); apply ot_v tk) | apply VBr.f | (apply v_f; omega)); (conv => whnf))))
  (apply VRet.mk)
  refine ret1 (by first | exact .inl rfl | exact .inr rfl) rfl (by exact rv_tmp rfl) ?_
  exact fun w hs => ⟨(Bx, cx), rfl, trivial, hs⟩
end Go.Proofs.YtojeeindlijgkaaGreatDoor
