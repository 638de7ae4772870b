/- Is: lemmas for the rows of this seat. No conditions. -/
import Derived.Test.YtalcccgialpjgaaN19
import Derived.Test.YtalcccgialpjgaaN22
set_option linter.all false
namespace Go.Proofs.Ytalcccgialpjgaa
open Go.RowKit
/-! ## Is -/
section
variable (RA : Option Addr) (rc : Nat) (CA : Option Addr) (cc : Nat) (XA : Option Addr) (xc : Nat) (R C : List R2) (X : List (List R2)) (w : World) (hT : TabR w RA CA XA R C X)
include hT
set_option maxHeartbeats 2000000 in
set_option maxRecDepth 20000 in
theorem is_any (hV : Valid R C X) (hb : Bool) (hh : hb = true ↔ HasT R C X) : Calls Try.prog 73 #[tabV RA rc CA cc XA xc R C X] w fun e w' => e = .returned (.bool hb) ∧ Below w.heap.size w w' := by
 have hn4 := hV.r4
 have hm4 := hV.c4
 have htu := fun w1 (h : TabR w1 RA CA XA R C X) => turned_any RA rc CA cc XA xc R C X w1 h hV
 have p4 : ∀ n, n ≤ 4 → 2 ^ n ≤ 16 := fun n hn => Nat.pow_le_pow_right (n := 2) (by decide) hn
 have pn := p4 _ hn4
 have pm := p4 _ hm4
 have hsh := fun w1 (h : TabR w1 RA CA XA R C X) a b ha hb => short_any RA rc CA cc XA xc R C X w1 h hV a b ha hb
 unfold tabV at *
 refine fn_v tk (n := 36) (A := []) Try.func73 rfl rfl (Nat.le_of_ble_eq_true rfl) (St.nil (Below.refl _ _)) ?_
 ((try first | apply tr_v tk | apply ot_v tk); (conv => whnf); (repeat ((first | (apply VLdN.mk; (focus ((repeat (first | (with_reducible apply ldn_blk) | (with_reducible apply ldn_skip))); done)); exact rfl) | (apply VNew.mk; intro g hg)); (conv => whnf))); try (first | apply VStop.mk | apply VCall.stop))
 revert g hg
 intro g1 hg1
 refine ot_callT (X := TabX) (us := []) (vs := []) (fun x => tabX x C R (turnX R.length C.length X)) (fun x => [.own (.slice x.r.1 C.length x.r.2) 37 2 C.length (rgC C), .own (.slice x.c.1 R.length x.c.2) 37 2 R.length (rgC R), .own (.slice x.x.1 (turnX R.length C.length X).length x.x.2) 22 1 (turnX R.length C.length X).length (nsVs x.xs (nestR (turnX R.length C.length X)))]) (fun x => nsCh 37 2 x.xs (nestR (turnX R.length C.length X))) _ (fun x c hc => tabCh_mut (x := x) c hc) (by decide) rfl rfl rfl rfl (by kernel_rfl) (evl_of rfl) rfl (fun w1 hs => htu w1 (hs.tab hT)) ?_
 intro x hx
 have hst := fun w1 (h : TabR w1 x.r.1 x.c.1 x.x.1 C R (turnX R.length C.length X)) a b ha hb => short_any x.r.1 x.r.2 x.c.1 x.c.2 x.x.1 x.x.2 C R (turnX R.length C.length X) w1 h hV.turn b a ha hb
 unfold tabX tabV at *
 (dsimp only [List.cons_append, List.nil_append]; apply ot_v tk)
 ((try first | apply tr_v tk | apply ot_v tk); (conv => whnf); (repeat ((first | (apply VNew.mk; intro g hg) | (apply VSt.mk; (focus ((repeat (first | (with_reducible exact At.here) | (with_reducible apply At.there))); done)); exact rfl)); (conv => whnf))); try (first | apply VStop.mk | apply VCall.stop))
 revert g hg
 intro g3 hg3
 refine tr_nameA ?_
 intro A0 hA0
 have m1 : CellsAt w A0 g1 0 [.slice RA R.length rc, .slice CA C.length cc, .slice XA X.length xc] := by subst hA0; exact cells_blk_all (by (repeat (first | with_unfolding_all exact List.Mem.head _ | assumption | with_unfolding_all refine List.Mem.tail _ ?_)))
 have m3 : CellsAt w A0 g3 0 [.slice x.r.1 C.length x.r.2, .slice x.c.1 R.length x.c.2, .slice x.x.1 (turnX R.length C.length X).length x.x.2] := by subst hA0; exact cells_blk_all (by (repeat (first | with_unfolding_all exact List.Mem.head _ | assumption | with_unfolding_all refine List.Mem.tail _ ?_)))
 have mr : CellAt w A0 g1 0 (.slice RA R.length rc) := fun w hs => m1 w hs 0 _ rfl
 have mc : CellAt w A0 g1 1 (.slice CA C.length cc) := fun w hs => m1 w hs 1 _ rfl
 have mt : ∀ w1, St w A0 w1 → TabR w1 x.r.1 x.c.1 x.x.1 C R (turnX R.length C.length X) := fun w1 hs => hs.tabX x hx fun d hd => by
  subst hA0
  unfold tabCh at hd
  rcases List.mem_cons.1 hd with rfl | hd
  ·exact .tail _ (.head _)
  rcases List.mem_cons.1 hd with rfl | hd
  ·exact .tail _ (.tail _ (.head _))
  rcases List.mem_cons.1 hd with rfl | hd
  ·exact .tail _ (.tail _ (.tail _ (.head _)))
  ·exact .tail _ (.tail _ (.tail _ (.tail _ (.tail _ hd))))
 clear hA0
 refine v_loop (fun gm ds ts A => ds = [] ∧ ∃ a : Nat, a + gm = 2 ^ R.length ∧ (∀ a' b', a' < a → b' < 2 ^ C.length → shS R C X a'.testBit b'.testBit ≤ 0 ∧ shT R C X a'.testBit b'.testBit ≤ 0) ∧ A = A0 ∧ ts = [(1, .pointer (some ⟨g1, 0, none⟩)), (3, .pointer (some ⟨g3, 0, none⟩)), (4, .int .i64 (a : Int))]) (2 ^ R.length)
  (l := [(1, _), (3, _), (4, _)]) (B := _) ?_ (List.Sublist.refl _) ⟨rfl, 0, by omega, fun a' b' h => absurd h (Nat.not_lt_zero _), rfl, rfl⟩ ?_
 ·exact ⟨rfl, rfl, rfl, trivial⟩
 rintro gm ds ts A ⟨rfl, a, ha, hd, rfl, rfl⟩
 have hq : (2 : Nat) ^ R.length = 2 ^ R.length := rfl
 by_cases hlt : a < 2 ^ R.length
 ·have hlt' : (a : Int) < ((2 ^ R.length : Nat) : Int) := by omega
  generalize hN : 2 ^ R.length = N at hlt' hlt ha pn ⊢
  ((try first | apply tr_v tk | apply ot_v tk); (conv => whnf); (repeat ((first | ((first | apply VStop.mk | apply VCall.stop); (first | (refine ot_shl1 rfl rfl rfl rfl rfl (by omega) ?_; rw [hN])); try first | apply ot_v tk | apply tr_v tk) | (apply VLd.mk; first | exact mr | exact mc) | apply VBr.t | (apply v_t; omega)); (conv => whnf))); try (first | apply VStop.mk | apply VCall.stop))
  refine v_loop (fun gm2 ds ts A' => ds = [] ∧ ∃ b : Nat, b + gm2 = 2 ^ C.length ∧ (∀ b', b' < b → shS R C X a.testBit b'.testBit ≤ 0 ∧ shT R C X a.testBit b'.testBit ≤ 0) ∧ A' = A ∧ ts = [(1, .pointer (some ⟨g1, 0, none⟩)), (3, .pointer (some ⟨g3, 0, none⟩)), (4, .int .i64 (a : Int)), (5, .int .i64 (b : Int))]) (2 ^ C.length)
   (l := [(1, _), (3, _), (4, _), (5, _)]) (B := _) ?_ (List.Sublist.refl _) ⟨rfl, 0, by omega, fun b' h => absurd h (Nat.not_lt_zero _), rfl, rfl⟩ ?_
  ·exact ⟨rfl, rfl, rfl, rfl, trivial⟩
  rintro gm2 ds ts A' ⟨rfl, b, hbb, hd2, rfl, rfl⟩
  by_cases hlt2 : b < 2 ^ C.length
  ·have hlt2' : (b : Int) < ((2 ^ C.length : Nat) : Int) := by omega
   have q60 : (16 : Nat) < 2 ^ 60 := by decide
   have h1 := fun w1 (h : TabR w1 RA CA XA R C X) => hsh w1 h a b (by omega) (by omega)
   have h2 := fun w1 (h : TabR w1 x.r.1 x.c.1 x.x.1 C R (turnX R.length C.length X)) => hst w1 h a b (by omega) (by omega)
   have e2 : shS C R (turnX R.length C.length X) b.testBit a.testBit = shT R C X a.testBit b.testBit := rfl
   rw [e2] at h2
   have hso := fun h : HasT R C X => short_sound hV h a.testBit b.testBit
   have hstep : shS R C X a.testBit b.testBit ≤ 0 → shT R C X a.testBit b.testBit ≤ 0 → ∀ b', b' < b + 1 → shS R C X a.testBit b'.testBit ≤ 0 ∧ shT R C X a.testBit b'.testBit ≤ 0 := fun k1 k2 b' hb' => by
    by_cases e : b' = b
    ·rw [e]; exact ⟨k1, k2⟩
    ·exact hd2 b' (by omega)
   generalize shS R C X a.testBit b.testBit = v1 at h1 hso hstep
   generalize shT R C X a.testBit b.testBit = v2 at h2 hso hstep
   generalize hM : 2 ^ C.length = M at hlt2 hlt2' hbb ⊢
   by_cases k1 : 0 < v1
   ·have hf : hb = false := by
     cases hb with
     | false => rfl
     | true => have := (hso (hh.1 rfl)).1; omega
    subst hf
    ((try first | apply tr_v tk | apply ot_v tk); (conv => whnf); (repeat ((first | ((first | apply VStop.mk | apply VCall.stop); (first | (refine ot_shl1 rfl rfl rfl rfl rfl (by omega) ?_; rw [hM])); try first | apply ot_v tk | apply tr_v tk) | (apply VLd.mk; first | exact mr | exact mc) | (apply VLdN.mk; (first | exact m1); exact rfl) | (apply VCall.q; kernel_rfl; (focus (intro w1 hs; first | with_reducible apply h1 w1 (hs.tab hT)))) | apply VBr.t | (apply v_t; omega)); (conv => whnf))); try (first | apply VStop.mk | apply VCall.stop))
    ((apply VRet.mk); refine ret1 (by first | exact .inl rfl | exact .inr rfl) rfl (by exact rv_tmp rfl) ?_; exact fun w h => ⟨rfl, h.base⟩)
   by_cases k2 : 0 < v2
   ·have hf : hb = false := by
     cases hb with
     | false => rfl
     | true => have := (hso (hh.1 rfl)).2; omega
    subst hf
    ((try first | apply tr_v tk | apply ot_v tk); (conv => whnf); (repeat ((first | ((first | apply VStop.mk | apply VCall.stop); (first | (refine ot_shl1 rfl rfl rfl rfl rfl (by omega) ?_; rw [hM])); try first | apply ot_v tk | apply tr_v tk) | (apply VLd.mk; first | exact mr | exact mc) | (apply VLdN.mk; (first | exact m1 | exact m3); exact rfl) | (apply VCall.q; kernel_rfl; (focus (intro w1 hs; first | with_reducible apply h1 w1 (hs.tab hT) | with_reducible apply h2 w1 (mt w1 hs)))) | apply VBr.t | apply VBr.f | (apply v_t; omega) | (apply v_f; omega)); (conv => whnf))); try (first | apply VStop.mk | apply VCall.stop))
    ((apply VRet.mk); refine ret1 (by first | exact .inl rfl | exact .inr rfl) rfl (by exact rv_tmp rfl) ?_; exact fun w h => ⟨rfl, h.base⟩)
   ((try first | apply tr_v tk | apply ot_v tk); (conv => whnf); (repeat ((first | ((first | apply VStop.mk | apply VCall.stop); (first | (refine ot_shl1 rfl rfl rfl rfl rfl (by omega) ?_; rw [hM])); try first | apply ot_v tk | apply tr_v tk) | (apply VLd.mk; first | exact mr | exact mc) | (apply VLdN.mk; (first | exact m1 | exact m3); exact rfl) | (apply VCall.q; kernel_rfl; (focus (intro w1 hs; first | with_reducible apply h1 w1 (hs.tab hT) | with_reducible apply h2 w1 (mt w1 hs)))) | (apply VRng.mk; omega) | apply VBr.t | apply VBr.f | (apply v_t; omega) | (apply v_f; omega)); (conv => whnf))); try (first | apply VStop.mk | apply VCall.stop))
   exact v_rnd (gm2 - 1) (by omega) (l := [(1, _), (3, _), (4, _), (5, _)]) (B := _) ⟨rfl, rfl, rfl, rfl, trivial⟩ (List.Sublist.refl _) ⟨rfl, b + 1, by omega, hstep (by omega) (by omega), rfl, rfl⟩
  ·have hall : ∀ a' b', a' < a + 1 → b' < 2 ^ C.length → shS R C X a'.testBit b'.testBit ≤ 0 ∧ shT R C X a'.testBit b'.testBit ≤ 0 := fun a' b' h1 h2 => by
    by_cases e : a' = a
    ·rw [e]; exact hd2 b' (by omega)
    ·exact hd a' b' (by omega) h2
   have hnl : ¬(b : Int) < ((2 ^ C.length : Nat) : Int) := by omega
   generalize hM : 2 ^ C.length = M at hnl hall ⊢
   ((try first | apply tr_v tk | apply ot_v tk); (conv => whnf); (repeat ((first | ((first | apply VStop.mk | apply VCall.stop); (first | (refine ot_shl1 rfl rfl rfl rfl rfl (by omega) ?_; rw [hM])); try first | apply ot_v tk | apply tr_v tk) | (apply VLd.mk; first | exact mr | exact mc) | (apply VRng.mk; omega) | apply VBr.f | (apply v_f; omega)); (conv => whnf))); try (first | apply VStop.mk | apply VCall.stop))
   exact v_rnd (gm - 1) (by omega) (l := [(1, _), (3, _), (4, _)]) (B := _) ⟨rfl, rfl, rfl, trivial⟩ (List.Sublist.refl _) ⟨rfl, a + 1, by omega, hall, rfl, rfl⟩
 ·have hnl : ¬(a : Int) < ((2 ^ R.length : Nat) : Int) := by omega
  have hf : hb = true := hh.2 (hasT_bits hV fun a' b' h1 h2 => hd a' b' (by omega) h2)
  subst hf
  generalize hN : 2 ^ R.length = N at hnl
  ((try first | apply tr_v tk | apply ot_v tk); (conv => whnf); (repeat ((first | ((first | apply VStop.mk | apply VCall.stop); (first | (refine ot_shl1 rfl rfl rfl rfl rfl (by omega) ?_; rw [hN])); try first | apply ot_v tk | apply tr_v tk) | (apply VLd.mk; first | exact mr | exact mc) | apply VBr.f | (apply v_f; omega)); (conv => whnf))); try (first | apply VStop.mk | apply VCall.stop))
  ((apply VRet.mk); refine ret1 (by first | exact .inl rfl | exact .inr rfl) rfl (by exact rv_tmp rfl) ?_; exact fun w h => ⟨rfl, h.base⟩)
end
/-! ## Error of the definition -/
section
variable (RA : Option Addr) (rc : Nat) (CA : Option Addr) (cc : Nat) (XA : Option Addr) (xc : Nat) (R C : List R2) (X : List (List R2)) (w : World) (hT : TabR w RA CA XA R C X)
include hT
set_option maxRecDepth 20000 in
theorem error_any (hF : FitT R C X) : Calls Try.prog 31 #[tabV RA rc CA cc XA xc R C X] w fun e w' => e = .returned (.int .i64 (errT R C X)) ∧ Below w.heap.size w w' := by
 have hct := fun w1 (h : TabR w1 RA CA XA R C X) => refTable_any RA rc CA cc XA xc R C X w1 h hF
 have his := fun w1 (h : TabR w1 RA CA XA R C X) hV => is_any RA rc CA cc XA xc R C X w1 h hV
 unfold tabV at *
 by_cases hz : chkTab R C X = 0
 rotate_left
 ·rw [errT_chk hz]
  generalize chkTab R C X = z at *
  refine fn_v tk (n := 11) (A := []) Try.func31 rfl rfl (Nat.le_of_ble_eq_true rfl) (St.nil (Below.refl _ _)) ?_
  ((try first | apply tr_v tk | apply ot_v tk); (conv => whnf); (repeat ((first | (apply VCall.q; kernel_rfl; (focus (intro w1 hs; first | with_reducible apply hct w1 (hs.tab hT)))) | (apply VLdN.mk; (focus ((repeat (first | (with_reducible apply ldn_blk) | (with_reducible apply ldn_skip))); done)); exact rfl) | apply VBr.t | (apply v_t; omega) | (apply VNew.mk; intro g hg)); (conv => whnf))); try (first | apply VStop.mk | apply VCall.stop))
  ((apply VRet.mk); refine ret1 (by first | exact .inl rfl | exact .inr rfl) rfl (by exact rv_tmp rfl) ?_; exact fun w h => ⟨rfl, h.base⟩)
 have hV := chk_valid hz
 rw [hz] at hct
 by_cases hH : HasT R C X
 ·rw [errT_ok hV hH]
  have h1 := fun w1 h => his w1 h hV true (by simp [hH])
  refine fn_v tk (n := 11) (A := []) Try.func31 rfl rfl (Nat.le_of_ble_eq_true rfl) (St.nil (Below.refl _ _)) ?_
  ((try first | apply tr_v tk | apply ot_v tk); (conv => whnf); (repeat ((first | (apply VCall.q; kernel_rfl; (focus (intro w1 hs; first | with_reducible apply hct w1 (hs.tab hT) | with_reducible apply h1 w1 (hs.tab hT)))) | (apply VLdN.mk; (focus ((repeat (first | (with_reducible apply ldn_blk) | (with_reducible apply ldn_skip))); done)); exact rfl) | apply VBr.f | (apply v_f; omega) | (apply VNew.mk; intro g hg)); (conv => whnf))); try (first | apply VStop.mk | apply VCall.stop))
  ((apply VRet.mk); refine ret1 (by first | exact .inl rfl | exact .inr rfl) rfl (by exact rv_tmp rfl) ?_; exact fun w h => ⟨rfl, h.base⟩)
 ·rw [errT_no hV hH]
  have h1 := fun w1 h => his w1 h hV false (by simp [hH])
  refine fn_v tk (n := 11) (A := []) Try.func31 rfl rfl (Nat.le_of_ble_eq_true rfl) (St.nil (Below.refl _ _)) ?_
  ((try first | apply tr_v tk | apply ot_v tk); (conv => whnf); (repeat ((first | (apply VCall.q; kernel_rfl; (focus (intro w1 hs; first | with_reducible apply hct w1 (hs.tab hT) | with_reducible apply h1 w1 (hs.tab hT)))) | (apply VLdN.mk; (focus ((repeat (first | (with_reducible apply ldn_blk) | (with_reducible apply ldn_skip))); done)); exact rfl) | apply VBr.t | apply VBr.f | (apply v_f; omega) | (apply VNew.mk; intro g hg)); (conv => whnf))); try (first | apply VStop.mk | apply VCall.stop))
  ((apply VRet.mk); refine ret1 (by first | exact .inl rfl | exact .inr rfl) rfl (by exact rv_tmp rfl) ?_; exact fun w h => ⟨rfl, h.base⟩)
end
end Go.Proofs.Ytalcccgialpjgaa
