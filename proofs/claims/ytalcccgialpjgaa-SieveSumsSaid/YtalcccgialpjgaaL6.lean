/- SieveSums: lemmas for the rows of this seat. No conditions. -/
import Derived.Test.YtalcccgialpjgaaK23
import Derived.Test.YtalcccgialpjgaaN24
import Derived.Test.YtalcccgialpjgaaN31
set_option linter.all false
namespace Go.Proofs.Ytalcccgialpjgaa
open Go.RowKit
/-! ## SieveSums -/
theorem errT_cases6 (R C : List R2) (X : List (List R2)) : (Valid R C X ∧ HasT R C X ∧ errT R C X = 0) ∨ errT R C X ≠ 0 := by
 by_cases h : errT R C X = 0
 ·exact .inl ⟨(errT_zero h).1, (errT_zero h).2, h⟩
 ·exact .inr h
theorem ints_nil6 (w : World) : Calls Try.prog 38 #[.slice none 0 0, .slice none 0 0] w fun e w' => e = .returned (.bool true) ∧ Below w.heap.size w w' := ints_any none 0 none 0 [] w (show Reads w w.heap.size 1 none 0 [] from ⟨by simp, fun h => absurd h (by decide)⟩) (show Reads w w.heap.size 1 none 0 [] from ⟨by simp, fun h => absurd h (by decide)⟩) (Nat.zero_le _)
section
variable (RA : Option Addr) (rc : Nat) (CA : Option Addr) (cc : Nat) (XA : Option Addr) (xc : Nat) (R C : List R2) (X : List (List R2)) (w : World) (hT : TabR w RA CA XA R C X)
include hT
set_option maxHeartbeats 1000000 in
set_option maxRecDepth 20000 in
theorem law6_any (hx : X.length ≤ maxLen) (i : Int) (many : Int) : Calls Try.prog 6 #[tabV RA rc CA cc XA xc R C X, .int .i64 i, .int .i64 many] w fun e w' => e = .returned (.bool true) ∧ Below w.heap.size w w' := by
 have hgr := fun w1 (h : TabR w1 RA CA XA R C X) => great_any RA rc CA cc XA xc R C X w1 h hx
 cases h7 : greatB R C X with
 | true =>
  rw [h7] at hgr
  unfold tabV at *
  refine fn_v tk (n := 87) (A := []) Try.func6 rfl rfl (Nat.le_of_ble_eq_true rfl) (St.nil (Below.refl _ _)) ?_
  ((try first | apply tr_v tk | apply ot_v tk); (conv => whnf); (repeat ((first | (apply VCall.q; kernel_rfl; (focus (intro w1 hs; first | with_reducible apply hgr w1 (hs.tab hT) | with_reducible apply works_any w1))) | (apply VLdN.mk; (focus ((repeat (first | (with_reducible apply ldn_blk) | (with_reducible apply ldn_skip))); done)); exact rfl) | apply VBr.t | (apply VNew.mk; intro g hg)); (conv => whnf))); try (first | apply VStop.mk | apply VCall.stop))
  ((apply VRet.mk); refine ret1 (by first | exact .inl rfl | exact .inr rfl) rfl (by exact rv_tmp rfl) ?_; exact fun w h => ⟨rfl, h.base⟩)
 | false =>
  have hF := great_fit.1 h7
  rw [h7] at hgr
  have hce := fun w1 (h : TabR w1 RA CA XA R C X) => row32_any RA rc CA cc XA xc R C X w1 h hF i
  have hre := fun w1 (h : TabR w1 RA CA XA R C X) => refRow_any RA rc CA cc XA xc R C X w1 h hF i
  have hal := fun w1 (h : TabR w1 RA CA XA R C X) => all_any RA rc CA cc XA xc R C X w1 h hF
  generalize rowA R C X i = rw_ at *
  obtain ⟨⟨r1, r2⟩, z⟩ := rw_
  unfold resV at hce hre hal
  dsimp only at hce hre
  have hrs := fun w => rng_same r1 r2 w
  rcases errT_cases6 R C X with ⟨hV, hH, _⟩ | hE
  ·have hra := fun w1 (h : TabR w1 RA CA XA R C X) => refAll_ok RA rc CA cc XA xc R C X w1 h hV hH
   have ha := fun w1 (h : TabR w1 RA CA XA R C X) => more_ok RA rc CA cc XA xc R C X w1 h hV hH many
   have hb := fun w1 (h : TabR w1 RA CA XA R C X) => refMore_ok RA rc CA cc XA xc R C X w1 h hV hH many
   rw [allA_ok hV hH] at hal
   unfold resV at hra
   dsimp only at hal hra
   generalize allR R C X = ar at *
   obtain ⟨a1, a2⟩ := ar
   dsimp only at hal hra
   have hrs2 := fun w => rng_same a1 a2 w
   have hn := hV.r4
   have hlo : ∀ {A1 w1}, St w A1 w1 → ∀ {x y : SlX}, .own (.slice x.B R.length x.c) 3 1 R.length (i64s (moreL R C X many R.length)) ∈ A1 → .own (.slice y.B R.length y.c) 3 1 R.length (i64s (moreL R C X many R.length)) ∈ A1 → Calls Try.prog 38 #[.slice x.B R.length x.c, .slice y.B R.length y.c] w1 fun e w' => e = .returned (.bool true) ∧ Below w1.heap.size w1 w' := fun {A1 w1} hs {x y} h1 h2 => by
    have := ints_any x.B x.c y.B y.c (moreL R C X many R.length) w1 (by rw [moreL_len]; exact hs.own_rd h1) (by rw [moreL_len]; exact hs.own_rd h2) (by rw [moreL_len]; unfold maxLen; omega)
    rw [moreL_len] at this
    exact this
   generalize moreL R C X many R.length = ml at *
   unfold tabV at *
   refine fn_v tk (n := 87) (A := []) Try.func6 rfl rfl (Nat.le_of_ble_eq_true rfl) (St.nil (Below.refl _ _)) ?_
   ((try first | apply tr_v tk | apply ot_v tk); (conv => whnf); (repeat ((first | (apply VCall.q; kernel_rfl; (focus (intro w1 hs; first | with_reducible apply hgr w1 (hs.tab hT) | with_reducible apply hce w1 (hs.tab hT) | with_reducible apply hre w1 (hs.tab hT) | with_reducible apply hal w1 (hs.tab hT) | with_reducible apply hra w1 (hs.tab hT)))) | (apply VLdN.mk; (focus ((repeat (first | (with_reducible apply ldn_blk) | (with_reducible apply ldn_skip))); done)); exact rfl) | apply VBr.f | (apply VNew.mk; intro g hg) | (apply VSt.mk; (focus ((repeat (first | (with_reducible exact At.here) | (with_reducible apply At.there))); done)); exact rfl)); (conv => whnf))); try (first | apply VStop.mk | apply VCall.stop))
   refine ot_callC (X := SlX) (us := []) (vs := []) (fun x => .tuple #[.slice x.B R.length x.c, .int .i64 0]) (fun x => [.own (.slice x.B R.length x.c) 3 1 R.length (i64s ml)]) (fun _ => True) (fun x => mut_one rfl) (by decide) rfl rfl rfl rfl (by kernel_rfl) (evl_of rfl) rfl (fun w1 hs => ha w1 (hs.tab hT)) (fun x _ => ?_)
   (dsimp only [List.cons_append, List.nil_append]; apply ot_v tk)
   ((try first | apply tr_v tk | apply ot_v tk); (conv => whnf); (repeat ((first | (apply VLdN.mk; (focus ((repeat (first | (with_reducible apply ldn_blk) | (with_reducible apply ldn_skip))); done)); exact rfl)); (conv => whnf))); try (first | apply VStop.mk | apply VCall.stop))
   refine ot_callC (X := SlX) (us := []) (vs := []) (fun x => .tuple #[.slice x.B R.length x.c, .int .i64 0]) (fun x => [.own (.slice x.B R.length x.c) 3 1 R.length (i64s ml)]) (fun _ => True) (fun x => mut_one rfl) (by decide) rfl rfl rfl rfl (by kernel_rfl) (evl_of rfl) rfl (fun w1 hs => hb w1 (hs.tab hT)) (fun y _ => ?_)
   (dsimp only [List.cons_append, List.nil_append]; apply ot_v tk)
   ((try first | apply tr_v tk | apply ot_v tk); (conv => whnf); (repeat ((first | (apply VEq.mk true; kernel_rfl; first | exact hrs | exact hrs2) | (apply VCall.q; kernel_rfl; (focus (intro w1 hs; first | with_reducible apply hlo hs (by (repeat (first | exact List.mem_cons_self | refine List.mem_cons_of_mem _ ?_))) (by (repeat (first | exact List.mem_cons_self | refine List.mem_cons_of_mem _ ?_))) | with_reducible apply works_any w1))) | (apply VLdN.mk; (focus ((repeat (first | (with_reducible apply ldn_blk) | (with_reducible apply ldn_skip))); done)); exact rfl) | apply VBr.t | (apply v_t; omega)); (conv => whnf))); try (first | apply VStop.mk | apply VCall.stop))
   ((apply VRet.mk); refine ret1 (by first | exact .inl rfl | exact .inr rfl) rfl (by exact rv_tmp rfl) ?_; exact fun w h => ⟨rfl, h.base⟩)
  ·have hra := fun w1 (h : TabR w1 RA CA XA R C X) => refAll_err RA rc CA cc XA xc R C X w1 h hF hE
   have ha := fun w1 (h : TabR w1 RA CA XA R C X) => more_err RA rc CA cc XA xc R C X w1 h hF many hE
   have hb := fun w1 (h : TabR w1 RA CA XA R C X) => refMore_err RA rc CA cc XA xc R C X w1 h hF many hE
   rw [show allA R C X = ((0, 0), errT R C X) by unfold allA; rw [if_pos hE]] at hal
   unfold resV at hra
   dsimp only at hal hra
   have hrs2 := fun w => rng_same 0 0 w
   generalize errT R C X = z2 at *
   unfold tabV at *
   refine fn_v tk (n := 87) (A := []) Try.func6 rfl rfl (Nat.le_of_ble_eq_true rfl) (St.nil (Below.refl _ _)) ?_
   ((try first | apply tr_v tk | apply ot_v tk); (conv => whnf); (repeat ((first | (apply VEq.mk true; kernel_rfl; first | exact hrs | exact hrs2) | (apply VCall.q; kernel_rfl; (focus (intro w1 hs; first | with_reducible apply hgr w1 (hs.tab hT) | with_reducible apply hce w1 (hs.tab hT) | with_reducible apply hre w1 (hs.tab hT) | with_reducible apply hal w1 (hs.tab hT) | with_reducible apply hra w1 (hs.tab hT) | with_reducible apply ha w1 (hs.tab hT) | with_reducible apply hb w1 (hs.tab hT) | with_reducible apply ints_nil6 w1 | with_reducible apply works_any w1))) | (apply VLdN.mk; (focus ((repeat (first | (with_reducible apply ldn_blk) | (with_reducible apply ldn_skip))); done)); exact rfl) | apply VBr.t | apply VBr.f | (apply v_t; omega) | (apply VNew.mk; intro g hg) | (apply VSt.mk; (focus ((repeat (first | (with_reducible exact At.here) | (with_reducible apply At.there))); done)); exact rfl)); (conv => whnf))); try (first | apply VStop.mk | apply VCall.stop))
   ((apply VRet.mk); refine ret1 (by first | exact .inl rfl | exact .inr rfl) rfl (by exact rv_tmp rfl) ?_; exact fun w h => ⟨rfl, h.base⟩)
end
end Go.Proofs.Ytalcccgialpjgaa
