/- BookBooks: lemmas for the rows of this seat. No conditions. -/
import Derived.Laws.StructEq
import Derived.Test.YtojeeindlijgkaaGreatDoorK40
import Derived.Test.YtojeeindlijgkaaGreatDoorK41
set_option linter.all false
namespace Go.Proofs.YtojeeindlijgkaaGreatDoor
open Go.RowKit
/-! ## BookBooks -/
set_option maxHeartbeats 2000000 in
set_option maxRecDepth 20000 in
theorem law3_any (B : Option Addr) (c : Nat) (l : List Ln) (stamp : Int) (w : World) (h : BookR w B l) (hmx : l.length ≤ maxLen) (hE : LayE w) (hM : MaxL w) :
  Calls Tryz.prog 3 #[.agg #[.slice B l.length c], .int .i64 stamp] w fun e w' => e = .returned (.bool true) ∧ Below w.heap.size w w' := by
 have kw := fun w1 h1 h2 => works_any w1 h1 h2
 have kg := fun w1 => great_any B c l.length w1 hmx
 by_cases hg26 : 26 < l.length
 ·rw [decide_eq_true hg26] at kg
  refine fn_v tk (n := 66) (A := []) Tryz.func3 rfl rfl (Nat.le_of_ble_eq_true rfl) (St.nil (Below.refl _ _)) ?_
  ((conv => whnf); (repeat ((first | (apply VCall.q; kernel_rfl; (focus (intro w1 hs; first | with_reducible apply kg w1 | with_reducible apply kw w1 (hE.st hs) (hM.st hs)))) | (apply VLdN.mk; (focus ((repeat (first | (with_reducible apply ldn_blk) | (with_reducible apply ldn_skip))); done)); exact rfl) | apply VBr.t | (apply VNew.mk; intro g hg)); (conv => whnf))))
  ((apply VRet.mk); refine ret1 (by first | exact .inl rfl | exact .inr rfl) rfl (by exact rv_tmp rfl) ?_; exact fun w h => ⟨rfl, h.base⟩)
 rw [decide_eq_false hg26] at kg
 have hm : l.length ≤ 1000 := by omega
 have k1 := fun w1 h => stock_all B c l w1 h hm
 have k2 := fun w1 h => refStock_all B c l w1 h hm
 have k3 := fun w1 h => at_all B c l w1 h hm stamp
 have k4 := fun w1 h => refAt_all B c l w1 h hm stamp
 have k5 := fun w1 h => checkBook_any B c l w1 h hmx
 have k6 := fun w1 h => refCheck_any B c l w1 h hmx
 have l1 := stkS_len l
 have l2 := stkR_len stamp l
 generalize stkS l = R1 at *
 generalize stkR stamp l = R2 at *
 generalize chkBook l = z at *
 obtain ⟨L1, z1⟩ := R1
 obtain ⟨L2, z2⟩ := R2
 dsimp only at l1 l2
 refine fn_v tk (n := 66) (A := []) Tryz.func3 rfl rfl (Nat.le_of_ble_eq_true rfl) (St.nil (Below.refl _ _)) ?_
 ((conv => whnf); (repeat ((first | (apply VCall.q; kernel_rfl; (focus (intro w1 hs; first | with_reducible apply kg w1))) | (apply VLdN.mk; (focus ((repeat (first | (with_reducible apply ldn_blk) | (with_reducible apply ldn_skip))); done)); exact rfl) | apply VBr.f | (apply VNew.mk; intro g hg)); (conv => whnf))); apply VCall.stop)
 refine ot_callT (X := SlX) (us := []) (vs := []) (fun x => .tuple #[.slice x.1 L1.length x.2, .int .i64 z1]) (fun x => []) (fun x => [.own (.slice x.1 L1.length x.2) 2 1 L1.length (i64s L1)]) _ (fun x c hc => one_mut hc) (by decide) rfl rfl rfl rfl (by kernel_rfl) (evl_of rfl) rfl (fun w1 hs => k1 w1 (hs.book h)) ?_
 rintro ⟨B1, c1⟩ _
 (dsimp only [List.cons_append, List.nil_append]; apply ot_v tk)
 ((conv => whnf); (repeat ((apply VLdN.mk; (focus ((repeat (first | (with_reducible apply ldn_blk) | (with_reducible apply ldn_skip))); done)); exact rfl); (conv => whnf))); apply VCall.stop)
 refine ot_callT (X := SlX) (us := []) (vs := []) (fun x => .tuple #[.slice x.1 L1.length x.2, .int .i64 z1]) (fun x => []) (fun x => [.own (.slice x.1 L1.length x.2) 2 1 L1.length (i64s L1)]) _ (fun x c hc => one_mut hc) (by decide) rfl rfl rfl rfl (by kernel_rfl) (evl_of rfl) rfl (fun w1 hs => k2 w1 (hs.book h)) ?_
 rintro ⟨B2, c2⟩ _
 (dsimp only [List.cons_append, List.nil_append]; apply ot_v tk)
 ((conv => whnf); (repeat ((apply VLdN.mk; (focus ((repeat (first | (with_reducible apply ldn_blk) | (with_reducible apply ldn_skip))); done)); exact rfl); (conv => whnf))); apply VCall.stop)
 refine ot_callT (X := SlX) (us := []) (vs := []) (fun x => .tuple #[.slice x.1 L2.length x.2, .int .i64 z2]) (fun x => []) (fun x => [.own (.slice x.1 L2.length x.2) 2 1 L2.length (i64s L2)]) _ (fun x c hc => one_mut hc) (by decide) rfl rfl rfl rfl (by kernel_rfl) (evl_of rfl) rfl (fun w1 hs => k3 w1 (hs.book h)) ?_
 rintro ⟨B3, c3⟩ _
 (dsimp only [List.cons_append, List.nil_append]; apply ot_v tk)
 ((conv => whnf); (repeat ((apply VLdN.mk; (focus ((repeat (first | (with_reducible apply ldn_blk) | (with_reducible apply ldn_skip))); done)); exact rfl); (conv => whnf))); apply VCall.stop)
 refine ot_callT (X := SlX) (us := []) (vs := []) (fun x => .tuple #[.slice x.1 L2.length x.2, .int .i64 z2]) (fun x => []) (fun x => [.own (.slice x.1 L2.length x.2) 2 1 L2.length (i64s L2)]) _ (fun x c hc => one_mut hc) (by decide) rfl rfl rfl rfl (by kernel_rfl) (evl_of rfl) rfl (fun w1 hs => k4 w1 (hs.book h)) ?_
 rintro ⟨B4, c4⟩ _
 (dsimp only [List.cons_append, List.nil_append]; apply ot_v tk)
 have q1 := fun {A : List Chunk} {w1 : World} (hs : St w A w1) (a : Chunk.own (.slice B1 L1.length c1) 2 1 L1.length (i64s L1) ∈ A) (b : Chunk.own (.slice B2 L1.length c2) 2 1 L1.length (i64s L1) ∈ A) => longsN hs a b rfl l1
 have q2 := fun {A : List Chunk} {w1 : World} (hs : St w A w1) (a : Chunk.own (.slice B3 L2.length c3) 2 1 L2.length (i64s L2) ∈ A) (b : Chunk.own (.slice B4 L2.length c4) 2 1 L2.length (i64s L2) ∈ A) => longsN hs a b rfl l2
 ((conv => whnf); (repeat ((first | ((first | apply VStop.mk | apply VCall.stop); refine tr_region_draw (id := 7) (by kernel_rfl) [0, 2, 1, 3, 4, 5, 6, 7, 8, 9, 10, 11, 12, 13, 14, 15, 16, 17, 18, 19, 20, 21, 22, 23, 24, 25, 26, 27, 28] [.rd, .rd, .cr, .cr, .rd, .rd, .rd, .rd, .cr, .rd, .rd, .rd, .rd, .rd, .rd, .rd, .rd, .rd, .cr, .rd, .rd, .rd, .rd, .rd, .rd, .rd, .cr, .rd, .rd] rfl (by kernel_rfl) ?_; apply ot_v tk) | (apply VCall.q; kernel_rfl; (focus (intro w1 hs; first | with_reducible apply k5 w1 (hs.book h) | with_reducible apply k6 w1 (hs.book h) | ((with_reducible apply q1 hs); (repeat (first | exact List.Mem.head _ | assumption | refine List.Mem.tail _ ?_))) | ((with_reducible apply q2 hs); (repeat (first | exact List.Mem.head _ | assumption | refine List.Mem.tail _ ?_))) | with_reducible apply kw w1 (hE.st hs) (hM.st hs)))) | (apply VLdN.mk; (focus ((repeat (first | (with_reducible apply ldn_blk) | (with_reducible apply ldn_skip))); done)); exact rfl) | apply VBr.t | (apply v_t; omega)); (conv => whnf))))
 ((apply VRet.mk); refine ret1 (by first | exact .inl rfl | exact .inr rfl) rfl (by exact rv_tmp rfl) ?_; exact fun w h => ⟨rfl, h.base⟩)
end Go.Proofs.YtojeeindlijgkaaGreatDoor
