/- BookSplit: lemmas for the rows of this seat. No conditions. -/
import Derived.Laws.StructEq
import Derived.Test.YtojeeindlijgkaaGreatDoorK40
import Derived.Test.YtojeeindlijgkaaGreatDoorK48
set_option linter.all false
namespace Go.Proofs.YtojeeindlijgkaaGreatDoor
open Go.RowKit
/-! ## BookSplit -/
set_option maxHeartbeats 4000000 in
set_option maxRecDepth 20000 in
theorem law9_any (A1 : Option Addr) (a1 : Nat) (l1 : List Ln) (A2 : Option Addr) (a2 : Nat) (l2 : List Ln) (w : World) (h1 : BookR w A1 l1) (h2 : BookR w A2 l2) (hm1 : l1.length ≤ maxLen) (hm2 : l2.length ≤ maxLen) (hE : LayE w) (hM : MaxL w) :
  Calls Tryz.prog 9 #[.agg #[.slice A1 l1.length a1], .agg #[.slice A2 l2.length a2]] w fun e w' => e = .returned (.bool true) ∧ Below w.heap.size w w' := by
 have kw := fun w1 h1 h2 => works_any w1 h1 h2
 have g1 := fun w1 h => fine_any A1 a1 l1 w1 h hm1
 have g2 := fun w1 h => fine_any A2 a2 l2 w1 h hm2
 by_cases hg1 : chkBook l1 = 0
 rotate_left
 ·rw [decide_eq_false hg1] at g1
  refine fn_v tk (n := 128) (A := []) Tryz.func9 rfl rfl (Nat.le_of_ble_eq_true rfl) (St.nil (Below.refl _ _)) ?_
  ((conv => whnf); (repeat ((first | (apply VCall.q; kernel_rfl; (focus (intro w1 hs; first | with_reducible apply g1 w1 (hs.book h1) | with_reducible apply kw w1 (hE.st hs) (hM.st hs)))) | (apply VLdN.mk; (focus ((repeat (first | (with_reducible apply ldn_blk) | (with_reducible apply ldn_skip))); done)); exact rfl) | apply VBr.t | (apply VNew.mk; intro g hg)); (conv => whnf))))
  ((apply VRet.mk); refine ret1 (by first | exact .inl rfl | exact .inr rfl) rfl (by exact rv_tmp rfl) ?_; exact fun w h => ⟨rfl, h.base⟩)
 rw [decide_eq_true hg1] at g1
 by_cases hg2 : chkBook l2 = 0
 rotate_left
 ·rw [decide_eq_false hg2] at g2
  refine fn_v tk (n := 128) (A := []) Tryz.func9 rfl rfl (Nat.le_of_ble_eq_true rfl) (St.nil (Below.refl _ _)) ?_
  ((conv => whnf); (repeat ((first | (apply VCall.q; kernel_rfl; (focus (intro w1 hs; first | with_reducible apply g1 w1 (hs.book h1) | with_reducible apply g2 w1 (hs.book h2) | with_reducible apply kw w1 (hE.st hs) (hM.st hs)))) | (apply VLdN.mk; (focus ((repeat (first | (with_reducible apply ldn_blk) | (with_reducible apply ldn_skip))); done)); exact rfl) | apply VBr.t | apply VBr.f | (apply VNew.mk; intro g hg)); (conv => whnf))))
  ((apply VRet.mk); refine ret1 (by first | exact .inl rfl | exact .inr rfl) rfl (by exact rv_tmp rfl) ?_; exact fun w h => ⟨rfl, h.base⟩)
 rw [decide_eq_true hg2] at g2
 have v1 := chk_valid.1 hg1
 have v2 := chk_valid.1 hg2
 have k1 := fun w1 h h' => common_ok A1 a1 l1 A2 a2 l2 w1 h h' v1 v2
 have k2 := fun w1 h h' => common_ok A2 a2 l2 A1 a1 l1 w1 h h' v2 v1
 have k3 := fun w1 h h' => only_ok A1 a1 l1 A2 a2 l2 w1 h h' v1 v2
 have k4 := fun w1 h h' => common_ok A1 a1 l1 A1 a1 l1 w1 h h' v1 v1
 have k5 := fun w1 h h' => only_ok A1 a1 l1 A1 a1 l1 w1 h h' v1 v1
 rw [← common_swap v1 v2] at k2
 rw [common_self] at k4
 rw [only_self] at k5
 have hj := split_join v1 l2
 have hlen := split_len l1 l2
 have hl1 := v1.len
 generalize l1.filter (partP l2 true) = C at *
 generalize l1.filter (partP l2 false) = O at *
 have hC := hj.va.len
 have hO := hj.vb.len
 refine fn_v tk (n := 128) (A := []) Tryz.func9 rfl rfl (Nat.le_of_ble_eq_true rfl) (St.nil (Below.refl _ _)) ?_
 ((conv => whnf); (repeat ((first | (apply VCall.q; kernel_rfl; (focus (intro w1 hs; first | with_reducible apply g1 w1 (hs.book h1) | with_reducible apply g2 w1 (hs.book h2)))) | (apply VLdN.mk; (focus ((repeat (first | (with_reducible apply ldn_blk) | (with_reducible apply ldn_skip))); done)); exact rfl) | apply VBr.f | (apply VNew.mk; intro g hg)); (conv => whnf))); apply VCall.stop)
 refine ot_callT (X := SlX) (us := []) (vs := []) (fun x => .tuple #[.agg #[.slice x.1 C.length x.2], .int .i64 0]) (fun x => []) (fun x => [.own (.slice x.1 C.length x.2) 61 5 C.length (lnC C)]) _ (fun x c hc => one_mut hc) (by decide) rfl rfl rfl rfl (by kernel_rfl) (evl_of rfl) rfl (fun w1 hs => k1 w1 (hs.book h1) (hs.book h2)) ?_
 rintro ⟨B1, c1⟩ _
 (dsimp only [List.cons_append, List.nil_append]; apply ot_v tk)
 ((conv => whnf); (repeat ((first | (apply VLdN.mk; (focus ((repeat (first | (with_reducible apply ldn_blk) | (with_reducible apply ldn_skip))); done)); exact rfl) | (apply VNew.mk; intro g hg) | (apply VSt.mk; (focus ((repeat (first | (with_reducible exact At.here) | (with_reducible apply At.there))); done)); exact rfl)); (conv => whnf))); apply VCall.stop)
 refine ot_callT (X := SlX) (us := []) (vs := []) (fun x => .tuple #[.agg #[.slice x.1 C.length x.2], .int .i64 0]) (fun x => []) (fun x => [.own (.slice x.1 C.length x.2) 61 5 C.length (lnC C)]) _ (fun x c hc => one_mut hc) (by decide) rfl rfl rfl rfl (by kernel_rfl) (evl_of rfl) rfl (fun w1 hs => k2 w1 (hs.book h2) (hs.book h1)) ?_
 rintro ⟨B2, c2⟩ _
 (dsimp only [List.cons_append, List.nil_append]; apply ot_v tk)
 ((conv => whnf); (repeat ((first | (apply VLdN.mk; (focus ((repeat (first | (with_reducible apply ldn_blk) | (with_reducible apply ldn_skip))); done)); exact rfl) | (apply VNew.mk; intro g hg) | (apply VSt.mk; (focus ((repeat (first | (with_reducible exact At.here) | (with_reducible apply At.there))); done)); exact rfl)); (conv => whnf))); apply VCall.stop)
 refine ot_callT (X := SlX) (us := []) (vs := []) (fun x => .tuple #[.agg #[.slice x.1 O.length x.2], .int .i64 0]) (fun x => []) (fun x => [.own (.slice x.1 O.length x.2) 61 5 O.length (lnC O)]) _ (fun x c hc => one_mut hc) (by decide) rfl rfl rfl rfl (by kernel_rfl) (evl_of rfl) rfl (fun w1 hs => k3 w1 (hs.book h1) (hs.book h2)) ?_
 rintro ⟨B3, c3⟩ _
 (dsimp only [List.cons_append, List.nil_append]; apply ot_v tk)
 ((conv => whnf); (repeat ((first | (apply VLdN.mk; (focus ((repeat (first | (with_reducible apply ldn_blk) | (with_reducible apply ldn_skip))); done)); exact rfl) | (apply VNew.mk; intro g hg) | (apply VSt.mk; (focus ((repeat (first | (with_reducible exact At.here) | (with_reducible apply At.there))); done)); exact rfl)); (conv => whnf))); apply VCall.stop)
 refine ot_callT (X := SlX) (us := []) (vs := []) (fun x => .tuple #[.agg #[.slice x.1 l1.length x.2], .int .i64 0]) (fun x => []) (fun x => [.own (.slice x.1 l1.length x.2) 61 5 l1.length (lnC l1)]) _ (fun x c hc => one_mut hc) (by decide) rfl rfl rfl rfl (by kernel_rfl) (evl_of rfl) rfl (fun w1 hs => k4 w1 (hs.book h1) (hs.book h1)) ?_
 rintro ⟨B4, c4⟩ _
 (dsimp only [List.cons_append, List.nil_append]; apply ot_v tk)
 ((conv => whnf); (repeat ((first | (apply VLdN.mk; (focus ((repeat (first | (with_reducible apply ldn_blk) | (with_reducible apply ldn_skip))); done)); exact rfl) | (apply VNew.mk; intro g hg) | (apply VSt.mk; (focus ((repeat (first | (with_reducible exact At.here) | (with_reducible apply At.there))); done)); exact rfl)); (conv => whnf))); apply VCall.stop)
 refine ot_callT (X := SlX) (us := []) (vs := []) (fun x => .tuple #[.agg #[.slice x.1 0 x.2], .int .i64 0]) (fun x => []) (fun x => [.own (.slice x.1 0 x.2) 61 5 0 (lnC .nil)]) _ (fun x c hc => one_mut hc) (by decide) rfl rfl rfl rfl (by kernel_rfl) (evl_of rfl) rfl (fun w1 hs => k5 w1 (hs.book h1) (hs.book h1)) ?_
 rintro ⟨B5, c5⟩ _
 (dsimp only [List.cons_append, List.nil_append]; apply ot_v tk)
 have q1 := fun w1 => great_any B1 c1 C.length w1 (by unfold maxLen; omega)
 have q2 := fun w1 => great_any B3 c3 O.length w1 (by unfold maxLen; omega)
 rw [decide_eq_false (by omega)] at q1 q2
 have q3 := fun {A : List Chunk} {w1 : World} (hs : St w A w1) (a : Chunk.own (.slice B1 C.length c1) 61 5 C.length (lnC C) ∈ A) (b : Chunk.own (.slice B2 C.length c2) 61 5 C.length (lnC C) ∈ A) => sameN hs a b rfl (by omega)
 have q4 := fun {A : List Chunk} {w1 : World} (hs : St w A w1) (a : Chunk.own (.slice B4 l1.length c4) 61 5 l1.length (lnC l1) ∈ A) => sameB (A2 := A1) (c2 := a1) hs a h1 rfl (by omega)
 ((conv => whnf); (repeat ((first | (apply VCall.q; kernel_rfl; (focus (intro w1 hs; first | with_reducible apply q1 w1 | with_reducible apply q2 w1 | ((with_reducible apply q3 hs); (repeat (first | exact List.Mem.head _ | assumption | refine List.Mem.tail _ ?_))) | ((with_reducible apply q4 hs); (repeat (first | exact List.Mem.head _ | assumption | refine List.Mem.tail _ ?_)))))) | (apply VLd.mk; (focus ((repeat (first | ((with_reducible apply ld_blk); exact rfl) | (with_reducible apply ld_skip))); done))) | (apply VLdN.mk; (focus ((repeat (first | (with_reducible apply ldn_blk) | (with_reducible apply ldn_skip))); done)); exact rfl) | apply VBr.f | (apply v_f; omega) | (apply VNew.mk; intro g hg) | (apply VSt.mk; (focus ((repeat (first | (with_reducible exact At.here) | (with_reducible apply At.there))); done)); exact rfl)); (conv => whnf))); apply VCall.stop)
 refine ot_callT (X := SlX) (us := []) (vs := []) (fun x => .tuple #[.agg #[.slice x.1 l1.length x.2], .bool true]) (fun x => []) (fun x => [.own (.slice x.1 l1.length x.2) 61 5 l1.length (lnC l1)]) _ (fun x c hc => one_mut hc) (by decide) rfl rfl rfl rfl (by kernel_rfl) (evl_of rfl) rfl (fun w1 hs => merged_j hj B1 c1 B3 c3 w1 (hs.own_rd (by (repeat (first | exact List.Mem.head _ | assumption | refine List.Mem.tail _ ?_)))) (hs.own_rd (by (repeat (first | exact List.Mem.head _ | assumption | refine List.Mem.tail _ ?_))))) ?_
 rintro ⟨B6, c6⟩ _
 (dsimp only [List.cons_append, List.nil_append]; apply ot_v tk)
 have q5 := fun {A : List Chunk} {w1 : World} (hs : St w A w1) (a : Chunk.own (.slice B6 l1.length c6) 61 5 l1.length (lnC l1) ∈ A) => sameB (A2 := A1) (c2 := a1) hs a h1 rfl (by omega)
 ((conv => whnf); (repeat ((first | (apply VCall.q; kernel_rfl; (focus (intro w1 hs; first | ((with_reducible apply q5 hs); (repeat (first | exact List.Mem.head _ | assumption | refine List.Mem.tail _ ?_))) | with_reducible apply kw w1 (hE.st hs) (hM.st hs)))) | (apply VLd.mk; (focus ((repeat (first | ((with_reducible apply ld_blk); exact rfl) | (with_reducible apply ld_skip))); done))) | (apply VLdN.mk; (focus ((repeat (first | (with_reducible apply ldn_blk) | (with_reducible apply ldn_skip))); done)); exact rfl) | (apply VRng.mk; omega) | apply VBr.t | (apply v_t; omega) | (apply VNew.mk; intro g hg) | (apply VSt.mk; (focus ((repeat (first | (with_reducible exact At.here) | (with_reducible apply At.there))); done)); exact rfl)); (conv => whnf))))
 ((apply VRet.mk); refine ret1 (by first | exact .inl rfl | exact .inr rfl) rfl (by exact rv_tmp rfl) ?_; exact fun w h => ⟨rfl, h.base⟩)
end Go.Proofs.YtojeeindlijgkaaGreatDoor
