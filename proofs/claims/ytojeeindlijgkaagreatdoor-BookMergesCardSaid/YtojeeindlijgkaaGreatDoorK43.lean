/- BookMerges: lemmas for the rows of this seat. No conditions. -/
import Derived.Laws.StructEq
import Derived.Test.YtojeeindlijgkaaGreatDoorK40
import Derived.Test.YtojeeindlijgkaaGreatDoorK41
set_option linter.all false
namespace Go.Proofs.YtojeeindlijgkaaGreatDoor
open Go.RowKit
/-! ## BookMerges -/
set_option maxHeartbeats 4000000 in
set_option maxRecDepth 20000 in
theorem law4_any (A1 : Option Addr) (a1 : Nat) (l1 : List Ln) (A2 : Option Addr) (a2 : Nat) (l2 : List Ln) (w : World) (h1 : BookR w A1 l1) (h2 : BookR w A2 l2) (hm1 : l1.length ≤ maxLen) (hm2 : l2.length ≤ maxLen) (hE : LayE w) (hM : MaxL w) :
  Calls Tryz.prog 4 #[.agg #[.slice A1 l1.length a1], .agg #[.slice A2 l2.length a2]] w fun e w' => e = .returned (.bool true) ∧ Below w.heap.size w w' := by
 have kw := fun w1 h1 h2 => works_any w1 h1 h2
 have g1 := fun w1 => great_any A1 a1 l1.length w1 hm1
 have g2 := fun w1 => great_any A2 a2 l2.length w1 hm2
 by_cases hg1 : 26 < l1.length
 ·rw [decide_eq_true hg1] at g1
  refine fn_v tk (n := 74) (A := []) Tryz.func4 rfl rfl (Nat.le_of_ble_eq_true rfl) (St.nil (Below.refl _ _)) ?_
  ((conv => whnf); (repeat ((first | (apply VCall.q; kernel_rfl; (focus (intro w1 hs; first | with_reducible apply g1 w1 | with_reducible apply kw w1 (hE.st hs) (hM.st hs)))) | (apply VLdN.mk; (focus ((repeat (first | (with_reducible apply ldn_blk) | (with_reducible apply ldn_skip))); done)); exact rfl) | apply VBr.t | (apply VNew.mk; intro g hg)); (conv => whnf))))
  ((apply VRet.mk); refine ret1 (by first | exact .inl rfl | exact .inr rfl) rfl (by exact rv_tmp rfl) ?_; exact fun w h => ⟨rfl, h.base⟩)
 by_cases hg2 : 26 < l2.length
 ·rw [decide_eq_false hg1] at g1
  rw [decide_eq_true hg2] at g2
  refine fn_v tk (n := 74) (A := []) Tryz.func4 rfl rfl (Nat.le_of_ble_eq_true rfl) (St.nil (Below.refl _ _)) ?_
  ((conv => whnf); (repeat ((first | (apply VCall.q; kernel_rfl; (focus (intro w1 hs; first | with_reducible apply g1 w1 | with_reducible apply g2 w1 | with_reducible apply kw w1 (hE.st hs) (hM.st hs)))) | (apply VLdN.mk; (focus ((repeat (first | (with_reducible apply ldn_blk) | (with_reducible apply ldn_skip))); done)); exact rfl) | apply VBr.t | apply VBr.f | (apply VNew.mk; intro g hg)); (conv => whnf))))
  ((apply VRet.mk); refine ret1 (by first | exact .inl rfl | exact .inr rfl) rfl (by exact rv_tmp rfl) ?_; exact fun w h => ⟨rfl, h.base⟩)
 rw [decide_eq_false hg1] at g1
 rw [decide_eq_false hg2] at g2
 have hx1 : l1.length ≤ 1000 := by omega
 have hx2 : l2.length ≤ 1000 := by omega
 have k1 := fun w1 h h' => clash_all A1 a1 l1 A2 a2 l2 w1 h h' hx1 hx2
 have k2 := fun w1 h h' => refClash_all A1 a1 l1 A2 a2 l2 w1 h h' hx1 hx2
 have k3 := fun w1 h h' => merge_all A1 a1 l1 A2 a2 l2 w1 h h' hx1 hx2
 have k4 := fun w1 h h' => refMerge_all A1 a1 l1 A2 a2 l2 w1 h h' hx1 hx2
 have nm := mrgR_len l1 l2
 generalize clsR l1 l2 = C at *
 generalize mrgR l1 l2 = R at *
 obtain ⟨x1, x2, x3⟩ := C
 obtain ⟨Lm, zm⟩ := R
 dsimp only at nm k1 k2
 refine fn_v tk (n := 74) (A := []) Tryz.func4 rfl rfl (Nat.le_of_ble_eq_true rfl) (St.nil (Below.refl _ _)) ?_
 ((conv => whnf); (repeat ((first | (apply VCall.q; kernel_rfl; (focus (intro w1 hs; first | with_reducible apply g1 w1 | with_reducible apply g2 w1 | with_reducible apply k1 w1 (hs.book h1) (hs.book h2) | with_reducible apply k2 w1 (hs.book h1) (hs.book h2)))) | (apply VLdN.mk; (focus ((repeat (first | (with_reducible apply ldn_blk) | (with_reducible apply ldn_skip))); done)); exact rfl) | apply VBr.f | (apply VNew.mk; intro g hg)); (conv => whnf))); apply VCall.stop)
 refine ot_callT (X := SlX) (us := []) (vs := []) (fun x => .tuple #[.agg #[.slice x.1 Lm.length x.2], .int .i64 zm]) (fun x => []) (fun x => [.own (.slice x.1 Lm.length x.2) 61 5 Lm.length (lnC Lm)]) _ (fun x c hc => one_mut hc) (by decide) rfl rfl rfl rfl (by kernel_rfl) (evl_of rfl) rfl (fun w1 hs => k3 w1 (hs.book h1) (hs.book h2)) ?_
 rintro ⟨B1, c1⟩ _
 (dsimp only [List.cons_append, List.nil_append]; apply ot_v tk)
 ((conv => whnf); (repeat ((first | (apply VLdN.mk; (focus ((repeat (first | (with_reducible apply ldn_blk) | (with_reducible apply ldn_skip))); done)); exact rfl) | (apply VNew.mk; intro g hg) | (apply VSt.mk; (focus ((repeat (first | (with_reducible exact At.here) | (with_reducible apply At.there))); done)); exact rfl)); (conv => whnf))); apply VCall.stop)
 refine ot_callT (X := SlX) (us := []) (vs := []) (fun x => .tuple #[.agg #[.slice x.1 Lm.length x.2], .int .i64 zm]) (fun x => []) (fun x => [.own (.slice x.1 Lm.length x.2) 61 5 Lm.length (lnC Lm)]) _ (fun x c hc => one_mut hc) (by decide) rfl rfl rfl rfl (by kernel_rfl) (evl_of rfl) rfl (fun w1 hs => k4 w1 (hs.book h1) (hs.book h2)) ?_
 rintro ⟨B2, c2⟩ _
 (dsimp only [List.cons_append, List.nil_append]; apply ot_v tk)
 have q1 := fun {A : List Chunk} {w1 : World} (hs : St w A w1) (a : Chunk.own (.slice B1 Lm.length c1) 61 5 Lm.length (lnC Lm) ∈ A) (b : Chunk.own (.slice B2 Lm.length c2) 61 5 Lm.length (lnC Lm) ∈ A) => sameN hs a b rfl nm
 ((conv => whnf); (repeat ((first | (apply VCall.q; kernel_rfl; (focus (intro w1 hs; first | ((with_reducible apply q1 hs); (repeat (first | exact List.Mem.head _ | assumption | refine List.Mem.tail _ ?_))) | with_reducible apply kw w1 (hE.st hs) (hM.st hs)))) | (apply VLdN.mk; (focus ((repeat (first | (with_reducible apply ldn_blk) | (with_reducible apply ldn_skip))); done)); exact rfl) | apply VBr.t | (apply v_t; omega) | (apply VNew.mk; intro g hg) | (apply VSt.mk; (focus ((repeat (first | (with_reducible exact At.here) | (with_reducible apply At.there))); done)); exact rfl)); (conv => whnf))))
 ((apply VRet.mk); refine ret1 (by first | exact .inl rfl | exact .inr rfl) rfl (by exact rv_tmp rfl) ?_; exact fun w h => ⟨rfl, h.base⟩)
end Go.Proofs.YtojeeindlijgkaaGreatDoor
