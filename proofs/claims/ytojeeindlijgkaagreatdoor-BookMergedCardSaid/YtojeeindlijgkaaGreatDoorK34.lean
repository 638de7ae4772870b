/- merged: lemmas for the rows of this seat. No conditions. -/
import Derived.Laws.StructEq
import Derived.Test.YtojeeindlijgkaaGreatDoorK33
set_option linter.all false
namespace Go.Proofs.YtojeeindlijgkaaGreatDoor
open Go.RowKit
/-! ## merged -/
section
variable (A1 : Option Addr) (c1 : Nat) (l1 : List Ln) (A2 : Option Addr) (c2 : Nat) (l2 : List Ln) (w : World) (h1 : BookR w A1 l1) (h2 : BookR w A2 l2)
include h1 h2
set_option maxRecDepth 20000 in
theorem merged_no (z : Int) (hz : z ≠ 0) (hM : ∀ w1, BookR w1 A1 l1 → BookR w1 A2 l2 → Calls Tryz.prog 26 #[.agg #[.slice A1 l1.length c1], .agg #[.slice A2 l2.length c2]] w1 fun e w' => e = .returned (.tuple #[.agg #[.slice none 0 0], .int .i64 z]) ∧ Below w1.heap.size w1 w') : Calls Tryz.prog 44 #[.agg #[.slice A1 l1.length c1], .agg #[.slice A2 l2.length c2]] w fun e w' => e = .returned (.tuple #[.agg #[.slice none 0 0], .bool false]) ∧ Below w.heap.size w w' := by
 refine fn_v tk (n := 27) (A := []) Tryz.func44 rfl rfl (Nat.le_of_ble_eq_true rfl) (St.nil (Below.refl _ _)) ?_
 ((conv => whnf); (repeat ((first | (apply VCall.q; kernel_rfl; (focus (intro w1 hs; first | with_reducible apply hM w1 (hs.book h1) (hs.book h2)))) | (apply VLdN.mk; (focus ((repeat (first | (with_reducible apply ldn_blk) | (with_reducible apply ldn_skip))); done)); exact rfl) | (apply VNew.mk; intro g hg) | (apply VSt.mk; (focus ((repeat (first | (with_reducible exact At.here) | (with_reducible apply At.there))); done)); exact rfl)); (conv => whnf))); apply VStop.mk)
 (apply tr_v tk; (conv => whnf); (repeat ((first | (apply VStop.mk; refine tr_region_treeV (id := 2) (by kernel_rfl) [.blk g 24 _] (by (repeat (first | exact sl0 _ | exact sl1 _ | refine sl2 _ ?_ | refine sl3 _ ?_))) [0, 1, 2, 3, 4, 5, 6, 7, 8, 9, 10, 11, 12] [13, 14] [.rd, .rd, .rd, .rd, .rd, .rd, .rd, .rd, .rd, .rd, .rd, .rd, .rd] (fun i => [.wr, .wr, .wr, .wr, .wr, .wr, .wr, .wr, .wr, .wr, .wr, .wr, .wr, .wr, .wr].getD i .wr) _ rfl rfl (by kernel_rfl) ?_; apply ot_v tk) | (apply VLdN.mk; (focus ((repeat (first | (with_reducible apply ldn_blk) | (with_reducible apply ldn_skip))); done)); exact rfl) | apply VBr.f | (apply v_f; omega)); (conv => whnf))))
 refine ox1 13 ?_
 (apply ot_v tk; (conv => whnf); (apply VSt.mk; (focus (repeat (first | exact At.here | apply At.there)); done); exact rfl; (conv => whnf)); refine sla ?_)
 refine ox1 14 ?_
 (apply ot_v tk; (conv => whnf); refine sla ?_)
 refine VT.mk (otx_end ?_)
 (((conv => whnf)); (apply VRet.mk); refine ret2 (by first | exact .inl rfl | exact .inr rfl) rfl (by exact rv_row tk rfl rfl rfl (by first | exact cells_blk_all (by (repeat (first | exact List.Mem.head _ | assumption | refine List.Mem.tail _ ?_))) | exact cells_row0 (by (repeat (first | exact List.Mem.head _ | assumption | refine List.Mem.tail _ ?_)))) rfl) (by exact rv_tmp rfl) ?_; exact fun w h => ⟨rfl, h.base⟩)
set_option maxRecDepth 20000 in
theorem merged_ok (O : List Ln) (hO : O.length ≤ 20) (hM : ∀ w1, BookR w1 A1 l1 → BookR w1 A2 l2 → Calls Tryz.prog 26 #[.agg #[.slice A1 l1.length c1], .agg #[.slice A2 l2.length c2]] w1 fun e w' => ∃ x : SlX, e = .returned (.tuple #[.agg #[.slice x.1 O.length x.2], .int .i64 0]) ∧ True ∧ St w1 ([] ++ [.own (.slice x.1 O.length x.2) 61 5 O.length (lnC O)]) w') : Calls Tryz.prog 44 #[.agg #[.slice A1 l1.length c1], .agg #[.slice A2 l2.length c2]] w fun e w' => ∃ x : SlX, e = .returned (.tuple #[.agg #[.slice x.1 O.length x.2], .bool (decide (chkBook O = 0))]) ∧ True ∧ St w ([] ++ [.own (.slice x.1 O.length x.2) 61 5 O.length (lnC O)]) w' := by
 have kc := fun {A : List Chunk} {w1 : World} (x : SlX) (hs : St w A w1) (hA : Chunk.own (.slice x.1 O.length x.2) 61 5 O.length (lnC O) ∈ A) => refCheck_any x.1 x.2 O w1 (hs.own_rd hA) (by unfold maxLen; omega)
 have kg := fun (x : SlX) w1 => great_any x.1 x.2 O.length w1 (by unfold maxLen; omega)
 rw [decide_eq_false (show ¬26 < O.length by omega)] at kg
 generalize chkBook O = z at *
 refine fn_v tk (n := 27) (A := []) Tryz.func44 rfl rfl (Nat.le_of_ble_eq_true rfl) (St.nil (Below.refl _ _)) ?_
 ((conv => whnf); (repeat ((first | (apply VLdN.mk; (focus ((repeat (first | (with_reducible apply ldn_blk) | (with_reducible apply ldn_skip))); done)); exact rfl) | (apply VNew.mk; intro g hg)); (conv => whnf))); apply VCall.stop)
 refine ot_callT (X := SlX) (us := []) (vs := []) (fun x => .tuple #[.agg #[.slice x.1 O.length x.2], .int .i64 0]) (fun x => []) (fun x => [.own (.slice x.1 O.length x.2) 61 5 O.length (lnC O)]) _ (fun x c hc => one_mut hc) (by decide) rfl rfl rfl rfl (by kernel_rfl) (evl_of rfl) rfl (fun w1 hs => hM w1 (hs.book h1) (hs.book h2)) ?_
 intro x _
 have kc := fun {A : List Chunk} {w1 : World} (hs : St w A w1) hA => kc x hs hA
 have kg := kg x
 (dsimp only [List.cons_append, List.nil_append]; apply ot_v tk)
 by_cases hz : z = 0
 ·rw [decide_eq_true hz]
  ((conv => whnf); (repeat ((first | (apply VNew.mk; intro g hg) | (apply VSt.mk; (focus ((repeat (first | (with_reducible exact At.here) | (with_reducible apply At.there))); done)); exact rfl)); (conv => whnf))); apply VStop.mk)
  (apply tr_v tk; (conv => whnf); (repeat ((first | ((first | apply VStop.mk | apply VCall.stop); refine tr_region_treeV (id := 2) (by kernel_rfl) [.blk g 24 _, .own _ 61 5 _ _] (by (repeat (first | exact sl0 _ | exact sl1 _ | refine sl2 _ ?_ | refine sl3 _ ?_))) [0, 1, 2, 3, 4, 5, 6, 7, 8, 9, 10, 11, 12] [13, 14] [.rd, .rd, .rd, .rd, .rd, .rd, .rd, .rd, .rd, .rd, .rd, .rd, .rd] (fun i => [.wr, .wr, .wr, .wr, .wr, .wr, .wr, .wr, .wr, .wr, .wr, .wr, .wr, .wr, .wr].getD i .wr) _ rfl rfl (by kernel_rfl) ?_; apply ot_v tk) | (apply VBr.t) | (apply VCall.q; kernel_rfl; (focus (intro w1 hs; first | with_reducible apply kg w1 | ((with_reducible apply kc hs); (repeat (first | exact List.Mem.head _ | assumption | refine List.Mem.tail _ ?_)))))) | (apply VLdN.mk; (focus ((repeat (first | (with_reducible apply ldn_blk) | (with_reducible apply ldn_skip))); done)); exact rfl) | (apply v_t; omega)); (conv => whnf))))
  refine ox1 13 ?_
  (apply ot_v tk; (conv => whnf); (apply VSt.mk; (focus (repeat (first | exact At.here | apply At.there)); done); exact rfl; (conv => whnf)); refine sla ?_)
  refine ox1 14 ?_
  (apply ot_v tk; (conv => whnf); refine sla ?_)
  refine VT.mk (otx_end ?_)
  (((conv => whnf)); (apply VRet.mk); refine ret2 (by first | exact .inl rfl | exact .inr rfl) rfl (by exact rv_row tk rfl rfl rfl (by first | exact cells_blk_all (by (repeat (first | exact List.Mem.head _ | assumption | refine List.Mem.tail _ ?_))) | exact cells_row0 (by (repeat (first | exact List.Mem.head _ | assumption | refine List.Mem.tail _ ?_)))) rfl) (by exact rv_tmp rfl) ?_; exact fun w hs => ⟨x, rfl, trivial, hs.sub (List.singleton_sublist.2 (by (repeat (first | exact List.Mem.head _ | assumption | refine List.Mem.tail _ ?_))))⟩)
 ·rw [decide_eq_false hz]
  ((conv => whnf); (repeat ((first | (apply VNew.mk; intro g hg) | (apply VSt.mk; (focus ((repeat (first | (with_reducible exact At.here) | (with_reducible apply At.there))); done)); exact rfl)); (conv => whnf))); apply VStop.mk)
  (apply tr_v tk; (conv => whnf); (repeat ((first | ((first | apply VStop.mk | apply VCall.stop); refine tr_region_treeV (id := 2) (by kernel_rfl) [.blk g 24 _, .own _ 61 5 _ _] (by (repeat (first | exact sl0 _ | exact sl1 _ | refine sl2 _ ?_ | refine sl3 _ ?_))) [0, 1, 2, 3, 4, 5, 6, 7, 8, 9, 10, 11, 12] [13, 14] [.rd, .rd, .rd, .rd, .rd, .rd, .rd, .rd, .rd, .rd, .rd, .rd, .rd] (fun i => [.wr, .wr, .wr, .wr, .wr, .wr, .wr, .wr, .wr, .wr, .wr, .wr, .wr, .wr, .wr].getD i .wr) _ rfl rfl (by kernel_rfl) ?_; apply ot_v tk) | (apply VBr.t) | (apply VCall.q; kernel_rfl; (focus (intro w1 hs; first | with_reducible apply kg w1 | ((with_reducible apply kc hs); (repeat (first | exact List.Mem.head _ | assumption | refine List.Mem.tail _ ?_)))))) | (apply VLdN.mk; (focus ((repeat (first | (with_reducible apply ldn_blk) | (with_reducible apply ldn_skip))); done)); exact rfl) | (apply v_t; omega) | (apply v_f; omega)); (conv => whnf))))
  refine ox1 13 ?_
  (apply ot_v tk; (conv => whnf); (apply VSt.mk; (focus (repeat (first | exact At.here | apply At.there)); done); exact rfl; (conv => whnf)); refine sla ?_)
  refine ox1 14 ?_
  (apply ot_v tk; (conv => whnf); refine sla ?_)
  refine VT.mk (otx_end ?_)
  (((conv => whnf)); (apply VRet.mk); refine ret2 (by first | exact .inl rfl | exact .inr rfl) rfl (by exact rv_row tk rfl rfl rfl (by first | exact cells_blk_all (by (repeat (first | exact List.Mem.head _ | assumption | refine List.Mem.tail _ ?_))) | exact cells_row0 (by (repeat (first | exact List.Mem.head _ | assumption | refine List.Mem.tail _ ?_)))) rfl) (by exact rv_tmp rfl) ?_; exact fun w hs => ⟨x, rfl, trivial, hs.sub (List.singleton_sublist.2 (by (repeat (first | exact List.Mem.head _ | assumption | refine List.Mem.tail _ ?_))))⟩)
end
end Go.Proofs.YtojeeindlijgkaaGreatDoor
