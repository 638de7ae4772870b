/- Merge, as the definition says: lemmas for the rows of this seat. No conditions. -/
import Derived.Laws.StructEq
import Derived.Test.YtojeeindlijgkaaGreatDoorK5
set_option linter.all false
namespace Go.Proofs.YtojeeindlijgkaaGreatDoor
open Go.RowKit
/-! ## Merge, as the definition says -/
section
variable (A1 : Option Addr) (c1 : Nat) (l1 : List Ln) (A2 : Option Addr) (c2 : Nat) (l2 : List Ln) (w : World) (h1 : BookR w A1 l1) (h2 : BookR w A2 l2)
include h1 h2
theorem refClash_err (hm1 : l1.length ≤ maxLen) (hm2 : l2.length ≤ maxLen) (hE : errTwo l1 l2 ≠ 0) : Calls Tryz.prog 25 #[.agg #[.slice A1 l1.length c1], .agg #[.slice A2 l2.length c2]] w fun e w' => e = .returned (.tuple #[.int .i64 0, .int .i64 0, .int .i64 (errTwo l1 l2)]) ∧ Below w.heap.size w w' := by
 have k1 := fun w1 h h' => both_any A1 c1 l1 A2 c2 l2 w1 h h' hm1 hm2
 unfold errTwo at *
 generalize (if chkBook l1 ≠ 0 then chkBook l1 else chkBook l2) = z at *
 refine fn_v tk (n := 63) (A := []) Tryz.func25 rfl rfl (Nat.le_of_ble_eq_true rfl) (St.nil (Below.refl _ _)) ?_
 ((conv => whnf); (repeat ((first | (apply VCall.q; kernel_rfl; (focus (intro w1 hs; first | with_reducible apply k1 w1 (hs.book h1) (hs.book h2)))) | (apply VLdN.mk; (focus ((repeat (first | (with_reducible apply ldn_blk) | (with_reducible apply ldn_skip))); done)); exact rfl) | apply VBr.t | (apply v_t; omega) | (apply VNew.mk; intro g hg)); (conv => whnf))))
 (apply VRet.mk)
 refine ret3 (by first | exact .inl rfl | exact .inr rfl) rfl (by exact rv_tmp rfl) (by exact rv_tmp rfl) (by exact rv_tmp rfl) ?_
 exact fun w h => ⟨rfl, h.base⟩
omit h1 h2 in
theorem errTwo_vals (l1 l2 : List Ln) : errTwo l1 l2 = 0 ∨ errTwo l1 l2 = 3 ∨ errTwo l1 l2 = 6 ∨ errTwo l1 l2 = 16 := by
 unfold errTwo
 split
 ·exact chkBook_vals l1
 ·exact chkBook_vals l2
omit h1 h2 in
theorem errTwo_zero {l1 l2 : List Ln} : errTwo l1 l2 = 0 ↔ Valid l1 ∧ Valid l2 := by
 unfold errTwo
 rw [← chk_valid, ← chk_valid]
 constructor
 ·intro h
  split at h
  ·exact absurd h (by assumption)
  ·exact ⟨by omega, h⟩
 ·rintro ⟨h1, h2⟩
  rw [if_neg (by omega), h2]
theorem refMerge_err (hm1 : l1.length ≤ maxLen) (hm2 : l2.length ≤ maxLen) (hE : errTwo l1 l2 ≠ 0) : Calls Tryz.prog 27 #[.agg #[.slice A1 l1.length c1], .agg #[.slice A2 l2.length c2]] w fun e w' => e = .returned (.tuple #[.agg #[.slice none 0 0], .int .i64 (errTwo l1 l2)]) ∧ Below w.heap.size w w' := by
 have k1 := fun w1 h h' => refClash_err A1 c1 l1 A2 c2 l2 w1 h h' hm1 hm2 hE
 have hv := errTwo_vals l1 l2
 generalize errTwo l1 l2 = z at *
 have h5 : z ≠ 5 := by omega
 clear hv
 refine fn_v tk (n := 33) (A := []) Tryz.func27 rfl rfl (Nat.le_of_ble_eq_true rfl) (St.nil (Below.refl _ _)) ?_
 ((conv => whnf); (repeat ((first | (apply VCall.q; kernel_rfl; (focus (intro w1 hs; first | with_reducible apply k1 w1 (hs.book h1) (hs.book h2)))) | (apply VLdN.mk; (focus ((repeat (first | (with_reducible apply ldn_blk) | (with_reducible apply ldn_skip))); done)); exact rfl) | apply VBr.t | apply VBr.f | (apply v_t; omega) | (apply v_f; omega) | (apply VNew.mk; intro g hg) | (apply VSt.mk; (focus ((repeat (first | (with_reducible exact At.here) | (with_reducible apply At.there))); done)); exact rfl)); (conv => whnf))))
 (apply VRet.mk)
 refine ret2 (by first | exact .inl rfl | exact .inr rfl) rfl (by exact rv_row tk rfl rfl rfl (by first | exact cells_blk_all (by (repeat (first | exact List.Mem.head _ | assumption | refine List.Mem.tail _ ?_))) | exact cells_row0 (by (repeat (first | exact List.Mem.head _ | assumption | refine List.Mem.tail _ ?_)))) rfl) (by exact rv_tmp rfl) ?_
 exact fun w h => ⟨rfl, h.base⟩
theorem refMerge_clash (hV1 : Valid l1) (hV2 : Valid l2) {x : Ln} (hx : l1.find? (clashB l2) = some x) : Calls Tryz.prog 27 #[.agg #[.slice A1 l1.length c1], .agg #[.slice A2 l2.length c2]] w fun e w' => e = .returned (.tuple #[.agg #[.slice none 0 0], .int .i64 28]) ∧ Below w.heap.size w w' := by
 have k1 := fun w1 h h' => refClash_any A1 c1 l1 A2 c2 l2 w1 h h' (by have := hV1.len; omega) (by have := hV2.len; omega) (errTwo_zero.2 ⟨hV1, hV2⟩)
 rw [hx] at k1
 unfold clashV at k1
 dsimp only at k1
 refine fn_v tk (n := 33) (A := []) Tryz.func27 rfl rfl (Nat.le_of_ble_eq_true rfl) (St.nil (Below.refl _ _)) ?_
 ((conv => whnf); (repeat ((first | (apply VCall.q; kernel_rfl; (focus (intro w1 hs; first | with_reducible apply k1 w1 (hs.book h1) (hs.book h2)))) | (apply VLdN.mk; (focus ((repeat (first | (with_reducible apply ldn_blk) | (with_reducible apply ldn_skip))); done)); exact rfl) | apply VBr.t | (apply v_t; omega) | (apply VNew.mk; intro g hg) | (apply VSt.mk; (focus ((repeat (first | (with_reducible exact At.here) | (with_reducible apply At.there))); done)); exact rfl)); (conv => whnf))))
 (apply VRet.mk)
 refine ret2 (by first | exact .inl rfl | exact .inr rfl) rfl (by exact rv_row tk rfl rfl rfl (by first | exact cells_blk_all (by (repeat (first | exact List.Mem.head _ | assumption | refine List.Mem.tail _ ?_))) | exact cells_row0 (by (repeat (first | exact List.Mem.head _ | assumption | refine List.Mem.tail _ ?_)))) rfl) (by exact rv_tmp rfl) ?_
 exact fun w h => ⟨rfl, h.base⟩
set_option maxRecDepth 20000 in
theorem refMerge_many (hV1 : Valid l1) (hV2 : Valid l2) (hx : l1.find? (clashB l2) = none) (h20 : 20 < (togL l1 l2).length) : Calls Tryz.prog 27 #[.agg #[.slice A1 l1.length c1], .agg #[.slice A2 l2.length c2]] w fun e w' => e = .returned (.tuple #[.agg #[.slice none 0 0], .int .i64 6]) ∧ Below w.heap.size w w' := by
 have k1 := fun w1 h h' => refClash_any A1 c1 l1 A2 c2 l2 w1 h h' (by have := hV1.len; omega) (by have := hV2.len; omega) (errTwo_zero.2 ⟨hV1, hV2⟩)
 rw [hx] at k1
 unfold clashV at k1
 dsimp only at k1
 have k2 := fun w1 h h' => together_any A1 c1 l1 A2 c2 l2 w1 h h' (by have := hV1.len; omega) (by have := hV2.len; omega)
 generalize togL l1 l2 = O at *
 refine fn_v tk (n := 33) (A := []) Tryz.func27 rfl rfl (Nat.le_of_ble_eq_true rfl) (St.nil (Below.refl _ _)) ?_
 ((conv => whnf); (repeat ((first | (apply VCall.q; kernel_rfl; (focus (intro w1 hs; first | with_reducible apply k1 w1 (hs.book h1) (hs.book h2)))) | (apply VLdN.mk; (focus ((repeat (first | (with_reducible apply ldn_blk) | (with_reducible apply ldn_skip))); done)); exact rfl) | apply VBr.f | (apply v_f; omega) | (apply VNew.mk; intro g hg)); (conv => whnf))); apply VCall.stop)
 refine ot_callT (X := SlX) (us := []) (vs := []) (fun x => .agg #[.slice x.1 O.length x.2]) (fun x => []) (fun x => [.own (.slice x.1 O.length x.2) 61 5 O.length (lnC O)]) _ (fun x c hc => one_mut hc) (by decide) rfl rfl rfl rfl (by kernel_rfl) (evl_of rfl) rfl (fun w1 hs => k2 w1 (hs.book h1) (hs.book h2)) ?_
 intro x _
 (dsimp only [List.cons_append, List.nil_append]; apply ot_v tk)
 ((conv => whnf); (repeat ((first | apply VBr.t | (apply v_t; omega) | (apply VSt.mk; (focus ((repeat (first | (with_reducible exact At.here) | (with_reducible apply At.there))); done)); exact rfl)); (conv => whnf))))
 (apply VRet.mk)
 refine ret2 (by first | exact .inl rfl | exact .inr rfl) rfl (by exact rv_row tk rfl rfl rfl (by first | exact cells_blk_all (by (repeat (first | exact List.Mem.head _ | assumption | refine List.Mem.tail _ ?_))) | exact cells_row0 (by (repeat (first | exact List.Mem.head _ | assumption | refine List.Mem.tail _ ?_)))) rfl) (by exact rv_tmp rfl) ?_
 exact fun w h => ⟨rfl, h.base⟩
set_option maxRecDepth 20000 in
theorem refMerge_ok (hV1 : Valid l1) (hV2 : Valid l2) (hx : l1.find? (clashB l2) = none) (h20 : (togL l1 l2).length ≤ 20) : Calls Tryz.prog 27 #[.agg #[.slice A1 l1.length c1], .agg #[.slice A2 l2.length c2]] w fun e w' => ∃ x : SlX, e = .returned (.tuple #[.agg #[.slice x.1 (togL l1 l2).length x.2], .int .i64 0]) ∧ True ∧ St w ([] ++ [.own (.slice x.1 (togL l1 l2).length x.2) 61 5 (togL l1 l2).length (lnC (togL l1 l2))]) w' := by
 have k1 := fun w1 h h' => refClash_any A1 c1 l1 A2 c2 l2 w1 h h' (by have := hV1.len; omega) (by have := hV2.len; omega) (errTwo_zero.2 ⟨hV1, hV2⟩)
 rw [hx] at k1
 unfold clashV at k1
 dsimp only at k1
 have k2 := fun w1 h h' => together_any A1 c1 l1 A2 c2 l2 w1 h h' (by have := hV1.len; omega) (by have := hV2.len; omega)
 generalize togL l1 l2 = O at *
 refine fn_v tk (n := 33) (A := []) Tryz.func27 rfl rfl (Nat.le_of_ble_eq_true rfl) (St.nil (Below.refl _ _)) ?_
 ((conv => whnf); (repeat ((first | (apply VCall.q; kernel_rfl; (focus (intro w1 hs; first | with_reducible apply k1 w1 (hs.book h1) (hs.book h2)))) | (apply VLdN.mk; (focus ((repeat (first | (with_reducible apply ldn_blk) | (with_reducible apply ldn_skip))); done)); exact rfl) | apply VBr.f | (apply v_f; omega) | (apply VNew.mk; intro g hg)); (conv => whnf))); apply VCall.stop)
 refine ot_callT (X := SlX) (us := []) (vs := []) (fun x => .agg #[.slice x.1 O.length x.2]) (fun x => []) (fun x => [.own (.slice x.1 O.length x.2) 61 5 O.length (lnC O)]) _ (fun x c hc => one_mut hc) (by decide) rfl rfl rfl rfl (by kernel_rfl) (evl_of rfl) rfl (fun w1 hs => k2 w1 (hs.book h1) (hs.book h2)) ?_
 intro x _
 (dsimp only [List.cons_append, List.nil_append]; apply ot_v tk)
 ((conv => whnf); (repeat ((first | (apply VLdN.mk; (focus ((repeat (first | (with_reducible apply ldn_blk) | (with_reducible apply ldn_skip))); done)); exact rfl) | apply VBr.f | (apply v_f; omega)); (conv => whnf))); apply VCall.stop)
 refine ot_callT (X := SlX) (us := []) (vs := []) (fun x => .agg #[.slice x.1 O.length x.2]) (fun x => []) (fun x => [.own (.slice x.1 O.length x.2) 61 5 O.length (lnC O)]) _ (fun x c hc => one_mut hc) (by decide) rfl rfl rfl rfl (by kernel_rfl) (evl_of rfl) rfl (fun w1 hs => k2 w1 (hs.book h1) (hs.book h2)) ?_
 intro y _
 (dsimp only [List.cons_append, List.nil_append]; apply ot_v tk)
 ((conv => whnf); (repeat ((apply VSt.mk; (focus ((repeat (first | (with_reducible exact At.here) | (with_reducible apply At.there))); done)); exact rfl); (conv => whnf))))
 (apply VRet.mk)
 refine ret2 (by first | exact .inl rfl | exact .inr rfl) rfl (by exact rv_row tk rfl rfl rfl (by first | exact cells_blk_all (by (repeat (first | exact List.Mem.head _ | assumption | refine List.Mem.tail _ ?_))) | exact cells_row0 (by (repeat (first | exact List.Mem.head _ | assumption | refine List.Mem.tail _ ?_)))) rfl) (by exact rv_tmp rfl) ?_
 exact fun w hs => ⟨y, rfl, trivial, hs.sub (by repeat (first | exact List.Sublist.refl _ | exact List.Sublist.cons _ (by assumption) | apply List.Sublist.cons))⟩
end
end Go.Proofs.YtojeeindlijgkaaGreatDoor
