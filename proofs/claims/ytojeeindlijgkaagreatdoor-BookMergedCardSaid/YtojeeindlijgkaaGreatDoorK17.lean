/- Merge: lemmas for the rows of this seat. No conditions. -/
import Derived.Laws.StructEq
import Derived.Test.YtojeeindlijgkaaGreatDoorK6
import Derived.Test.YtojeeindlijgkaaGreatDoorK12
import Derived.Test.YtojeeindlijgkaaGreatDoorK16
set_option linter.all false
namespace Go.Proofs.YtojeeindlijgkaaGreatDoor
open Go.RowKit
/-! ## Merge -/
set_option maxRecDepth 20000 in
theorem together66_any (gd : Nat) (A2 : Option Addr) (c2 n2 : Nat) (w : World) : Calls Tryz.prog 66 #[.pointer (some ⟨gd, 0, none⟩), .slice A2 n2 c2] w fun e w' => ∃ x : Nat × Nat, e = .returned (.func (.func 86) #[] #[.pointer (some ⟨x.1, 0, none⟩), .pointer (some ⟨x.2, 0, none⟩)]) ∧ True ∧ St w ([] ++ [.blk x.2 22 [.slice A2 n2 c2], .blk x.1 79 [.pointer (some ⟨gd, 0, none⟩)]]) w' := by
 refine fn_v tk (n := 6) (A := []) Tryz.func66 rfl rfl (Nat.le_of_ble_eq_true rfl) (St.nil (Below.refl _ _)) ?_
 ((conv => whnf); (repeat ((apply VNew.mk; intro g hg); (conv => whnf))))
 rename_i ga _
 (apply VRet.mk)
 refine ret1 (by first | exact .inl rfl | exact .inr rfl) rfl (by exact rv_tmp rfl) ?_
 exact fun w hs => ⟨(ga, g), rfl, trivial, hs⟩
theorem blk2_mut {g1 t1 g2 t2 : Nat} {xs ys : List Value} {d : Chunk} (h : d ∈ [Chunk.blk g1 t1 xs, .blk g2 t2 ys]) : d.mut = true := by
 rcases List.mem_cons.1 h with rfl | h
 ·rfl
 ·rw [List.mem_singleton.1 h]; rfl
section
variable (A1 : Option Addr) (c1 : Nat) (l1 : List Ln) (A2 : Option Addr) (c2 : Nat) (l2 : List Ln) (w : World) (h1 : BookR w A1 l1) (h2 : BookR w A2 l2)
include h1 h2
set_option maxRecDepth 20000 in
theorem merge_err (hm1 : l1.length ≤ maxLen) (hm2 : l2.length ≤ maxLen) (hE : errTwo l1 l2 ≠ 0) : Calls Tryz.prog 26 #[.agg #[.slice A1 l1.length c1], .agg #[.slice A2 l2.length c2]] w fun e w' => e = .returned (.tuple #[.agg #[.slice none 0 0], .int .i64 (errTwo l1 l2)]) ∧ Below w.heap.size w w' := by
 have k1 := fun w1 h h' => clash_err A1 c1 l1 A2 c2 l2 w1 h h' hm1 hm2 hE
 have hv := errTwo_vals l1 l2
 generalize errTwo l1 l2 = z at *
 have h5 : z ≠ 5 := by omega
 clear hv
 refine fn_v tk (n := 47) (A := []) Tryz.func26 rfl rfl (Nat.le_of_ble_eq_true rfl) (St.nil (Below.refl _ _)) ?_
 ((conv => whnf); (repeat ((first | (apply VCall.q; kernel_rfl; (focus (intro w1 hs; first | with_reducible apply k1 w1 (hs.book h1) (hs.book h2)))) | (apply VLdN.mk; (focus ((repeat (first | (with_reducible apply ldn_blk) | (with_reducible apply ldn_skip))); done)); exact rfl) | apply VBr.f | (apply v_f; omega) | (apply VNew.mk; intro g hg) | (apply VSt.mk; (focus ((repeat (first | (with_reducible exact At.here) | (with_reducible apply At.there))); done)); exact rfl)); (conv => whnf))))
 (apply VRet.mk)
 refine ret2 (by first | exact .inl rfl | exact .inr rfl) rfl (by exact rv_row tk rfl rfl rfl (by first | exact cells_blk_all (by (repeat (first | exact List.Mem.head _ | assumption | refine List.Mem.tail _ ?_))) | exact cells_row0 (by (repeat (first | exact List.Mem.head _ | assumption | refine List.Mem.tail _ ?_)))) rfl) (by exact rv_tmp rfl) ?_
 exact fun w h => ⟨rfl, h.base⟩
set_option maxRecDepth 20000 in
theorem merge_clash (hV1 : Valid l1) (hV2 : Valid l2) {x : Ln} (hx : l1.find? (clashB l2) = some x) : Calls Tryz.prog 26 #[.agg #[.slice A1 l1.length c1], .agg #[.slice A2 l2.length c2]] w fun e w' => e = .returned (.tuple #[.agg #[.slice none 0 0], .int .i64 28]) ∧ Below w.heap.size w w' := by
 have k1 := fun w1 h h' => clash_any A1 c1 l1 A2 c2 l2 w1 h h' hV1 hV2
 rw [hx] at k1
 unfold clashV at k1
 dsimp only at k1
 refine fn_v tk (n := 47) (A := []) Tryz.func26 rfl rfl (Nat.le_of_ble_eq_true rfl) (St.nil (Below.refl _ _)) ?_
 ((conv => whnf); (repeat ((first | (apply VCall.q; kernel_rfl; (focus (intro w1 hs; first | with_reducible apply k1 w1 (hs.book h1) (hs.book h2)))) | (apply VLdN.mk; (focus ((repeat (first | (with_reducible apply ldn_blk) | (with_reducible apply ldn_skip))); done)); exact rfl) | apply VBr.t | (apply v_t; omega) | (apply VNew.mk; intro g hg) | (apply VSt.mk; (focus ((repeat (first | (with_reducible exact At.here) | (with_reducible apply At.there))); done)); exact rfl)); (conv => whnf))))
 (apply VRet.mk)
 refine ret2 (by first | exact .inl rfl | exact .inr rfl) rfl (by exact rv_row tk rfl rfl rfl (by first | exact cells_blk_all (by (repeat (first | exact List.Mem.head _ | assumption | refine List.Mem.tail _ ?_))) | exact cells_row0 (by (repeat (first | exact List.Mem.head _ | assumption | refine List.Mem.tail _ ?_)))) rfl) (by exact rv_tmp rfl) ?_
 exact fun w h => ⟨rfl, h.base⟩
set_option maxHeartbeats 1000000 in
set_option maxRecDepth 20000 in
theorem merge_many (hV1 : Valid l1) (hV2 : Valid l2) (hx : l1.find? (clashB l2) = none) (h20 : 20 < (togL l1 l2).length) : Calls Tryz.prog 26 #[.agg #[.slice A1 l1.length c1], .agg #[.slice A2 l2.length c2]] w fun e w' => e = .returned (.tuple #[.agg #[.slice none 0 0], .int .i64 6]) ∧ Below w.heap.size w w' := by
 have k1 := fun w1 h h' => clash_any A1 c1 l1 A2 c2 l2 w1 h h' hV1 hV2
 rw [hx] at k1
 unfold clashV at k1
 dsimp only at k1
 rw [tog_mrg hV1 hV2 hx] at *
 have hlen := mrg_len _ l1 l2 (Nat.le_refl _)
 have hb1 := hV1.len
 have hb2 := hV2.len
 have hit := fun p1 p2 gd => together_it p1 p2 gd A1 c1 l1 A2 c2 l2 (by omega) (by omega)
 generalize mrg l1 l2 = O at *
 refine fn_v tk (n := 47) (A := []) Tryz.func26 rfl rfl (Nat.le_of_ble_eq_true rfl) (St.nil (Below.refl _ _)) ?_
 ((conv => whnf); (repeat ((first | (apply VCall.q; kernel_rfl; (focus (intro w1 hs; first | with_reducible apply k1 w1 (hs.book h1) (hs.book h2)))) | (apply VLd.mk; (focus ((repeat (first | ((with_reducible apply ld_blk); exact rfl) | (with_reducible apply ld_skip))); done))) | (apply VLdN.mk; (focus ((repeat (first | (with_reducible apply ldn_blk) | (with_reducible apply ldn_skip))); done)); exact rfl) | apply VBr.t | apply VBr.f | (apply v_t; omega) | (apply v_f; omega) | (apply VNew.mk; intro g hg)); (conv => whnf))); apply VCall.stop)
 rename_i g2 _ g3 _ g4 _ gd _
 revert g hg
 intro g10 hg10
 refine ot_callT (X := Nat × Nat) (us := []) (vs := []) (fun x => .func (.func 86) #[] #[.pointer (some ⟨x.1, 0, none⟩), .pointer (some ⟨x.2, 0, none⟩)]) (fun x => []) (fun x => [.blk x.2 22 [.slice A2 l2.length c2], .blk x.1 79 [.pointer (some ⟨gd, 0, none⟩)]]) _ (fun x c hc => blk2_mut hc) (by decide) rfl rfl rfl rfl (by kernel_rfl) (evl_of rfl) rfl (fun w1 hs => together66_any gd A2 c2 l2.length w1) ?_
 rintro ⟨p1, p2⟩ _
 (dsimp only [List.cons_append, List.nil_append]; apply ot_v tk)
 ((conv => whnf); apply VStop.mk)
 refine tr_own_nil 61 5 ?_
 refine tr_weak (l := [(4, _), (10, _), (33, _)]) (B := [.own (.slice none 0 0) 61 5 0 [], .blk g10 24 [.slice none 0 0], .blk gd 93 [.slice A1 l1.length c1], .blk g4 24 [.slice none 0 0], .blk p2 22 [.slice A2 l2.length c2], .blk p1 79 [.pointer (some ⟨gd, 0, none⟩)]]) ⟨rfl, rfl, rfl, trivial⟩ (by (repeat (first | exact sl0 _ | exact sl1 _ | refine sl2 _ ?_ | refine sl3 _ ?_))) ?_
 refine tr_rangeFunc rfl (by kernel_rfl) (hit p1 p2 gd) (fun _ => rfl) (by decide)
  (fun pre R => ∃ (Bx : Option Addr) (cx : Nat), R = [.own (.slice Bx pre.length cx) 61 5 pre.length (lnC pre), .blk g10 24 [.slice Bx pre.length cx], .blk gd 93 [.slice A1 l1.length c1], .blk g4 24 [.slice none 0 0], .blk p2 22 [.slice A2 l2.length c2], .blk p1 79 [.pointer (some ⟨gd, 0, none⟩)]])
  (fun _ _ _ => False) ?_ ⟨none, 0, rfl⟩ ?_ ?_ ?_
 ·rintro pre R ⟨Bx, cx, rfl⟩ F
  exact ⟨h1, h2, fun W hS => ⟨by rw [(hS.all (.blk p1 79 _) (by (repeat (first | exact List.Mem.head _ | assumption | refine List.Mem.tail _ ?_)))).2.cell]; rfl, by rw [(hS.all (.blk gd 93 _) (by (repeat (first | exact List.Mem.head _ | assumption | refine List.Mem.tail _ ?_)))).2.cell]; rfl, by rw [(hS.all (.blk p2 22 _) (by (repeat (first | exact List.Mem.head _ | assumption | refine List.Mem.tail _ ?_)))).2.cell]; rfl⟩⟩
 ·rintro l pre x R Fr ⟨rest, hpre⟩ ⟨Bx, cx, rfl⟩
  have hpl : pre.length ≤ 40 := by have := congrArg List.length hpre; simp at this; omega
  have hs2 : (pre ++ [x]).length = pre.length + 1 := by rw [List.length_append]; rfl
  have hs3 := lnC_snoc pre x
  unfold lnL at hs3
  change Tr _ _ _ _ _ _ (parT _ _ [lnV x]) (_ :: _ :: _ :: _ :: _ :: _ :: Fr) _
  unfold lnV
  (apply tr_v tk; (conv => whnf); (repeat ((first | (apply VNew.mk; intro g hg) | (apply VSt.mk; (focus ((repeat (first | (with_reducible exact At.here) | (with_reducible apply At.there))); done)); exact rfl)); (conv => whnf))))
  refine ⟨rfl, rfl, [.blk g 61 [.int .i64 x.st, .int .i64 x.ck, .int .i64 x.kd, .int .i64 x.th, .int .i64 x.vl], .own (.slice Bx pre.length cx) 61 5 pre.length (lnC pre), .blk g10 24 [.slice Bx pre.length cx], .blk gd 93 [.slice A1 l1.length c1], .blk g4 24 [.slice none 0 0], .blk p2 22 [.slice A2 l2.length c2], .blk p1 79 [.pointer (some ⟨gd, 0, none⟩)]], List.Sublist.refl _, fun Fr' => ?_⟩
  change Tr _ _ _ _ _ _ _ (_ :: _ :: _ :: _ :: _ :: _ :: _ :: Fr') _
  generalize hn : pre.length = n at *
  (apply tr_v tk; (conv => whnf); (repeat ((first | (apply VStop.mk; refine ot_appendS (sz := 5) (sl := n) (A'v := fun v' => _ :: _ :: .own v' 61 5 (n + 1) (lnC pre ++ [.int .i64 x.st, .int .i64 x.ck, .int .i64 x.kd, .int .i64 x.th, .int .i64 x.vl]) :: _) tk rfl rfl rfl rfl rfl rfl rfl rfl rfl rfl (by decide) rfl (cells_blk_all (.head _)) rfl rfl (fun v' => .there (.there .here)) (by omega) (by decide) (fun B3 c3 => ?_); apply ot_v tk) | (apply VLd.mk; (focus ((repeat (first | ((with_reducible apply ld_blk); exact rfl) | (with_reducible apply ld_skip))); done))) | (apply VLdN.mk; (focus ((repeat (first | (with_reducible apply ldn_blk) | (with_reducible apply ldn_skip))); done)); exact rfl) | (apply VNew.mk; intro g hg) | (apply VSt.mk; (focus ((repeat (first | (with_reducible exact At.here) | (with_reducible apply At.there))); done)); exact rfl)); (conv => whnf))))
  exact ⟨rfl, _, .cons _ (.cons _ (List.Sublist.refl _)), B3, c3, by rw [hs2, hs3]⟩
 ·rintro D R ⟨Bx, cx, rfl⟩
  ((conv => whnf); (repeat ((first | (apply VLd.mk; (focus ((repeat (first | ((with_reducible apply ld_blk); exact rfl) | (with_reducible apply ld_skip))); done))) | apply VBr.t | (apply v_t; omega) | (apply VSt.mk; (focus ((repeat (first | (with_reducible exact At.here) | (with_reducible apply At.there))); done)); exact rfl)); (conv => whnf))))
  (apply VRet.mk)
  exact ⟨.inr rfl, D, _, rfl, .here, (ret2 (.inr rfl) rfl (by exact rv_row tk rfl rfl rfl (by first | exact cells_blk_all (by (repeat (first | exact List.Mem.head _ | assumption | refine List.Mem.tail _ ?_))) | exact cells_row0 (by (repeat (first | exact List.Mem.head _ | assumption | refine List.Mem.tail _ ?_)))) rfl) (by exact rv_tmp rfl) fun w h => ⟨rfl, h.base⟩).2⟩
 ·exact fun _ _ _ _ h => h.elim
set_option maxHeartbeats 1000000 in
set_option maxRecDepth 20000 in
theorem merge_ok (hV1 : Valid l1) (hV2 : Valid l2) (hx : l1.find? (clashB l2) = none) (h20 : (togL l1 l2).length ≤ 20) : Calls Tryz.prog 26 #[.agg #[.slice A1 l1.length c1], .agg #[.slice A2 l2.length c2]] w fun e w' => ∃ x : SlX, e = .returned (.tuple #[.agg #[.slice x.1 (togL l1 l2).length x.2], .int .i64 0]) ∧ True ∧ St w ([] ++ [.own (.slice x.1 (togL l1 l2).length x.2) 61 5 (togL l1 l2).length (lnC (togL l1 l2))]) w' := by
 have k1 := fun w1 h h' => clash_any A1 c1 l1 A2 c2 l2 w1 h h' hV1 hV2
 rw [hx] at k1
 unfold clashV at k1
 dsimp only at k1
 rw [tog_mrg hV1 hV2 hx] at *
 have hlen := mrg_len _ l1 l2 (Nat.le_refl _)
 have hb1 := hV1.len
 have hb2 := hV2.len
 have hit := fun p1 p2 gd => together_it p1 p2 gd A1 c1 l1 A2 c2 l2 (by omega) (by omega)
 generalize mrg l1 l2 = O at *
 refine fn_v tk (n := 47) (A := []) Tryz.func26 rfl rfl (Nat.le_of_ble_eq_true rfl) (St.nil (Below.refl _ _)) ?_
 ((conv => whnf); (repeat ((first | (apply VCall.q; kernel_rfl; (focus (intro w1 hs; first | with_reducible apply k1 w1 (hs.book h1) (hs.book h2)))) | (apply VLd.mk; (focus ((repeat (first | ((with_reducible apply ld_blk); exact rfl) | (with_reducible apply ld_skip))); done))) | (apply VLdN.mk; (focus ((repeat (first | (with_reducible apply ldn_blk) | (with_reducible apply ldn_skip))); done)); exact rfl) | apply VBr.t | apply VBr.f | (apply v_t; omega) | (apply v_f; omega) | (apply VNew.mk; intro g hg)); (conv => whnf))); apply VCall.stop)
 rename_i g2 _ g3 _ g4 _ gd _
 revert g hg
 intro g10 hg10
 refine ot_callT (X := Nat × Nat) (us := []) (vs := []) (fun x => .func (.func 86) #[] #[.pointer (some ⟨x.1, 0, none⟩), .pointer (some ⟨x.2, 0, none⟩)]) (fun x => []) (fun x => [.blk x.2 22 [.slice A2 l2.length c2], .blk x.1 79 [.pointer (some ⟨gd, 0, none⟩)]]) _ (fun x c hc => blk2_mut hc) (by decide) rfl rfl rfl rfl (by kernel_rfl) (evl_of rfl) rfl (fun w1 hs => together66_any gd A2 c2 l2.length w1) ?_
 rintro ⟨p1, p2⟩ _
 (dsimp only [List.cons_append, List.nil_append]; apply ot_v tk)
 ((conv => whnf); apply VStop.mk)
 refine tr_own_nil 61 5 ?_
 refine tr_weak (l := [(4, _), (10, _), (33, _)]) (B := [.own (.slice none 0 0) 61 5 0 [], .blk g10 24 [.slice none 0 0], .blk gd 93 [.slice A1 l1.length c1], .blk g4 24 [.slice none 0 0], .blk p2 22 [.slice A2 l2.length c2], .blk p1 79 [.pointer (some ⟨gd, 0, none⟩)]]) ⟨rfl, rfl, rfl, trivial⟩ (by (repeat (first | exact sl0 _ | exact sl1 _ | refine sl2 _ ?_ | refine sl3 _ ?_))) ?_
 refine tr_rangeFunc rfl (by kernel_rfl) (hit p1 p2 gd) (fun _ => rfl) (by decide)
  (fun pre R => ∃ (Bx : Option Addr) (cx : Nat), R = [.own (.slice Bx pre.length cx) 61 5 pre.length (lnC pre), .blk g10 24 [.slice Bx pre.length cx], .blk gd 93 [.slice A1 l1.length c1], .blk g4 24 [.slice none 0 0], .blk p2 22 [.slice A2 l2.length c2], .blk p1 79 [.pointer (some ⟨gd, 0, none⟩)]])
  (fun _ _ _ => False) ?_ ⟨none, 0, rfl⟩ ?_ ?_ ?_
 ·rintro pre R ⟨Bx, cx, rfl⟩ F
  exact ⟨h1, h2, fun W hS => ⟨by rw [(hS.all (.blk p1 79 _) (by (repeat (first | exact List.Mem.head _ | assumption | refine List.Mem.tail _ ?_)))).2.cell]; rfl, by rw [(hS.all (.blk gd 93 _) (by (repeat (first | exact List.Mem.head _ | assumption | refine List.Mem.tail _ ?_)))).2.cell]; rfl, by rw [(hS.all (.blk p2 22 _) (by (repeat (first | exact List.Mem.head _ | assumption | refine List.Mem.tail _ ?_)))).2.cell]; rfl⟩⟩
 ·rintro l pre x R Fr ⟨rest, hpre⟩ ⟨Bx, cx, rfl⟩
  have hpl : pre.length ≤ 40 := by have := congrArg List.length hpre; simp at this; omega
  have hs2 : (pre ++ [x]).length = pre.length + 1 := by rw [List.length_append]; rfl
  have hs3 := lnC_snoc pre x
  unfold lnL at hs3
  change Tr _ _ _ _ _ _ (parT _ _ [lnV x]) (_ :: _ :: _ :: _ :: _ :: _ :: Fr) _
  unfold lnV
  (apply tr_v tk; (conv => whnf); (repeat ((first | (apply VNew.mk; intro g hg) | (apply VSt.mk; (focus ((repeat (first | (with_reducible exact At.here) | (with_reducible apply At.there))); done)); exact rfl)); (conv => whnf))))
  refine ⟨rfl, rfl, [.blk g 61 [.int .i64 x.st, .int .i64 x.ck, .int .i64 x.kd, .int .i64 x.th, .int .i64 x.vl], .own (.slice Bx pre.length cx) 61 5 pre.length (lnC pre), .blk g10 24 [.slice Bx pre.length cx], .blk gd 93 [.slice A1 l1.length c1], .blk g4 24 [.slice none 0 0], .blk p2 22 [.slice A2 l2.length c2], .blk p1 79 [.pointer (some ⟨gd, 0, none⟩)]], List.Sublist.refl _, fun Fr' => ?_⟩
  change Tr _ _ _ _ _ _ _ (_ :: _ :: _ :: _ :: _ :: _ :: _ :: Fr') _
  generalize hn : pre.length = n at *
  (apply tr_v tk; (conv => whnf); (repeat ((first | (apply VStop.mk; refine ot_appendS (sz := 5) (sl := n) (A'v := fun v' => _ :: _ :: .own v' 61 5 (n + 1) (lnC pre ++ [.int .i64 x.st, .int .i64 x.ck, .int .i64 x.kd, .int .i64 x.th, .int .i64 x.vl]) :: _) tk rfl rfl rfl rfl rfl rfl rfl rfl rfl rfl (by decide) rfl (cells_blk_all (.head _)) rfl rfl (fun v' => .there (.there .here)) (by omega) (by decide) (fun B3 c3 => ?_); apply ot_v tk) | (apply VLd.mk; (focus ((repeat (first | ((with_reducible apply ld_blk); exact rfl) | (with_reducible apply ld_skip))); done))) | (apply VLdN.mk; (focus ((repeat (first | (with_reducible apply ldn_blk) | (with_reducible apply ldn_skip))); done)); exact rfl) | (apply VNew.mk; intro g hg) | (apply VSt.mk; (focus ((repeat (first | (with_reducible exact At.here) | (with_reducible apply At.there))); done)); exact rfl)); (conv => whnf))))
  exact ⟨rfl, _, .cons _ (.cons _ (List.Sublist.refl _)), B3, c3, by rw [hs2, hs3]⟩
 ·rintro D R ⟨Bx, cx, rfl⟩
  ((conv => whnf); (repeat ((first | (apply VLd.mk; (focus ((repeat (first | ((with_reducible apply ld_blk); exact rfl) | (with_reducible apply ld_skip))); done))) | (apply VLdN.mk; (focus ((repeat (first | (with_reducible apply ldn_blk) | (with_reducible apply ldn_skip))); done)); exact rfl) | apply VBr.f | (apply v_f; omega) | (apply VSt.mk; (focus ((repeat (first | (with_reducible exact At.here) | (with_reducible apply At.there))); done)); exact rfl)); (conv => whnf))))
  (apply VRet.mk)
  exact ⟨.inr rfl, D, _, rfl, .here, (ret2 (.inr rfl) rfl (by exact rv_row tk rfl rfl rfl (by first | exact cells_blk_all (by (repeat (first | exact List.Mem.head _ | assumption | refine List.Mem.tail _ ?_))) | exact cells_row0 (by (repeat (first | exact List.Mem.head _ | assumption | refine List.Mem.tail _ ?_)))) rfl) (by exact rv_tmp rfl) fun w hs => ⟨(Bx, cx), rfl, trivial, hs.sub (List.singleton_sublist.2 (by (repeat (first | exact List.Mem.head _ | assumption | refine List.Mem.tail _ ?_))))⟩).2⟩
 ·exact fun _ _ _ _ h => h.elim
end
end Go.Proofs.YtojeeindlijgkaaGreatDoor
