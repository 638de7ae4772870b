/- open: the desks of books: lemmas for the rows of this seat. No conditions. -/
import Derived.Laws.StructEq
import Derived.Test.YtojeeindlijgkaaGreatDoorK7
set_option linter.all false
namespace Go.Proofs.YtojeeindlijgkaaGreatDoor
open Go.RowKit
/-! ## open: the desks of books -/
theorem bk_cell {w : World} {g n : Nat} {vs : List Value} (h : Reads w w.heap.size 1 (some ⟨g, 0, none⟩) n vs) (hn : 0 < n) (j : Nat) {v : Value} (hv : vs[j]? = some v) (A : List Chunk) : CellsAt w A g (0 + j * 1) [v] := by
 obtain ⟨b', o', he, hb, h1⟩ := h.2 hn
 cases he
 intro w' hs i u hu
 cases i with
 | succ i => simp at hu
 | zero =>
  obtain rfl : v = u := by simpa using hu
  rw [hs.base.cell (p := ⟨g, 0 + j * 1 + 0, none⟩) hb]
  simpa using h1 j v hv
structure OpX where
 B : Option Addr
 c : Nat
 d1 : Nat
 d2 : Nat
theorem two_mut {v : Value} {t sz m g t2 : Nat} {xs ys : List Value} {d : Chunk} (h : d ∈ [.blk g t2 ys, Chunk.own v t sz m xs]) : d.mut = true := by
 rcases List.mem_cons.1 h with rfl | h
 ·rfl
 ·rw [List.mem_singleton.1 h]; rfl
theorem three_mut {v : Value} {t sz m g t2 g3 t3 : Nat} {xs ys zs : List Value} {d : Chunk} (h : d ∈ [.blk g t2 ys, .blk g3 t3 zs, Chunk.own v t sz m xs]) : d.mut = true := by
 rcases List.mem_cons.1 h with rfl | h
 ·rfl
 rcases List.mem_cons.1 h with rfl | h
 ·rfl
 ·rw [List.mem_singleton.1 h]; rfl
set_option maxRecDepth 20000 in
theorem open1_ok (g0 : Nat) (A1 : Option Addr) (c1 : Nat) (l1 : List Ln) (w : World) (hg : Reads w w.heap.size 1 (some ⟨g0, 0, none⟩) 1 [.slice A1 l1.length c1]) (h1 : BookR w A1 l1) (hm1 : l1.length ≤ maxLen) (z1 : chkBook l1 = 0) : Calls Tryz.prog 54 #[.slice (some ⟨g0, 0, none⟩) 1 1] w fun e w' => ∃ x : OpX, e = .returned (.tuple #[.slice x.B 1 x.c, .int .i64 0]) ∧ True ∧ St w ([] ++ [.blk x.d1 93 [.slice A1 l1.length c1], .own (.slice x.B 1 x.c) 79 1 1 [.pointer (some ⟨x.d1, 0, none⟩)]]) w' := by
 have b1 := fun A => bk_cell hg (by omega) 0 rfl A
 have k1 := fun w1 h => checkBook_any A1 c1 l1 w1 h hm1
 clear hg
 rw [z1] at k1
 refine fn_v tk (n := 27) (A := []) Tryz.func54 rfl rfl (Nat.le_of_ble_eq_true rfl) (St.nil (Below.refl _ _)) ?_
 ((conv => whnf); apply VStop.mk)
 refine tr_own_nil 79 1 ?_
 refine v_loop (fun gm ds ts A => ds = [] ∧ ∃ (B : Option Addr) (c d1 d2 : Nat), (gm = 1 ∧ A = [.own (.slice B 0 c) 79 1 0 []] ∧ ts = [(4, .slice B 0 c), (8, .slice (some ⟨g0, 0, none⟩) 1 1), (9, .int .i64 1), (10, .int .i64 0)]) ∨ (gm = 0 ∧ A = [.blk d1 93 [.slice A1 l1.length c1], .own (.slice B 1 c) 79 1 1 [.pointer (some ⟨d1, 0, none⟩)]] ∧ ts = [(4, .slice B 1 c), (8, .slice (some ⟨g0, 0, none⟩) 1 1), (9, .int .i64 1), (10, .int .i64 1)])) 1 (l := [(4, _), (8, _), (9, _), (10, _)]) (B := _) ?_ (List.Sublist.refl _) ⟨rfl, none, 0, 0, 0, .inl ⟨rfl, rfl, rfl⟩⟩ ?_
 ·exact ⟨rfl, rfl, rfl, rfl, trivial⟩
 rintro gm ds ts A ⟨rfl, B, c, d1, d2, ⟨rfl, rfl, rfl⟩ | ⟨rfl, rfl, rfl⟩⟩
 ·(apply tr_v tk; (conv => whnf); (repeat ((first | ((first | apply VStop.mk | apply VCall.stop); (rename_i ga _ gd _; refine ot_appendS (sz := 1) (sl := 0) (A'v := fun v' => _ :: _ :: _ :: .own v' 79 1 (0 + 1) ([] ++ [.pointer (some ⟨gd, 0, none⟩)]) :: _) tk rfl rfl rfl rfl rfl rfl rfl rfl rfl rfl (by decide) rfl (cells_blk_all (.head _)) rfl rfl (fun v' => .there (.there (.there (.here)))) (by omega) (by decide) (fun B3 c3 => ?_)); apply ot_v tk) | (apply VLdN.mk; exact b1 _; exact rfl) | (apply VIx.mk (j := 0); exact rfl; omega) | (apply VCall.q; kernel_rfl; (focus (intro w1 hs; first | with_reducible apply k1 w1 (hs.book h1)))) | (apply VLdN.mk; (focus ((repeat (first | (with_reducible apply ldn_blk) | (with_reducible apply ldn_skip))); done)); exact rfl) | (apply VRng.mk; omega) | apply VBr.t | apply VBr.f | (apply v_t; omega) | (apply v_f; omega) | (apply VNew.mk; intro g hg) | (apply VSt.mk; (focus ((repeat (first | (with_reducible exact At.here) | (with_reducible apply At.there))); done)); exact rfl)); (conv => whnf))))
  exact v_rnd 0 (by omega) (l := [(4, _), (8, _), (9, _), (10, _)]) (B := _) ⟨rfl, rfl, rfl, rfl, trivial⟩ (.cons _ (.cons_cons _ (.cons _ (List.Sublist.refl _)))) ⟨rfl, B3, c3, gd, 0, .inr ⟨rfl, rfl, rfl⟩⟩
 ·(apply tr_v tk; (conv => whnf); (repeat ((first | apply VBr.f | (apply v_f; omega)); (conv => whnf))))
  (apply VRet.mk)
  refine ret2 (by first | exact .inl rfl | exact .inr rfl) rfl (by exact rv_tmp rfl) (by exact rv_tmp rfl) ?_
  exact fun w hs => ⟨⟨B, c, d1, d2⟩, rfl, trivial, hs⟩
set_option maxRecDepth 20000 in
theorem open1_err (g0 : Nat) (A1 : Option Addr) (c1 : Nat) (l1 : List Ln) (w : World) (hg : Reads w w.heap.size 1 (some ⟨g0, 0, none⟩) 1 [.slice A1 l1.length c1]) (h1 : BookR w A1 l1) (hm1 : l1.length ≤ maxLen) (hE : chkBook l1 ≠ 0) : Calls Tryz.prog 54 #[.slice (some ⟨g0, 0, none⟩) 1 1] w fun e w' => e = .returned (.tuple #[.slice none 0 0, .int .i64 (chkBook l1)]) ∧ Below w.heap.size w w' := by
 have b1 := fun A => bk_cell hg (by omega) 0 rfl A
 have k1 := fun w1 h => checkBook_any A1 c1 l1 w1 h hm1
 clear hg
 generalize chkBook l1 = z1 at *
 refine fn_v tk (n := 27) (A := []) Tryz.func54 rfl rfl (Nat.le_of_ble_eq_true rfl) (St.nil (Below.refl _ _)) ?_
 ((conv => whnf); apply VStop.mk)
 refine tr_own_nil 79 1 ?_
 refine v_loop (fun gm ds ts A => ds = [] ∧ ∃ (B : Option Addr) (c d1 d2 : Nat), (gm = 1 ∧ A = [.own (.slice B 0 c) 79 1 0 []] ∧ ts = [(4, .slice B 0 c), (8, .slice (some ⟨g0, 0, none⟩) 1 1), (9, .int .i64 1), (10, .int .i64 0)]) ∨ (gm = 0 ∧ z1 = 0 ∧ A = [.blk d1 93 [.slice A1 l1.length c1], .own (.slice B 1 c) 79 1 1 [.pointer (some ⟨d1, 0, none⟩)]] ∧ ts = [(4, .slice B 1 c), (8, .slice (some ⟨g0, 0, none⟩) 1 1), (9, .int .i64 1), (10, .int .i64 1)])) 1 (l := [(4, _), (8, _), (9, _), (10, _)]) (B := _) ?_ (List.Sublist.refl _) ⟨rfl, none, 0, 0, 0, .inl ⟨rfl, rfl, rfl⟩⟩ ?_
 ·exact ⟨rfl, rfl, rfl, rfl, trivial⟩
 rintro gm ds ts A ⟨rfl, B, c, d1, d2, ⟨rfl, rfl, rfl⟩ | ⟨rfl, hz1, rfl, rfl⟩⟩
 ·skip
  (apply tr_v tk; (conv => whnf); (repeat ((first | (apply VLdN.mk; exact b1 _; exact rfl) | (apply VIx.mk (j := 0); exact rfl; omega) | (apply VCall.q; kernel_rfl; (focus (intro w1 hs; first | with_reducible apply k1 w1 (hs.book h1)))) | (apply VLdN.mk; (focus ((repeat (first | (with_reducible apply ldn_blk) | (with_reducible apply ldn_skip))); done)); exact rfl) | apply VBr.t | (apply v_t; omega) | (apply VNew.mk; intro g hg) | (apply VSt.mk; (focus ((repeat (first | (with_reducible exact At.here) | (with_reducible apply At.there))); done)); exact rfl)); (conv => whnf))))
  (apply VRet.mk)
  refine ret2 (by first | exact .inl rfl | exact .inr rfl) rfl (by exact rv_tmp rfl) (by exact rv_tmp rfl) ?_
  exact fun w h => ⟨rfl, h.base⟩
 ·exact absurd hz1 hE
set_option maxRecDepth 20000 in
theorem open2_ok (g0 : Nat) (A1 : Option Addr) (c1 : Nat) (l1 : List Ln) (A2 : Option Addr) (c2 : Nat) (l2 : List Ln) (w : World) (hg : Reads w w.heap.size 1 (some ⟨g0, 0, none⟩) 2 [.slice A1 l1.length c1, .slice A2 l2.length c2]) (h1 : BookR w A1 l1) (h2 : BookR w A2 l2) (hm1 : l1.length ≤ maxLen) (hm2 : l2.length ≤ maxLen) (z1 : chkBook l1 = 0) (z2 : chkBook l2 = 0) : Calls Tryz.prog 54 #[.slice (some ⟨g0, 0, none⟩) 2 2] w fun e w' => ∃ x : OpX, e = .returned (.tuple #[.slice x.B 2 x.c, .int .i64 0]) ∧ True ∧ St w ([] ++ [.blk x.d2 93 [.slice A2 l2.length c2], .blk x.d1 93 [.slice A1 l1.length c1], .own (.slice x.B 2 x.c) 79 1 2 [.pointer (some ⟨x.d1, 0, none⟩), .pointer (some ⟨x.d2, 0, none⟩)]]) w' := by
 have b1 := fun A => bk_cell hg (by omega) 0 rfl A
 have b2 := fun A => bk_cell hg (by omega) 1 rfl A
 have k1 := fun w1 h => checkBook_any A1 c1 l1 w1 h hm1
 have k2 := fun w1 h => checkBook_any A2 c2 l2 w1 h hm2
 clear hg
 rw [z1] at k1
 rw [z2] at k2
 refine fn_v tk (n := 27) (A := []) Tryz.func54 rfl rfl (Nat.le_of_ble_eq_true rfl) (St.nil (Below.refl _ _)) ?_
 ((conv => whnf); apply VStop.mk)
 refine tr_own_nil 79 1 ?_
 refine v_loop (fun gm ds ts A => ds = [] ∧ ∃ (B : Option Addr) (c d1 d2 : Nat), (gm = 2 ∧ A = [.own (.slice B 0 c) 79 1 0 []] ∧ ts = [(4, .slice B 0 c), (8, .slice (some ⟨g0, 0, none⟩) 2 2), (9, .int .i64 2), (10, .int .i64 0)]) ∨ (gm = 1 ∧ A = [.blk d1 93 [.slice A1 l1.length c1], .own (.slice B 1 c) 79 1 1 [.pointer (some ⟨d1, 0, none⟩)]] ∧ ts = [(4, .slice B 1 c), (8, .slice (some ⟨g0, 0, none⟩) 2 2), (9, .int .i64 2), (10, .int .i64 1)]) ∨ (gm = 0 ∧ A = [.blk d2 93 [.slice A2 l2.length c2], .blk d1 93 [.slice A1 l1.length c1], .own (.slice B 2 c) 79 1 2 [.pointer (some ⟨d1, 0, none⟩), .pointer (some ⟨d2, 0, none⟩)]] ∧ ts = [(4, .slice B 2 c), (8, .slice (some ⟨g0, 0, none⟩) 2 2), (9, .int .i64 2), (10, .int .i64 2)])) 2 (l := [(4, _), (8, _), (9, _), (10, _)]) (B := _) ?_ (List.Sublist.refl _) ⟨rfl, none, 0, 0, 0, .inl ⟨rfl, rfl, rfl⟩⟩ ?_
 ·exact ⟨rfl, rfl, rfl, rfl, trivial⟩
 rintro gm ds ts A ⟨rfl, B, c, d1, d2, ⟨rfl, rfl, rfl⟩ | ⟨rfl, rfl, rfl⟩ | ⟨rfl, rfl, rfl⟩⟩
 ·(apply tr_v tk; (conv => whnf); (repeat ((first | ((first | apply VStop.mk | apply VCall.stop); (rename_i ga _ gd _; refine ot_appendS (sz := 1) (sl := 0) (A'v := fun v' => _ :: _ :: _ :: .own v' 79 1 (0 + 1) ([] ++ [.pointer (some ⟨gd, 0, none⟩)]) :: _) tk rfl rfl rfl rfl rfl rfl rfl rfl rfl rfl (by decide) rfl (cells_blk_all (.head _)) rfl rfl (fun v' => .there (.there (.there (.here)))) (by omega) (by decide) (fun B3 c3 => ?_)); apply ot_v tk) | (apply VLdN.mk; exact b1 _; exact rfl) | (apply VIx.mk (j := 0); exact rfl; omega) | (apply VCall.q; kernel_rfl; (focus (intro w1 hs; first | with_reducible apply k1 w1 (hs.book h1)))) | (apply VLdN.mk; (focus ((repeat (first | (with_reducible apply ldn_blk) | (with_reducible apply ldn_skip))); done)); exact rfl) | (apply VRng.mk; omega) | apply VBr.t | apply VBr.f | (apply v_t; omega) | (apply v_f; omega) | (apply VNew.mk; intro g hg) | (apply VSt.mk; (focus ((repeat (first | (with_reducible exact At.here) | (with_reducible apply At.there))); done)); exact rfl)); (conv => whnf))))
  exact v_rnd 1 (by omega) (l := [(4, _), (8, _), (9, _), (10, _)]) (B := _) ⟨rfl, rfl, rfl, rfl, trivial⟩ (.cons _ (.cons_cons _ (.cons _ (List.Sublist.refl _)))) ⟨rfl, B3, c3, gd, 0, .inr (.inl ⟨rfl, rfl, rfl⟩)⟩
 ·(apply tr_v tk; (conv => whnf); (repeat ((first | ((first | apply VStop.mk | apply VCall.stop); (rename_i ga _ gd _; refine ot_appendS (sz := 1) (sl := 1) (A'v := fun v' => _ :: _ :: _ :: _ :: .own v' 79 1 (1 + 1) ([.pointer (some ⟨d1, 0, none⟩)] ++ [.pointer (some ⟨gd, 0, none⟩)]) :: _) tk rfl rfl rfl rfl rfl rfl rfl rfl rfl rfl (by decide) rfl (cells_blk_all (.head _)) rfl rfl (fun v' => .there (.there (.there (.there (.here))))) (by omega) (by decide) (fun B3 c3 => ?_)); apply ot_v tk) | (apply VLdN.mk; exact b2 _; exact rfl) | (apply VIx.mk (j := 1); exact rfl; omega) | (apply VCall.q; kernel_rfl; (focus (intro w1 hs; first | with_reducible apply k2 w1 (hs.book h2)))) | (apply VLdN.mk; (focus ((repeat (first | (with_reducible apply ldn_blk) | (with_reducible apply ldn_skip))); done)); exact rfl) | (apply VRng.mk; omega) | apply VBr.t | apply VBr.f | (apply v_t; omega) | (apply v_f; omega) | (apply VNew.mk; intro g hg) | (apply VSt.mk; (focus ((repeat (first | (with_reducible exact At.here) | (with_reducible apply At.there))); done)); exact rfl)); (conv => whnf))))
  exact v_rnd 0 (by omega) (l := [(4, _), (8, _), (9, _), (10, _)]) (B := _) ⟨rfl, rfl, rfl, rfl, trivial⟩ (.cons _ (.cons_cons _ (.cons _ (List.Sublist.refl _)))) ⟨rfl, B3, c3, d1, gd, .inr (.inr ⟨rfl, rfl, rfl⟩)⟩
 ·(apply tr_v tk; (conv => whnf); (repeat ((first | apply VBr.f | (apply v_f; omega)); (conv => whnf))))
  (apply VRet.mk)
  refine ret2 (by first | exact .inl rfl | exact .inr rfl) rfl (by exact rv_tmp rfl) (by exact rv_tmp rfl) ?_
  exact fun w hs => ⟨⟨B, c, d1, d2⟩, rfl, trivial, hs⟩
set_option maxRecDepth 20000 in
theorem open2_err (g0 : Nat) (A1 : Option Addr) (c1 : Nat) (l1 : List Ln) (A2 : Option Addr) (c2 : Nat) (l2 : List Ln) (w : World) (hg : Reads w w.heap.size 1 (some ⟨g0, 0, none⟩) 2 [.slice A1 l1.length c1, .slice A2 l2.length c2]) (h1 : BookR w A1 l1) (h2 : BookR w A2 l2) (hm1 : l1.length ≤ maxLen) (hm2 : l2.length ≤ maxLen) (hE : errTwo l1 l2 ≠ 0) : Calls Tryz.prog 54 #[.slice (some ⟨g0, 0, none⟩) 2 2] w fun e w' => e = .returned (.tuple #[.slice none 0 0, .int .i64 (errTwo l1 l2)]) ∧ Below w.heap.size w w' := by
 have b1 := fun A => bk_cell hg (by omega) 0 rfl A
 have b2 := fun A => bk_cell hg (by omega) 1 rfl A
 have k1 := fun w1 h => checkBook_any A1 c1 l1 w1 h hm1
 have k2 := fun w1 h => checkBook_any A2 c2 l2 w1 h hm2
 clear hg
 unfold errTwo at *
 generalize chkBook l1 = z1 at *
 generalize chkBook l2 = z2 at *
 refine fn_v tk (n := 27) (A := []) Tryz.func54 rfl rfl (Nat.le_of_ble_eq_true rfl) (St.nil (Below.refl _ _)) ?_
 ((conv => whnf); apply VStop.mk)
 refine tr_own_nil 79 1 ?_
 refine v_loop (fun gm ds ts A => ds = [] ∧ ∃ (B : Option Addr) (c d1 d2 : Nat), (gm = 2 ∧ A = [.own (.slice B 0 c) 79 1 0 []] ∧ ts = [(4, .slice B 0 c), (8, .slice (some ⟨g0, 0, none⟩) 2 2), (9, .int .i64 2), (10, .int .i64 0)]) ∨ (gm = 1 ∧ z1 = 0 ∧ A = [.blk d1 93 [.slice A1 l1.length c1], .own (.slice B 1 c) 79 1 1 [.pointer (some ⟨d1, 0, none⟩)]] ∧ ts = [(4, .slice B 1 c), (8, .slice (some ⟨g0, 0, none⟩) 2 2), (9, .int .i64 2), (10, .int .i64 1)]) ∨ (gm = 0 ∧ z1 = 0 ∧ z2 = 0 ∧ A = [.blk d2 93 [.slice A2 l2.length c2], .blk d1 93 [.slice A1 l1.length c1], .own (.slice B 2 c) 79 1 2 [.pointer (some ⟨d1, 0, none⟩), .pointer (some ⟨d2, 0, none⟩)]] ∧ ts = [(4, .slice B 2 c), (8, .slice (some ⟨g0, 0, none⟩) 2 2), (9, .int .i64 2), (10, .int .i64 2)])) 2 (l := [(4, _), (8, _), (9, _), (10, _)]) (B := _) ?_ (List.Sublist.refl _) ⟨rfl, none, 0, 0, 0, .inl ⟨rfl, rfl, rfl⟩⟩ ?_
 ·exact ⟨rfl, rfl, rfl, rfl, trivial⟩
 rintro gm ds ts A ⟨rfl, B, c, d1, d2, ⟨rfl, rfl, rfl⟩ | ⟨rfl, hz1, rfl, rfl⟩ | ⟨rfl, hz1, hz2, rfl, rfl⟩⟩
 ·by_cases e1 : z1 = 0
  rotate_left
  ·rw [if_pos e1]
   (apply tr_v tk; (conv => whnf); (repeat ((first | (apply VLdN.mk; exact b1 _; exact rfl) | (apply VIx.mk (j := 0); exact rfl; omega) | (apply VCall.q; kernel_rfl; (focus (intro w1 hs; first | with_reducible apply k1 w1 (hs.book h1)))) | (apply VLdN.mk; (focus ((repeat (first | (with_reducible apply ldn_blk) | (with_reducible apply ldn_skip))); done)); exact rfl) | apply VBr.t | (apply v_t; omega) | (apply VNew.mk; intro g hg) | (apply VSt.mk; (focus ((repeat (first | (with_reducible exact At.here) | (with_reducible apply At.there))); done)); exact rfl)); (conv => whnf))))
   (apply VRet.mk)
   refine ret2 (by first | exact .inl rfl | exact .inr rfl) rfl (by exact rv_tmp rfl) (by exact rv_tmp rfl) ?_
   exact fun w h => ⟨rfl, h.base⟩
  rw [e1] at k1
  (apply tr_v tk; (conv => whnf); (repeat ((first | ((first | apply VStop.mk | apply VCall.stop); (rename_i ga _ gd _; refine ot_appendS (sz := 1) (sl := 0) (A'v := fun v' => _ :: _ :: _ :: .own v' 79 1 (0 + 1) ([] ++ [.pointer (some ⟨gd, 0, none⟩)]) :: _) tk rfl rfl rfl rfl rfl rfl rfl rfl rfl rfl (by decide) rfl (cells_blk_all (.head _)) rfl rfl (fun v' => .there (.there (.there (.here)))) (by omega) (by decide) (fun B3 c3 => ?_)); apply ot_v tk) | (apply VLdN.mk; exact b1 _; exact rfl) | (apply VIx.mk (j := 0); exact rfl; omega) | (apply VCall.q; kernel_rfl; (focus (intro w1 hs; first | with_reducible apply k1 w1 (hs.book h1)))) | (apply VLdN.mk; (focus ((repeat (first | (with_reducible apply ldn_blk) | (with_reducible apply ldn_skip))); done)); exact rfl) | (apply VRng.mk; omega) | apply VBr.t | apply VBr.f | (apply v_t; omega) | (apply v_f; omega) | (apply VNew.mk; intro g hg) | (apply VSt.mk; (focus ((repeat (first | (with_reducible exact At.here) | (with_reducible apply At.there))); done)); exact rfl)); (conv => whnf))))
  exact v_rnd 1 (by omega) (l := [(4, _), (8, _), (9, _), (10, _)]) (B := _) ⟨rfl, rfl, rfl, rfl, trivial⟩ (.cons _ (.cons_cons _ (.cons _ (List.Sublist.refl _)))) ⟨rfl, B3, c3, gd, 0, .inr (.inl ⟨rfl, e1, rfl, rfl⟩)⟩
 ·rw [if_neg (by omega)] at *
  (apply tr_v tk; (conv => whnf); (repeat ((first | (apply VLdN.mk; exact b2 _; exact rfl) | (apply VIx.mk (j := 1); exact rfl; omega) | (apply VCall.q; kernel_rfl; (focus (intro w1 hs; first | with_reducible apply k2 w1 (hs.book h2)))) | (apply VLdN.mk; (focus ((repeat (first | (with_reducible apply ldn_blk) | (with_reducible apply ldn_skip))); done)); exact rfl) | apply VBr.t | (apply v_t; omega) | (apply VNew.mk; intro g hg) | (apply VSt.mk; (focus ((repeat (first | (with_reducible exact At.here) | (with_reducible apply At.there))); done)); exact rfl)); (conv => whnf))))
  (apply VRet.mk)
  refine ret2 (by first | exact .inl rfl | exact .inr rfl) rfl (by exact rv_tmp rfl) (by exact rv_tmp rfl) ?_
  exact fun w h => ⟨rfl, h.base⟩
 ·exact absurd hz2 (by rw [if_neg (by omega)] at hE; exact hE)
end Go.Proofs.YtojeeindlijgkaaGreatDoor
