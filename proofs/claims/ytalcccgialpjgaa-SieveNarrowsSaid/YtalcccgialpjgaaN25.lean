/- Narrow of the definition: lemmas for the rows of this seat. No conditions. -/
import Derived.Test.YtalcccgialpjgaaK22
import Derived.Test.YtalcccgialpjgaaN23
import Derived.Test.YtalcccgialpjgaaQ3
set_option linter.all false
namespace Go.Proofs.Ytalcccgialpjgaa
open Go.RowKit
/-! ## Narrow of the definition -/
section
variable (RA : Option Addr) (rc : Nat) (CA : Option Addr) (cc : Nat) (XA : Option Addr) (xc : Nat) (R C : List R2) (X : List (List R2)) (w : World) (hT : TabR w RA CA XA R C X)
include hT
set_option maxRecDepth 20000 in
theorem refNarrow_err (hF : FitT R C X) (hE : errT R C X ≠ 0) : Calls Try.prog 40 #[tabV RA rc CA cc XA xc R C X] w fun e w' => e = .returned (.tuple #[tabV none 0 none 0 none 0 [] [] [], .int .i64 (errT R C X)]) ∧ Below w.heap.size w w' := by
 have her := fun w1 (h : TabR w1 RA CA XA R C X) => error_any RA rc CA cc XA xc R C X w1 h hF
 unfold tabV at *
 generalize errT R C X = z at *
 refine fn_v tk (n := 69) (A := []) Try.func40 rfl rfl (Nat.le_of_ble_eq_true rfl) (St.nil (Below.refl _ _)) ?_
 ((try first | apply tr_v tk | apply ot_v tk); (conv => whnf); (repeat ((first | (apply VCall.q; kernel_rfl; (focus (intro w1 hs; first | with_reducible apply her w1 (hs.tab hT)))) | (apply VLdN.mk; (focus ((repeat (first | (with_reducible apply ldn_blk) | (with_reducible apply ldn_skip))); done)); exact rfl) | apply VBr.t | (apply v_t; omega) | (apply VNew.mk; intro g hg) | (apply VSt.mk; (focus ((repeat (first | (with_reducible exact At.here) | (with_reducible apply At.there))); done)); exact rfl)); (conv => whnf))); try (first | apply VStop.mk | apply VCall.stop))
 (apply VRet.mk)
 refine ret2 (by first | exact .inl rfl | exact .inr rfl) rfl (by exact rv_row tk rfl rfl rfl (by first | exact cells_blk_all (by (repeat (first | exact List.Mem.head _ | assumption | refine List.Mem.tail _ ?_))) | exact cells_row0 (by (repeat (first | exact List.Mem.head _ | assumption | refine List.Mem.tail _ ?_)))) rfl) (by exact rv_tmp rfl) ?_
 exact fun w h => ⟨rfl, h.base⟩
set_option maxHeartbeats 2000000 in
set_option maxRecDepth 20000 in
theorem refNarrow_ok (hV : Valid R C X) (hH : HasT R C X) : Calls Try.prog 40 #[tabV RA rc CA cc XA xc R C X] w fun e w' => ∃ x : TabX, e = .returned (.tuple #[tabX x (nrR R C X R.length) (nrC R C X C.length) (nrX R C X R.length), .int .i64 0]) ∧ x.xs.length = (nrX R C X R.length).length ∧ St w (tabCh (nrR R C X R.length) (nrC R C X C.length) (nrX R C X R.length) x) w' := by
 have her := fun w1 (h : TabR w1 RA CA XA R C X) => error_any RA rc CA cc XA xc R C X w1 h hV.fit
 rw [errT_ok hV hH] at her
 have hro := fun w1 (h : TabR w1 RA CA XA R C X) => rowOf_any RA rc CA cc XA xc R C X w1 h hV hH
 have hce := fun w1 (h : TabR w1 RA CA XA R C X) => cellOf_any RA rc CA cc XA xc R C X w1 h hV hH
 have htu := fun w1 (h : TabR w1 RA CA XA R C X) => turned_any RA rc CA cc XA xc R C X w1 h hV
 have hn := hV.r1
 have hn4 := hV.r4
 have hm := hV.c1
 have hm4 := hV.c4
 have hxl := hV.x
 unfold tabV at *
 refine fn_v tk (n := 69) (A := []) Try.func40 rfl rfl (Nat.le_of_ble_eq_true rfl) (St.nil (Below.refl _ _)) ?_
 ((try first | apply tr_v tk | apply ot_v tk); (conv => whnf); (repeat ((first | (apply VCall.q; kernel_rfl; (focus (intro w1 hs; first | with_reducible apply her w1 (hs.tab hT)))) | (apply VLdN.mk; (focus ((repeat (first | (with_reducible apply ldn_blk) | (with_reducible apply ldn_skip))); done)); exact rfl) | apply VBr.f | (apply v_f; omega) | (apply VNew.mk; intro g hg)); (conv => whnf))); try (first | apply VStop.mk | apply VCall.stop))
 revert g hg
 intro g4 hg4
 revert g hg
 intro g2 hg2
 revert g hg
 intro g1 hg1
 refine tr_own_nil 22 1 ?_
 refine tr_own_nil 37 2 ?_
 refine v_loop (fun gm ds ts A => ds = [] ∧ ∃ (k : Nat) (Br : Option Addr) (cr : Nat) (Bx : Option Addr) (cx : Nat) (xs : List NsX), k + gm = R.length ∧ xs.length = k ∧
   A.Perm (.own (.slice Br k cr) 37 2 k (rgC (nrR R C X k)) :: .own (.slice Bx k cx) 22 1 k (nsVs xs (nestR (nrX R C X k))) :: .blk g4 25 [.slice Br k cr, .slice none 0 0, .slice Bx k cx] :: .blk g2 25 [.slice none 0 0, .slice none 0 0, .slice none 0 0] :: .blk g1 25 [.slice RA R.length rc, .slice CA C.length cc, .slice XA X.length xc] :: nsCh 37 2 xs (nestR (nrX R C X k))) ∧
   ts = [(1, .pointer (some ⟨g1, 0, none⟩)), (2, .pointer (some ⟨g2, 0, none⟩)), (4, .pointer (some ⟨g4, 0, none⟩)), (5, .int .i64 (k : Int))]) R.length
   (l := [(1, _), (2, _), (4, _), (5, _)]) (B := _) ?_ (List.Sublist.refl _) ⟨rfl, 0, none, 0, none, 0, [], by omega, rfl, .refl _, rfl⟩ ?_
 ·exact ⟨rfl, rfl, rfl, rfl, trivial⟩
 rintro gm ds ts A ⟨rfl, k, Br, cr, Bx, cx, xs, hk, hxs, hA, rfl⟩
 refine tr_perm hA ?_
 clear hA A
 by_cases hlt : k < R.length
 ·have h83 := fun w1 h => hro w1 h k hlt
  have hst := congrArg rgC (nrR_step R C X k)
  rw [rgC_append] at hst
  change rgC (nrR R C X (k + 1)) = rgC (nrR R C X k) ++ [.int .i64 (rowR R C X k).1, .int .i64 (rowR R C X k).2] at hst
  generalize rowR R C X k = r at h83 hst
  ((try first | apply tr_v tk | apply ot_v tk); (conv => whnf); (repeat ((first | ((first | apply VStop.mk | apply VCall.stop); (first | refine tr_region_draw (id := 7) (by kernel_rfl) [0, 1, 2, 3, 4, 5, 6, 7, 8] [.rd, .rd, .rd, .rd, .cr, .cr, .wr, .rd, .wr] rfl (by kernel_rfl) ?_ | (refine ot_appendS (sz := 2) (sl := k) (xs := rgC (nrR R C X k)) (news := [.int .i64 r.1, .int .i64 r.2]) (A'v := fun v' => _ :: .own v' 37 2 (k + 1) _ :: _) tk rfl rfl rfl rfl rfl rfl rfl rfl rfl rfl (by decide) rfl (cells_blk_all (.head _)) rfl rfl (fun v' => .there .here) (by omega) (by decide) (fun Bn cn => ?_))); try first | apply ot_v tk | apply tr_v tk) | (apply VCall.q; kernel_rfl; (focus (intro w1 hs; first | with_reducible apply h83 w1 (hs.tab hT)))) | (apply VLd.mk; (focus ((repeat (first | ((with_reducible apply ld_blk); exact rfl) | (with_reducible apply ld_skip))); done))) | (apply VLdN.mk; (focus ((repeat (first | (with_reducible apply ldn_blk) | (with_reducible apply ldn_skip))); done)); exact rfl) | apply VBr.t | (apply v_t; omega) | (apply VNew.mk; intro g hg) | (apply VSt.mk; (focus ((repeat (first | (with_reducible exact At.here) | (with_reducible apply At.there))); done)); exact rfl)); (conv => whnf))); try (first | apply VStop.mk | apply VCall.stop))
  rw [← hst]
  refine tr_own_nil 37 2 ?_
  refine v_loop (fun gm2 ds ts A => ds = [] ∧ ∃ (j : Nat) (Bl : Option Addr) (cl : Nat), j + gm2 = C.length ∧
    A = .own (.slice Bl j cl) 37 2 j (rgC (nrL R C X k j)) :: .own (.slice Bn (k + 1) cn) 37 2 (k + 1) (rgC (nrR R C X (k + 1))) :: .own (.slice Bx k cx) 22 1 k (nsVs xs (nestR (nrX R C X k))) :: .blk g4 25 [.slice Bn (k + 1) cn, .slice none 0 0, .slice Bx k cx] :: .blk g2 25 [.slice none 0 0, .slice none 0 0, .slice none 0 0] :: .blk g1 25 [.slice RA R.length rc, .slice CA C.length cc, .slice XA X.length xc] :: nsCh 37 2 xs (nestR (nrX R C X k)) ∧
    ts = [(1, .pointer (some ⟨g1, 0, none⟩)), (2, .pointer (some ⟨g2, 0, none⟩)), (4, .pointer (some ⟨g4, 0, none⟩)), (5, .int .i64 (k : Int)), (6, .slice Bl j cl), (7, .int .i64 (j : Int))]) C.length
   (l := [(1, _), (2, _), (4, _), (5, _), (6, _), (7, _)]) (B := _) ?_ (.cons_cons _ (.cons _ (List.Sublist.refl _))) ⟨rfl, 0, none, 0, by omega, rfl, rfl⟩ ?_
  ·exact ⟨rfl, rfl, rfl, rfl, rfl, rfl, trivial⟩
  rintro gm2 ds ts A ⟨rfl, j, Bl, cl, hj, rfl, rfl⟩
  by_cases hlt2 : j < C.length
  ·have h74 := fun w1 h => hce w1 h k j hlt hlt2
   have hst2 := congrArg rgC (show nrL R C X k (j + 1) = nrL R C X k j ++ [cellR R C X k j] from map_range_step _ j)
   rw [rgC_append] at hst2
   change rgC (nrL R C X k (j + 1)) = rgC (nrL R C X k j) ++ [.int .i64 (cellR R C X k j).1, .int .i64 (cellR R C X k j).2] at hst2
   generalize cellR R C X k j = q at h74 hst2
   ((try first | apply tr_v tk | apply ot_v tk); (conv => whnf); (repeat ((first | ((first | apply VStop.mk | apply VCall.stop); (first | (refine ot_appendS (sz := 2) (sl := j) (xs := rgC (nrL R C X k j)) (news := [.int .i64 q.1, .int .i64 q.2]) (A'v := fun v' => _ :: .own v' 37 2 (j + 1) _ :: _) tk rfl rfl rfl rfl rfl rfl rfl rfl rfl rfl (by decide) rfl (cells_blk_all (.head _)) rfl rfl (fun v' => .there .here) (by omega) (by decide) (fun Bm cm => ?_))); try first | apply ot_v tk | apply tr_v tk) | (apply VCall.q; kernel_rfl; (focus (intro w1 hs; first | with_reducible apply h74 w1 (hs.tab hT)))) | (apply VLd.mk; (focus ((repeat (first | ((with_reducible apply ld_blk); exact rfl) | (with_reducible apply ld_skip))); done))) | (apply VLdN.mk; (focus ((repeat (first | (with_reducible apply ldn_blk) | (with_reducible apply ldn_skip))); done)); exact rfl) | (apply VRng.mk; omega) | apply VBr.t | (apply v_t; omega) | (apply VNew.mk; intro g hg)); (conv => whnf))); try (first | apply VStop.mk | apply VCall.stop))
   rw [← hst2]
   exact v_rnd (gm2 - 1) (by omega) (l := [(1, _), (2, _), (4, _), (5, _), (6, _), (7, _)]) (B := _) ⟨rfl, rfl, rfl, rfl, rfl, rfl, trivial⟩ (.cons _ (List.Sublist.refl _)) ⟨rfl, j + 1, Bm, cm, by omega, rfl, rfl⟩
  obtain rfl : j = C.length := by omega
  have e1 := nrX_step R C X k
  have e2 := congrArg nestR e1
  rw [nestR_snoc, nrL_len] at e2
  have hxn : xs.length = (nestR (nrX R C X k)).length := by rw [nestR_length, nrX_len]; exact hxs
  have e3 := nsVs_snoc (xs := xs) (S := nestR (nrX R C X k)) (x := (Bl, cl)) (s := (C.length, rgC (nrL R C X k C.length))) hxn
  have e4 := nsCh_snoc (e := 37) (sz := 2) (xs := xs) (S := nestR (nrX R C X k)) (x := (Bl, cl)) (s := (C.length, rgC (nrL R C X k C.length))) hxn
  rw [← e2] at e3 e4
  ((try first | apply tr_v tk | apply ot_v tk); (conv => whnf); (repeat ((first | ((first | apply VStop.mk | apply VCall.stop); (first | (refine ot_appendS (sz := 1) (sl := k) (xs := nsVs xs (nestR (nrX R C X k))) (news := [.slice Bl C.length cl]) (A'v := fun v' => _ :: _ :: _ :: .own v' 22 1 (k + 1) _ :: _) tk rfl rfl rfl rfl rfl rfl rfl rfl rfl rfl (by decide) rfl (cells_blk_all (.head _)) rfl rfl (fun v' => .there (.there (.there .here))) (by omega) (by decide) (fun Bm cm => ?_))); try first | apply ot_v tk | apply tr_v tk) | (apply VLd.mk; (focus ((repeat (first | ((with_reducible apply ld_blk); exact rfl) | (with_reducible apply ld_skip))); done))) | (apply VRng.mk; omega) | apply VBr.f | (apply v_f; omega) | (apply VNew.mk; intro g hg) | (apply VSt.mk; (focus ((repeat (first | (with_reducible exact At.here) | (with_reducible apply At.there))); done)); exact rfl)); (conv => whnf))); try (first | apply VStop.mk | apply VCall.stop))
  exact v_rnd (gm - 1) (by omega) (l := [(1, _), (2, _), (4, _), (5, _)]) (B := _) ⟨rfl, rfl, rfl, rfl, trivial⟩ (.cons _ (List.Sublist.refl _)) ⟨rfl, k + 1, Bn, cn, Bm, cm, xs ++ [(Bl, cl)], by omega, by rw [List.length_append, hxs]; rfl, by rw [e4, e3]; exact (List.perm_append_singleton _ (_ :: _ :: _ :: _ :: _ :: _)).symm, rfl⟩
 obtain rfl : k = R.length := by omega
 clear hlt hk
 ((try first | apply tr_v tk | apply ot_v tk); (conv => whnf); (repeat ((first | (apply VLd.mk; (focus ((repeat (first | ((with_reducible apply ld_blk); exact rfl) | (with_reducible apply ld_skip))); done))) | (apply VLdN.mk; (focus ((repeat (first | (with_reducible apply ldn_blk) | (with_reducible apply ldn_skip))); done)); exact rfl) | apply VBr.f | (apply v_f; omega)); (conv => whnf))); try (first | apply VStop.mk | apply VCall.stop))
 refine ot_callT (X := TabX) (us := []) (vs := []) (fun x => tabX x C R (turnX R.length C.length X)) (fun x => []) (fun x => tabCh C R (turnX R.length C.length X) x) _ (fun x c hc => tabCh_mut (x := x) c hc) (by decide) rfl rfl rfl rfl (by kernel_rfl) (evl_of rfl) rfl (fun w1 hs => htu w1 (hs.tab hT)) ?_
 intro x hx
 unfold tabX tabV at *
 (dsimp only [List.cons_append, List.nil_append]; apply ot_v tk)
 ((try first | apply tr_v tk | apply ot_v tk); (conv => whnf); (repeat ((first | (apply VNew.mk; intro g hg) | (apply VSt.mk; (focus ((repeat (first | (with_reducible exact At.here) | (with_reducible apply At.there))); done)); exact rfl)); (conv => whnf))); try (first | apply VStop.mk | apply VCall.stop))
 revert g hg
 intro g8 hg8
 refine tr_own_nil 37 2 ?_
 refine v_loop (fun gm ds ts A => ds = [] ∧ ∃ (k : Nat) (Bc : Option Addr) (cc' : Nat), k + gm = C.length ∧
   A = .own (.slice Bc k cc') 37 2 k (rgC (nrC R C X k)) :: .blk g8 25 [.slice x.r.1 C.length x.r.2, .slice x.c.1 R.length x.c.2, .slice x.x.1 (turnX R.length C.length X).length x.x.2] :: .own (.slice Br R.length cr) 37 2 R.length (rgC (nrR R C X R.length)) :: .own (.slice Bx R.length cx) 22 1 R.length (nsVs xs (nestR (nrX R C X R.length))) :: .blk g4 25 [.slice Br R.length cr, .slice Bc k cc', .slice Bx R.length cx] :: .blk g2 25 [.slice none 0 0, .slice none 0 0, .slice none 0 0] :: .blk g1 25 [.slice RA R.length rc, .slice CA C.length cc, .slice XA X.length xc] :: (nsCh 37 2 xs (nestR (nrX R C X R.length)) ++ tabCh C R (turnX R.length C.length X) x) ∧
   ts = [(1, .pointer (some ⟨g1, 0, none⟩)), (2, .pointer (some ⟨g2, 0, none⟩)), (4, .pointer (some ⟨g4, 0, none⟩)), (8, .pointer (some ⟨g8, 0, none⟩)), (9, .int .i64 (k : Int))]) C.length
   (l := [(1, _), (2, _), (4, _), (8, _), (9, _)]) (B := _) ?_ (List.Sublist.refl _) ⟨rfl, 0, none, 0, by omega, rfl, rfl⟩ ?_
 ·exact ⟨rfl, rfl, rfl, rfl, rfl, trivial⟩
 rintro gm ds ts A ⟨rfl, k, Bc, cc', hk, rfl, rfl⟩
 have htx := fun {c1 c2 c3 c4 c5 c6 c7 : Chunk} {D : List Chunk} w1 (hs : St w (c1 :: c2 :: c3 :: c4 :: c5 :: c6 :: c7 :: (D ++ tabCh C R (turnX R.length C.length X) x)) w1) => hs.tabX x hx (fun d hd => .tail _ (.tail _ (.tail _ (.tail _ (.tail _ (.tail _ (.tail _ (List.mem_append_right _ hd))))))))
 by_cases hlt : k < C.length
 ·have h83 := fun w1 (h : TabR w1 x.r.1 x.c.1 x.x.1 C R (turnX R.length C.length X)) => rowOf_any x.r.1 x.r.2 x.c.1 x.c.2 x.x.1 x.x.2 C R (turnX R.length C.length X) w1 h hV.turn (hasT_turn.2 hH) k hlt
  rw [rowR_turn] at h83
  unfold tabV at h83
  have hst := congrArg rgC (nrC_step R C X k)
  rw [rgC_append] at hst
  change rgC (nrC R C X (k + 1)) = rgC (nrC R C X k) ++ [.int .i64 (colR R C X k).1, .int .i64 (colR R C X k).2] at hst
  generalize colR R C X k = r at h83 hst
  ((try first | apply tr_v tk | apply ot_v tk); (conv => whnf); (repeat ((first | ((first | apply VStop.mk | apply VCall.stop); (first | refine tr_region_draw (id := 18) (by kernel_rfl) [0, 1, 2, 3, 4, 5, 6, 7, 8] [.rd, .rd, .rd, .rd, .cr, .cr, .wr, .rd, .wr] rfl (by kernel_rfl) ?_ | (refine ot_appendS (sz := 2) (sl := k) (xs := rgC (nrC R C X k)) (news := [.int .i64 r.1, .int .i64 r.2]) (A'v := fun v' => _ :: .own v' 37 2 (k + 1) _ :: _) tk rfl rfl rfl rfl rfl rfl rfl rfl rfl rfl (by decide) rfl (cells_blk_all (.head _)) rfl rfl (fun v' => .there .here) (by omega) (by decide) (fun Bn cn => ?_))); try first | apply ot_v tk | apply tr_v tk) | (apply VCall.q; kernel_rfl; (focus (intro w1 hs; first | with_reducible apply h83 w1 (htx w1 hs)))) | (apply VLd.mk; (focus ((repeat (first | ((with_reducible apply ld_blk); exact rfl) | (with_reducible apply ld_skip))); done))) | (apply VLdN.mk; (focus ((repeat (first | (with_reducible apply ldn_blk) | (with_reducible apply ldn_skip))); done)); exact rfl) | (apply VRng.mk; omega) | apply VBr.t | (apply v_t; omega) | (apply VNew.mk; intro g hg) | (apply VSt.mk; (focus ((repeat (first | (with_reducible exact At.here) | (with_reducible apply At.there))); done)); exact rfl)); (conv => whnf))); try (first | apply VStop.mk | apply VCall.stop))
  rw [← hst]
  exact v_rnd (gm - 1) (by omega) (l := [(1, _), (2, _), (4, _), (8, _), (9, _)]) (B := _) ⟨rfl, rfl, rfl, rfl, rfl, trivial⟩ (.cons _ (List.Sublist.refl _)) ⟨rfl, k + 1, Bn, cn, by omega, rfl, rfl⟩
 obtain rfl : k = C.length := by omega
 have l1 : (nrR R C X R.length).length = R.length := map_range_len _ _
 have l2 : (nrC R C X C.length).length = C.length := map_range_len _ _
 ((try first | apply tr_v tk | apply ot_v tk); (conv => whnf); (repeat ((first | (apply VLd.mk; (focus ((repeat (first | ((with_reducible apply ld_blk); exact rfl) | (with_reducible apply ld_skip))); done))) | (apply VLdN.mk; (focus ((repeat (first | (with_reducible apply ldn_blk) | (with_reducible apply ldn_skip))); done)); exact rfl) | apply VBr.f | (apply v_f; omega) | (apply VSt.mk; (focus ((repeat (first | (with_reducible exact At.here) | (with_reducible apply At.there))); done)); exact rfl)); (conv => whnf))); try (first | apply VStop.mk | apply VCall.stop))
 (apply VRet.mk)
 refine ret2 (by first | exact .inl rfl | exact .inr rfl) rfl (by exact rv_row tk rfl rfl rfl (by first | exact cells_blk_all (by (repeat (first | exact List.Mem.head _ | assumption | refine List.Mem.tail _ ?_))) | exact cells_row0 (by (repeat (first | exact List.Mem.head _ | assumption | refine List.Mem.tail _ ?_)))) rfl) (by exact rv_tmp rfl) ?_
 refine fun w hs => ⟨⟨(Br, cr), (Bc, cc'), (Bx, cx), xs⟩, ?_, by rw [nrX_len]; exact hxs, ?_⟩
 ·rw [l1, l2, nrX_len]
 ·unfold tabCh at hs ⊢
  dsimp only
  rw [l1, l2, nrX_len]
  exact (hs.perm ((List.perm_append_comm (l₁ := [_, _]) (l₂ := [_])).append_right _)).sub (.cons_cons _ (.cons_cons _ (.cons _ (.cons_cons _ (.cons _ (.cons _ (.cons _ (List.sublist_append_left _ _))))))))
end
end Go.Proofs.Ytalcccgialpjgaa
