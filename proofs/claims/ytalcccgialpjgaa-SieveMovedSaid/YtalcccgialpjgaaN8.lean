/- way, walked: lemmas for the rows of this seat. No conditions. -/
import Derived.Test.YtalcccgialpjgaaN6
import Derived.Test.YtalcccgialpjgaaN7
set_option linter.all false
namespace Go.Proofs.Ytalcccgialpjgaa
open Go.RowKit
/-! ## way, walked -/
section
variable (RA : Option Addr) (rc : Nat) (CA : Option Addr) (cc : Nat) (XA : Option Addr) (xc : Nat) (R C : List R2) (X : List (List R2)) (lo hi fl : Nat → Nat → Int) (gn bm fm : Nat) (w : World) (hT : NetAt w RA rc CA cc XA xc R C X lo hi fl gn bm fm) (hG : NetG R.length C.length lo hi fl)
include hT hG
set_option maxHeartbeats 4000000 in
set_option maxRecDepth 20000 in
theorem way_any (hn : R.length ≤ 4) (hm : C.length ≤ 4) (fb fo fc : Nat) (frm : List Nat) (hf : Reads w w.heap.size 1 (some ⟨fb, fo, none⟩) frm.length (natV frm)) (hf1 : 1 ≤ frm.length) (hfN : ∀ f ∈ frm, f < 2 + R.length + C.length) (hfn : frm.Nodup) (p q : Nat) :
  Calls Try.prog 92 #[.pointer (some ⟨gn, 0, none⟩), .slice (some ⟨fb, fo, none⟩) frm.length fc, .agg #[.int .i64 (p : Int), .int .i64 (q : Int)]] w fun e w' => ∃ seen : Nat → Int, e = .returned (.agg (fnC seen 10).toArray) ∧ WayOK (2 + R.length + C.length) (lessM (fun u v => decide (0 < res lo hi fl u v)) p q) frm seen ∧ Below w.heap.size w w' := by
 have hleft := fun w1 (h : NetAt w1 RA rc CA cc XA xc R C X lo hi fl gn bm fm) => left_any RA rc CA cc XA xc R C X lo hi fl gn bm fm w1 h hG
 have hgrow : ∀ {A1 w1}, St w A1 w1 → NetAt w1 RA rc CA cc XA xc R C X lo hi fl gn bm fm := fun {A1 w1} hs => by
  obtain ⟨st, hb⟩ := hT.bm
  obtain ⟨stf, hf⟩ := hT.fm
  have hbl : bm < w.heap.size := by
   obtain ⟨es, cl, hh, _⟩ := hb
   exact (Array.getElem?_eq_some_iff.1 hh).1
  have hfl : fm < w.heap.size := by
   obtain ⟨es, cl, hh, _⟩ := hf
   exact (Array.getElem?_eq_some_iff.1 hh).1
  exact ⟨fun j u hu => CellAt.base (A := A1) (hT.cell j u hu) w1 hs, ⟨st, by rw [hs.base.block bm hbl]; exact hb⟩, ⟨stf, by rw [hs.base.block fm hfl]; exact hf⟩⟩
 have hlen : frm.length ≤ 10 := by
  have := List.Nodup.length_le_of_subset hfn (l₂ := List.range (2 + R.length + C.length)) fun x hx => List.mem_range.2 (hfN x hx)
  simp at this; omega
 have hcl := fun w1 h => clone_any ⟨fb, fo, none⟩ fc frm w1 h (by omega)
 generalize hN : 2 + R.length + C.length = N at *
 have hNb : N ≤ 10 := by omega
 refine fn_v tk (n := 63) (A := []) Try.func92 rfl rfl (Nat.le_of_ble_eq_true rfl) (St.nil (Below.refl _ _)) ?_
 ((conv => whnf); (repeat ((apply VNew.mk; intro g hg); (conv => whnf))); apply VCall.stop)
 rename_i g5 hg5
 revert g hg
 intro g6 hg6
 refine ot_callC (X := Nat) (us := []) (vs := []) (fun g => .map (some g)) (fun g => [.prd g (MapP pairE (leftM lo hi fl) [])]) (fun _ => True) (fun g c hc => by simp at hc; subst hc; rfl) (by decide) rfl rfl rfl rfl (by kernel_rfl) (evl_of rfl) rfl (fun w1 hs => hleft w1 (hgrow hs)) (fun gl _ => ?_)
 (dsimp only [List.cons_append, List.nil_append]; apply ot_v tk)
 ((conv => whnf); (repeat ((first | ((first | apply VStop.mk | apply VCall.stop); (first | (refine ot_delF (k := ((p : Int), (q : Int))) pairK mapF rfl rfl rfl rfl rfl (by exact rfl) .here ?_; rw [leftM, keyM_del]) | (refine ot_delF (k := ((q : Int), (p : Int))) pairK mapF rfl rfl rfl rfl rfl (by exact rfl) .here ?_; rw [keyM_del])); apply ot_v tk) | (apply VLd.mk; (focus ((repeat (first | ((with_reducible apply ld_blk); exact rfl) | (with_reducible apply ld_skip))); done))) | (apply VLdN.mk; (focus ((repeat (first | (with_reducible apply ldn_blk) | (with_reducible apply ldn_skip))); done)); exact rfl) | (apply VNew.mk; intro g hg)); (conv => whnf))); apply VCall.stop)
 revert g hg
 intro g8 hg8
 change OT _ _ _ _ _ _ _ _ (_ :: .prd gl (MapP pairE (LM (lessM (fun u v => decide (0 < res lo hi fl u v)) p q) (res lo hi fl)) []) :: _) _
 refine ot_call_ownS (t := 3) (sz := 1) (m := frm.length) (xs := natV frm) (by decide) rfl rfl rfl (by kernel_rfl) (evl_of rfl) (fun w1 hs => hcl w1 (hs.reads hf)) (fun B cap hB => ?_)
 obtain ⟨gq, rfl⟩ := hB (by omega)
 apply ot_v tk
 rw [fnC_zero]
 ((conv => whnf); (repeat ((first | (apply VNew.mk; intro g hg) | (apply VSt.mk; (focus ((repeat (first | (with_reducible exact At.here) | (with_reducible apply At.there))); done)); exact rfl)); (conv => whnf))); apply VStop.mk)
 revert g hg
 intro g9 hg9
 refine v_loop (fun gm ds ts A => ds = [] ∧ ∃ j seen, j + gm = frm.length ∧ (∀ v, seen v = if v ∈ frm.take j then (v : Int) + 1 else 0) ∧ A = [.blk g9 42 [.slice (some ⟨gq, 0, none⟩) frm.length cap], .own (.slice (some ⟨gq, 0, none⟩) frm.length cap) 3 1 frm.length (natV frm), .blk g8 109 (fnC seen 10), .prd gl (MapP pairE (LM (lessM (fun u v => decide (0 < res lo hi fl u v)) p q) (res lo hi fl)) []), .blk g6 109 (fnC (fun _ => 0) 10)] ∧ ts = [(0, .pointer (some ⟨gn, 0, none⟩)), (6, .pointer (some ⟨g6, 0, none⟩)), (7, .map (some gl)), (8, .pointer (some ⟨g8, 0, none⟩)), (9, .pointer (some ⟨g9, 0, none⟩)), (26, .slice (some ⟨fb, fo, none⟩) frm.length fc), (27, .int .i64 (frm.length : Int)), (28, .int .i64 (j : Int))]) frm.length
  (l := [(0, _), (6, _), (7, _), (8, _), (9, _), (26, _), (27, _), (28, _)]) (B := [_, _, _, _, _]) ?_ (by (repeat (first | exact sl0 _ | exact sl1 _ | refine sl2 _ ?_ | refine sl3 _ ?_))) ⟨rfl, 0, _, by omega, fun v => rfl, rfl, rfl⟩ ?_
 ·exact ⟨rfl, rfl, rfl, rfl, rfl, rfl, rfl, rfl, trivial⟩
 rintro gm ds ts A ⟨rfl, j, seen, hj, hseen, rfl, rfl⟩
 by_cases hlt : j < frm.length
 ·have hc1 : ∀ A, CellAt w A fb (fo + j * 1) (.int .i64 (frm[j] : Int)) := fun A => by
   obtain ⟨b', o', he, _, h1⟩ := hf.2 (by omega)
   cases he
   rw [Nat.mul_one]
   exact CellAt.base (h1 j _ (by unfold natV; rw [List.getElem?_map, List.getElem?_eq_getElem hlt]; rfl))
  have hfj := hfN _ (List.getElem_mem hlt)
  have htk : frm.take (j + 1) = frm.take j ++ [frm[j]] := by rw [List.take_add_one, List.getElem?_eq_getElem hlt]; rfl
  generalize frm[j] = f at *
  (apply tr_v tk; (conv => whnf); (repeat ((first | (apply VIx.mk (j := j); exact rfl; omega) | (apply VIx.mk (j := f); exact rfl; omega) | (apply VLd.mk; first | exact hc1 _) | (apply VSt.old; (focus (repeat (first | exact Upd.here | apply Upd.there)); done); exact ble_fnC (by omega); exact setMany_fnC1 (by omega)) | (apply VRng.mk; omega) | apply VBr.t | (apply v_t; omega)); (conv => whnf))))
  refine v_rnd (gm - 1) (by omega) (l := [(0, _), (6, _), (7, _), (8, _), (9, _), (26, _), (27, _), (28, _)]) (B := [_, _, _, _, _]) ⟨rfl, rfl, rfl, rfl, rfl, rfl, rfl, rfl, trivial⟩ (by (repeat (first | exact sl0 _ | exact sl1 _ | refine sl2 _ ?_ | refine sl3 _ ?_))) ⟨rfl, j + 1, _, by omega, fun v => ?_, rfl, rfl⟩
  rw [htk]
  by_cases hv : v = f
  ·subst hv
   rw [if_pos rfl, if_pos (by simp)]
  ·rw [if_neg hv, hseen v]
   simp [hv]
 obtain rfl : j = frm.length := by omega
 rw [List.take_length] at hseen
 (apply tr_v tk; (conv => whnf); (repeat ((first | apply VBr.f | (apply v_f; omega)); (conv => whnf))); apply VStop.mk)
 generalize hLL : lessM (fun u v => decide (0 < res lo hi fl u v)) p q = LL at *
 have hB0 : Bfs N LL frm [] frm [] seen (fun _ => 0) := by
  refine ⟨fun f hf' => ?_, fun v hv hs => ?_, fun x hx => ?_, hfn, fun u hu => absurd hu (by simp)⟩
  ·rw [hseen f, if_pos hf']
  ·rw [hseen v] at hs
   have : v ∈ frm := Decidable.byContradiction fun h => by rw [if_neg h] at hs; exact hs rfl
   exact ⟨this, .inl this⟩
  ·refine ⟨hfN x hx, ?_⟩
   rw [hseen x, if_pos (by simpa using hx)]; omega
 clear hj hlt hseen
 refine tr_st (B := [.blk g9 42 [.slice (some ⟨gq, 0, none⟩) frm.length cap], .prd gq (QRow 0 cap 3 (natV frm)), .blk g8 109 (fnC seen 10), .prd gl (MapP pairE (LM LL (res lo hi fl)) []), .blk g6 109 (fnC (fun _ => 0) 10)]) (fun w hs => hs.own_q (.there .here)) ?_
 refine v_loop (fun gm ds ts A => ∃ (dn todo Ds : List Nat) (seen : Nat → Int) (rk : Nat → Nat) (gq k cap : Nat), dn.length + gm = N ∧ Bfs N LL frm dn todo [] seen rk ∧ ds = Ds.map colD ∧ A.Perm (.blk g9 42 [.slice (some ⟨gq, k, none⟩) todo.length cap] :: .prd gq (QRow k cap 3 (natV todo)) :: .blk g8 109 (fnC seen 10) :: .prd gl (MapP pairE (LM LL (res lo hi fl)) []) :: .blk g6 109 (fnC (fun _ => 0) 10) :: Ds.map objD) ∧ ts = [(0, .pointer (some ⟨gn, 0, none⟩)), (6, .pointer (some ⟨g6, 0, none⟩)), (7, .map (some gl)), (8, .pointer (some ⟨g8, 0, none⟩)), (9, .pointer (some ⟨g9, 0, none⟩))]) N
  (l := [(0, _), (6, _), (7, _), (8, _), (9, _)]) (B := _) ?_ (List.Sublist.refl _) ⟨[], frm, [], seen, _, gq, 0, cap, by simp, hB0, rfl, .refl _, rfl⟩ ?_
 ·exact ⟨rfl, rfl, rfl, rfl, rfl, trivial⟩
 clear hB0 hB seen gq cap
 rintro gm ds ts A ⟨dn, todo, Ds, seen, rk, gq, k, cap, hgm, hB, rfl, hA, rfl⟩
 refine tr_perm hA ?_
 clear hA A
 cases hto : todo with
 | nil =>
  subst hto
  have hfin := hB.done hNb
  (apply tr_v tk; (conv => whnf); (repeat ((first | (apply VLdN.mk; exact cells_blk_all (by (repeat (first | with_unfolding_all exact List.Mem.head _ | assumption | with_unfolding_all refine List.Mem.tail _ ?_))); exact rfl) | (apply VLd.mk; (focus ((repeat (first | ((with_reducible apply ld_blk); exact rfl) | (with_reducible apply ld_skip))); done))) | apply VBr.f | apply v_d | (apply VSt.mk; (focus ((repeat (first | (with_reducible exact At.here) | (with_reducible apply At.there))); done)); exact rfl)); (conv => whnf))))
  (apply VRet.mk)
  exact ret1_many (P1 := [_, _, _, _, _]) (.inr rfl) rfl (by exact rv_row tk rfl rfl rfl (by first | exact cells_blk_all (by (repeat (first | exact List.Mem.head _ | assumption | refine List.Mem.tail _ ?_))) | exact cells_row0 (by (repeat (first | exact List.Mem.head _ | assumption | refine List.Mem.tail _ ?_)))) rfl) fun w' hs => ⟨seen, rfl, hfin, hs.base⟩
 | cons a rest =>
 have htl : todo.length = rest.length + 1 := by rw [hto]; rfl
 rw [← hto]
 have hqv : natV todo = .int .i64 (a : Int) :: natV rest := by rw [hto]; rfl
 obtain ⟨k', hk1, hk2⟩ : ∃ k', (if cap = 1 then (⟨gq, k, none⟩ : Addr) else ⟨gq, k + 1 * Try.t3.size, none⟩) = ⟨gq, k', none⟩ ∧ ∀ ob, QRow k cap 3 (.int .i64 (a : Int) :: natV rest) ob → QRow k' (cap - 1) 3 (natV rest) ob := by
  by_cases hc : cap = 1
  ·exact ⟨k, by rw [if_pos hc], fun ob h => by have := h.tail.2 hc; rw [hc]; exact this⟩
  ·exact ⟨k + 1, by rw [if_neg hc]; rfl, fun ob h => h.tail.1⟩
 have hql : todo.length - 1 = rest.length := by omega
 (apply tr_v tk; (conv => whnf); (repeat ((first | ((first | apply VStop.mk | apply VCall.stop); (refine ot_slice_lo tk rfl rfl rfl rfl rfl rfl rfl rfl (lo := 1) rfl (by omega) ?_; rw [hk1, hql]); apply ot_v tk) | (apply VLd.mk; exact q_cell (j := 0) (by (repeat (first | with_unfolding_all exact List.Mem.head _ | assumption | with_unfolding_all refine List.Mem.tail _ ?_))) (by rw [hqv]; rfl)) | (apply VLd.mk; (focus ((repeat (first | ((with_reducible apply ld_blk); exact rfl) | (with_reducible apply ld_skip))); done))) | apply VBr.t | (apply v_t; omega) | (apply VNew.mk; intro g hg) | (apply VIx.mk (j := 0); exact rfl; omega) | (apply VSt.mk; (focus ((repeat (first | (with_reducible exact At.here) | (with_reducible apply At.there))); done)); exact rfl)); (conv => whnf))); apply VCall.stop)
 refine ot_callC (X := Nat × Nat × Nat) (us := []) (vs := []) (fun x => .func (.func 109) #[] #[.pointer (some ⟨x.1, 0, none⟩), .pointer (some ⟨x.2.1, 0, none⟩), .pointer (some ⟨x.2.2, 0, none⟩)]) (fun x => [.blk x.1 93 [.pointer (some ⟨gn, 0, none⟩)], .blk x.2.1 101 [.map (some gl)], .blk x.2.2 3 [.int .i64 (a : Int)]]) (fun _ => True) (fun x c hc => by
  simp at hc
  rcases hc with rfl | rfl | rfl <;> rfl) (by decide) rfl rfl rfl rfl (by kernel_rfl) (evl_of rfl) rfl (fun w1 hs => next_any gn gl a w1) (fun x _ => ?_)
 obtain ⟨x1, x2, x3⟩ := x
 (dsimp only [List.cons_append, List.nil_append]; apply ot_v tk)
 ((conv => whnf); apply VStop.mk)
 revert g hg
 intro g12 hg12
 have hq1 : ∀ {A1 w1}, St w A1 w1 → .prd gq (QRow k cap 3 (natV todo)) ∈ A1 → (Chunk.prd gq (QRow k' (cap - 1) 3 (natV rest))).holds w.heap.size w1 := fun {A1 w1} hs hm => by
  obtain ⟨h1, h2, h3⟩ := hs.all _ hm
  rw [hqv] at h3
  exact ⟨h1, h2, hk2 _ h3⟩
 refine tr_st (B := .blk x1 93 [.pointer (some ⟨gn, 0, none⟩)] :: .blk x2 101 [.map (some gl)] :: .blk x3 3 [.int .i64 (a : Int)] :: .blk g12 3 [.int .i64 (a : Int)] :: .blk g9 42 [.slice (some ⟨gq, k', none⟩) rest.length (cap - 1)] :: .prd gq (QRow k' (cap - 1) 3 (natV rest)) :: .blk g8 109 (fnC seen 10) :: .prd gl (MapP pairE (LM LL (res lo hi fl)) []) :: .blk g6 109 (fnC (fun _ => 0) 10) :: Ds.map objD) (fun w' hs => hs.swap (c := .prd gq (QRow k cap 3 (natV todo))) (c' := .prd gq (QRow k' (cap - 1) 3 (natV rest))) (.there (.there (.there (.there (.there .here))))) rfl rfl (hq1 hs (by (repeat (first | with_unfolding_all exact List.Mem.head _ | assumption | with_unfolding_all refine List.Mem.tail _ ?_))))) ?_
 rw [hto] at hB
 have hB1 := hB.pop
 clear hB hk1 hk2
 refine tr_rangeFunc rfl (by kernel_rfl) (next_it RA rc CA cc R.length C.length LL (res lo hi fl) gn gl a x1 x2 x3 hn hm) (fun _ => rfl) (by decide)
  (fun pre RX => ∃ (todo' : List Nat) (seen' : Nat → Int) (rk' : Nat → Nat) (gq' k'' cap' : Nat), Bfs N LL frm (dn ++ [a]) todo' [a] seen' rk' ∧ (∀ v ∈ pre, seen' v ≠ 0) ∧ RX = .blk x1 93 [.pointer (some ⟨gn, 0, none⟩)] :: .blk x2 101 [.map (some gl)] :: .blk x3 3 [.int .i64 (a : Int)] :: .blk g12 3 [.int .i64 (a : Int)] :: .blk g9 42 [.slice (some ⟨gq', k'', none⟩) todo'.length cap'] :: .prd gq' (QRow k'' cap' 3 (natV todo')) :: .blk g8 109 (fnC seen' 10) :: .prd gl (MapP pairE (LM LL (res lo hi fl)) []) :: .blk g6 109 (fnC (fun _ => 0) 10) :: Ds.map objD)
  (fun _ _ _ => False) ?_ ⟨rest, seen, rk, gq, k', cap - 1, hB1, by simp, rfl⟩ ?_ ?_ ?_
 ·rintro pre RX ⟨todo', seen', rk', gq', k'', cap', _, _, rfl⟩ F W hS
  have hN2 := hgrow hS
  exact ⟨cell_blk (j := 0) (t := 93) (cs := [_]) (by (repeat (first | with_unfolding_all exact List.Mem.head _ | assumption | with_unfolding_all refine List.Mem.tail _ ?_))) rfl W hS, cell_blk (j := 0) (t := 101) (cs := [_]) (by (repeat (first | with_unfolding_all exact List.Mem.head _ | assumption | with_unfolding_all refine List.Mem.tail _ ?_))) rfl W hS, cell_blk (j := 0) (t := 3) (cs := [_]) (by (repeat (first | with_unfolding_all exact List.Mem.head _ | assumption | with_unfolding_all refine List.Mem.tail _ ?_))) rfl W hS, hN2.cell 0 _ rfl, hN2.cell 1 _ rfl, [], (hS.all (.prd gl (MapP pairE (LM LL (res lo hi fl)) [])) (by (repeat (first | with_unfolding_all exact List.Mem.head _ | assumption | with_unfolding_all refine List.Mem.tail _ ?_)))).2.2⟩
 ·rintro l pre x RX Fr ⟨rst, hpre⟩ ⟨todo', seen', rk', gq', k'', cap', hB', hsn, rfl⟩
  have hxm : x ∈ succs N LL a := by rw [← hN, ← hpre]; simp
  obtain ⟨hx1, hxL⟩ := List.mem_filter.1 hxm
  rw [List.mem_range] at hx1
  change Tr _ _ _ _ _ _ _ (_ :: _ :: _ :: _ :: _ :: _ :: _ :: _ :: _ :: (Ds.map objD ++ Fr)) _
  (apply tr_v tk; (conv => whnf))
  refine ⟨rfl, rfl, .blk x1 93 [.pointer (some ⟨gn, 0, none⟩)] :: .blk x2 101 [.map (some gl)] :: .blk x3 3 [.int .i64 (a : Int)] :: .blk g12 3 [.int .i64 (a : Int)] :: .blk g9 42 [.slice (some ⟨gq', k'', none⟩) todo'.length cap'] :: .prd gq' (QRow k'' cap' 3 (natV todo')) :: .blk g8 109 (fnC seen' 10) :: .prd gl (MapP pairE (LM LL (res lo hi fl)) []) :: .blk g6 109 (fnC (fun _ => 0) 10) :: Ds.map objD, List.Sublist.refl _, fun Fr' => ?_⟩
  change Tr _ _ _ _ _ _ _ (_ :: _ :: _ :: _ :: _ :: _ :: _ :: _ :: _ :: (Ds.map objD ++ Fr')) _
  have haN := (hB'.all a (List.mem_append_left _ (by simp))).1
  have htl2 := hB'.len
  by_cases h0 : seen' x = 0
  ·have hB2 := hB'.see (by simp) hx1 h0 hxL
   (apply tr_v tk; (conv => whnf); (repeat ((first | (apply VStop.mk; (refine ot_appendQ (xs := natV todo') (v := .int .i64 (x : Int)) (A'v := fun g' k' cap' => _ :: _ :: _ :: _ :: _ :: _ :: .prd g' (QRow k' cap' 3 _) :: _) tk rfl rfl rfl rfl rfl rfl rfl rfl rfl rfl rfl (cell_blk (.head _) rfl) rfl (by simp [natV]) (fun g' k' cap' => .there (.there (.there (.there (.there (.there .here)))))) (by omega) (by decide) (fun gq2 kq2 cq2 => ?_)); apply ot_v tk) | (apply VIx.mk (j := x); exact rfl; omega) | (apply VLd.mk; first | exact cell_fnC (by (repeat (first | with_unfolding_all exact List.Mem.head _ | assumption | with_unfolding_all refine List.Mem.tail _ ?_))) (by omega)) | (apply VSt.old; (focus (repeat (first | exact Upd.here | apply Upd.there)); done); exact ble_fnC (by omega); exact setMany_fnC1 (by omega)) | (apply VLd.mk; (focus ((repeat (first | ((with_reducible apply ld_blk); exact rfl) | (with_reducible apply ld_skip))); done))) | (apply VRng.mk; omega) | apply VBr.t | (apply v_t; omega) | (apply VNew.mk; intro g hg) | (apply VSt.mk; (focus ((repeat (first | (with_reducible exact At.here) | (with_reducible apply At.there))); done)); exact rfl)); (conv => whnf))))
   have e1 : natV todo' ++ [.int .i64 (x : Int)] = natV (todo' ++ [x]) := by simp [natV]
   have e2 : todo'.length + 1 = (todo' ++ [x]).length := by simp
   rw [e1]
   refine ⟨rfl, .blk x1 93 [.pointer (some ⟨gn, 0, none⟩)] :: .blk x2 101 [.map (some gl)] :: .blk x3 3 [.int .i64 (a : Int)] :: .blk g12 3 [.int .i64 (a : Int)] :: .blk g9 42 [.slice (some ⟨gq2, kq2, none⟩) (todo'.length + 1) cq2] :: .prd gq2 (QRow kq2 cq2 3 (natV (todo' ++ [x]))) :: .blk g8 109 (fnC (fun v => if v = x then (a : Int) + 1 else seen' v) 10) :: .prd gl (MapP pairE (LM LL (res lo hi fl)) []) :: .blk g6 109 (fnC (fun _ => 0) 10) :: Ds.map objD, .cons _ (List.Sublist.refl _), todo' ++ [x], _, _, gq2, kq2, cq2, hB2, fun v hv => ?_, by rw [← e2]⟩
   rcases List.mem_append.1 hv with hv | hv
   ·split
    ·omega
    ·exact hsn v hv
   ·rw [List.mem_singleton] at hv
    rw [if_pos hv]; omega
  ·(apply tr_v tk; (conv => whnf); (repeat ((first | (apply VIx.mk (j := x); exact rfl; omega) | (apply VLd.mk; first | exact cell_fnC (by (repeat (first | with_unfolding_all exact List.Mem.head _ | assumption | with_unfolding_all refine List.Mem.tail _ ?_))) (by omega)) | apply VBr.f | (apply v_f; omega)); (conv => whnf))))
   refine ⟨rfl, .blk x1 93 [.pointer (some ⟨gn, 0, none⟩)] :: .blk x2 101 [.map (some gl)] :: .blk x3 3 [.int .i64 (a : Int)] :: .blk g12 3 [.int .i64 (a : Int)] :: .blk g9 42 [.slice (some ⟨gq', k'', none⟩) todo'.length cap'] :: .prd gq' (QRow k'' cap' 3 (natV todo')) :: .blk g8 109 (fnC seen' 10) :: .prd gl (MapP pairE (LM LL (res lo hi fl)) []) :: .blk g6 109 (fnC (fun _ => 0) 10) :: Ds.map objD, List.Sublist.refl _, todo', seen', rk', gq', k'', cap', hB', fun v hv => ?_, rfl⟩
   rcases List.mem_append.1 hv with hv | hv
   ·exact hsn v hv
   ·rw [List.mem_singleton] at hv
    rw [hv]; exact h0
 ·rintro D RX ⟨todo', seen', rk', gq', k'', cap', hB', hsn, rfl⟩
  have hB2 := hB'.close (by rw [← hN]; exact hsn)
  ((conv => whnf))
  refine v_rnd (gm - 1) (by have := hB'.len; simp at this; omega) (l := [(0, _), (6, _), (7, _), (8, _), (9, _)]) (B := .obj D (.deferred (some [])) :: .blk g9 42 [.slice (some ⟨gq', k'', none⟩) todo'.length cap'] :: .prd gq' (QRow k'' cap' 3 (natV todo')) :: .blk g8 109 (fnC seen' 10) :: .prd gl (MapP pairE (LM LL (res lo hi fl)) []) :: .blk g6 109 (fnC (fun _ => 0) 10) :: Ds.map objD) ⟨rfl, rfl, rfl, rfl, rfl, trivial⟩ (.cons_cons _ (.cons _ (.cons _ (.cons _ (.cons _ (List.Sublist.refl _)))))) ⟨dn ++ [a], todo', D :: Ds, seen', rk', gq', k'', cap', ?_, hB2, rfl, (List.perm_middle (l₁ := [_, _, _, _, _])).symm, rfl⟩
  have := hB'.len
  simp at this ⊢
  omega
 ·exact fun _ _ _ _ h => h.elim
end
end Go.Proofs.Ytalcccgialpjgaa
