/- Since, Seen: lemmas for the rows of this seat. No conditions. -/
import Derived.Laws.StructEq
import Derived.Test.YtojeeindlijgkaaGreatDoorK14
set_option linter.all false
namespace Go.Proofs.YtojeeindlijgkaaGreatDoor
open Go.RowKit
/-! ## Since, Seen -/
theorem within_sn {sn : List Int} (hn : sn.length = 3) : within 0 999 sn = !badSn sn := by
 match sn, hn with
 | [a, b, c], _ =>
  unfold within badSn
  rw [Bool.not_not, Bool.eq_iff_iff]
  simp only [Bool.and_eq_true, inB_iff, iAtK]
  simp [badIn]
  omega
section
variable (B : Option Addr) (c : Nat) (l : List Ln) (SA : Option Addr) (sc : Nat) (sn : List Int) (w : World) (h : BookR w B l) (hs0 : Reads w w.heap.size 1 SA sn.length (i64s sn))
include h hs0
omit hs0 in
set_option maxRecDepth 20000 in
theorem since_err (hm : l.length ≤ maxLen) (hE : chkBook l ≠ 0) : Calls Tryz.prog 35 #[.agg #[.slice B l.length c], .slice SA sn.length sc] w fun e w' => e = .returned (.tuple #[.agg #[.slice none 0 0], .int .i64 (chkBook l)]) ∧ Below w.heap.size w w' := by
 have k1 := fun {g t : Nat} {A : List Chunk} {w0 w1 : World} (hs : St w0 A w1) (hb : BookR w1 B l) (hA : Chunk.blk g t [.slice B l.length c] ∈ A) => open1_err g B c l w1 (hs.blk_reads hA rfl) hb hm hE
 generalize chkBook l = z at *
 refine fn_v tk (n := 34) (A := []) Tryz.func35 rfl rfl (Nat.le_of_ble_eq_true rfl) (St.nil (Below.refl _ _)) ?_
 ((conv => whnf); (repeat ((first | (apply VCall.q; kernel_rfl; (focus (intro w1 hs; first | ((with_reducible apply k1 hs (hs.book h)); (repeat (first | exact List.Mem.head _ | assumption | refine List.Mem.tail _ ?_)))))) | (apply VLdN.mk; (focus ((repeat (first | (with_reducible apply ldn_blk) | (with_reducible apply ldn_skip))); done)); exact rfl) | apply VBr.t | (apply v_t; omega) | (apply VNew.mk; intro g hg) | (apply VSt.mk; (focus ((repeat (first | (with_reducible exact At.here) | (with_reducible apply At.there))); done)); exact rfl)); (conv => whnf))))
 (apply VRet.mk)
 refine ret2 (by first | exact .inl rfl | exact .inr rfl) rfl (by exact rv_row tk rfl rfl rfl (by first | exact cells_blk_all (by (repeat (first | exact List.Mem.head _ | assumption | refine List.Mem.tail _ ?_))) | exact cells_row0 (by (repeat (first | exact List.Mem.head _ | assumption | refine List.Mem.tail _ ?_)))) rfl) (by exact rv_tmp rfl) ?_
 exact fun w h => ⟨rfl, h.base⟩
omit hs0 in
set_option maxRecDepth 20000 in
theorem since_len (hV : Valid l) (hn : sn.length ≠ 3) : Calls Tryz.prog 35 #[.agg #[.slice B l.length c], .slice SA sn.length sc] w fun e w' => e = .returned (.tuple #[.agg #[.slice none 0 0], .int .i64 15]) ∧ Below w.heap.size w w' := by
 have z0 := chk_valid.2 hV
 refine fn_v tk (n := 34) (A := []) Tryz.func35 rfl rfl (Nat.le_of_ble_eq_true rfl) (St.nil (Below.refl _ _)) ?_
 ((conv => whnf); (repeat ((first | (apply VLdN.mk; (focus ((repeat (first | (with_reducible apply ldn_blk) | (with_reducible apply ldn_skip))); done)); exact rfl) | (apply VNew.mk; intro g hg)); (conv => whnf))); apply VCall.stop)
 refine ot_callT (X := OpX) (us := []) (vs := []) (fun x => .tuple #[.slice x.B 1 x.c, .int .i64 0]) (fun x => []) (fun x => [.blk x.d1 93 [.slice B l.length c], .own (.slice x.B 1 x.c) 79 1 1 [.pointer (some ⟨x.d1, 0, none⟩)]]) _ (fun x c hc => two_mut hc) (by decide) rfl rfl rfl rfl (by kernel_rfl) (evl_of rfl) rfl (fun w1 hs => open1_ok _ B c l w1 (hs.blk_reads (by (repeat (first | exact List.Mem.head _ | assumption | refine List.Mem.tail _ ?_))) rfl) (hs.book h) hV.max z0) ?_
 intro x _
 (dsimp only [List.cons_append, List.nil_append]; apply ot_v tk)
 ((conv => whnf); (repeat ((first | (apply VLd.mk; (focus ((repeat (first | ((with_reducible apply ld_blk); exact rfl) | (with_reducible apply ld_skip))); done))) | apply VBr.t | apply VBr.f | (apply v_t; omega) | (apply v_f; omega) | (apply VSt.mk; (focus ((repeat (first | (with_reducible exact At.here) | (with_reducible apply At.there))); done)); exact rfl)); (conv => whnf))))
 (apply VRet.mk)
 refine ret2 (by first | exact .inl rfl | exact .inr rfl) rfl (by exact rv_row tk rfl rfl rfl (by first | exact cells_blk_all (by (repeat (first | exact List.Mem.head _ | assumption | refine List.Mem.tail _ ?_))) | exact cells_row0 (by (repeat (first | exact List.Mem.head _ | assumption | refine List.Mem.tail _ ?_)))) rfl) (by exact rv_tmp rfl) ?_
 exact fun w h => ⟨rfl, h.base⟩
set_option maxRecDepth 20000 in
theorem since_bad (hV : Valid l) (hn : sn.length = 3) (hb : badSn sn = true) : Calls Tryz.prog 35 #[.agg #[.slice B l.length c], .slice SA sn.length sc] w fun e w' => e = .returned (.tuple #[.agg #[.slice none 0 0], .int .i64 3]) ∧ Below w.heap.size w w' := by
 have z0 := chk_valid.2 hV
 have k2 := fun w1 h => within_any SA sc sn 0 999 w1 h (by rw [hn]; decide)
 rw [within_sn hn, hb, Bool.not_true] at k2
 rw [hn] at hs0 k2 ⊢
 refine fn_v tk (n := 34) (A := []) Tryz.func35 rfl rfl (Nat.le_of_ble_eq_true rfl) (St.nil (Below.refl _ _)) ?_
 ((conv => whnf); (repeat ((first | (apply VLdN.mk; (focus ((repeat (first | (with_reducible apply ldn_blk) | (with_reducible apply ldn_skip))); done)); exact rfl) | (apply VNew.mk; intro g hg)); (conv => whnf))); apply VCall.stop)
 refine ot_callT (X := OpX) (us := []) (vs := []) (fun x => .tuple #[.slice x.B 1 x.c, .int .i64 0]) (fun x => []) (fun x => [.blk x.d1 93 [.slice B l.length c], .own (.slice x.B 1 x.c) 79 1 1 [.pointer (some ⟨x.d1, 0, none⟩)]]) _ (fun x c hc => two_mut hc) (by decide) rfl rfl rfl rfl (by kernel_rfl) (evl_of rfl) rfl (fun w1 hs => open1_ok _ B c l w1 (hs.blk_reads (by (repeat (first | exact List.Mem.head _ | assumption | refine List.Mem.tail _ ?_))) rfl) (hs.book h) hV.max z0) ?_
 intro x _
 (dsimp only [List.cons_append, List.nil_append]; apply ot_v tk)
 ((conv => whnf); (repeat ((first | (apply VCall.q; kernel_rfl; (focus (intro w1 hs; first | with_reducible apply k2 w1 (hs.reads hs0)))) | (apply VLd.mk; (focus ((repeat (first | ((with_reducible apply ld_blk); exact rfl) | (with_reducible apply ld_skip))); done))) | apply VBr.t | apply VBr.f | (apply v_f; omega) | (apply VSt.mk; (focus ((repeat (first | (with_reducible exact At.here) | (with_reducible apply At.there))); done)); exact rfl)); (conv => whnf))))
 (apply VRet.mk)
 refine ret2 (by first | exact .inl rfl | exact .inr rfl) rfl (by exact rv_row tk rfl rfl rfl (by first | exact cells_blk_all (by (repeat (first | exact List.Mem.head _ | assumption | refine List.Mem.tail _ ?_))) | exact cells_row0 (by (repeat (first | exact List.Mem.head _ | assumption | refine List.Mem.tail _ ?_)))) rfl) (by exact rv_tmp rfl) ?_
 exact fun w h => ⟨rfl, h.base⟩
set_option maxRecDepth 20000 in
theorem since_ok (hV : Valid l) (hn : sn.length = 3) (hb : badSn sn = false) : Calls Tryz.prog 35 #[.agg #[.slice B l.length c], .slice SA sn.length sc] w fun e w' => ∃ x : SlX, e = .returned (.tuple #[.agg #[.slice x.1 (l.filter (sinceP sn)).length x.2], .int .i64 0]) ∧ True ∧ St w ([] ++ [.own (.slice x.1 (l.filter (sinceP sn)).length x.2) 61 5 (l.filter (sinceP sn)).length (lnC (l.filter (sinceP sn)))]) w' := by
 have z0 := chk_valid.2 hV
 have k2 := fun w1 h => within_any SA sc sn 0 999 w1 h (by rw [hn]; decide)
 rw [within_sn hn, hb, Bool.not_false] at k2
 have hn' := hn
 have hmm : l.length ≤ 1000 := by have := hV.len; omega
 rw [hn] at hs0 k2 ⊢
 have kw := fun (gd g3 : Nat) w1 a1 a2 a3 a4 => whereS_any gd B c l w1 a1 a2 hmm hV g3 SA sc sn a3 a4 hn'
 generalize l.filter (sinceP sn) = O at *
 refine fn_v tk (n := 34) (A := []) Tryz.func35 rfl rfl (Nat.le_of_ble_eq_true rfl) (St.nil (Below.refl _ _)) ?_
 ((conv => whnf); (repeat ((first | (apply VLdN.mk; (focus ((repeat (first | (with_reducible apply ldn_blk) | (with_reducible apply ldn_skip))); done)); exact rfl) | (apply VNew.mk; intro g hg)); (conv => whnf))); apply VCall.stop)
 refine ot_callT (X := OpX) (us := []) (vs := []) (fun x => .tuple #[.slice x.B 1 x.c, .int .i64 0]) (fun x => []) (fun x => [.blk x.d1 93 [.slice B l.length c], .own (.slice x.B 1 x.c) 79 1 1 [.pointer (some ⟨x.d1, 0, none⟩)]]) _ (fun x c hc => two_mut hc) (by decide) rfl rfl rfl rfl (by kernel_rfl) (evl_of rfl) rfl (fun w1 hs => open1_ok _ B c l w1 (hs.blk_reads (by (repeat (first | exact List.Mem.head _ | assumption | refine List.Mem.tail _ ?_))) rfl) (hs.book h) hV.max z0) ?_
 intro x _
 obtain ⟨Bx, cx, d1, d2⟩ := x
 dsimp only [List.cons_append, List.nil_append]
 refine ot_own_addr (B := Bx) (m := 1) (cc := cx) (te := 79) (sz := 1) (xs := [.pointer (some ⟨d1, 0, none⟩)]) (by (repeat (first | exact List.Mem.head _ | assumption | refine List.Mem.tail _ ?_))) (by omega) rfl ?_
 rintro bx rfl
 apply ot_v tk
 ((conv => whnf); (repeat ((first | (apply VLd.mk; exact cell_own (j := 0) (by (repeat (first | exact List.Mem.head _ | assumption | refine List.Mem.tail _ ?_))) rfl) | (apply VCall.q; kernel_rfl; (focus (intro w1 hs; first | with_reducible apply k2 w1 (hs.reads hs0)))) | (apply VLd.mk; (focus ((repeat (first | ((with_reducible apply ld_blk); exact rfl) | (with_reducible apply ld_skip))); done))) | apply VBr.f | (apply v_f; omega) | (apply VIx.mk (j := 0); exact rfl; omega)); (conv => whnf))); apply VCall.stop)
 rename_i gA _ g3 _ _ _ _
 refine ot_callT (X := SlX) (us := []) (vs := []) (fun x => .agg #[.slice x.1 O.length x.2]) (fun x => []) (fun x => [.own (.slice x.1 O.length x.2) 61 5 O.length (lnC O)]) _ (fun x c hc => one_mut hc) (by decide) rfl rfl rfl rfl (by kernel_rfl) (evl_of rfl) rfl (fun w1 hs => kw d1 g3 w1 (cell_blk (by (repeat (first | exact List.Mem.head _ | assumption | refine List.Mem.tail _ ?_))) rfl w1 hs) (hs.book h) (cell_blk (by (repeat (first | exact List.Mem.head _ | assumption | refine List.Mem.tail _ ?_))) rfl w1 hs) (hs.reads hs0)) ?_
 intro x _
 (dsimp only [List.cons_append, List.nil_append]; apply ot_v tk)
 ((conv => whnf); (repeat ((apply VSt.mk; (focus ((repeat (first | (with_reducible exact At.here) | (with_reducible apply At.there))); done)); exact rfl); (conv => whnf))))
 (apply VRet.mk)
 refine ret2 (by first | exact .inl rfl | exact .inr rfl) rfl (by exact rv_row tk rfl rfl rfl (by first | exact cells_blk_all (by (repeat (first | exact List.Mem.head _ | assumption | refine List.Mem.tail _ ?_))) | exact cells_row0 (by (repeat (first | exact List.Mem.head _ | assumption | refine List.Mem.tail _ ?_)))) rfl) (by exact rv_tmp rfl) ?_
 exact fun w hs => ⟨x, rfl, trivial, hs.sub (List.singleton_sublist.2 (by (repeat (first | exact List.Mem.head _ | assumption | refine List.Mem.tail _ ?_))))⟩
end
theorem seen_le {l : List Ln} (hV : Valid l) (k : Nat) : ∀ {j i : Nat}, j ≤ i → i < l.length → seenF (l.take j) k ≤ (lnAt l i).st
 | 0, i, _, h => by have := (hV.lnOk h).st; show (0 : Int) ≤ _; omega
 | j + 1, i, hj, h => by
  have ih := seen_le hV k (j := j) (i := i) (by omega) h
  have hb := before_iff.1 (hV.ord j i (by omega) h)
  rw [seenF_step (by omega)]
  unfold seenStep
  split
  ·split <;> omega
  ·exact ih
section
variable (B : Option Addr) (c : Nat) (l : List Ln) (w : World) (h : BookR w B l)
include h
set_option maxRecDepth 20000 in
theorem seen_err (hm : l.length ≤ maxLen) (hE : chkBook l ≠ 0) : Calls Tryz.prog 33 #[.agg #[.slice B l.length c]] w fun e w' => e = .returned (.tuple #[.slice none 0 0, .int .i64 (chkBook l)]) ∧ Below w.heap.size w w' := by
 have k1 := fun {g t : Nat} {A : List Chunk} {w0 w1 : World} (hs : St w0 A w1) (hb : BookR w1 B l) (hA : Chunk.blk g t [.slice B l.length c] ∈ A) => open1_err g B c l w1 (hs.blk_reads hA rfl) hb hm hE
 generalize chkBook l = z at *
 refine fn_v tk (n := 40) (A := []) Tryz.func33 rfl rfl (Nat.le_of_ble_eq_true rfl) (St.nil (Below.refl _ _)) ?_
 ((conv => whnf); (repeat ((first | (apply VCall.q; kernel_rfl; (focus (intro w1 hs; first | ((with_reducible apply k1 hs (hs.book h)); (repeat (first | exact List.Mem.head _ | assumption | refine List.Mem.tail _ ?_)))))) | (apply VLdN.mk; (focus ((repeat (first | (with_reducible apply ldn_blk) | (with_reducible apply ldn_skip))); done)); exact rfl) | apply VBr.t | (apply v_t; omega) | (apply VNew.mk; intro g hg)); (conv => whnf))))
 (apply VRet.mk)
 refine ret2 (by first | exact .inl rfl | exact .inr rfl) rfl (by exact rv_tmp rfl) (by exact rv_tmp rfl) ?_
 exact fun w h => ⟨rfl, h.base⟩
set_option maxRecDepth 20000 in
theorem seen_ok (hV : Valid l) : Calls Tryz.prog 33 #[.agg #[.slice B l.length c]] w fun e w' => ∃ x : SlX, e = .returned (.tuple #[.slice x.1 3 x.2, .int .i64 0]) ∧ True ∧ St w ([] ++ [.own (.slice x.1 3 x.2) 3 1 3 (fnC (seenF l) 3)]) w' := by
 have z0 := chk_valid.2 hV
 have hlen := hV.len
 refine fn_v tk (n := 40) (A := []) Tryz.func33 rfl rfl (Nat.le_of_ble_eq_true rfl) (St.nil (Below.refl _ _)) ?_
 ((conv => whnf); (repeat ((first | (apply VLdN.mk; (focus ((repeat (first | (with_reducible apply ldn_blk) | (with_reducible apply ldn_skip))); done)); exact rfl) | (apply VNew.mk; intro g hg)); (conv => whnf))); apply VCall.stop)
 refine ot_callT (X := OpX) (us := []) (vs := []) (fun x => .tuple #[.slice x.B 1 x.c, .int .i64 0]) (fun x => []) (fun x => [.blk x.d1 93 [.slice B l.length c], .own (.slice x.B 1 x.c) 79 1 1 [.pointer (some ⟨x.d1, 0, none⟩)]]) _ (fun x c hc => two_mut hc) (by decide) rfl rfl rfl rfl (by kernel_rfl) (evl_of rfl) rfl (fun w1 hs => open1_ok _ B c l w1 (hs.blk_reads (by (repeat (first | exact List.Mem.head _ | assumption | refine List.Mem.tail _ ?_))) rfl) (hs.book h) hV.max z0) ?_
 intro x _
 obtain ⟨Bx, cx, d1, d2⟩ := x
 dsimp only [List.cons_append, List.nil_append]
 refine ot_own_addr (B := Bx) (m := 1) (cc := cx) (te := 79) (sz := 1) (xs := [.pointer (some ⟨d1, 0, none⟩)]) (by (repeat (first | exact List.Mem.head _ | assumption | refine List.Mem.tail _ ?_))) (by omega) rfl ?_
 rintro bx rfl
 apply ot_v tk
 ((conv => whnf); (repeat ((first | (apply VStop.mk; (first | (refine ot_makeSlice (m := 3) tk (by decide) rfl rfl rfl rfl rfl rfl rfl rfl rfl rfl rfl rfl (by omega) (by decide) (fun go hgo => ?_)) | (refine ot_clear (m := 3) (z0 := .int .i64 0) tk rfl rfl rfl rfl rfl rfl rfl rfl rfl rfl (by omega) .here rfl ?_)); apply ot_v tk) | (apply VLd.mk; exact cell_own (j := 0) (by (repeat (first | exact List.Mem.head _ | assumption | refine List.Mem.tail _ ?_))) rfl) | (apply VLd.mk; (focus ((repeat (first | ((with_reducible apply ld_blk); exact rfl) | (with_reducible apply ld_skip))); done))) | apply VBr.f | (apply v_f; omega) | (apply VIx.mk (j := 0); exact rfl; omega)); (conv => whnf))); apply VStop.mk)
 rw [fnC_zero]
 refine v_loop (fun gm ds ts A => ds = [] ∧ ∃ j : Nat, j + gm = l.length ∧ A = [.blk go 3 (fnC (seenF (l.take j)) 3)] ∧ ts = [(6, .slice (some ⟨go, 0, none⟩) 3 3), (26, .slice B l.length c), (27, .int .i64 (l.length : Int)), (28, .int .i64 (j : Int))]) l.length (l := [(6, _), (26, _), (27, _), (28, _)]) (B := [.blk go 3 (fnC (seenF (l.take 0)) 3)]) ?_ (.cons_cons _ (List.nil_sublist _)) ⟨rfl, 0, by omega, rfl, rfl⟩ ?_
 ·exact ⟨rfl, rfl, rfl, rfl, trivial⟩
 rintro gm ds ts A ⟨rfl, j, hj, rfl, rfl⟩
 by_cases hlt : j < l.length
 ·obtain ⟨b, o, rfl⟩ := book_addr h hlt
  have c1 := fun A => ln_cells h hlt A
  have ok := (hV.lnOk hlt).ck
  have hst := seenF_step hlt
  have hle := fun k => seen_le hV k (Nat.le_refl j) hlt
  unfold seenStep at hst
  unfold lnL at c1
  generalize lnAt l j = x at *
  generalize seenF (l.take j) = f at *
  obtain ⟨st, ck, kd, th, vl⟩ := x
  dsimp only at c1 ok hst hle
  obtain ⟨k, rfl, hk⟩ := toNat_eq ok.1
  rw [hk] at hst
  (apply tr_v tk; (conv => whnf); (repeat ((first | (apply VLdN.mk; exact c1 _; exact rfl) | (apply VIx.mk (j := j); exact rfl; omega) | (apply VIx.mk (j := k); exact rfl; omega) | (apply VSt.old; (focus (repeat (first | (with_reducible exact Upd.here) | (with_reducible apply Upd.there))); done); exact ble_fnC (by omega); exact setMany_fnC1 (by omega)) | (apply VLd.mk; (focus ((repeat (first | ((with_reducible apply ld_blk); exact rfl) | (with_reducible apply ld_skip))); done))) | (apply VRng.mk; omega) | apply VBr.t | (apply v_t; omega) | (apply VNew.mk; intro g hg) | (apply VSt.mk; (focus ((repeat (first | (with_reducible exact At.here) | (with_reducible apply At.there))); done)); exact rfl)); (conv => whnf))))
  exact v_rnd (gm - 1) (by omega) (l := [(6, _), (26, _), (27, _), (28, _)]) (B := _) ⟨rfl, rfl, rfl, rfl, trivial⟩ (.cons _ (List.Sublist.refl _)) ⟨rfl, j + 1, by omega, by rw [hst]; exact congrArg (fun q => [Chunk.blk go 3 q]) (fnC_congr fun i hi => by have := hle i; split <;> (try split) <;> omega), rfl⟩
 obtain rfl : j = l.length := by omega
 rw [List.take_length]
 (apply tr_v tk; (conv => whnf); (repeat ((first | apply VBr.f | (apply v_f; omega)); (conv => whnf))))
 (apply VRet.mk)
 refine ret2 (by first | exact .inl rfl | exact .inr rfl) rfl (by exact rv_tmp rfl) (by exact rv_tmp rfl) ?_
 exact fun w hs => ⟨(some ⟨go, 0, none⟩, 3), rfl, trivial, (hs.blk_own (sz := 1) (by rw [fnC_length]) (by unfold maxLen; omega))⟩
end
end Go.Proofs.YtojeeindlijgkaaGreatDoor
