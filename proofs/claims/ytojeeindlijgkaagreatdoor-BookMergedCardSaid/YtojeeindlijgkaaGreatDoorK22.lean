/- FileOf, File: lemmas for the rows of this seat. No conditions. -/
import Derived.Laws.StructEq
import Derived.Test.YtojeeindlijgkaaGreatDoorK11
import Derived.Test.YtojeeindlijgkaaGreatDoorK21
set_option linter.all false
namespace Go.Proofs.YtojeeindlijgkaaGreatDoor
open Go.RowKit
/-! ## FileOf, File -/
set_option maxHeartbeats 1000000 in
set_option maxRecDepth 20000 in
theorem fileOf_any (B : Option Addr) (c : Nat) (l : List Ln) (w : World) (h : BookR w B l) (hl : ∀ j, j < l.length → LnSm (lnAt l j)) (hm : l.length ≤ 1000) (hT : T10 w) : Calls Tryz.prog 46 #[.agg #[.slice B l.length c]] w fun e w' => e = .returned (.string (bs (fileF l).2)) ∧ Below w.heap.size w w' := by
 refine fn_v tk (n := 32) (A := []) Tryz.func46 rfl rfl (Nat.le_of_ble_eq_true rfl) (St.nil (Below.refl _ _)) ?_
 ((conv => whnf); (repeat ((apply VNew.mk; intro g hg); (conv => whnf))); apply VStop.mk)
 revert g hg
 intro g1 hg1
 refine v_loop (fun gm ds ts A => ds = [] ∧ A = [.blk g1 24 [.slice B l.length c]] ∧ ∃ j : Nat, j + gm = l.length ∧ ts = [(1, .pointer (some ⟨g1, 0, none⟩)), (3, .string (bs (fileF (l.take j)).2)), (4, .int .i64 (fileF (l.take j)).1), (5, .int .i64 (j : Int))]) l.length (l := [(1, _), (3, _), (4, _), (5, _)]) (B := _) ?_ (List.Sublist.refl _) ⟨rfl, rfl, 0, by omega, rfl⟩ ?_
 ·exact ⟨rfl, rfl, rfl, rfl, trivial⟩
 rintro gm ds ts A ⟨rfl, rfl, j, hj, rfl⟩
 by_cases hlt : j < l.length
 ·obtain ⟨b, o, rfl⟩ := book_addr h hlt
  have c1 := fun A => ln_cells h hlt A
  have hsm := hl j hlt
  have k1 := fun w1 h => refText_any (lnAt l j) hsm w1 h
  have hst := fileF_step hlt
  have hbd := fileF_bd l j (by omega)
  have hln := fileF_len hl j (by omega)
  have hll := lineT_len hsm
  have hol := outT_len (fileF (l.take j)).1 hsm
  unfold lnL at c1
  unfold lnV at k1
  unfold outT at hst hol
  generalize lnAt l j = x at *
  generalize lineT x = t at *
  generalize fileF (l.take j) = F at *
  obtain ⟨n, T⟩ := F
  dsimp only at *
  have k2 := fun w1 => sumOf_any n t w1 hbd (by omega)
  have hsb := sumT_bd t n hbd
  generalize sumT n t = n' at *
  obtain ⟨N, rfl⟩ : ∃ N : Nat, n' = N := ⟨n'.toNat, by omega⟩
  have k3 := fun w1 h => five_any N (by omega) w1 h
  rw [Int.toNat_natCast] at hst hol
  have hd5 : (f5 N).length = 5 := rfl
  generalize f5 N = d5 at *
  (apply tr_v tk; (conv => whnf); (repeat ((first | ((first | apply VStop.mk | apply VCall.stop); (refine ot_sadd (by simp only [List.length_append, List.length_cons, List.length_nil]; omega) rfl rfl rfl rfl rfl ?_); apply ot_v tk) | (apply VLdN.mk; exact c1 _; exact rfl) | (apply VIx.mk (j := j); exact rfl; omega) | (apply VCall.q; kernel_rfl; (focus (intro w1 hs; first | with_reducible apply k1 w1 (hT.st hs) | with_reducible apply k2 w1 | with_reducible apply k3 w1 (hT.st hs)))) | (apply VLd.mk; (focus ((repeat (first | ((with_reducible apply ld_blk); exact rfl) | (with_reducible apply ld_skip))); done))) | (apply VRng.mk; omega) | apply VBr.t | (apply v_t; omega)); (conv => whnf))))
  exact v_rnd (gm - 1) (by omega) (l := [(1, _), (3, _), (4, _), (5, _)]) (B := _) ⟨rfl, rfl, rfl, rfl, trivial⟩ (List.Sublist.refl _) ⟨rfl, rfl, j + 1, by omega, by rw [hst]; rfl⟩
 obtain rfl : j = l.length := by omega
 rw [List.take_length]
 (apply tr_v tk; (conv => whnf); (repeat ((first | (apply VLd.mk; (focus ((repeat (first | ((with_reducible apply ld_blk); exact rfl) | (with_reducible apply ld_skip))); done))) | apply VBr.f | (apply v_f; omega)); (conv => whnf))))
 ((apply VRet.mk); refine ret1 (by first | exact .inl rfl | exact .inr rfl) rfl (by exact rv_tmp rfl) ?_; exact fun w h => ⟨rfl, h.base⟩)
theorem Valid.sm {l : List Ln} (h : Valid l) : ∀ j, j < l.length → LnSm (lnAt l j) := fun _ hj => (h.lnOk hj).sm
section
variable (B : Option Addr) (c : Nat) (l : List Ln) (w : World) (h : BookR w B l)
include h
theorem refFile_err (hm : l.length ≤ maxLen) (hE : chkBook l ≠ 0) : Calls Tryz.prog 39 #[.agg #[.slice B l.length c]] w fun e w' => e = .returned (.tuple #[.string (bs []), .int .i64 (chkBook l)]) ∧ Below w.heap.size w w' := by
 have k1 := fun w1 h => refCheck_any B c l w1 h hm
 generalize chkBook l = z at *
 refine fn_v tk (n := 11) (A := []) Tryz.func39 rfl rfl (Nat.le_of_ble_eq_true rfl) (St.nil (Below.refl _ _)) ?_
 ((conv => whnf); (repeat ((first | (apply VCall.q; kernel_rfl; (focus (intro w1 hs; first | with_reducible apply k1 w1 (hs.book h)))) | (apply VLdN.mk; (focus ((repeat (first | (with_reducible apply ldn_blk) | (with_reducible apply ldn_skip))); done)); exact rfl) | apply VBr.t | (apply v_t; omega) | (apply VNew.mk; intro g hg)); (conv => whnf))))
 (apply VRet.mk)
 refine ret2 (by first | exact .inl rfl | exact .inr rfl) rfl (by exact rv_tmp rfl) (by exact rv_tmp rfl) ?_
 exact fun w h => ⟨rfl, h.base⟩
theorem refFile_ok (hV : Valid l) (hT : T10 w) : Calls Tryz.prog 39 #[.agg #[.slice B l.length c]] w fun e w' => e = .returned (.tuple #[.string (bs (fileF l).2), .int .i64 0]) ∧ Below w.heap.size w w' := by
 have k1 := fun w1 h => refCheck_any B c l w1 h hV.max
 rw [chk_valid.2 hV] at k1
 have k2 := fun w1 h hT => fileOf_any B c l w1 h hV.sm (by have := hV.len; omega) hT
 generalize (fileF l).2 = T at *
 refine fn_v tk (n := 11) (A := []) Tryz.func39 rfl rfl (Nat.le_of_ble_eq_true rfl) (St.nil (Below.refl _ _)) ?_
 ((conv => whnf); (repeat ((first | (apply VCall.q; kernel_rfl; (focus (intro w1 hs; first | with_reducible apply k1 w1 (hs.book h) | with_reducible apply k2 w1 (hs.book h) (hT.st hs)))) | (apply VLdN.mk; (focus ((repeat (first | (with_reducible apply ldn_blk) | (with_reducible apply ldn_skip))); done)); exact rfl) | apply VBr.f | (apply v_f; omega) | (apply VNew.mk; intro g hg)); (conv => whnf))))
 (apply VRet.mk)
 refine ret2 (by first | exact .inl rfl | exact .inr rfl) rfl (by exact rv_tmp rfl) (by exact rv_tmp rfl) ?_
 exact fun w h => ⟨rfl, h.base⟩
set_option maxRecDepth 20000 in
theorem file_err (hm : l.length ≤ maxLen) (hE : chkBook l ≠ 0) : Calls Tryz.prog 38 #[.agg #[.slice B l.length c]] w fun e w' => e = .returned (.tuple #[.string (bs []), .int .i64 (chkBook l)]) ∧ Below w.heap.size w w' := by
 have k1 := fun {g t : Nat} {A : List Chunk} {w0 w1 : World} (hs : St w0 A w1) (hb : BookR w1 B l) (hA : Chunk.blk g t [.slice B l.length c] ∈ A) => open1_err g B c l w1 (hs.blk_reads hA rfl) hb hm hE
 generalize chkBook l = z at *
 refine fn_v tk (n := 23) (A := []) Tryz.func38 rfl rfl (Nat.le_of_ble_eq_true rfl) (St.nil (Below.refl _ _)) ?_
 ((conv => whnf); (repeat ((first | (apply VCall.q; kernel_rfl; (focus (intro w1 hs; first | ((with_reducible apply k1 hs (hs.book h)); (repeat (first | exact List.Mem.head _ | assumption | refine List.Mem.tail _ ?_)))))) | (apply VLdN.mk; (focus ((repeat (first | (with_reducible apply ldn_blk) | (with_reducible apply ldn_skip))); done)); exact rfl) | apply VBr.t | (apply v_t; omega) | (apply VNew.mk; intro g hg)); (conv => whnf))))
 (apply VRet.mk)
 refine ret2 (by first | exact .inl rfl | exact .inr rfl) rfl (by exact rv_tmp rfl) (by exact rv_tmp rfl) ?_
 exact fun w h => ⟨rfl, h.base⟩
set_option maxRecDepth 20000 in
theorem file_ok (hV : Valid l) (hT : T10 w) : Calls Tryz.prog 38 #[.agg #[.slice B l.length c]] w fun e w' => e = .returned (.tuple #[.string (bs (fileF l).2), .int .i64 0]) ∧ Below w.heap.size w w' := by
 have z0 := chk_valid.2 hV
 have k2 := fun w1 h hT => file74_any B c l w1 h hV.sm (by have := hV.len; omega) hT
 generalize (fileF l).2 = T at *
 refine fn_v tk (n := 23) (A := []) Tryz.func38 rfl rfl (Nat.le_of_ble_eq_true rfl) (St.nil (Below.refl _ _)) ?_
 ((conv => whnf); (repeat ((first | (apply VLdN.mk; (focus ((repeat (first | (with_reducible apply ldn_blk) | (with_reducible apply ldn_skip))); done)); exact rfl) | (apply VNew.mk; intro g hg)); (conv => whnf))); apply VCall.stop)
 refine ot_callT (X := OpX) (us := []) (vs := []) (fun x => .tuple #[.slice x.B 1 x.c, .int .i64 0]) (fun x => []) (fun x => [.blk x.d1 93 [.slice B l.length c], .own (.slice x.B 1 x.c) 79 1 1 [.pointer (some ⟨x.d1, 0, none⟩)]]) _ (fun x c hc => two_mut hc) (by decide) rfl rfl rfl rfl (by kernel_rfl) (evl_of rfl) rfl (fun w1 hs => open1_ok _ B c l w1 (hs.blk_reads (by (repeat (first | exact List.Mem.head _ | assumption | refine List.Mem.tail _ ?_))) rfl) (hs.book h) hV.max z0) ?_
 intro x _
 obtain ⟨Bx, cx, d1, d2⟩ := x
 dsimp only [List.cons_append, List.nil_append]
 refine ot_own_addr (B := Bx) (m := 1) (cc := cx) (te := 79) (sz := 1) (xs := [.pointer (some ⟨d1, 0, none⟩)]) (by (repeat (first | exact List.Mem.head _ | assumption | refine List.Mem.tail _ ?_))) (by omega) rfl ?_
 rintro bx rfl
 apply ot_v tk
 ((conv => whnf); (repeat ((first | (apply VLd.mk; exact cell_own (j := 0) (by (repeat (first | exact List.Mem.head _ | assumption | refine List.Mem.tail _ ?_))) rfl) | (apply VCall.q; kernel_rfl; (focus (intro w1 hs; first | with_reducible apply k2 w1 (hs.book h) (hT.st hs)))) | (apply VLd.mk; (focus ((repeat (first | ((with_reducible apply ld_blk); exact rfl) | (with_reducible apply ld_skip))); done))) | apply VBr.f | (apply v_f; omega) | (apply VIx.mk (j := 0); exact rfl; omega)); (conv => whnf))))
 (apply VRet.mk)
 refine ret2 (by first | exact .inl rfl | exact .inr rfl) rfl (by exact rv_tmp rfl) (by exact rv_tmp rfl) ?_
 exact fun w h => ⟨rfl, h.base⟩
end
end Go.Proofs.YtojeeindlijgkaaGreatDoor
