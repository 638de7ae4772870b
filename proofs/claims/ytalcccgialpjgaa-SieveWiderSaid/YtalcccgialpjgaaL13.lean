/- SieveWider: lemmas for the rows of this seat. No conditions. -/
import Derived.Test.YtalcccgialpjgaaQ3
import Derived.Test.YtalcccgialpjgaaN31
import Derived.Test.YtalcccgialpjgaaL2
set_option linter.all false
namespace Go.Proofs.Ytalcccgialpjgaa
open Go.RowKit
/-! ## SieveWider -/
theorem cells_pair {w0 : World} {A : List Chunk} {b o : Nat} {x y : Value} (h0 : CellAt w0 A b o x) (h1 : CellAt w0 A b (o + 1) y) : CellsAt w0 A b o [x, y] := fun w hs i u hu => by
 match i with
 | 0 => cases hu; exact h0 w hs
 | 1 => cases hu; exact h1 w hs
section
variable {R C : List R2} {X : List (List R2)}
theorem valid_rc (hV : Valid R C X) {i k : Nat} {r c : R2} (hi : i < R.length) (hk : k < C.length) (hr : rangeB 48 r = true) (hc : rangeB 48 c = true) : Valid (R.set i r) (C.set k c) X := by
 have lr : (R.set i r).length = R.length := List.length_set
 have lc : (C.set k c).length = C.length := List.length_set
 refine ⟨by rw [lr]; exact hV.r1, by rw [lr]; exact hV.r4, by rw [lc]; exact hV.c1, by rw [lc]; exact hV.c4, by rw [lr]; exact hV.x, fun s hs => by rw [lc]; exact hV.xs s hs, fun a ha => ?_, fun b hb => ?_, fun a b ha hb => ?_⟩
 ·rw [lr] at ha
  rw [rAt_set _ hi]
  split
  ·exact hr
  ·exact hV.rr a ha
 ·rw [lc] at hb
  rw [rAt_set _ hk]
  split
  ·exact hc
  ·exact hV.cr b hb
 ·rw [lr] at ha; rw [lc] at hb
  exact hV.xr a b ha hb
theorem wider_of (hV : Valid R C X) {i k : Nat} (hi : i < R.length) (hk : k < C.length) {r1 r2 c1 x1 x2 : Int} (hr1 : 0 ≤ r1 ∧ r1 ≤ (rAt R i).1) (hr2 : (rAt R i).2 ≤ r2 ∧ r2 ≤ 48) (hc1 : 0 ≤ c1 ∧ c1 ≤ (rAt C k).1) (hx1 : 0 ≤ x1 ∧ x1 ≤ (xAt X i k).1) (hx2 : (xAt X i k).2 ≤ x2 ∧ x2 ≤ 12) :
  Valid (R.set i (r1, r2)) (C.set k (c1, (rAt C k).2)) (setX X i k (x1, x2)) ∧ Wide R C X (R.set i (r1, r2)) (C.set k (c1, (rAt C k).2)) (setX X i k (x1, x2)) := by
 have h1 := hV.rR hi
 have h2 := hV.rC hk
 have h3 := hV.rX hi hk
 have hxl := hV.x
 refine ⟨valid_rc (hV.setX hi hk (rangeB_iff.2 ⟨by dsimp only; omega, by dsimp only; omega, by dsimp only; omega⟩)) hi hk (rangeB_iff.2 ⟨by dsimp only; omega, by dsimp only; omega, by dsimp only; omega⟩) (rangeB_iff.2 ⟨by dsimp only; omega, by dsimp only; omega, by dsimp only; omega⟩), List.length_set, List.length_set, fun a _ => ?_, fun b _ => ?_, fun a b _ _ => ?_⟩
 ·rw [rAt_set _ hi]
  split
  ·rename_i e; subst e; dsimp only; omega
  ·exact ⟨Int.le_refl _, Int.le_refl _⟩
 ·rw [rAt_set _ hk]
  split
  ·rename_i e; subst e; dsimp only; omega
  ·exact ⟨Int.le_refl _, Int.le_refl _⟩
 ·rw [setX_at _ hV.xs (by omega) hk]
  split
  ·rename_i e; rw [e.1, e.2]; dsimp only; omega
  ·exact ⟨Int.le_refl _, Int.le_refl _⟩
end
section
variable (RA : Option Addr) (rc : Nat) (CA : Option Addr) (cc : Nat) (XA : Option Addr) (xc : Nat) (R C : List R2) (X : List (List R2)) (w : World) (hT : TabR w RA CA XA R C X)
include hT
set_option maxHeartbeats 40000000 in
set_option maxRecDepth 20000 in
theorem law13_any (hx : X.length ≤ maxLen) (BA : Option Addr) (bc : Nat) (by_ : List Int) (hby : Reads w w.heap.size 1 BA by_.length (by_.map (Value.int .u8))) (hbm : by_.length ≤ maxLen) (hb : ∀ z ∈ by_, 0 ≤ z ∧ z ≤ 255) (b2 b3 b4 b5 : Nat) (hb2 : b2 < 256) (hb3 : b3 < 256) (hb4 : b4 < 256) (hb5 : b5 < 256) :
  Calls Try.prog 13 #[tabV RA rc CA cc XA xc R C X, .slice BA by_.length bc, .int .u8 (b2 : Int), .int .u8 (b3 : Int), .int .u8 (b4 : Int), .int .u8 (b5 : Int)] w fun e w' => e = .returned (.bool true) ∧ Below w.heap.size w w' := by
 unfold maxLen at hbm
 by_cases hV : Valid R C X
 rotate_left
 ·have hfi := fun w1 (h : TabR w1 RA CA XA R C X) => fine_no RA rc CA cc XA xc R C X w1 h hx hV
  unfold tabV at *
  refine fn_v tk (n := 220) (A := []) Try.func13 rfl rfl (Nat.le_of_ble_eq_true rfl) (St.nil (Below.refl _ _)) ?_
  ((conv => whnf); (repeat ((first | (apply VCall.q; kernel_rfl; (focus (intro w1 hs; first | with_reducible apply hfi w1 (hs.tab hT) | with_reducible apply works_any w1))) | (apply VLdN.mk; (focus ((repeat (first | (with_reducible apply ldn_blk) | (with_reducible apply ldn_skip))); done)); exact rfl) | apply VBr.t | (apply VNew.mk; intro g hg)); (conv => whnf))))
  ((apply VRet.mk); refine ret1 (by first | exact .inl rfl | exact .inr rfl) rfl (by exact rv_tmp rfl) ?_; exact fun w h => ⟨rfl, h.base⟩)
 have hfi := fun w1 (h : TabR w1 RA CA XA R C X) => fine_yes RA rc CA cc XA xc R C X w1 h hV
 by_cases h20 : by_.length ≤ 20
 rotate_left
 ·unfold tabV at *
  refine fn_v tk (n := 220) (A := []) Try.func13 rfl rfl (Nat.le_of_ble_eq_true rfl) (St.nil (Below.refl _ _)) ?_
  ((conv => whnf); (repeat ((first | (apply VCall.q; kernel_rfl; (focus (intro w1 hs; first | with_reducible apply hfi w1 (hs.tab hT) | with_reducible apply works_any w1))) | (apply VLdN.mk; (focus ((repeat (first | (with_reducible apply ldn_blk) | (with_reducible apply ldn_skip))); done)); exact rfl) | apply VBr.t | apply VBr.f | (apply v_t; omega) | (apply VNew.mk; intro g hg)); (conv => whnf))))
  ((apply VRet.mk); refine ret1 (by first | exact .inl rfl | exact .inr rfl) rfl (by exact rv_tmp rfl) ?_; exact fun w h => ⟨rfl, h.base⟩)
 have hn := hV.r4
 have hm := hV.c4
 have hn1 := hV.r1
 have hm1 := hV.c1
 obtain ⟨i, hi, ei⟩ := byte_mod b2 R.length hn1
 obtain ⟨k, hk, ek⟩ := byte_mod b3 C.length hm1
 obtain ⟨j, hj, ej⟩ := byte_mod b4 R.length hn1
 obtain ⟨l, hl, el⟩ := byte_mod (b4 / 4) C.length hm1
 have eq4 : Int.tdiv (b4 : Int) 4 = ((b4 / 4 : Nat) : Int) := by rw [Int.tdiv_eq_ediv_of_nonneg (by omega)]; simp
 obtain ⟨d, hd0, hd1, ed⟩ := byte_modI b5 (n := 5) (by omega)
 obtain ⟨hd2, hd3⟩ : 0 ≤ Int.tdiv d 2 ∧ Int.tdiv d 2 ≤ 2 := by rw [Int.tdiv_eq_ediv_of_nonneg hd0]; omega
 have hto := fun (a b : Int) w1 => to_any a b w1
 have hgi := fun w1 (h : TabR w1 RA CA XA R C X) hh => given_anyN RA rc CA cc XA xc R C X w1 h hV BA bc by_ hh (by omega) hb
 have hGl := givL_len C.length R.length by_ (X := X)
 have hGr := givL_rows (m := C.length) (n := R.length) (by_ := by_) (X := X)
 have hGi := giv_in hV by_
 have hGf := giv_fill hV by_
 generalize givL C.length X by_ R.length = G at *
 have har := fun w1 (h : TabR w1 RA CA XA R C X) NA nc hN => around_anyN RA rc CA cc XA xc R C X w1 h hV NA nc G hN hGf
 rw [hGl] at har
 have hV' := ar_valid hV hGi
 have hGT := ar_isT hGi
 have lr := arR_len (R := R) (C := C) G
 have lc := arC_len (R := R) (C := C) G
 generalize arR R C G = R' at *
 generalize arC R C G = C' at *
 have hH : HasT R' C' X := ⟨_, hGT⟩
 have hi' : i < R'.length := by omega
 have hk' : k < C'.length := by omega
 have hj' : j < R'.length := by omega
 have hl' : l < C'.length := by omega
 have hvx := hV'.rX hi' hk'
 have hvr := hV'.rR hi'
 have hvc := hV'.rC hk'
 have hxr := hV.xs
 have hxl := hV.x
 -- the wider table
 have hm1' := le_mx 0 ((rAt R' i).1 - (Int.tdiv d 2))
 have hm2' := mn_le 48 ((rAt R' i).2 + d)
 have hm3' := le_mx 0 ((rAt C' k).1 - d)
 have hm4' := le_mx 0 ((xAt X i k).1 - d)
 have hm5' := mn_le 12 ((xAt X i k).2 + (Int.tdiv d 2))
 obtain ⟨hV2, hW⟩ := wider_of hV' hi' hk' (r1 := mx 0 ((rAt R' i).1 - (Int.tdiv d 2))) (r2 := mn 48 ((rAt R' i).2 + d)) (c1 := mx 0 ((rAt C' k).1 - d)) (x1 := mx 0 ((xAt X i k).1 - d)) (x2 := mn 12 ((xAt X i k).2 + (Int.tdiv d 2))) (by omega) (by omega) (by omega) (by omega) (by omega)
 have hwi := fun w1 {RA CA XA} rc cc xc (h : TabR w1 RA CA XA R' C' X) => with_anyN RA rc CA cc XA xc R' C' X w1 h hV' i k hi' hk' (mx 0 ((xAt X i k).1 - d), mn 12 ((xAt X i k).2 + (Int.tdiv d 2)))
 have lx := setX_len X i k (mx 0 ((xAt X i k).1 - d), mn 12 ((xAt X i k).2 + (Int.tdiv d 2)))
 have hcr := fun {A1 : List Chunk} {br cr : Nat} (h : Chunk.own (.slice (some ⟨br, 0, none⟩) R'.length cr) 37 2 R'.length (rgC R') ∈ A1) => own_rg (w0 := w) h hi'
 have hcc := fun {A1 : List Chunk} {br cr : Nat} (h : Chunk.own (.slice (some ⟨br, 0, none⟩) C'.length cr) 37 2 C'.length (rgC C') ∈ A1) => own_rg (w0 := w) h hk'
 have hpr := rgC_put (l := R') (j := i) (mx 0 ((rAt R' i).1 - (Int.tdiv d 2)), mn 48 ((rAt R' i).2 + d)) hi'
 have hpc := rgC_put (l := C') (j := k) (mx 0 ((rAt C' k).1 - d), (rAt C' k).2) hk'
 have l1 : (R'.set i (mx 0 ((rAt R' i).1 - (Int.tdiv d 2)), mn 48 ((rAt R' i).2 + d))).length = R'.length := List.length_set
 have l2 : (C'.set k (mx 0 ((rAt C' k).1 - d), (rAt C' k).2)).length = C'.length := List.length_set
 have hH2 := hW.has hH
 have hG2 := hW.isT hGT
 have hWc := hW.cell hH hj' hl'
 have hWa := hW.all hV' hV2 hH
 have ea := allA_ok hV' hH
 have ea2 := allA_ok hV2 hH2
 generalize hR2 : R'.set i (mx 0 ((rAt R' i).1 - (Int.tdiv d 2)), mn 48 ((rAt R' i).2 + d)) = R2 at *
 generalize hC2 : C'.set k (mx 0 ((rAt C' k).1 - d), (rAt C' k).2) = C2 at *
 generalize hX2 : setX X i k (mx 0 ((xAt X i k).1 - d), mn 12 ((xAt X i k).2 + (Int.tdiv d 2))) = X2 at *
 clear hR2 hC2 hX2 hm1' hm2' hm3' hm4' hm5'
 have kct := fun {A1 w1} (hs : St w A1 w1) {z : TabX} (hz : z.xs.length = X.length) (h : ∀ {d}, d ∈ tabCh R' C' X z → d ∈ A1) {x : NumX} (hx : x.xs.length = R.length) (h' : ∀ {d}, d ∈ numCh R.length G x → d ∈ A1) => check_numX z.r.1 z.r.2 z.c.1 z.c.2 z.x.1 z.x.2 R' C' X w1 (hs.tabX' z hz h) hV' (by omega) (fun s hs => by rw [hGr s hs, lc]) (nc := x.x.2) (hs.numX x hGl hx h') ((tru_iff hV' (by omega) (fun s hs => by rw [hGr s hs, lc])).2 hGT)
 have q21 := fun {A1 w1} (hs : St w A1 w1) {z : TabX} (hz : z.xs.length = X2.length) (h : ∀ {d}, d ∈ tabCh R2 C2 X2 z → d ∈ A1) {x : NumX} (hx : x.xs.length = R.length) (h' : ∀ {d}, d ∈ numCh R.length G x → d ∈ A1) => check_numX z.r.1 z.r.2 z.c.1 z.c.2 z.x.1 z.x.2 R2 C2 X2 w1 (hs.tabX' z hz h) hV2 (by omega) (fun s hs => by rw [hGr s hs, l2, lc]) (nc := x.x.2) (hs.numX x hGl hx h') ((tru_iff hV2 (by omega) (fun s hs => by rw [hGr s hs, l2, lc])).2 hG2)
 have k46 := fun {A1 w1} (hs : St w A1 w1) {z : TabX} (hz : z.xs.length = X.length) (h : ∀ {d}, d ∈ tabCh R' C' X z → d ∈ A1) => cell46_any z.r.1 z.r.2 z.c.1 z.c.2 z.x.1 z.x.2 R' C' X w1 (hs.tabX' z hz h) hV' hH j l hj' hl'
 have q46 := fun {A1 w1} (hs : St w A1 w1) {z : TabX} (hz : z.xs.length = X2.length) (h : ∀ {d}, d ∈ tabCh R2 C2 X2 z → d ∈ A1) => cell46_any z.r.1 z.r.2 z.c.1 z.c.2 z.x.1 z.x.2 R2 C2 X2 w1 (hs.tabX' z hz h) hV2 hH2 j l (by omega) (by omega)
 have k34 := fun {A1 w1} (hs : St w A1 w1) {z : TabX} (hz : z.xs.length = X.length) (h : ∀ {d}, d ∈ tabCh R' C' X z → d ∈ A1) => all_any z.r.1 z.r.2 z.c.1 z.c.2 z.x.1 z.x.2 R' C' X w1 (hs.tabX' z hz h) hV'.fit
 have q34 := fun {A1 w1} (hs : St w A1 w1) {z : TabX} (hz : z.xs.length = X2.length) (h : ∀ {d}, d ∈ tabCh R2 C2 X2 z → d ∈ A1) => all_any z.r.1 z.r.2 z.c.1 z.c.2 z.x.1 z.x.2 R2 C2 X2 w1 (hs.tabX' z hz h) hV2.fit
 rw [ea] at k34
 rw [ea2] at q34
 generalize cellR R' C' X j l = ca at *
 generalize cellR R2 C2 X2 j l = cb at *
 generalize allR R' C' X = aa at *
 generalize allR R2 C2 X2 = ab at *
 obtain ⟨ca1, ca2⟩ := ca
 obtain ⟨cb1, cb2⟩ := cb
 obtain ⟨aa1, aa2⟩ := aa
 obtain ⟨ab1, ab2⟩ := ab
 unfold tabX tabV at *
 unfold resV at k34 q34
 unfold mn mx at hwi hpr
 unfold mx at hpc
 dsimp only at *
 generalize hl1 : R'.length = n1 at *
 generalize hl2 : C'.length = m1 at *
 generalize hl3 : R2.length = n2 at *
 generalize hl4 : C2.length = m2 at *
 subst l1
 subst l2
 subst lr
 subst lc
 refine fn_k (n := 220) (A := []) Try.func13 rfl rfl (Nat.le_of_ble_eq_true rfl) (St.nil (Below.refl _ _)) ?_
 refine tr_seqK ?_
 (apply tr_v tk; (conv => whnf); (repeat ((apply VNew.mk; intro g hg); (conv => whnf))); apply VStop.mk)
 refine tr_seqK ?_
 (apply tr_v tk; (conv => whnf); (repeat ((first | (apply VCall.q; kernel_rfl; (focus (intro w1 hs; first | with_reducible apply hfi w1 (hs.tab hT)))) | (apply VLdN.mk; (focus ((repeat (first | (with_reducible apply ldn_blk) | (with_reducible apply ldn_skip))); done)); exact rfl) | apply VBr.f | (apply v_f; omega)); (conv => whnf))); apply VStop.mk)
 revert g hg
 intro g6 hg6
 refine tr_seqK ?_
 (apply tr_v tk; (conv => whnf); (repeat ((apply VLdN.mk; (focus ((repeat (first | (with_reducible apply ldn_blk) | (with_reducible apply ldn_skip))); done)); exact rfl); (conv => whnf))); apply VCall.stop)
 refine ot_callT (X := NumX) (us := []) (vs := []) (fun x => .slice x.x.1 R.length x.x.2) (fun x => []) (fun x => numCh R.length G x) _ (fun x c hc => numCh_mut hc) (by decide) rfl rfl rfl rfl (by kernel_rfl) (evl_of rfl) rfl (fun w1 hs => hgi w1 (hs.tab hT) (hs.reads hby)) ?_
 intro x hxx
 (dsimp only [List.cons_append, List.nil_append]; apply ot_v tk)
 ((conv => whnf); apply VStop.mk)
 refine tr_seqK ?_
 (apply tr_v tk; (conv => whnf); (repeat ((apply VLdN.mk; (focus ((repeat (first | (with_reducible apply ldn_blk) | (with_reducible apply ldn_skip))); done)); exact rfl); (conv => whnf))); apply VCall.stop)
 refine ot_callT (X := TabX) (us := []) (vs := []) (fun x => .agg #[.slice x.r.1 R.length x.r.2, .slice x.c.1 C.length x.c.2, .slice x.x.1 X.length x.x.2]) (fun x => []) (fun x => tabCh R' C' X x) _ (fun x c hc => tabCh_mut' hc) (by decide) rfl rfl rfl rfl (by kernel_rfl) (evl_of rfl) rfl (fun w1 hs => har w1 (hs.tab hT) x.x.1 x.x.2 (hs.numX x hGl hxx (fun {d} hd => by (with_reducible (repeat refine List.mem_cons_of_mem _ ?_); first | exact hd | exact List.mem_append_left _ hd | exact List.mem_append_right _ hd | exact List.mem_append_left _ (List.mem_append_left _ hd) | exact List.mem_append_left _ (List.mem_append_right _ hd) | exact List.mem_append_left _ (List.mem_append_left _ (List.mem_append_left _ hd)) | exact List.mem_append_left _ (List.mem_append_left _ (List.mem_append_right _ hd)))))) ?_
 intro z hz
 (dsimp only [List.cons_append, List.nil_append]; apply ot_v tk)
 ((conv => whnf); (repeat ((first | (apply VNew.mk; intro g hg) | (apply VSt.mk; (focus ((repeat (first | (with_reducible exact At.here) | (with_reducible apply At.there))); done)); exact rfl)); (conv => whnf))); apply VStop.mk)
 revert g hg
 intro g14 hg14
 refine tr_nameA2 ?_
 intro A1 hA1
 have c14 : .blk g14 25 [.slice z.r.1 R.length z.r.2, .slice z.c.1 C.length z.c.2, .slice z.x.1 X.length z.x.2] ∈ A1 := by rw [hA1]; exact .head _
 have c6 : .blk g6 25 [.slice RA R.length rc, .slice CA C.length cc, .slice XA X.length xc] ∈ A1 := by rw [hA1]; exact .tail _ (.head _)
 have hxA : ∀ {d}, d ∈ numCh R.length G x → d ∈ A1 := fun {d} hd => by rw [hA1]; exact .tail _ (.tail _ (List.mem_append_left _ hd))
 have hzA : ∀ {d}, d ∈ tabCh R' C' X z → d ∈ A1 := fun {d} hd => by rw [hA1]; exact .tail _ (.tail _ (List.mem_append_right _ hd))
 clear hA1
 refine tr_fact (p := _) (fun w' hs => tab_some hs z hV.x hxr hz hi hk hzA) ?_
 rintro ⟨zb, ub, uc, hzb, vs', row', n1, v3, n2, v4, v5⟩
 have z1 : ∀ {A'}, A1.Sublist A' → CellAt w A' zb (0 + i * 1) (.slice (some ⟨ub, 0, none⟩) C.length uc) := fun h => by rw [Nat.zero_add, Nat.mul_one]; exact cell_own (h.subset (hzA n1)) v3
 have z2 : ∀ {A'}, A1.Sublist A' → CellsAt w A' ub (0 + k * 2) [.int .i64 (xAt X i k).1, .int .i64 (xAt X i k).2] := fun h => by rw [Nat.zero_add]; exact cells_pair (cell_own (h.subset (hzA n2)) v4) (cell_own (h.subset (hzA n2)) v5)
 replace k46 := fun {A' w1} (hs : St w A' w1) (h : A1.Sublist A') => k46 hs hz fun {d} hd => h.subset (hzA hd)
 replace k34 := fun {A' w1} (hs : St w A' w1) (h : A1.Sublist A') => k34 hs hz fun {d} hd => h.subset (hzA hd)
 replace kct := fun {A' w1} (hs : St w A' w1) (h : A1.Sublist A') => kct hs hz (fun {d} hd => h.subset (hzA hd)) hxx (fun {d} hd => h.subset (hxA hd))
 replace q21 := fun {A' w1} (hs : St w A' w1) (h : A1.Sublist A') {y : TabX} hy hy' => @q21 A' w1 hs y hy hy' x hxx (fun {d} hd => h.subset (hxA hd))
 have kwi := fun {A' w1} (hs : St w A' w1) (h : A1.Sublist A') => hwi w1 z.r.2 z.c.2 z.x.2 (hs.tabX' z hz fun {d} hd => h.subset (hzA hd))
 rw [hzb] at c14 k46 k34 kct kwi
 rw [hzb]
 clear hwi
 refine tr_weak (l := [(2, _), (3, _), (4, _), (5, _), (6, _), (13, _), (14, _)]) (B := A1) ⟨rfl, rfl, rfl, rfl, rfl, rfl, rfl, trivial⟩ (List.Sublist.refl _) ?_
 refine tr_seqK ?_
 (apply tr_v tk; (conv => whnf); (repeat ((first | (apply VStop.mk; refine tr_region_lex (id := 5) (by kernel_rfl) [.rd, .rd, .rd, .rd, .rd, .rd, .rd, .rd, .rd, .rd, .rd, .rd, .rd, .rd, .rd, .rd, .rd, .rd] rfl (by kernel_rfl) ?_; apply ot_v tk) | (apply VLd.mk; first | exact cell_blk (List.Sublist.subset sb c14) rfl | exact cell_blk (List.Sublist.subset sb c6) rfl | exact z1 sb) | (apply v_wr64; omega) | (apply VNz.mk; omega)); (conv => whnf))); apply VStop.mk)
 rw [ei, ek, ed]
 refine tr_seqK ?_
 (apply tr_v tk; (conv => whnf); (repeat ((first | (apply VLdN.mk; (first | exact cells_blk_all (List.Sublist.subset sb c14) | exact cells_blk_all (List.Sublist.subset sb c6) | exact z2 sb); exact rfl) | (apply VLd.mk; first | exact cell_blk (List.Sublist.subset sb c14) rfl | exact cell_blk (List.Sublist.subset sb c6) rfl | exact z1 sb) | (apply VIx.mk (j := i); exact rfl; omega) | (apply VIx.mk (j := k); exact rfl; omega) | (apply VNew.mk; intro g hg) | (apply VSt.mk; (focus ((repeat (first | (with_reducible exact At.here) | (with_reducible apply At.there))); done)); exact rfl)); (conv => whnf))); apply VStop.mk)
 revert g hg
 intro g18 hg18
 refine tr_cut (fun y : Nat × { y : TabX // y.xs.length = X2.length } => ([(4, .int .u8 (b4 : Int)), (6, .pointer (some ⟨g6, 0, none⟩)), (13, .slice x.x.1 R.length x.x.2), (14, .pointer (some ⟨g14, 0, none⟩)), (15, .int .i64 (i : Int)), (16, .int .i64 (k : Int)), (17, .int .i64 d), (19, .pointer (some ⟨y.1, 0, none⟩))], .own (.slice y.2.1.r.1 R.length y.2.1.r.2) 37 2 R.length (rgC R') :: .own (.slice y.2.1.c.1 C.length y.2.1.c.2) 37 2 C.length (rgC C') :: .blk y.1 25 [.slice y.2.1.r.1 R.length y.2.1.r.2, .slice y.2.1.c.1 C.length y.2.1.c.2, .slice y.2.1.x.1 X2.length y.2.1.x.2] :: .own (.slice y.2.1.x.1 X2.length y.2.1.x.2) 22 1 X2.length (nsVs y.2.1.xs (nestR X2)) :: (A1 ++ nsCh 37 2 y.2.1.xs (nestR X2)))) ?_ ?_
 ·unfold tabCh at kwi
  rw [hl1, hl2] at kwi
  have hsub : ∀ A B : List Chunk, A.Sublist (A.append B) := List.sublist_append_left
  /- frame -/
  (apply tr_v tk; (conv => whnf); (repeat ((first | ((first | apply VStop.mk | apply VCall.stop); refine tr_region_treeV (id := 7) (by kernel_rfl) (.blk g18 37 _ :: A1) (by (repeat (first | exact hsub _ _ | exact List.nil_sublist _ | exact List.Sublist.refl _ | refine List.Sublist.cons_cons _ ?_ | refine List.Sublist.cons _ ?_))) [0, 1, 2, 3, 4, 5, 6, 7, 8, 9, 10, 11, 12, 13, 14] [15, 16, 17] [.rd, .rd, .rd, .rd, .rd, .rd, .rd, .rd, .rd, .rd, .rd, .rd, .rd, .rd, .rd] (fun i => [.wr, .wr, .wr, .wr, .wr, .wr, .wr, .wr, .wr, .wr, .wr, .wr, .wr, .wr, .wr, .cr, .cr, .wr].getD i .wr) _ rfl rfl (by kernel_rfl) ?_; apply ot_v tk) | (apply VLdN.mk; (first | exact cells_blk_all (List.Sublist.subset sb c14) | exact cells_blk_all (List.Sublist.subset sb c6) | exact z2 sb); exact rfl) | (apply VCall.q; kernel_rfl; (focus (intro w1 hs; first | with_reducible apply hto _ _ w1))) | (apply VLd.mk; (focus ((repeat (first | ((with_reducible apply ld_blk); exact rfl) | (with_reducible apply ld_skip))); done))) | (apply VRng.mk; omega) | (apply VNz.mk; omega)); (conv => whnf))))
  refine ox2 15 16 ?_ ?_
  ·(refine ot_callT (X := TabX) (us := []) (vs := []) (fun x => .agg #[.slice x.r.1 R.length x.r.2, .slice x.c.1 C.length x.c.2, .slice x.x.1 X2.length x.x.2]) (fun x => [.own (.slice x.r.1 R.length x.r.2) 37 2 R.length (rgC R'), .own (.slice x.c.1 C.length x.c.2) 37 2 C.length (rgC C'), .own (.slice x.x.1 X2.length x.x.2) 22 1 X2.length (nsVs x.xs (nestR X2))]) (fun x => nsCh 37 2 x.xs (nestR X2)) _ (fun x c hc => tabCh_mut (R := R') (C := C') (X := X2) (x := x) c (by unfold tabCh; rw [hl1, hl2]; exact hc)) (by decide) rfl rfl rfl rfl (by kernel_rfl) (evl_of rfl) rfl (fun w1 hs => kwi hs sb) (fun y hy => ?_); refine ot_nil ?_; refine slist_and (by (repeat (first | exact hsub _ _ | exact List.nil_sublist _ | exact List.Sublist.refl _ | refine List.Sublist.cons_cons _ ?_ | refine List.Sublist.cons _ ?_))) ?_)
   refine ox1 16 ?_
   (apply ot_v tk; (conv => whnf); (apply VNew.mk; intro g7 hg7; (conv => whnf)); refine slist_and (by (repeat (first | exact hsub _ _ | exact List.nil_sublist _ | exact List.Sublist.refl _ | refine List.Sublist.cons_cons _ ?_ | refine List.Sublist.cons _ ?_))) ?_)
   refine ox1 17 ?_
   (apply ot_v tk; (conv => whnf); (apply VSt.mk; (focus (repeat (first | exact At.here | apply At.there)); done); exact rfl; (conv => whnf)); refine slist_and (by (repeat (first | exact hsub _ _ | exact List.nil_sublist _ | exact List.Sublist.refl _ | refine List.Sublist.cons_cons _ ?_ | refine List.Sublist.cons _ ?_))) ?_)
   refine VT.mk (otx_end ?_)
   exact VJ.mk (g7, ⟨y, hy⟩) rfl ⟨rfl, rfl, rfl, rfl, rfl, rfl, rfl, rfl, trivial⟩ (by ((try dsimp only); (iterate 3 ((apply Pick.cons); (focus (repeat (first | exact Rem.here | apply Rem.there)); done))); exact Pick.of_sub (by (repeat (first | exact hsub _ _ | exact List.nil_sublist _ | exact List.Sublist.refl _ | refine List.Sublist.cons_cons _ ?_ | refine List.Sublist.cons _ ?_)))))
  ·(apply ot_v tk; (conv => whnf); (apply VNew.mk; intro g7 hg7; (conv => whnf)); refine slist_and (by (repeat (first | exact hsub _ _ | exact List.nil_sublist _ | exact List.Sublist.refl _ | refine List.Sublist.cons_cons _ ?_ | refine List.Sublist.cons _ ?_))) ?_)
   refine ox1 15 ?_
   (refine ot_callT (X := TabX) (us := []) (vs := []) (fun x => .agg #[.slice x.r.1 R.length x.r.2, .slice x.c.1 C.length x.c.2, .slice x.x.1 X2.length x.x.2]) (fun x => [.own (.slice x.r.1 R.length x.r.2) 37 2 R.length (rgC R'), .own (.slice x.c.1 C.length x.c.2) 37 2 C.length (rgC C'), .own (.slice x.x.1 X2.length x.x.2) 22 1 X2.length (nsVs x.xs (nestR X2))]) (fun x => nsCh 37 2 x.xs (nestR X2)) _ (fun x c hc => tabCh_mut (R := R') (C := C') (X := X2) (x := x) c (by unfold tabCh; rw [hl1, hl2]; exact hc)) (by decide) rfl rfl rfl rfl (by kernel_rfl) (evl_of rfl) rfl (fun w1 hs => kwi hs sb) (fun y hy => ?_); refine ot_nil ?_; refine slist_and (by (repeat (first | exact hsub _ _ | exact List.nil_sublist _ | exact List.Sublist.refl _ | refine List.Sublist.cons_cons _ ?_ | refine List.Sublist.cons _ ?_))) ?_)
   refine ox1 17 ?_
   (apply ot_v tk; (conv => whnf); (apply VSt.mk; (focus (repeat (first | exact At.here | apply At.there)); done); exact rfl; (conv => whnf)); refine slist_and (by (repeat (first | exact hsub _ _ | exact List.nil_sublist _ | exact List.Sublist.refl _ | refine List.Sublist.cons_cons _ ?_ | refine List.Sublist.cons _ ?_))) ?_)
   refine VT.mk (otx_end ?_)
   exact VJ.mk (g7, ⟨y, hy⟩) rfl ⟨rfl, rfl, rfl, rfl, rfl, rfl, rfl, rfl, trivial⟩ (by ((try dsimp only); (iterate 3 ((apply Pick.cons); (focus (repeat (first | exact Rem.here | apply Rem.there)); done))); exact Pick.of_sub (by (repeat (first | exact hsub _ _ | exact List.nil_sublist _ | exact List.Sublist.refl _ | refine List.Sublist.cons_cons _ ?_ | refine List.Sublist.cons _ ?_)))))
 rintro ⟨g19, ⟨⟨Br, cr⟩, ⟨Bc, cc2⟩, ⟨Bx, cx⟩, xs⟩, hxs⟩
 dsimp only at hxs ⊢
 refine tr_fact (p := (∃ b, Br = some ⟨b, 0, none⟩) ∧ ∃ b, Bc = some ⟨b, 0, none⟩) (fun w' hs => ⟨own_some hs (.head _) (by omega), own_some hs (.tail _ (.head _)) (by omega)⟩) ?_
 rintro ⟨⟨br, rfl⟩, bc2, rfl⟩
 generalize hD : (.own (.slice Bx X2.length cx) 22 1 X2.length (nsVs xs (nestR X2)) :: (A1 ++ nsCh 37 2 xs (nestR X2)) : List Chunk) = D
 refine tr_seqK ?_
 (apply tr_v tk; (conv => whnf); (repeat ((first | ((first | apply VStop.mk | apply VCall.stop); refine tr_region_draw (id := 8) (by kernel_rfl) [0, 1, 2, 3, 4, 5, 6, 7, 8, 9, 10, 11, 12, 13, 14, 15, 16, 17, 18, 19, 20, 21, 22, 23, 24] [.rd, .rd, .rd, .rd, .rd, .rd, .rd, .rd, .rd, .rd, .rd, .rd, .rd, .rd, .rd, .rd, .rd, .rd, .rd, .rd, .rd, .rd, .rd, .rd, .wr] rfl (by kernel_rfl) ?_; apply ot_v tk) | (apply VIx.mk (j := i); exact rfl; omega) | (apply VLd.mk; first | exact (hcr (by (repeat (first | with_unfolding_all exact List.Mem.head _ | assumption | with_unfolding_all refine List.Mem.tail _ ?_)))).1 | exact (hcr (by (repeat (first | with_unfolding_all exact List.Mem.head _ | assumption | with_unfolding_all refine List.Mem.tail _ ?_)))).2) | (apply VSt.stop; refine ot_storeN_own (sz := 2) (vs := [.int .i64 (if (rAt R' i).1 - Int.tdiv d 2 > 0 then (rAt R' i).1 - Int.tdiv d 2 else 0), .int .i64 (if (rAt R' i).2 + d < 48 then (rAt R' i).2 + d else 48)]) tk rfl rfl rfl rfl rfl rfl rfl rfl rfl rfl .here (by simp only [List.length_cons, List.length_nil]; omega) (Nat.succ_pos _) ?_; apply ot_v tk) | (apply VCall.q; kernel_rfl; (focus (intro w1 hs; first | with_reducible apply hto _ _ w1))) | (apply VLd.mk; (focus ((repeat (first | ((with_reducible apply ld_blk); exact rfl) | (with_reducible apply ld_skip))); done))) | (apply VRng.mk; omega) | (apply VNz.mk; omega)); (conv => whnf))); apply VStop.mk)
 rw [hpr]
 refine tr_seqK ?_
 (apply tr_v tk; (conv => whnf); (repeat ((first | ((first | apply VStop.mk | apply VCall.stop); refine tr_region_draw (id := 9) (by kernel_rfl) [0, 1, 2, 3, 4, 5, 6, 7, 8, 9, 10, 11, 12, 13, 14, 15, 16, 17, 18, 19, 20] [.rd, .rd, .rd, .rd, .rd, .rd, .rd, .rd, .rd, .rd, .rd, .rd, .rd, .rd, .rd, .rd, .rd, .rd, .rd, .rd, .wr] rfl (by kernel_rfl) ?_; apply ot_v tk) | (apply VIx.mk (j := k); exact rfl; omega) | (apply VLd.mk; first | exact (hcc (by (repeat (first | with_unfolding_all exact List.Mem.head _ | assumption | with_unfolding_all refine List.Mem.tail _ ?_)))).1 | exact (hcc (by (repeat (first | with_unfolding_all exact List.Mem.head _ | assumption | with_unfolding_all refine List.Mem.tail _ ?_)))).2) | (apply VSt.stop; refine ot_storeN_own (sz := 2) (vs := [.int .i64 (if (rAt C' k).1 - d > 0 then (rAt C' k).1 - d else 0), .int .i64 (rAt C' k).2]) tk rfl rfl rfl rfl rfl rfl rfl rfl rfl rfl (.there .here) (by simp only [List.length_cons, List.length_nil]; omega) (Nat.succ_pos _) ?_; apply ot_v tk) | (apply VCall.q; kernel_rfl; (focus (intro w1 hs; first | with_reducible apply hto _ _ w1))) | (apply VLd.mk; (focus ((repeat (first | ((with_reducible apply ld_blk); exact rfl) | (with_reducible apply ld_skip))); done))) | (apply VRng.mk; omega)); (conv => whnf))); apply VStop.mk)
 rw [hpc]
 refine tr_nameA2 ?_
 intro A3 hA3
 have hsub3 : A1.Sublist A3 := by rw [hA3, ← hD]; exact ((((List.sublist_append_left _ _).cons _).cons _).cons _).cons _
 have d19 : .blk g19 25 [.slice (some ⟨br, 0, none⟩) R.length cr, .slice (some ⟨bc2, 0, none⟩) C.length cc2, .slice Bx X2.length cx] ∈ A3 := by rw [hA3]; exact .tail _ (.tail _ (.head _))
 obtain ⟨y, hy⟩ : ∃ y : TabX, y = ⟨(some ⟨br, 0, none⟩, cr), (some ⟨bc2, 0, none⟩, cc2), (Bx, cx), xs⟩ := ⟨_, rfl⟩
 have hyl : y.xs.length = X2.length := by rw [hy]; exact hxs
 have hyA : ∀ {d}, d ∈ tabCh R2 C2 X2 y → d ∈ A3 := fun {e} he => by
  rw [hy] at he
  unfold tabCh at he
  dsimp only at he
  rw [hl3, hl4] at he
  rw [hA3, ← hD]
  rcases List.mem_cons.1 he with h | he
  ·rw [h]; exact .head _
  rcases List.mem_cons.1 he with h | he
  ·rw [h]; exact .tail _ (.head _)
  rcases List.mem_cons.1 he with h | he
  ·rw [h]; exact .tail _ (.tail _ (.tail _ (.head _)))
  exact .tail _ (.tail _ (.tail _ (.tail _ (List.mem_append_right _ he))))
 clear hA3
 have d14 := hsub3.subset c14
 have d6 := hsub3.subset c6
 replace q46 := fun {A' w1} (hs : St w A' w1) (h : A3.Sublist A') => q46 hs hyl fun {d} hd => h.subset (hyA hd)
 replace q34 := fun {A' w1} (hs : St w A' w1) (h : A3.Sublist A') => q34 hs hyl fun {d} hd => h.subset (hyA hd)
 replace q21 := fun {A' w1} (hs : St w A' w1) (h : A3.Sublist A') => q21 hs (hsub3.trans h) hyl (fun {d} hd => h.subset (hyA hd))
 replace k46 := fun {A' w1} (hs : St w A' w1) (h : A3.Sublist A') => k46 hs (hsub3.trans h)
 replace k34 := fun {A' w1} (hs : St w A' w1) (h : A3.Sublist A') => k34 hs (hsub3.trans h)
 replace kct := fun {A' w1} (hs : St w A' w1) (h : A3.Sublist A') => kct hs (hsub3.trans h)
 rw [hy] at q46 q34 q21
 dsimp only at q46 q34 q21
 refine tr_weak (l := [(4, _), (6, _), (13, _), (14, _), (19, _)]) (B := A3) ⟨rfl, rfl, rfl, rfl, rfl, trivial⟩ (List.Sublist.refl _) ?_
 refine tr_seqK ?_
 (apply tr_v tk; (conv => whnf); (repeat ((first | (apply VStop.mk; refine tr_region_lex (id := 10) (by kernel_rfl) [.rd, .rd, .rd, .rd, .rd, .rd, .rd, .rd, .rd, .rd, .rd, .rd, .rd, .rd, .rd] rfl (by kernel_rfl) ?_; apply ot_v tk) | (apply VLd.mk; exact cell_blk (List.Sublist.subset sb d6) rfl) | (apply VRng.mk; omega) | (apply v_wr64; omega) | (apply VNz.mk; omega)); (conv => whnf))); apply VStop.mk)
 rw [eq4, el, ej]
 refine tr_seqK ?_
 (apply tr_v tk; (conv => whnf); (repeat ((first | (apply VLdN.mk; (first | exact cells_blk_all (List.Sublist.subset sb d14) | exact cells_blk_all (List.Sublist.subset sb d19) | exact cells_blk_all (List.Sublist.subset sb d6)); exact rfl) | (apply VCall.q; kernel_rfl; (focus (intro w1 hs; first | with_reducible apply k46 hs sb))) | (apply VNew.mk; intro g hg) | (apply VSt.mk; (focus ((repeat (first | (with_reducible exact At.here) | (with_reducible apply At.there))); done)); exact rfl)); (conv => whnf))); apply VStop.mk)
 revert g hg
 intro g22 hg22
 refine tr_seqK ?_
 (apply tr_v tk; (conv => whnf); (repeat ((first | (apply VLdN.mk; (first | exact cells_blk_all (List.Sublist.subset sb d14) | exact cells_blk_all (List.Sublist.subset sb d19) | exact cells_blk_all (List.Sublist.subset sb d6)); exact rfl) | (apply VCall.q; kernel_rfl; (focus (intro w1 hs; first | with_reducible apply q46 hs sb))) | (apply VNew.mk; intro g hg) | (apply VSt.mk; (focus ((repeat (first | (with_reducible exact At.here) | (with_reducible apply At.there))); done)); exact rfl)); (conv => whnf))); apply VStop.mk)
 revert g hg
 intro g24 hg24
 refine tr_seqK ?_
 (apply tr_v tk; (conv => whnf); (repeat ((first | (apply VLdN.mk; (first | exact cells_blk_all (List.Sublist.subset sb d14) | exact cells_blk_all (List.Sublist.subset sb d19) | exact cells_blk_all (List.Sublist.subset sb d6)); exact rfl) | (apply VCall.q; kernel_rfl; (focus (intro w1 hs; first | with_reducible apply k34 hs sb))) | (apply VNew.mk; intro g hg) | (apply VSt.mk; (focus ((repeat (first | (with_reducible exact At.here) | (with_reducible apply At.there))); done)); exact rfl)); (conv => whnf))); apply VStop.mk)
 revert g hg
 intro g26 hg26
 refine tr_seqK ?_
 (apply tr_v tk; (conv => whnf); (repeat ((first | (apply VLdN.mk; (first | exact cells_blk_all (List.Sublist.subset sb d14) | exact cells_blk_all (List.Sublist.subset sb d19) | exact cells_blk_all (List.Sublist.subset sb d6)); exact rfl) | (apply VCall.q; kernel_rfl; (focus (intro w1 hs; first | with_reducible apply q34 hs sb))) | (apply VNew.mk; intro g hg) | (apply VSt.mk; (focus ((repeat (first | (with_reducible exact At.here) | (with_reducible apply At.there))); done)); exact rfl)); (conv => whnf))); apply VStop.mk)
 revert g hg
 intro g28 hg28
 refine tr_weak (l := [(13, _), (14, _), (19, _), (22, _), (23, _), (24, _), (25, _), (26, _), (27, _), (28, _), (29, _)]) (B := _) ⟨rfl, rfl, rfl, rfl, rfl, rfl, rfl, rfl, rfl, rfl, rfl, trivial⟩ (List.Sublist.refl _) ?_
 (apply tr_v tk; (conv => whnf); (repeat ((first | (apply VLdN.mk; (first | exact cells_blk_all (List.Sublist.subset sb d14) | exact cells_blk_all (List.Sublist.subset sb d19) | exact cells_blk_all (List.Sublist.subset sb d6)); exact rfl) | (apply VCall.q; kernel_rfl; (focus (intro w1 hs; first | with_reducible apply kct hs sb | with_reducible apply q21 hs sb | with_reducible apply works_any w1))) | (apply VLd.mk; (focus ((repeat (first | ((with_reducible apply ld_blk); exact rfl) | (with_reducible apply ld_skip))); done))) | apply VBr.t | (apply v_t; omega)); (conv => whnf))))
 ((apply VRet.mk); refine ret1 (by first | exact .inl rfl | exact .inr rfl) rfl (by exact rv_tmp rfl) ?_; exact fun w h => ⟨rfl, h.base⟩)
end
end Go.Proofs.Ytalcccgialpjgaa
