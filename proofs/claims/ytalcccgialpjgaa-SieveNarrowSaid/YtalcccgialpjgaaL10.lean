/- SieveNarrow: lemmas for the rows of this seat. No conditions. -/
import Derived.Test.YtalcccgialpjgaaQ3
import Derived.Test.YtalcccgialpjgaaN31
import Derived.Test.YtalcccgialpjgaaL2
set_option linter.all false
namespace Go.Proofs.Ytalcccgialpjgaa
open Go.RowKit
/-! ## SieveNarrow -/
theorem cells_pair {w0 : World} {A : List Chunk} {b o : Nat} {x y : Value} (h0 : CellAt w0 A b o x) (h1 : CellAt w0 A b (o + 1) y) : CellsAt w0 A b o [x, y] := fun w hs i u hu => by
 match i with
 | 0 => cases hu; exact h0 w hs
 | 1 => cases hu; exact h1 w hs
section
variable (RA : Option Addr) (rc : Nat) (CA : Option Addr) (cc : Nat) (XA : Option Addr) (xc : Nat) (R C : List R2) (X : List (List R2)) (w : World) (hT : TabR w RA CA XA R C X)
include hT
set_option maxHeartbeats 40000000 in
set_option maxRecDepth 20000 in
theorem law10_any (hx : X.length ≤ maxLen) (BA : Option Addr) (bc : Nat) (by_ : List Int) (hby : Reads w w.heap.size 1 BA by_.length (by_.map (Value.int .u8))) (hbm : by_.length ≤ maxLen) (hb : ∀ z ∈ by_, 0 ≤ z ∧ z ≤ 255) (DA : Option Addr) (dc : Nat) (ot : List Int) (hot : Reads w w.heap.size 1 DA ot.length (ot.map (Value.int .u8))) (hotm : ot.length ≤ maxLen) (ho : ∀ z ∈ ot, 0 ≤ z ∧ z ≤ 255) (b3 b4 : Nat) (hb3 : b3 < 256) (hb4 : b4 < 256) :
  Calls Try.prog 10 #[tabV RA rc CA cc XA xc R C X, .slice BA by_.length bc, .slice DA ot.length dc, .int .u8 (b3 : Int), .int .u8 (b4 : Int)] w fun e w' => e = .returned (.bool true) ∧ Below w.heap.size w w' := by
 unfold maxLen at hbm hotm
 by_cases hV : Valid R C X
 rotate_left
 ·have hfi := fun w1 (h : TabR w1 RA CA XA R C X) => fine_no RA rc CA cc XA xc R C X w1 h hx hV
  unfold tabV at *
  refine fn_v tk (n := 162) (A := []) Try.func10 rfl rfl (Nat.le_of_ble_eq_true rfl) (St.nil (Below.refl _ _)) ?_
  ((conv => whnf); (repeat ((first | (apply VCall.q; kernel_rfl; (focus (intro w1 hs; first | with_reducible apply hfi w1 (hs.tab hT) | with_reducible apply works_any w1))) | (apply VLdN.mk; (focus ((repeat (first | (with_reducible apply ldn_blk) | (with_reducible apply ldn_skip))); done)); exact rfl) | apply VBr.t | (apply VNew.mk; intro g hg)); (conv => whnf))))
  ((apply VRet.mk); refine ret1 (by first | exact .inl rfl | exact .inr rfl) rfl (by exact rv_tmp rfl) ?_; exact fun w h => ⟨rfl, h.base⟩)
 have hfi := fun w1 (h : TabR w1 RA CA XA R C X) => fine_yes RA rc CA cc XA xc R C X w1 h hV
 by_cases h20 : by_.length ≤ 20
 rotate_left
 ·unfold tabV at *
  refine fn_v tk (n := 162) (A := []) Try.func10 rfl rfl (Nat.le_of_ble_eq_true rfl) (St.nil (Below.refl _ _)) ?_
  ((conv => whnf); (repeat ((first | (apply VCall.q; kernel_rfl; (focus (intro w1 hs; first | with_reducible apply hfi w1 (hs.tab hT) | with_reducible apply works_any w1))) | (apply VLdN.mk; (focus ((repeat (first | (with_reducible apply ldn_blk) | (with_reducible apply ldn_skip))); done)); exact rfl) | apply VBr.t | apply VBr.f | (apply v_t; omega) | (apply VNew.mk; intro g hg)); (conv => whnf))))
  ((apply VRet.mk); refine ret1 (by first | exact .inl rfl | exact .inr rfl) rfl (by exact rv_tmp rfl) ?_; exact fun w h => ⟨rfl, h.base⟩)
 by_cases h21 : ot.length ≤ 20
 rotate_left
 ·unfold tabV at *
  refine fn_v tk (n := 162) (A := []) Try.func10 rfl rfl (Nat.le_of_ble_eq_true rfl) (St.nil (Below.refl _ _)) ?_
  ((conv => whnf); (repeat ((first | (apply VCall.q; kernel_rfl; (focus (intro w1 hs; first | with_reducible apply hfi w1 (hs.tab hT) | with_reducible apply works_any w1))) | (apply VLdN.mk; (focus ((repeat (first | (with_reducible apply ldn_blk) | (with_reducible apply ldn_skip))); done)); exact rfl) | apply VBr.t | apply VBr.f | (apply v_t; omega) | (apply v_f; omega) | (apply VNew.mk; intro g hg)); (conv => whnf))))
  ((apply VRet.mk); refine ret1 (by first | exact .inl rfl | exact .inr rfl) rfl (by exact rv_tmp rfl) ?_; exact fun w h => ⟨rfl, h.base⟩)
 have hn := hV.r4
 have hm := hV.c4
 have hn1 := hV.r1
 have hm1 := hV.c1
 obtain ⟨i, hi, ei⟩ := byte_mod b3 R.length hn1
 obtain ⟨k, hk, ek⟩ := byte_mod b4 C.length hm1
 have hgi := fun w1 (h : TabR w1 RA CA XA R C X) hh => given_anyN RA rc CA cc XA xc R C X w1 h hV BA bc by_ hh (by omega) hb
 have hGl := givL_len C.length R.length by_ (X := X)
 have hGr := givL_rows (m := C.length) (n := R.length) (by_ := by_) (X := X)
 have hGi := giv_in hV by_
 have hGf := giv_fill hV by_
 generalize givL C.length X by_ R.length = G at *
 have har := fun w1 (h : TabR w1 RA CA XA R C X) NA nc hN => around_anyN RA rc CA cc XA xc R C X w1 h hV NA nc G hN hGf
 rw [hGl] at har
 have hV' := ar_valid hV hGi
 have hGT := ar_isT hGi
 have lr := arR_len (R := R) (C := C) G
 have lc := arC_len (R := R) (C := C) G
 generalize arR R C G = R' at *
 generalize arC R C G = C' at *
 have hH : HasT R' C' X := ⟨_, hGT⟩
 have hi' : i < R'.length := by omega
 have hk' : k < C'.length := by omega
 -- the narrow table
 have hVn := nr_valid hV' hH
 have hHn := nr_has hH
 have hnn := nr_nr hH
 have lnr : (nrR R' C' X R'.length).length = R'.length := nrR_len _
 have lnc : (nrC R' C' X C'.length).length = C'.length := nrC_len _
 have lnx : (nrX R' C' X R'.length).length = R'.length := nrX_len ..
 have hxn : ∀ i k, i < R'.length → k < C'.length → xAt (nrX R' C' X R'.length) i k = cellR R' C' X i k := fun i k hi hk => xAt_nr hi hk
 have hrn : rAt (nrR R' C' X R'.length) i = rowR R' C' X i := by unfold nrR; exact rAt_map _ hi'
 have hcn := fun i k (hi : i < R'.length) (hk : k < C'.length) => cellR_inP hH hi hk
 have hisn := fun f => nr_isT hH f
 have hna := fun {A1 w1} (hs : St w A1 w1) {z : TabX} (hz : z.xs.length = X.length) (h : ∀ {d}, d ∈ tabCh R' C' X z → d ∈ A1) => narrow_okN z.r.1 z.r.2 z.c.1 z.c.2 z.x.1 z.x.2 R' C' X w1 (hs.tabX' z hz h) hV' hH
 have h46 := fun {A1 w1} (hs : St w A1 w1) {z : TabX} (hz : z.xs.length = X.length) (h : ∀ {d}, d ∈ tabCh R' C' X z → d ∈ A1) => cell46_any z.r.1 z.r.2 z.c.1 z.c.2 z.x.1 z.x.2 R' C' X w1 (hs.tabX' z hz h) hV' hH i k hi' hk'
 have h32 := fun {A1 w1} (hs : St w A1 w1) {z : TabX} (hz : z.xs.length = X.length) (h : ∀ {d}, d ∈ tabCh R' C' X z → d ∈ A1) => row32_any z.r.1 z.r.2 z.c.1 z.c.2 z.x.1 z.x.2 R' C' X w1 (hs.tabX' z hz h) hV'.fit (i : Int)
 rw [rowA_ok hV' hH hi'] at h32
 generalize nrR R' C' X R'.length = NR at *
 generalize nrC R' C' X C'.length = NC at *
 generalize nrX R' C' X R'.length = NX at *
 have hfw := fun {A1 w1} (hs : St w A1 w1) {z : TabX} (hz : z.xs.length = NX.length) (h : ∀ {d}, d ∈ tabCh NR NC NX z → d ∈ A1) => fine_yes z.r.1 z.r.2 z.c.1 z.c.2 z.x.1 z.x.2 NR NC NX w1 (hs.tabX' z hz h) hVn
 have hnb := fun {A1 w1} (hs : St w A1 w1) {z : TabX} (hz : z.xs.length = NX.length) (h : ∀ {d}, d ∈ tabCh NR NC NX z → d ∈ A1) => narrow_okN z.r.1 z.r.2 z.c.1 z.c.2 z.x.1 z.x.2 NR NC NX w1 (hs.tabX' z hz h) hVn hHn
 rw [show nrR NR NC NX NR.length = NR by rw [lnr]; exact hnn.1, show nrC NR NC NX NC.length = NC by rw [lnc]; exact hnn.2.1, show nrX NR NC NX NR.length = NX by rw [lnr]; exact hnn.2.2] at hnb
 have hgw := fun {A1 w1} (hs : St w A1 w1) {z : TabX} (hz : z.xs.length = NX.length) (h : ∀ {d}, d ∈ tabCh NR NC NX z → d ∈ A1) hh => given_anyN z.r.1 z.r.2 z.c.1 z.c.2 z.x.1 z.x.2 NR NC NX w1 (hs.tabX' z hz h) hVn DA dc ot hh (by omega) ho
 have hZl := givL_len NC.length NR.length ot (X := NX)
 have hZr := givL_rows (m := NC.length) (n := NR.length) (by_ := ot) (X := NX)
 have hZi := giv_in hVn ot
 generalize givL NC.length NX ot NR.length = Z at *
 have hZi' : ∀ i k, i < R'.length → k < C'.length → (xAt X i k).1 ≤ nAt Z i k ∧ nAt Z i k ≤ (xAt X i k).2 := fun i k hi hk => by
  have h1 := hZi i k (by omega) (by omega)
  rw [hxn i k hi hk] at h1
  have h2 := hcn i k hi hk
  omega
 have hZr' : ∀ s ∈ Z, s.length = C'.length := fun s hs => by rw [hZr s hs, lnc]
 have t1 := tru_in hV' (hZl.trans lnr) hZr' hZi'
 have t2 := tru_in hVn hZl hZr hZi
 have t3 := tru_iff hV' (hZl.trans lnr) hZr'
 have t4 := tru_iff hVn hZl hZr
 have tz : chkTru NR NC NX Z = chkTru R' C' X Z := by
  rw [hisn] at t4
  rcases t1 with h1 | h1 <;> rcases t2 with h2 | h2
  ·rw [h1, h2]
  ·exact absurd (t4.2 (t3.1 h1)) (by rw [h2]; decide)
  ·exact absurd (t3.2 (t4.1 h2)) (by rw [h1]; decide)
  ·rw [h1, h2]
 have hGn : chkTru NR NC NX G = 0 := (tru_iff hVn (by omega) (fun s hs => by rw [hGr s hs, lnc, lc])).2 ((hisn _).2 hGT)
 have kc1 := fun {A1 w1} (hs : St w A1 w1) {z : TabX} (hz : z.xs.length = NX.length) (h : ∀ {d}, d ∈ tabCh NR NC NX z → d ∈ A1) {x : NumX} (hx : x.xs.length = R.length) (h' : ∀ {d}, d ∈ numCh R.length G x → d ∈ A1) => check_numX z.r.1 z.r.2 z.c.1 z.c.2 z.x.1 z.x.2 NR NC NX w1 (hs.tabX' z hz h) hVn (by omega) (fun s hs => by rw [hGr s hs, lnc, lc]) (nc := x.x.2) (hs.numX x hGl hx h') hGn
 have kc2 := fun {A1 w1} (hs : St w A1 w1) {z : TabX} (hz : z.xs.length = NX.length) (h : ∀ {d}, d ∈ tabCh NR NC NX z → d ∈ A1) {x : NumX} (hx : x.xs.length = NR.length) (h' : ∀ {d}, d ∈ numCh NR.length Z x → d ∈ A1) => check_numX z.r.1 z.r.2 z.c.1 z.c.2 z.x.1 z.x.2 NR NC NX w1 (hs.tabX' z hz h) hVn hZl hZr (nc := x.x.2) (hs.numX x hZl hx h') tz
 have kc3 := fun {A1 w1} (hs : St w A1 w1) {z : TabX} (hz : z.xs.length = X.length) (h : ∀ {d}, d ∈ tabCh R' C' X z → d ∈ A1) {x : NumX} (hx : x.xs.length = NR.length) (h' : ∀ {d}, d ∈ numCh NR.length Z x → d ∈ A1) => check_numX z.r.1 z.r.2 z.c.1 z.c.2 z.x.1 z.x.2 R' C' X w1 (hs.tabX' z hz h) hV' (hZl.trans lnr) hZr' (nc := x.x.2) (hs.numX x hZl hx h') rfl
 have hsa : ∀ {A1 w1}, St w A1 w1 → ∀ {x y : TabX}, x.xs.length = NX.length → y.xs.length = NX.length → (∀ {d}, d ∈ tabCh NR NC NX x → d ∈ A1) → (∀ {d}, d ∈ tabCh NR NC NX y → d ∈ A1) → Calls Try.prog 41 #[tabX x NR NC NX, tabX y NR NC NX] w1 fun e w' => e = .returned (.bool true) ∧ Below w1.heap.size w1 w' := fun {A1 w1} hs {x y} hx hy h1 h2 => same_any _ _ _ _ _ _ _ _ _ _ _ _ NR NC NX w1 (hs.tabX' x hx h1) (hs.tabX' y hy h2) (by unfold maxLen; omega) (by unfold maxLen; omega) (by unfold maxLen; omega) (fun s hs' => by rw [hVn.xs s hs']; unfold maxLen; omega)
 have hxk := hxn i k hi' hk'
 have hnxr := hVn.xs
 unfold tabX tabV resV at *
 generalize hl1 : R'.length = n1 at *
 generalize hl2 : C'.length = m1 at *
 generalize hl3 : NR.length = n2 at *
 generalize hl4 : NC.length = m2 at *
 subst lnr
 subst lnc
 subst lr
 subst lc
 generalize chkTru R' C' X Z = zx at *
 refine fn_k (n := 162) (A := []) Try.func10 rfl rfl (Nat.le_of_ble_eq_true rfl) (St.nil (Below.refl _ _)) ?_
 refine tr_seqK ?_
 (apply tr_v tk; (conv => whnf); (repeat ((apply VNew.mk; intro g hg); (conv => whnf))); apply VStop.mk)
 refine tr_seqK ?_
 (apply tr_v tk; (conv => whnf); (repeat ((first | (apply VCall.q; kernel_rfl; (focus (intro w1 hs; first | with_reducible apply hfi w1 (hs.tab hT)))) | (apply VLdN.mk; (focus ((repeat (first | (with_reducible apply ldn_blk) | (with_reducible apply ldn_skip))); done)); exact rfl) | apply VBr.f | (apply v_f; omega)); (conv => whnf))); apply VStop.mk)
 revert g hg
 intro g5 hg5
 refine tr_seqK ?_
 (apply tr_v tk; (conv => whnf); (repeat ((apply VLdN.mk; (focus ((repeat (first | (with_reducible apply ldn_blk) | (with_reducible apply ldn_skip))); done)); exact rfl); (conv => whnf))); apply VCall.stop)
 refine ot_callT (X := NumX) (us := []) (vs := []) (fun x => .slice x.x.1 R.length x.x.2) (fun x => []) (fun x => numCh R.length G x) _ (fun x c hc => numCh_mut hc) (by decide) rfl rfl rfl rfl (by kernel_rfl) (evl_of rfl) rfl (fun w1 hs => hgi w1 (hs.tab hT) (hs.reads hby)) ?_
 intro x hxx
 (dsimp only [List.cons_append, List.nil_append]; apply ot_v tk)
 ((conv => whnf); apply VStop.mk)
 refine tr_seqK ?_
 (apply tr_v tk; (conv => whnf); (repeat ((apply VLdN.mk; (focus ((repeat (first | (with_reducible apply ldn_blk) | (with_reducible apply ldn_skip))); done)); exact rfl); (conv => whnf))); apply VCall.stop)
 refine ot_callT (X := TabX) (us := []) (vs := []) (fun x => .agg #[.slice x.r.1 R.length x.r.2, .slice x.c.1 C.length x.c.2, .slice x.x.1 X.length x.x.2]) (fun x => []) (fun x => tabCh R' C' X x) _ (fun x c hc => tabCh_mut' hc) (by decide) rfl rfl rfl rfl (by kernel_rfl) (evl_of rfl) rfl (fun w1 hs => har w1 (hs.tab hT) x.x.1 x.x.2 (hs.numX x hGl hxx (fun {d} hd => by (with_reducible (repeat refine List.mem_cons_of_mem _ ?_); first | exact hd | exact List.mem_append_left _ hd | exact List.mem_append_right _ hd | exact List.mem_append_left _ (List.mem_append_left _ hd) | exact List.mem_append_left _ (List.mem_append_right _ hd) | exact List.mem_append_left _ (List.mem_append_left _ (List.mem_append_left _ hd)) | exact List.mem_append_left _ (List.mem_append_left _ (List.mem_append_right _ hd)))))) ?_
 intro z hz
 (dsimp only [List.cons_append, List.nil_append]; apply ot_v tk)
 ((conv => whnf); (repeat ((first | (apply VNew.mk; intro g hg) | (apply VSt.mk; (focus ((repeat (first | (with_reducible exact At.here) | (with_reducible apply At.there))); done)); exact rfl)); (conv => whnf))); apply VStop.mk)
 revert g hg
 intro g12 hg12
 refine tr_nameA2 ?_
 intro A1 hA1
 have c12 : .blk g12 25 [.slice z.r.1 R.length z.r.2, .slice z.c.1 C.length z.c.2, .slice z.x.1 X.length z.x.2] ∈ A1 := by rw [hA1]; exact .head _
 have c5 : .blk g5 25 [.slice RA R.length rc, .slice CA C.length cc, .slice XA X.length xc] ∈ A1 := by rw [hA1]; exact .tail _ (.head _)
 have hxA : ∀ {d}, d ∈ numCh R.length G x → d ∈ A1 := fun {d} hd => by rw [hA1]; exact .tail _ (.tail _ (List.mem_append_left _ hd))
 have hzA : ∀ {d}, d ∈ tabCh R' C' X z → d ∈ A1 := fun {d} hd => by rw [hA1]; exact .tail _ (.tail _ (List.mem_append_right _ hd))
 clear hA1
 refine tr_weak (l := [(2, _), (3, _), (4, _), (5, _), (11, _), (12, _)]) (B := A1) ⟨rfl, rfl, rfl, rfl, rfl, rfl, trivial⟩ (List.Sublist.refl _) ?_
 refine tr_seqK ?_
 (apply tr_v tk; (conv => whnf); (repeat ((apply VLdN.mk; exact cells_blk_all (List.Sublist.subset sb c12); exact rfl); (conv => whnf))); apply VCall.stop)
 refine ot_callT (X := TabX) (us := []) (vs := []) (fun x => .tuple #[.agg #[.slice x.r.1 R.length x.r.2, .slice x.c.1 C.length x.c.2, .slice x.x.1 NX.length x.x.2], .int .i64 0]) (fun x => []) (fun x => tabCh NR NC NX x) _ (fun x c hc => tabCh_mut' hc) (by decide) rfl rfl rfl rfl (by kernel_rfl) (evl_of rfl) rfl (fun w1 hs => hna hs hz (fun {d} hd => List.Sublist.subset sb (hzA hd))) ?_
 intro v hv
 (dsimp only [List.cons_append, List.nil_append]; apply ot_v tk)
 ((conv => whnf); (repeat ((first | (apply VNew.mk; intro g hg) | (apply VSt.mk; (focus ((repeat (first | (with_reducible exact At.here) | (with_reducible apply At.there))); done)); exact rfl)); (conv => whnf))); apply VStop.mk)
 revert g hg
 intro g13 hg13
 refine tr_nameA2 ?_
 intro A2 hA2
 have hsub : A1.Sublist A2 := by rw [hA2]; ((repeat refine List.Sublist.cons _ ?_); first | exact List.Sublist.refl _ | exact List.sublist_append_left _ _ | exact List.Sublist.trans (List.sublist_append_left _ _) (List.sublist_append_left _ _) | exact List.Sublist.trans (List.sublist_append_left _ _) (List.Sublist.trans (List.sublist_append_left _ _) (List.sublist_append_left _ _)))
 have c13 : .blk g13 25 [.slice v.r.1 R.length v.r.2, .slice v.c.1 C.length v.c.2, .slice v.x.1 NX.length v.x.2] ∈ A2 := by rw [hA2]; exact .head _
 have hvA : ∀ {d}, d ∈ tabCh NR NC NX v → d ∈ A2 := fun {d} hd => by rw [hA2]; exact .tail _ (List.mem_append_right _ hd)
 clear hA2
 replace c12 := hsub.subset c12
 replace c5 := hsub.subset c5
 have hxA : ∀ {d}, d ∈ numCh R.length G x → d ∈ A2 := fun {d} hd => hsub.subset (hxA hd)
 have hzA : ∀ {d}, d ∈ tabCh R' C' X z → d ∈ A2 := fun {d} hd => hsub.subset (hzA hd)
 refine tr_fact (p := _) (fun w' hs => tab_some hs v rfl hnxr hv (i := i) (k := k) (by omega) hk hvA) ?_
 rintro ⟨vb, ub, uc, hvb, vs', row', o1, v3, o2, v4, v5⟩
 refine tr_fact (p := _) (fun w' hs => tab_rows hs v (i := i) (k := k) (by omega) (by omega) hvA) ?_
 rintro ⟨⟨rb, hrb⟩, -⟩
 have hrg := rowC_get (l := NR) (i := i) (by omega)
 have o3 : .own (.slice v.r.1 NR.length v.r.2) 37 2 NR.length (rgC NR) ∈ tabCh NR NC NX v := .head _
 rw [hxk] at v4 v5
 rw [hrn] at hrg
 rw [hrb] at o3
 generalize cellR R' C' X i k = cr at *
 obtain ⟨r1, r2⟩ := cr
 generalize rowR R' C' X i = rr at *
 obtain ⟨s1, s2⟩ := rr
 have hrs := fun w => rng_same r1 r2 w
 have hrs2 := fun w => rng_same s1 s2 w
 have n1 : ∀ {A'}, A2.Sublist A' → CellAt w A' vb (0 + i * 1) (.slice (some ⟨ub, 0, none⟩) C.length uc) := fun h => by rw [Nat.zero_add, Nat.mul_one]; exact cell_own (h.subset (hvA o1)) v3
 have n3 : ∀ {A'}, A2.Sublist A' → CellsAt w A' ub (0 + k * 2) [.int .i64 r1, .int .i64 r2] := fun h => by rw [Nat.zero_add]; exact cells_pair (cell_own (h.subset (hvA o2)) v4) (cell_own (h.subset (hvA o2)) v5)
 have n4 : ∀ {A'}, A2.Sublist A' → CellsAt w A' rb (0 + i * 2) [.int .i64 s1, .int .i64 s2] := fun h => by rw [Nat.zero_add]; exact cells_pair (cell_own (h.subset (hvA o3)) hrg.1) (cell_own (h.subset (hvA o3)) hrg.2)
 have kfw := fun {A' w1} (hs : St w A' w1) (h : A2.Sublist A') => hfw hs hv (fun {d} hd => h.subset (hvA hd))
 have knb := fun {A' w1} (hs : St w A' w1) (h : A2.Sublist A') => hnb hs hv (fun {d} hd => h.subset (hvA hd))
 have kgw := fun {A' w1} (hs : St w A' w1) (h : A2.Sublist A') hh => hgw hs hv (fun {d} hd => h.subset (hvA hd)) hh
 have k46 := fun {A' w1} (hs : St w A' w1) (h : A2.Sublist A') => h46 hs hz (fun {d} hd => h.subset (hzA hd))
 have k32 := fun {A' w1} (hs : St w A' w1) (h : A2.Sublist A') => h32 hs hz (fun {d} hd => h.subset (hzA hd))
 have q1 := fun {A' w1} (hs : St w A' w1) (h : A2.Sublist A') => kc1 hs hv (fun {d} hd => h.subset (hvA hd)) hxx (fun {d} hd => h.subset (hxA hd))
 have q2 := fun {A' w1} (hs : St w A' w1) (h : A2.Sublist A') {y : NumX} hy h' => @kc2 A' w1 hs v hv (fun {d} hd => h.subset (hvA hd)) y hy h'
 have q3 := fun {A' w1} (hs : St w A' w1) (h : A2.Sublist A') {y : NumX} hy h' => @kc3 A' w1 hs z hz (fun {d} hd => h.subset (hzA hd)) y hy h'
 have qsa := fun {A' w1} (hs : St w A' w1) (h : A2.Sublist A') {u : TabX} hu h' => @hsa A' w1 hs u v hu hv h' (fun {d} hd => h.subset (hvA hd))
 rw [hvb, hrb] at c13 kfw knb kgw q1 q2 qsa
 rw [hvb, hrb]
 dsimp only at k32 k46
 have hxl := hV.x
 have hnl : NX.length = R.length := by omega
 clear hfw hnb hgw h46 h32 kc1 kc2 kc3 hsa hna har hgi
 refine tr_weak (l := [(2, _), (3, _), (4, _), (5, _), (11, _), (12, _), (13, _), (14, _)]) (B := A2) ⟨rfl, rfl, rfl, rfl, rfl, rfl, rfl, rfl, trivial⟩ (List.Sublist.refl _) ?_
 refine tr_seqK ?_
 (apply tr_v tk; (conv => whnf); (repeat ((first | (apply VLdN.mk; (first | exact cells_blk_all (List.Sublist.subset sb c12) | exact cells_blk_all (List.Sublist.subset sb c13) | exact cells_blk_all (List.Sublist.subset sb c5) | exact n3 sb | exact n4 sb); exact rfl) | (apply VLd.mk; first | exact cell_blk (List.Sublist.subset sb c13) rfl | exact cell_blk (List.Sublist.subset sb c12) rfl | exact cell_blk (List.Sublist.subset sb c5) rfl | exact n1 sb) | (apply VCall.q; kernel_rfl; (focus (intro w1 hs; first | with_reducible apply kfw hs sb))) | apply VBr.f | (apply v_f; omega)); (conv => whnf))); apply VStop.mk)
 refine tr_seqK ?_
 (apply tr_v tk; (conv => whnf); (repeat ((apply VLdN.mk; (first | exact cells_blk_all (List.Sublist.subset sb c12) | exact cells_blk_all (List.Sublist.subset sb c13) | exact cells_blk_all (List.Sublist.subset sb c5) | exact n3 sb | exact n4 sb); exact rfl); (conv => whnf))); apply VCall.stop)
 refine ot_callT (X := TabX) (us := []) (vs := []) (fun x => .tuple #[.agg #[.slice x.r.1 R.length x.r.2, .slice x.c.1 C.length x.c.2, .slice x.x.1 NX.length x.x.2], .int .i64 0]) (fun x => []) (fun x => tabCh NR NC NX x) _ (fun x c hc => tabCh_mut' hc) (by decide) rfl rfl rfl rfl (by kernel_rfl) (evl_of rfl) rfl (fun w1 hs => knb hs sb) ?_
 intro u hu
 (dsimp only [List.cons_append, List.nil_append]; apply ot_v tk)
 ((conv => whnf); (repeat ((first | (apply VNew.mk; intro g hg) | (apply VSt.mk; (focus ((repeat (first | (with_reducible exact At.here) | (with_reducible apply At.there))); done)); exact rfl)); (conv => whnf))); apply VStop.mk)
 revert g hg
 intro g15 hg15
 refine tr_seqK ?_
 (apply tr_v tk; (conv => whnf); (repeat ((apply VLdN.mk; (first | exact cells_blk_all (List.Sublist.subset sb c12) | exact cells_blk_all (List.Sublist.subset sb c13) | exact cells_blk_all (List.Sublist.subset sb c5) | exact n3 sb | exact n4 sb); exact rfl); (conv => whnf))); apply VCall.stop)
 refine ot_callT (X := NumX) (us := []) (vs := []) (fun x => .slice x.x.1 R.length x.x.2) (fun x => []) (fun x => numCh R.length Z x) _ (fun x c hc => numCh_mut hc) (by decide) rfl rfl rfl rfl (by kernel_rfl) (evl_of rfl) rfl (fun w1 hs => kgw hs sb (hs.reads hot)) ?_
 intro y hy
 (dsimp only [List.cons_append, List.nil_append]; apply ot_v tk)
 ((conv => whnf); apply VStop.mk)
 refine tr_seqK ?_
 (apply tr_v tk; (conv => whnf); (repeat ((first | (apply VStop.mk; refine tr_region_lex (id := 10) (by kernel_rfl) [.rd, .rd, .rd, .rd, .rd, .rd, .rd, .rd, .rd, .rd, .rd, .rd, .rd, .rd] rfl (by kernel_rfl) ?_; apply ot_v tk) | (apply VLd.mk; first | exact cell_blk (List.Sublist.subset sb c13) rfl | exact cell_blk (List.Sublist.subset sb c12) rfl | exact cell_blk (List.Sublist.subset sb c5) rfl | exact n1 sb) | (apply v_wr64; omega) | (apply VNz.mk; omega)); (conv => whnf))); apply VStop.mk)
 rw [ei, ek]
 refine tr_seqK ?_
 (apply tr_v tk; (conv => whnf); (repeat ((first | (apply VLdN.mk; (first | exact cells_blk_all (List.Sublist.subset sb c12) | exact cells_blk_all (List.Sublist.subset sb c13) | exact cells_blk_all (List.Sublist.subset sb c5) | exact n3 sb | exact n4 sb); exact rfl) | (apply VCall.q; kernel_rfl; (focus (intro w1 hs; first | with_reducible apply k46 hs sb))) | (apply VNew.mk; intro g hg) | (apply VSt.mk; (focus ((repeat (first | (with_reducible exact At.here) | (with_reducible apply At.there))); done)); exact rfl)); (conv => whnf))); apply VStop.mk)
 revert g hg
 intro g20 hg20
 refine tr_seqK ?_
 (apply tr_v tk; (conv => whnf); (repeat ((first | (apply VLdN.mk; (first | exact cells_blk_all (List.Sublist.subset sb c12) | exact cells_blk_all (List.Sublist.subset sb c13) | exact cells_blk_all (List.Sublist.subset sb c5) | exact n3 sb | exact n4 sb); exact rfl) | (apply VCall.q; kernel_rfl; (focus (intro w1 hs; first | with_reducible apply k32 hs sb))) | (apply VNew.mk; intro g hg) | (apply VSt.mk; (focus ((repeat (first | (with_reducible exact At.here) | (with_reducible apply At.there))); done)); exact rfl)); (conv => whnf))); apply VStop.mk)
 revert g hg
 intro g22 hg22
 refine tr_weak (l := [(11, _), (12, _), (13, _), (15, _), (16, _), (17, _), (18, _), (19, _), (20, _), (21, _), (22, _), (23, _)]) (B := _) ⟨rfl, rfl, rfl, rfl, rfl, rfl, rfl, rfl, rfl, rfl, rfl, rfl, trivial⟩ (List.Sublist.refl _) ?_
 rcases t1 with h1 | h1
 all_goals
  rw [h1] at q2 q3
  (apply tr_v tk; (conv => whnf); (repeat ((first | ((first | apply VStop.mk | apply VCall.stop); (first | refine tr_region_draw (id := 13) (by kernel_rfl) [0, 1, 2, 3, 4, 5, 6, 7, 8, 9, 10, 11, 12, 13, 14, 15, 18, 19, 16, 17, 20, 21, 22, 23, 24, 25, 26, 27, 28, 29, 30, 31, 32, 33, 34, 35, 36, 37, 38, 39, 40, 41, 42, 43, 44, 45, 46, 47, 48, 49, 50, 51, 52, 53, 54, 55] [.rd, .rd, .rd, .rd, .rd, .cr, .rd, .rd, .rd, .rd, .cr, .rd, .rd, .rd, .rd, .rd, .rd, .rd, .cr, .rd, .cr, .rd, .rd, .rd, .rd, .rd, .rd, .rd, .rd, .rd, .rd, .rd, .rd, .rd, .rd, .rd, .rd, .rd, .rd, .rd, .rd, .rd, .rd, .rd, .rd, .rd, .rd, .rd, .rd, .rd, .rd, .rd, .rd, .cr, .rd, .rd] rfl (by kernel_rfl) ?_ | (refine ot_eqb Try.underlying4 rfl rfl rfl rfl rfl ?_)); apply ot_v tk) | (apply VEq.mk true; kernel_rfl; first | exact hrs | exact hrs2) | (apply VLdN.mk; (first | exact cells_blk_all (List.Sublist.subset sb c12) | exact cells_blk_all (List.Sublist.subset sb c13) | exact cells_blk_all (List.Sublist.subset sb c5) | exact n3 sb | exact n4 sb); exact rfl) | (apply VLd.mk; first | exact cell_blk (List.Sublist.subset sb c13) rfl | exact cell_blk (List.Sublist.subset sb c12) rfl | exact cell_blk (List.Sublist.subset sb c5) rfl | exact n1 sb) | (apply VIx.mk (j := i); exact rfl; omega) | (apply VIx.mk (j := k); exact rfl; omega) | (apply VCall.q; kernel_rfl; (focus (intro w1 hs; first | with_reducible apply qsa hs sb hu (fun {d} hd => by (with_reducible (repeat refine List.mem_cons_of_mem _ ?_); first | exact hd | exact List.mem_append_left _ hd | exact List.mem_append_right _ hd | exact List.mem_append_left _ (List.mem_append_left _ hd) | exact List.mem_append_left _ (List.mem_append_right _ hd) | exact List.mem_append_left _ (List.mem_append_left _ (List.mem_append_left _ hd)) | exact List.mem_append_left _ (List.mem_append_left _ (List.mem_append_right _ hd)))) | with_reducible apply q1 hs sb | with_reducible apply q2 hs sb hy (fun {d} hd => by (with_reducible (repeat refine List.mem_cons_of_mem _ ?_); first | exact hd | exact List.mem_append_left _ hd | exact List.mem_append_right _ hd | exact List.mem_append_left _ (List.mem_append_left _ hd) | exact List.mem_append_left _ (List.mem_append_right _ hd) | exact List.mem_append_left _ (List.mem_append_left _ (List.mem_append_left _ hd)) | exact List.mem_append_left _ (List.mem_append_left _ (List.mem_append_right _ hd)))) | with_reducible apply q3 hs sb hy (fun {d} hd => by (with_reducible (repeat refine List.mem_cons_of_mem _ ?_); first | exact hd | exact List.mem_append_left _ hd | exact List.mem_append_right _ hd | exact List.mem_append_left _ (List.mem_append_left _ hd) | exact List.mem_append_left _ (List.mem_append_right _ hd) | exact List.mem_append_left _ (List.mem_append_left _ (List.mem_append_left _ hd)) | exact List.mem_append_left _ (List.mem_append_left _ (List.mem_append_right _ hd)))) | with_reducible apply works_any w1))) | (apply VLdN.mk; (focus ((repeat (first | (with_reducible apply ldn_blk) | (with_reducible apply ldn_skip))); done)); exact rfl) | apply VBr.t | (apply v_t; omega) | (apply v_f; omega)); (conv => whnf))))
  ((apply VRet.mk); refine ret1 (by first | exact .inl rfl | exact .inr rfl) rfl (by exact rv_tmp rfl) ?_; exact fun w h => ⟨rfl, h.base⟩)
end
end Go.Proofs.Ytalcccgialpjgaa
