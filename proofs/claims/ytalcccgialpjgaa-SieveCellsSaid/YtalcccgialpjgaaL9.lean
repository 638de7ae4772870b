/- SieveCells: lemmas for the rows of this seat. No conditions. -/
import Derived.Test.YtalcccgialpjgaaQ2
import Derived.Test.YtalcccgialpjgaaN31
import Derived.Test.YtalcccgialpjgaaL2
set_option linter.all false
namespace Go.Proofs.Ytalcccgialpjgaa
open Go.RowKit
/-! ## SieveCells -/
section
variable (RA : Option Addr) (rc : Nat) (CA : Option Addr) (cc : Nat) (XA : Option Addr) (xc : Nat) (R C : List R2) (X : List (List R2)) (w : World) (hT : TabR w RA CA XA R C X)
include hT
set_option maxHeartbeats 40000000 in
set_option maxRecDepth 20000 in
theorem law9_any (hx : X.length ≤ maxLen) (BA : Option Addr) (bc : Nat) (by_ : List Int) (hby : Reads w w.heap.size 1 BA by_.length (by_.map (Value.int .u8))) (hbm : by_.length ≤ maxLen) (hb : ∀ z ∈ by_, 0 ≤ z ∧ z ≤ 255) (b2 b3 b4 : Nat) (hb2 : b2 < 256) (hb3 : b3 < 256) (hb4 : b4 < 256) :
  Calls Try.prog 9 #[tabV RA rc CA cc XA xc R C X, .slice BA by_.length bc, .int .u8 (b2 : Int), .int .u8 (b3 : Int), .int .u8 (b4 : Int)] w fun e w' => e = .returned (.bool true) ∧ Below w.heap.size w w' := by
 unfold maxLen at hbm
 by_cases hV : Valid R C X
 rotate_left
 ·have hfi := fun w1 (h : TabR w1 RA CA XA R C X) => fine_no RA rc CA cc XA xc R C X w1 h hx hV
  unfold tabV at *
  refine fn_v tk (n := 206) (A := []) Try.func9 rfl rfl (Nat.le_of_ble_eq_true rfl) (St.nil (Below.refl _ _)) ?_
  ((conv => whnf); (repeat ((first | (apply VCall.q; kernel_rfl; (focus (intro w1 hs; first | with_reducible apply hfi w1 (hs.tab hT) | with_reducible apply works_any w1))) | (apply VLdN.mk; (focus ((repeat (first | (with_reducible apply ldn_blk) | (with_reducible apply ldn_skip))); done)); exact rfl) | apply VBr.t | (apply VNew.mk; intro g hg)); (conv => whnf))))
  ((apply VRet.mk); refine ret1 (by first | exact .inl rfl | exact .inr rfl) rfl (by exact rv_tmp rfl) ?_; exact fun w h => ⟨rfl, h.base⟩)
 have hfi := fun w1 (h : TabR w1 RA CA XA R C X) => fine_yes RA rc CA cc XA xc R C X w1 h hV
 by_cases h20 : by_.length ≤ 20
 rotate_left
 ·unfold tabV at *
  refine fn_v tk (n := 206) (A := []) Try.func9 rfl rfl (Nat.le_of_ble_eq_true rfl) (St.nil (Below.refl _ _)) ?_
  ((conv => whnf); (repeat ((first | (apply VCall.q; kernel_rfl; (focus (intro w1 hs; first | with_reducible apply hfi w1 (hs.tab hT) | with_reducible apply works_any w1))) | (apply VLdN.mk; (focus ((repeat (first | (with_reducible apply ldn_blk) | (with_reducible apply ldn_skip))); done)); exact rfl) | apply VBr.t | apply VBr.f | (apply v_t; omega) | (apply VNew.mk; intro g hg)); (conv => whnf))))
  ((apply VRet.mk); refine ret1 (by first | exact .inl rfl | exact .inr rfl) rfl (by exact rv_tmp rfl) ?_; exact fun w h => ⟨rfl, h.base⟩)
 have hn := hV.r4
 have hm := hV.c4
 have hn1 := hV.r1
 have hm1 := hV.c1
 obtain ⟨i, hi, ei⟩ := byte_mod b2 R.length hn1
 obtain ⟨k, hk, ek⟩ := byte_mod b3 C.length hm1
 have hgi := fun w1 (h : TabR w1 RA CA XA R C X) hh => given_anyN RA rc CA cc XA xc R C X w1 h hV BA bc by_ hh (by omega) hb
 have hGl := givL_len C.length R.length by_ (X := X)
 have hGr := givL_rows (m := C.length) (n := R.length) (by_ := by_) (X := X)
 have hGi := giv_in hV by_
 have hGf := giv_fill hV by_
 generalize givL C.length X by_ R.length = G at *
 have har := fun w1 (h : TabR w1 RA CA XA R C X) NA nc hN => around_anyN RA rc CA cc XA xc R C X w1 h hV NA nc G hN hGf
 rw [hGl] at har
 have hV' := ar_valid hV hGi
 have hGT := ar_isT hGi
 have lr := arR_len (R := R) (C := C) G
 have lc := arC_len (R := R) (C := C) G
 generalize arR R C G = R' at *
 generalize arC R C G = C' at *
 have hH : HasT R' C' X := ⟨_, hGT⟩
 have hi' : i < R'.length := by omega
 have hk' : k < C'.length := by omega
 have hct := fun {A1 w1} (hs : St w A1 w1) {z : TabX} (hz : z.xs.length = X.length) (h : ∀ {d}, d ∈ tabCh R' C' X z → d ∈ A1) {x : NumX} (hx : x.xs.length = R.length) (h' : ∀ {d}, d ∈ numCh R.length G x → d ∈ A1) => check_numX z.r.1 z.r.2 z.c.1 z.c.2 z.x.1 z.x.2 R' C' X w1 (hs.tabX' z hz h) hV' (by omega) (fun s hs => by rw [hGr s hs, lc]) (nc := x.x.2) (hs.numX x hGl hx h') ((tru_iff hV' (by omega) (fun s hs => by rw [hGr s hs, lc])).2 hGT)
 have h46 := fun {A1 w1} (hs : St w A1 w1) {z : TabX} (hz : z.xs.length = X.length) (h : ∀ {d}, d ∈ tabCh R' C' X z → d ∈ A1) => cell46_any z.r.1 z.r.2 z.c.1 z.c.2 z.x.1 z.x.2 R' C' X w1 (hs.tabX' z hz h) hV' hH i k hi' hk'
 have hwi := fun {A1 w1} (hs : St w A1 w1) {z : TabX} (hz : z.xs.length = X.length) (h : ∀ {d}, d ∈ tabCh R' C' X z → d ∈ A1) (r : R2) => with_anyN z.r.1 z.r.2 z.c.1 z.c.2 z.x.1 z.x.2 R' C' X w1 (hs.tabX' z hz h) hV' i k hi' hk' r
 have hGk : (cellR R' C' X i k).1 ≤ nAt G i k ∧ nAt G i k ≤ (cellR R' C' X i k).2 := (cellR_ok hH hi' hk').all _ ⟨_, hGT, rfl⟩
 have hin := cellR_inP hH hi' hk'
 have hvx := hV.rX hi hk
 have hbt := fun {t : Int} h1 h2 => cell_between (t := t) hV' hi' hk' (cellR_ok hH hi' hk').lo (cellR_ok hH hi' hk').hi h1 h2
 have hout := fun {a b : Int} ha hb h => out_no (a := a) (b := b) hV' hH hi' hk' ha hb h
 obtain ⟨t, ht0, ht1, et⟩ := byte_modI b4 (n := (cellR R' C' X i k).2 - (cellR R' C' X i k).1 + 1) (by omega)
 have hnn : cellP R' C' X i k ((cellR R' C' X i k).1 + t) := hbt (by omega) (by omega)
 have hTn := (hasT_setX hV' hi' hk' (x := (cellR R' C' X i k).1 + t) ⟨by omega, by omega⟩).2 hnn
 have hVn := hV'.setX hi' hk' (r := ((cellR R' C' X i k).1 + t, (cellR R' C' X i k).1 + t)) (rangeB_iff.2 (by dsimp only; omega))
 have hLt := (isT_setX hV' hi' hk' (x := (cellR R' C' X i k).1 + t) ⟨by omega, by omega⟩ _).1 (truL_isT hVn hTn)
 have hLr := truL_rows (R := R') (C := C') (X := setX X i k ((cellR R' C' X i k).1 + t, (cellR R' C' X i k).1 + t))
 have hLl := truL_len R' C' (setX X i k ((cellR R' C' X i k).1 + t, (cellR R' C' X i k).1 + t)) R'.length
 have h23 := fun {A1 w1} (hs : St w A1 w1) {z : TabX} {r : R2} (hz : z.xs.length = (setX X i k r).length) (h : ∀ {d}, d ∈ tabCh R' C' (setX X i k r) z → d ∈ A1) => truth_okN z.r.1 z.r.2 z.c.1 z.c.2 z.x.1 z.x.2 R' C' (setX X i k r) w1 (hs.tabX' z hz h)
 have h23e := fun {A1 w1} (hs : St w A1 w1) {z : TabX} {r : R2} (hz : z.xs.length = (setX X i k r).length) (h : ∀ {d}, d ∈ tabCh R' C' (setX X i k r) z → d ∈ A1) (hF : FitT R' C' (setX X i k r)) => truth_err z.r.1 z.r.2 z.c.1 z.c.2 z.x.1 z.x.2 R' C' (setX X i k r) w1 (hs.tabX' z hz h) hF
 generalize cellR R' C' X i k = cr at *
 obtain ⟨r1, r2⟩ := cr
 dsimp only at *
 obtain ⟨nn, enn⟩ : ∃ nn, r1 + t = nn := ⟨_, rfl⟩
 rw [enn] at hnn hTn hVn hLt hLr hLl
 have h23n := fun {A1 w1} hs {z} hz h => @h23 A1 w1 hs z (nn, nn) hz h hVn hTn
 generalize truL R' C' (setX X i k (nn, nn)) R'.length = L2 at *
 have hrc := fun {A1 w1} (hs : St w A1 w1) {z : TabX} (hz : z.xs.length = X.length) (h : ∀ {d}, d ∈ tabCh R' C' X z → d ∈ A1) {l : NumX} (hl : l.xs.length = R'.length) (h' : ∀ {d}, d ∈ numCh R'.length L2 l → d ∈ A1) => refCheck_numX z.r.1 z.r.2 z.c.1 z.c.2 z.x.1 z.x.2 R' C' X w1 (hs.tabX' z hz h) hV' hLl hLr (nc := l.x.2) (hs.numX l hLl hl h') ((tru_iff hV' hLl hLr).2 hLt.1)
 have hwd := fun {A1 w1} (hs : St w A1 w1) {l : NumX} (hl : l.xs.length = R'.length) (h' : ∀ {d}, d ∈ numCh R'.length L2 l → d ∈ A1) => wide_numX (nc := l.x.2) hLl hLr (by omega) (by omega) (hs.numX l hLl hl h')
 unfold tabX tabV at *
 generalize hl1 : R'.length = n' at *
 generalize hl2 : C'.length = m' at *
 subst lr
 subst lc
 refine fn_k (n := 206) (A := []) Try.func9 rfl rfl (Nat.le_of_ble_eq_true rfl) (St.nil (Below.refl _ _)) ?_
 refine tr_seqK ?_
 (apply tr_v tk; (conv => whnf); (repeat ((apply VNew.mk; intro g hg); (conv => whnf))); apply VStop.mk)
 refine tr_seqK ?_
 (apply tr_v tk; (conv => whnf); (repeat ((first | (apply VCall.q; kernel_rfl; (focus (intro w1 hs; first | with_reducible apply hfi w1 (hs.tab hT)))) | (apply VLdN.mk; (focus ((repeat (first | (with_reducible apply ldn_blk) | (with_reducible apply ldn_skip))); done)); exact rfl) | apply VBr.f | (apply v_f; omega)); (conv => whnf))); apply VStop.mk)
 revert g hg
 intro g5 hg5
 refine tr_seqK ?_
 (apply tr_v tk; (conv => whnf); (repeat ((apply VLdN.mk; (focus ((repeat (first | (with_reducible apply ldn_blk) | (with_reducible apply ldn_skip))); done)); exact rfl); (conv => whnf))); apply VCall.stop)
 refine ot_callT (X := NumX) (us := []) (vs := []) (fun x => .slice x.x.1 R.length x.x.2) (fun x => []) (fun x => numCh R.length G x) _ (fun x c hc => numCh_mut hc) (by decide) rfl rfl rfl rfl (by kernel_rfl) (evl_of rfl) rfl (fun w1 hs => hgi w1 (hs.tab hT) (hs.reads hby)) ?_
 intro x hxx
 (dsimp only [List.cons_append, List.nil_append]; apply ot_v tk)
 ((conv => whnf); apply VStop.mk)
 refine tr_seqK ?_
 (apply tr_v tk; (conv => whnf); (repeat ((apply VLdN.mk; (focus ((repeat (first | (with_reducible apply ldn_blk) | (with_reducible apply ldn_skip))); done)); exact rfl); (conv => whnf))); apply VCall.stop)
 refine ot_callT (X := TabX) (us := []) (vs := []) (fun x => .agg #[.slice x.r.1 R.length x.r.2, .slice x.c.1 C.length x.c.2, .slice x.x.1 X.length x.x.2]) (fun x => []) (fun x => tabCh R' C' X x) _ (fun x c hc => tabCh_mut' hc) (by decide) rfl rfl rfl rfl (by kernel_rfl) (evl_of rfl) rfl (fun w1 hs => har w1 (hs.tab hT) x.x.1 x.x.2 (hs.numX x hGl hxx (fun {d} hd => by (with_reducible (repeat refine List.mem_cons_of_mem _ ?_); first | exact hd | exact List.mem_append_left _ hd | exact List.mem_append_right _ hd | exact List.mem_append_left _ (List.mem_append_left _ hd) | exact List.mem_append_left _ (List.mem_append_right _ hd) | exact List.mem_append_left _ (List.mem_append_left _ (List.mem_append_left _ hd)) | exact List.mem_append_left _ (List.mem_append_left _ (List.mem_append_right _ hd)))))) ?_
 intro z hz
 (dsimp only [List.cons_append, List.nil_append]; apply ot_v tk)
 ((conv => whnf); (repeat ((first | (apply VNew.mk; intro g hg) | (apply VSt.mk; (focus ((repeat (first | (with_reducible exact At.here) | (with_reducible apply At.there))); done)); exact rfl)); (conv => whnf))); apply VStop.mk)
 revert g hg
 intro g12 hg12
 refine tr_nameA2 ?_
 intro A1 hA1
 have c12 : .blk g12 25 [.slice z.r.1 R.length z.r.2, .slice z.c.1 C.length z.c.2, .slice z.x.1 X.length z.x.2] ∈ A1 := by rw [hA1]; exact .head _
 have c5 : .blk g5 25 [.slice RA R.length rc, .slice CA C.length cc, .slice XA X.length xc] ∈ A1 := by rw [hA1]; exact .tail _ (.head _)
 have hxA : ∀ {d}, d ∈ numCh R.length G x → d ∈ A1 := fun {d} hd => by rw [hA1]; exact .tail _ (.tail _ (List.mem_append_left _ hd))
 have hzA : ∀ {d}, d ∈ tabCh R' C' X z → d ∈ A1 := fun {d} hd => by rw [hA1]; exact .tail _ (.tail _ (List.mem_append_right _ hd))
 clear hA1
 have hXr := hV.xs
 have hxl := hV.x
 refine tr_fact (p := _) (fun w' hs => num_some hs x hGl hGr hxx hi hk hxA) ?_
 rintro ⟨xb, yb, yc, hxb, vs, row, m1, v1, m2, v2⟩
 refine tr_fact (p := _) (fun w' hs => tab_some hs z hV.x hXr hz hi hk hzA) ?_
 rintro ⟨zb, ub, uc, hzb, vs', row', n1, v3, n2, v4, v5⟩
 have j1 : ∀ {A'}, A1.Sublist A' → CellAt w A' xb (0 + i * 1) (.slice (some ⟨yb, 0, none⟩) C.length yc) := fun h => by rw [Nat.zero_add, Nat.mul_one]; exact cell_own (h.subset (hxA m1)) v1
 have j2 : ∀ {A'}, A1.Sublist A' → CellAt w A' yb (0 + k * 1) (.int .i64 (nAt G i k)) := fun h => by rw [Nat.zero_add, Nat.mul_one]; exact cell_own (h.subset (hxA m2)) v2
 have z1 : ∀ {A'}, A1.Sublist A' → CellAt w A' zb (0 + i * 1) (.slice (some ⟨ub, 0, none⟩) C.length uc) := fun h => by rw [Nat.zero_add, Nat.mul_one]; exact cell_own (h.subset (hzA n1)) v3
 have z2 : ∀ {A'}, A1.Sublist A' → CellAt w A' ub (0 + k * 2 + 0) (.int .i64 (xAt X i k).1) := fun h => by rw [Nat.zero_add]; exact cell_own (h.subset (hzA n2)) v4
 have z3 : ∀ {A'}, A1.Sublist A' → CellAt w A' ub (0 + k * 2 + 1) (.int .i64 (xAt X i k).2) := fun h => by rw [Nat.zero_add]; exact cell_own (h.subset (hzA n2)) v5
 have k46 := fun {A' w1} (hs : St w A' w1) (h : A1.Sublist A') => h46 hs hz fun {d} hd => h.subset (hzA hd)
 have kct := fun {A' w1} (hs : St w A' w1) (h : A1.Sublist A') => hct hs hz (fun {d} hd => h.subset (hzA hd)) hxx (fun {d} hd => h.subset (hxA hd))
 have kwi := fun {A' w1} (hs : St w A' w1) (h : A1.Sublist A') => hwi hs hz fun {d} hd => h.subset (hzA hd)
 have krc := fun {A' w1} (hs : St w A' w1) (h : A1.Sublist A') {l : NumX} (hl : l.xs.length = R.length) (h' : ∀ {d}, d ∈ numCh R.length L2 l → d ∈ A') => hrc hs hz (fun {d} hd => h.subset (hzA hd)) hl h'
 have kwd := fun {A' w1} (hs : St w A' w1) {l : NumX} (hl : l.xs.length = R.length) (h' : ∀ {d}, d ∈ numCh R.length L2 l → d ∈ A') => hwd hs hl h'
 clear h46 hct hwi har hgi
 rw [hxb, hzb]
 rw [hzb] at c12 k46 kct kwi krc
 rw [hxb] at kct
 clear hxb hzb
 have hGk2 := hLt.2
 generalize nAt G i k = gk at *
 refine tr_weak (l := [(2, _), (3, _), (4, _), (5, _), (11, _), (12, _)]) (B := A1) ⟨rfl, rfl, rfl, rfl, rfl, rfl, trivial⟩ (List.Sublist.refl _) ?_
 refine tr_seqK ?_
 (apply tr_v tk; (conv => whnf); (repeat ((first | (apply VStop.mk; refine tr_region_lex (id := 5) (by kernel_rfl) [.rd, .rd, .rd, .rd, .rd, .rd, .rd, .rd, .rd, .rd, .rd, .rd, .rd, .rd] rfl (by kernel_rfl) ?_; apply ot_v tk) | (apply VLd.mk; first | exact cell_blk (List.Sublist.subset sb c12) rfl | exact cell_blk (List.Sublist.subset sb c5) rfl | exact j1 sb | exact j2 sb | exact z1 sb | exact z2 sb | exact z3 sb) | (apply v_wr64; omega) | (apply VNz.mk; omega)); (conv => whnf))); apply VStop.mk)
 rw [ei, ek]
 refine tr_seqK ?_
 (apply tr_v tk; (conv => whnf); (repeat ((first | (apply VLdN.mk; exact cells_blk_all (List.Sublist.subset sb c12); exact rfl) | (apply VCall.q; kernel_rfl; (focus (intro w1 hs; first | with_reducible apply k46 hs sb))) | (apply VNew.mk; intro g hg) | (apply VSt.mk; (focus ((repeat (first | (with_reducible exact At.here) | (with_reducible apply At.there))); done)); exact rfl)); (conv => whnf))); apply VStop.mk)
 revert g hg
 intro g15 hg15
 refine tr_seqK ?_
 (apply tr_v tk; (conv => whnf); (repeat ((first | ((first | apply VStop.mk | apply VCall.stop); refine tr_region_lex (id := 7) (by kernel_rfl) [.rd, .rd, .cr, .rd, .rd, .rd, .rd, .rd, .rd, .rd, .rd, .rd, .rd, .rd, .rd, .rd, .rd, .rd, .rd, .rd, .rd, .rd, .rd, .rd, .rd, .rd, .rd, .rd, .rd, .rd, .rd, .rd] rfl (by kernel_rfl) ?_; apply ot_v tk) | (apply VLdN.mk; exact cells_blk_all (List.Sublist.subset sb c12); exact rfl) | (apply VLd.mk; first | exact cell_blk (List.Sublist.subset sb c12) rfl | exact cell_blk (List.Sublist.subset sb c5) rfl | exact j1 sb | exact j2 sb | exact z1 sb | exact z2 sb | exact z3 sb) | (apply VIx.mk (j := i); exact rfl; omega) | (apply VIx.mk (j := k); exact rfl; omega) | (apply VCall.q; kernel_rfl; (focus (intro w1 hs; first | with_reducible apply kct hs sb))) | (apply VLd.mk; (focus ((repeat (first | ((with_reducible apply ld_blk); exact rfl) | (with_reducible apply ld_skip))); done))) | apply VBr.f | (apply v_f; omega)); (conv => whnf))); apply VStop.mk)
 refine tr_seqK ?_
 (apply tr_v tk; (conv => whnf); (repeat ((first | (apply VStop.mk; refine tr_region_lex (id := 9) (by kernel_rfl) [.rd, .rd, .rd, .rd, .rd, .rd, .rd, .rd, .rd, .rd, .rd, .rd, .rd] rfl (by kernel_rfl) ?_; apply ot_v tk) | (apply VLd.mk; (focus ((repeat (first | ((with_reducible apply ld_blk); exact rfl) | (with_reducible apply ld_skip))); done))) | (apply VRng.mk; omega) | (apply v_wr64; omega) | (apply VNz.mk; omega)); (conv => whnf))); apply VStop.mk)
 rw [et, enn]
 refine tr_weak (l := [(12, _), (13, _), (14, _), (15, _), (17, _)]) (B := _) ⟨rfl, rfl, rfl, rfl, rfl, trivial⟩ (List.Sublist.refl _) ?_
 have kwi' := fun {A' w1} (hs : St w A' w1) (h : A1.Sublist A') (a b : Int) => kwi hs h (a, b)
 dsimp only at kwi'
 refine tr_seqK ?_
 (apply tr_v tk; (conv => whnf); (repeat ((first | ((first | apply VStop.mk | apply VCall.stop); refine tr_region_lex (id := 10) (by kernel_rfl) [.rd, .rd, .rd, .rd, .rd, .cr, .cr, .cr, .rd, .rd, .rd, .rd, .rd] rfl (by kernel_rfl) ?_; apply ot_v tk) | (apply VLdN.mk; exact cells_blk_all (List.Sublist.subset sb c12); exact rfl) | (apply VCall.q; kernel_rfl; (focus (intro w1 hs; first | with_reducible apply to_any _ _ w1)))); (conv => whnf))); apply VCall.stop)
 refine ot_callT (X := TabX) (us := []) (vs := []) (fun x => .agg #[.slice x.r.1 R.length x.r.2, .slice x.c.1 C.length x.c.2, .slice x.x.1 (setX X i k (nn, nn)).length x.x.2]) (fun x => []) (fun x => tabCh R' C' (setX X i k (nn, nn)) x) _ (fun x c hc => tabCh_mut' hc) (by decide) rfl rfl rfl rfl (by kernel_rfl) (evl_of rfl) rfl (fun w1 hs => kwi' hs sb nn nn) ?_
 intro zz hzz
 (dsimp only [List.cons_append, List.nil_append]; apply ot_v tk)
 ((conv => whnf); apply VCall.stop)
 refine ot_callT (X := NumX) (us := []) (vs := []) (fun x => .tuple #[.slice x.x.1 R.length x.x.2, .int .i64 0]) (fun x => []) (fun x => numCh R.length L2 x) _ (fun x c hc => numCh_mut hc) (by decide) rfl rfl rfl rfl (by kernel_rfl) (evl_of rfl) rfl (fun w1 hs => h23n hs hzz (fun {d} hd => by (with_reducible (repeat refine List.mem_cons_of_mem _ ?_); first | exact hd | exact List.mem_append_left _ hd | exact List.mem_append_right _ hd | exact List.mem_append_left _ (List.mem_append_left _ hd) | exact List.mem_append_left _ (List.mem_append_right _ hd) | exact List.mem_append_left _ (List.mem_append_left _ (List.mem_append_left _ hd)) | exact List.mem_append_left _ (List.mem_append_left _ (List.mem_append_right _ hd))))) ?_
 intro l hl
 (dsimp only [List.cons_append, List.nil_append]; apply ot_v tk)
 ((conv => whnf); apply VStop.mk)
 refine tr_nameA2 ?_
 intro A2 hA2
 have hsub : A1.Sublist A2 := by rw [hA2]; ((repeat refine List.Sublist.cons _ ?_); first | exact List.Sublist.refl _ | exact List.sublist_append_left _ _ | exact List.Sublist.trans (List.sublist_append_left _ _) (List.sublist_append_left _ _) | exact List.Sublist.trans (List.sublist_append_left _ _) (List.Sublist.trans (List.sublist_append_left _ _) (List.sublist_append_left _ _)))
 have hlA : ∀ {d}, d ∈ numCh R.length L2 l → d ∈ A2 := fun {d} hd => by rw [hA2]; (with_reducible (repeat refine List.mem_cons_of_mem _ ?_); first | exact hd | exact List.mem_append_left _ hd | exact List.mem_append_right _ hd | exact List.mem_append_left _ (List.mem_append_left _ hd) | exact List.mem_append_left _ (List.mem_append_right _ hd) | exact List.mem_append_left _ (List.mem_append_left _ (List.mem_append_left _ hd)) | exact List.mem_append_left _ (List.mem_append_left _ (List.mem_append_right _ hd)))
 have c15 : .blk g15 37 [.int .i64 r1, .int .i64 r2] ∈ A2 := by rw [hA2]; exact .head _
 clear hA2
 replace c12 := hsub.subset c12
 replace c5 := hsub.subset c5
 have z1 := fun {A'} (h : A2.Sublist A') => z1 (hsub.trans h)
 have z2 := fun {A'} (h : A2.Sublist A') => z2 (hsub.trans h)
 have z3 := fun {A'} (h : A2.Sublist A') => z3 (hsub.trans h)
 have kwi := fun {A' w1} (hs : St w A' w1) (h : A2.Sublist A') (a b : Int) => kwi' hs (hsub.trans h) a b
 have krc := fun {A' w1} (hs : St w A' w1) (h : A2.Sublist A') => krc hs (hsub.trans h) hl (fun {d} hd => h.subset (hlA hd))
 have kwd := fun {A' w1} (hs : St w A' w1) (h : A2.Sublist A') => kwd hs hl (fun {d} hd => h.subset (hlA hd))
 refine tr_fact (p := _) (fun w' hs => num_some hs l hLl hLr hl hi hk hlA) ?_
 rintro ⟨lb, pb, pc, hlb, ws, prow, p1, w1_, p2, w2_⟩
 rw [hGk2] at w2_
 have j1 : ∀ {A'}, A2.Sublist A' → CellAt w A' lb (0 + i * 1) (.slice (some ⟨pb, 0, none⟩) C.length pc) := fun h => by rw [Nat.zero_add, Nat.mul_one]; exact cell_own (h.subset (hlA p1)) w1_
 have j2 : ∀ {A'}, A2.Sublist A' → CellAt w A' pb (0 + k * 1) (.int .i64 nn) := fun h => by rw [Nat.zero_add, Nat.mul_one]; exact cell_own (h.subset (hlA p2)) w2_
 rw [hlb] at krc kwd
 rw [hlb]
 refine tr_seqK ?_
 (apply tr_v tk; (conv => whnf); (repeat ((first | (apply VLdN.mk; exact cells_blk_all (List.Sublist.subset sb c12); exact rfl) | (apply VLd.mk; first | exact cell_blk (List.Sublist.subset sb c12) rfl | exact cell_blk (List.Sublist.subset sb c5) rfl | exact j1 sb | exact j2 sb | exact z1 sb | exact z2 sb | exact z3 sb) | (apply VIx.mk (j := i); exact rfl; omega) | (apply VIx.mk (j := k); exact rfl; omega) | (apply VCall.q; kernel_rfl; (focus (intro w1 hs; first | with_reducible apply kwd hs sb | with_reducible apply krc hs sb))) | apply VBr.f | (apply v_f; omega)); (conv => whnf))); apply VStop.mk)
 generalize xAt X i k = qq at *
 obtain ⟨q1, q2⟩ := qq
 dsimp only at hvx hin z2 z3 hout
 have h23a : ∀ {a b : Int}, 0 ≤ a → a ≤ b → b ≤ 12 → q1 ≤ a → b ≤ q2 → (b < r1 ∨ r2 < a) → ∀ {A1 : List Chunk} {w1 : World}, St w A1 w1 → ∀ {z : TabX}, z.xs.length = (setX X i k (a, b)).length → (∀ {d}, d ∈ tabCh R' C' (setX X i k (a, b)) z → d ∈ A1) → Calls Try.prog 23 #[.agg #[.slice z.r.1 R.length z.r.2, .slice z.c.1 C.length z.c.2, .slice z.x.1 (setX X i k (a, b)).length z.x.2]] w1 fun e w' => e = .returned (.tuple #[.slice none 0 0, .int .i64 20]) ∧ Below w1.heap.size w1 w' := fun {a b} u1 u2 u3 u4 u5 u6 {A1 w1} hs {z} hz h => by
  have hVq := hV'.setX (i := i) (k := k) (by omega) (by omega) (r := (a, b)) (rangeB_iff.2 ⟨u1, u2, u3⟩)
  have hE := errT_no hVq (hout u4 u5 u6)
  have := h23e hs hz h hVq.fit (by rw [hE]; decide)
  rw [hE] at this
  exact this
 refine tr_weak (l := [(12, _), (13, _), (14, _), (15, _)]) (B := A2) ⟨rfl, rfl, rfl, rfl, trivial⟩ (List.Sublist.refl _) ?_
 refine tr_cut (fun _ : Unit => ([(12, .pointer (some ⟨g12, 0, none⟩)), (13, .int .i64 (i : Int)), (14, .int .i64 (k : Int)), (15, .pointer (some ⟨g15, 0, none⟩))], A2)) ?_ ?_
 ·by_cases d1 : q1 < r1
  ·skip
   (apply tr_v tk; (conv => whnf); (repeat ((first | ((first | apply VStop.mk | apply VCall.stop); (first | refine tr_region_lex (id := 13) (by kernel_rfl) [.rd, .rd, .rd, .rd, .rd, .rd, .rd, .rd, .rd, .rd, .rd, .rd] rfl (by kernel_rfl) ?_ | refine tr_region_lex (id := 14) (by kernel_rfl) [.rd, .rd, .rd, .rd, .rd, .rd, .rd, .rd, .rd, .rd, .rd, .rd, .rd, .rd, .rd, .cr, .cr, .cr, .rd, .rd, .rd, .rd] rfl (by kernel_rfl) ?_); apply ot_v tk) | (apply VLdN.mk; exact cells_blk_all (List.Sublist.subset sb c12); exact rfl) | (apply VLd.mk; first | exact cell_blk (List.Sublist.subset sb c12) rfl | exact cell_blk (List.Sublist.subset sb c5) rfl | exact j1 sb | exact j2 sb | exact z1 sb | exact z2 sb | exact z3 sb | exact cell_blk (List.Sublist.subset sb c15) rfl) | (apply VIx.mk (j := i); exact rfl; omega) | (apply VIx.mk (j := k); exact rfl; omega) | (apply VCall.q; kernel_rfl; (focus (intro w1 hs; first | with_reducible apply to_any _ _ w1))) | (apply VRng.mk; omega) | apply VBr.t | (apply v_t; omega)); (conv => whnf))); apply VCall.stop)
   refine ot_callT (X := TabX) (us := []) (vs := []) (fun x => .agg #[.slice x.r.1 R.length x.r.2, .slice x.c.1 C.length x.c.2, .slice x.x.1 (setX X i k (q1, r1 - 1)).length x.x.2]) (fun x => []) (fun x => tabCh R' C' (setX X i k (q1, r1 - 1)) x) _ (fun x c hc => tabCh_mut' hc) (by decide) rfl rfl rfl rfl (by kernel_rfl) (evl_of rfl) rfl (fun w1 hs => kwi hs sb q1 (r1 - 1)) ?_
   intro zq hzq
   (dsimp only [List.cons_append, List.nil_append]; apply ot_v tk)
   ((conv => whnf); (repeat ((first | (apply VCall.q; kernel_rfl; (focus (intro w1 hs; first | with_reducible apply h23a (a := q1) (b := r1 - 1) (by omega) (by omega) (by omega) (by omega) (by omega) (.inl (by omega)) hs hzq (fun {d} hd => by (with_reducible (repeat refine List.mem_cons_of_mem _ ?_); first | exact hd | exact List.mem_append_left _ hd | exact List.mem_append_right _ hd | exact List.mem_append_left _ (List.mem_append_left _ hd) | exact List.mem_append_left _ (List.mem_append_right _ hd) | exact List.mem_append_left _ (List.mem_append_left _ (List.mem_append_left _ hd)) | exact List.mem_append_left _ (List.mem_append_left _ (List.mem_append_right _ hd))))))) | apply VBr.f | (apply v_f; omega)); (conv => whnf))))
   exact VJ.mk () rfl ⟨rfl, rfl, rfl, rfl, trivial⟩ (Pick.of_sub sb)
  ·skip
   (apply tr_v tk; (conv => whnf); (repeat ((first | (apply VStop.mk; refine tr_region_lex (id := 13) (by kernel_rfl) [.rd, .rd, .rd, .rd, .rd, .rd, .rd, .rd, .rd, .rd, .rd, .rd] rfl (by kernel_rfl) ?_; apply ot_v tk) | (apply VLd.mk; first | exact cell_blk (List.Sublist.subset sb c12) rfl | exact cell_blk (List.Sublist.subset sb c5) rfl | exact j1 sb | exact j2 sb | exact z1 sb | exact z2 sb | exact z3 sb | exact cell_blk (List.Sublist.subset sb c15) rfl) | (apply VIx.mk (j := i); exact rfl; omega) | (apply VIx.mk (j := k); exact rfl; omega) | apply VBr.f | (apply v_f; omega)); (conv => whnf))))
   exact VJ.mk () rfl ⟨rfl, rfl, rfl, rfl, trivial⟩ (Pick.of_sub sb)
 rintro ⟨⟩
 dsimp only
 by_cases d2 : r2 < q2
 ·skip
  (apply tr_v tk; (conv => whnf); (repeat ((first | ((first | apply VStop.mk | apply VCall.stop); (first | refine tr_region_lex (id := 17) (by kernel_rfl) [.rd, .rd, .rd, .rd, .rd, .rd, .rd, .rd, .rd, .rd, .rd, .rd] rfl (by kernel_rfl) ?_ | refine tr_region_lex (id := 18) (by kernel_rfl) [.rd, .rd, .rd, .rd, .rd, .rd, .rd, .rd, .rd, .rd, .rd, .rd, .rd, .rd, .rd, .cr, .cr, .cr, .rd, .rd, .rd, .rd] rfl (by kernel_rfl) ?_); apply ot_v tk) | (apply VLdN.mk; exact cells_blk_all (List.Sublist.subset sb c12); exact rfl) | (apply VLd.mk; first | exact cell_blk (List.Sublist.subset sb c12) rfl | exact cell_blk (List.Sublist.subset sb c5) rfl | exact j1 sb | exact j2 sb | exact z1 sb | exact z2 sb | exact z3 sb | exact cell_blk (List.Sublist.subset sb c15) rfl) | (apply VIx.mk (j := i); exact rfl; omega) | (apply VIx.mk (j := k); exact rfl; omega) | (apply VCall.q; kernel_rfl; (focus (intro w1 hs; first | with_reducible apply to_any _ _ w1))) | (apply VRng.mk; omega) | apply VBr.t | (apply v_t; omega)); (conv => whnf))); apply VCall.stop)
  refine ot_callT (X := TabX) (us := []) (vs := []) (fun x => .agg #[.slice x.r.1 R.length x.r.2, .slice x.c.1 C.length x.c.2, .slice x.x.1 (setX X i k (r2 + 1, q2)).length x.x.2]) (fun x => []) (fun x => tabCh R' C' (setX X i k (r2 + 1, q2)) x) _ (fun x c hc => tabCh_mut' hc) (by decide) rfl rfl rfl rfl (by kernel_rfl) (evl_of rfl) rfl (fun w1 hs => kwi hs sb (r2 + 1) q2) ?_
  intro zp hzp
  (dsimp only [List.cons_append, List.nil_append]; apply ot_v tk)
  ((conv => whnf); (repeat ((first | (apply VCall.q; kernel_rfl; (focus (intro w1 hs; first | with_reducible apply h23a (a := r2 + 1) (b := q2) (by omega) (by omega) (by omega) (by omega) (by omega) (.inr (by omega)) hs hzp (fun {d} hd => by (with_reducible (repeat refine List.mem_cons_of_mem _ ?_); first | exact hd | exact List.mem_append_left _ hd | exact List.mem_append_right _ hd | exact List.mem_append_left _ (List.mem_append_left _ hd) | exact List.mem_append_left _ (List.mem_append_right _ hd) | exact List.mem_append_left _ (List.mem_append_left _ (List.mem_append_left _ hd)) | exact List.mem_append_left _ (List.mem_append_left _ (List.mem_append_right _ hd)))) | with_reducible apply works_any w1))) | apply VBr.t | (apply v_t; omega)); (conv => whnf))))
  ((apply VRet.mk); refine ret1 (by first | exact .inl rfl | exact .inr rfl) rfl (by exact rv_tmp rfl) ?_; exact fun w h => ⟨rfl, h.base⟩)
 ·skip
  (apply tr_v tk; (conv => whnf); (repeat ((first | ((first | apply VStop.mk | apply VCall.stop); refine tr_region_lex (id := 17) (by kernel_rfl) [.rd, .rd, .rd, .rd, .rd, .rd, .rd, .rd, .rd, .rd, .rd, .rd] rfl (by kernel_rfl) ?_; apply ot_v tk) | (apply VLd.mk; first | exact cell_blk (List.Sublist.subset sb c12) rfl | exact cell_blk (List.Sublist.subset sb c5) rfl | exact j1 sb | exact j2 sb | exact z1 sb | exact z2 sb | exact z3 sb | exact cell_blk (List.Sublist.subset sb c15) rfl) | (apply VIx.mk (j := i); exact rfl; omega) | (apply VIx.mk (j := k); exact rfl; omega) | (apply VCall.q; kernel_rfl; (focus (intro w1 hs; first | with_reducible apply works_any w1))) | apply VBr.f | (apply v_f; omega)); (conv => whnf))))
  ((apply VRet.mk); refine ret1 (by first | exact .inl rfl | exact .inr rfl) rfl (by exact rv_tmp rfl) ?_; exact fun w h => ⟨rfl, h.base⟩)
end
end Go.Proofs.Ytalcccgialpjgaa
