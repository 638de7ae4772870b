/- Truth of the definition: lemmas for the rows of this seat. No conditions. -/
import Derived.Test.YtalcccgialpjgaaN17
import Derived.Test.YtalcccgialpjgaaM22
set_option linter.all false
namespace Go.Proofs.Ytalcccgialpjgaa
open Go.RowKit
/-! ## Truth of the definition -/
structure CurX where
 r : NsX
 c : NsX
 x : NsX
 T : List Chunk
/-- A table that lies in memory, its own or the caller's. -/
structure CurOK (w : World) (R C : List R2) (Y : List (List R2)) (u : CurX) : Prop where
 tab : ∀ A1 w1, (∀ d ∈ u.T, d ∈ A1) → St w A1 w1 → TabR w1 u.r.1 u.c.1 u.x.1 R C Y
 cell : ∀ i k, i < R.length → k < C.length → ∃ xb xo B o c, u.x.1 = some ⟨xb, xo, none⟩ ∧ (∀ Ch, (∀ d ∈ u.T, d ∈ Ch) → CellAt w Ch xb (xo + i * 1) (.slice (some ⟨B, o, none⟩) C.length c)) ∧ ∀ Ch, (∀ d ∈ u.T, d ∈ Ch) → CellAt w Ch B (o + k * 2) (.int .i64 (xAt Y i k).1)
theorem cur_base {w : World} {RA CA XA : Option Addr} {rc cc xc : Nat} {R C : List R2} {X : List (List R2)} (hV : Valid R C X) (hT : TabR w RA CA XA R C X) : CurOK w R C X ⟨(RA, rc), (CA, cc), (XA, xc), []⟩ := by
 have hxl := hV.x
 refine ⟨fun A1 w1 _ hs => hs.tab hT, fun i k hi hk => ?_⟩
 have hxk := hV.xs _ (List.getElem_mem (show i < X.length by omega))
 obtain ⟨xb, xo, rfl, B, c, hce, hrd⟩ := nest_gen hT.x (show i < X.length by omega)
 obtain ⟨b2, o2, rfl, _⟩ := hrd.2 (by omega)
 refine ⟨xb, xo, b2, o2, c, rfl, fun Ch _ => by rw [← hxk]; exact hce Ch, fun Ch _ => ?_⟩
 have := (rg_cell hrd (k := k) (by omega) (by omega) Ch).1
 unfold xAt
 rw [List.getElem?_eq_getElem (by omega), Option.getD_some]
 exact this
theorem rgC_at {l : List R2} {k : Nat} (hk : k < l.length) : (rgC l)[0 + k * 2]? = some (.int .i64 (rAt l k).1) := by
 have := rgC_get l k hk 0 (by omega)
 rw [Nat.zero_add]
 exact this
theorem cur_own {w : World} {R C : List R2} {Y : List (List R2)} (hV : Valid R C Y) (x : TabX) (hx : x.xs.length = Y.length) (h1 : ∃ b, x.x.1 = some ⟨b, 0, none⟩) (h2 : ∀ i (hi : i < Y.length), ∃ b, (x.xs[i]'(by omega)).1 = some ⟨b, 0, none⟩) : CurOK w R C Y ⟨x.r, x.c, x.x, tabCh R C Y x⟩ := by
 have hyl := hV.x
 refine ⟨fun A1 w1 hm hs => hs.tabX x hx hm, fun i k hi hk => ?_⟩
 obtain ⟨bx, hbx⟩ := h1
 have hiY : i < Y.length := by omega
 obtain ⟨b2, hb2⟩ := h2 i hiY
 have hyk := hV.xs _ (List.getElem_mem hiY)
 have hva := nsVs_at hx hiY
 have hca := nsCh_at hx hiY
 rw [hb2] at hva hca
 refine ⟨bx, 0, b2, 0, (x.xs[i]'(by omega)).2, hbx, fun Ch hm => ?_, fun Ch hm => ?_⟩
 ·have hmem : Chunk.own (.slice x.x.1 Y.length x.x.2) 22 1 Y.length (nsVs x.xs (nestR Y)) ∈ Ch := hm _ (by unfold tabCh; exact .tail _ (.tail _ (.head _)))
  rw [hbx] at hmem
  rw [hyk] at hva
  rw [Nat.zero_add, Nat.mul_one]
  exact cell_own hmem hva
 ·have hmem := hm _ (show _ ∈ tabCh R C Y x by unfold tabCh; exact .tail _ (.tail _ (.tail _ hca)))
  have e := rgC_at (l := Y[i]) (k := k) (by omega)
  have e2 : xAt Y i k = rAt Y[i] k := by unfold xAt; rw [List.getElem?_eq_getElem hiY, Option.getD_some]
  rw [e2]
  exact cell_own hmem e
/-- What a table of the call's own lies in. -/
structure OwnP (Y : List (List R2)) (x : TabX) : Prop where
 len : x.xs.length = Y.length
 bx : ∃ b, x.x.1 = some ⟨b, 0, none⟩
 rows : ∀ i (hi : i < Y.length), ∃ b, (x.xs[i]'(by omega)).1 = some ⟨b, 0, none⟩
theorem ownP_of {w0 w : World} {R C : List R2} {Y : List (List R2)} {x : TabX} (hV : Valid R C Y) (hx : x.xs.length = Y.length) (hs : St w0 (tabCh R C Y x) w) : OwnP Y x := by
 have hy := hV.x
 have hn := hV.r1
 have hm := hV.c1
 refine ⟨hx, own_some hs (.tail _ (.tail _ (.head _))) (by omega), fun i hi => ?_⟩
 have hyk := hV.xs _ (List.getElem_mem hi)
 exact own_some hs (.tail _ (.tail _ (.tail _ (nsCh_at hx hi)))) (by omega)
section
variable (RA : Option Addr) (rc : Nat) (CA : Option Addr) (cc : Nat) (XA : Option Addr) (xc : Nat) (R C : List R2) (X : List (List R2)) (w : World) (hT : TabR w RA CA XA R C X)
include hT
set_option maxRecDepth 20000 in
theorem refTruthL_err (hF : FitT R C X) (hE : errT R C X ≠ 0) : Calls Try.prog 24 #[tabV RA rc CA cc XA xc R C X] w fun e w' => e = .returned (.tuple #[.slice none 0 0, .int .i64 (errT R C X)]) ∧ Below w.heap.size w w' := by
 have her := fun w1 (h : TabR w1 RA CA XA R C X) => error_any RA rc CA cc XA xc R C X w1 h hF
 unfold tabV at *
 generalize errT R C X = z at *
 refine fn_v tk (n := 64) (A := []) Try.func24 rfl rfl (Nat.le_of_ble_eq_true rfl) (St.nil (Below.refl _ _)) ?_
 ((try first | apply tr_v tk | apply ot_v tk); (conv => whnf); (repeat ((first | (apply VCall.q; kernel_rfl; (focus (intro w1 hs; first | with_reducible apply her w1 (hs.tab hT)))) | (apply VLdN.mk; (focus ((repeat (first | (with_reducible apply ldn_blk) | (with_reducible apply ldn_skip))); done)); exact rfl) | apply VBr.t | (apply v_t; omega) | (apply VNew.mk; intro g hg)); (conv => whnf))); try (first | apply VStop.mk | apply VCall.stop))
 (apply VRet.mk)
 refine ret2 (by first | exact .inl rfl | exact .inr rfl) rfl (by exact rv_tmp rfl) (by exact rv_tmp rfl) ?_
 exact fun w h => ⟨rfl, h.base⟩
set_option maxHeartbeats 4000000 in
set_option maxRecDepth 20000 in
theorem refTruthL_ok (hV : Valid R C X) (hH : HasT R C X) : Calls Try.prog 24 #[tabV RA rc CA cc XA xc R C X] w fun e w' => ∃ x : NumX, e = .returned (.tuple #[.slice x.x.1 R.length x.x.2, .int .i64 0]) ∧ x.xs.length = R.length ∧ St w (.own (.slice x.x.1 R.length x.x.2) 66 1 R.length (nsVs x.xs (nestI (truL R C X R.length))) :: nsCh 2 1 x.xs (nestI (truL R C X R.length))) w' := by
 have her := fun w1 (h : TabR w1 RA CA XA R C X) => error_any RA rc CA cc XA xc R C X w1 h hV.fit
 rw [errT_ok hV hH] at her
 have hn := hV.r1
 have hn4 := hV.r4
 have hm := hV.c1
 have hm4 := hV.c4
 have hxl := hV.x
 have hcur := cur_base (rc := rc) (cc := cc) (xc := xc) hV hT
 unfold tabV at *
 refine fn_v tk (n := 64) (A := []) Try.func24 rfl rfl (Nat.le_of_ble_eq_true rfl) (St.nil (Below.refl _ _)) ?_
 ((try first | apply tr_v tk | apply ot_v tk); (conv => whnf); (repeat ((first | (apply VCall.q; kernel_rfl; (focus (intro w1 hs; first | with_reducible apply her w1 (hs.tab hT)))) | (apply VLdN.mk; (focus ((repeat (first | (with_reducible apply ldn_blk) | (with_reducible apply ldn_skip))); done)); exact rfl) | apply VBr.f | (apply v_f; omega) | (apply VNew.mk; intro g hg)); (conv => whnf))); try (first | apply VStop.mk | apply VCall.stop))
 revert g hg
 intro g1 hg1
 refine tr_own_nil 66 1 ?_
 refine v_loop (fun gm ds ts A => ds = [] ∧ ∃ (i : Nat) (Bo : Option Addr) (co : Nat) (xs : List NsX) (u : CurX), i + gm = R.length ∧ xs.length = i ∧ CurOK w R C (allT R C X i) u ∧
   A.Perm (.own (.slice Bo i co) 66 1 i (nsVs xs (nestI (truL R C X i))) :: .blk g1 25 [.slice u.r.1 R.length u.r.2, .slice u.c.1 C.length u.c.2, .slice u.x.1 X.length u.x.2] :: (nsCh 2 1 xs (nestI (truL R C X i)) ++ u.T)) ∧
   ts = [(1, .pointer (some ⟨g1, 0, none⟩)), (4, .slice Bo i co), (5, .int .i64 (i : Int))]) R.length
   (l := [(1, _), (4, _), (5, _)]) (B := _) ?_ (List.Sublist.refl _) ⟨rfl, 0, none, 0, [], _, by omega, rfl, hcur, .refl _, rfl⟩ ?_
 ·exact ⟨rfl, rfl, rfl, trivial⟩
 clear hcur
 rintro gm ds ts A ⟨rfl, i, Bo, co, xs, u, hi, hxs, hu, hA, rfl⟩
 refine tr_perm hA ?_
 clear hA A
 by_cases hlt : i < R.length
 ·obtain ⟨hYV, hYT⟩ := allT_ok hV hH i (by omega)
  ((try first | apply tr_v tk | apply ot_v tk); (conv => whnf); (repeat ((first | (apply VLd.mk; (focus ((repeat (first | ((with_reducible apply ld_blk); exact rfl) | (with_reducible apply ld_skip))); done))) | apply VBr.t | (apply v_t; omega)); (conv => whnf))); try (first | apply VStop.mk | apply VCall.stop))
  refine tr_own_nil 2 1 ?_
  refine v_loop (fun gm2 ds ts A => ds = [] ∧ ∃ (k : Nat) (Bl : Option Addr) (cl : Nat) (u : CurX), k + gm2 = C.length ∧ CurOK w R C (rowT R C (allT R C X i) i k) u ∧
    A = .own (.slice Bl k cl) 2 1 k (i64s (rowN R C (allT R C X i) i k)) :: .own (.slice Bo i co) 66 1 i (nsVs xs (nestI (truL R C X i))) :: .blk g1 25 [.slice u.r.1 R.length u.r.2, .slice u.c.1 C.length u.c.2, .slice u.x.1 X.length u.x.2] :: (nsCh 2 1 xs (nestI (truL R C X i)) ++ u.T) ∧
    ts = [(1, .pointer (some ⟨g1, 0, none⟩)), (4, .slice Bo i co), (5, .int .i64 (i : Int)), (6, .slice Bl k cl), (7, .int .i64 (k : Int))]) C.length
   (l := [(1, _), (4, _), (5, _), (6, _), (7, _)]) (B := _) ?_ (List.Sublist.refl _) ⟨rfl, 0, none, 0, u, by omega, hu, rfl, rfl⟩ ?_
  ·exact ⟨rfl, rfl, rfl, rfl, rfl, trivial⟩
  clear hu u
  rintro gm2 ds ts A ⟨rfl, k, Bl, cl, u, hk, hu, rfl, rfl⟩
  by_cases hlt2 : k < C.length
  ·obtain ⟨hZV, hZT⟩ := rowT_ok hYV hYT hlt k (by omega)
   have hok := cellR_ok hZT hlt hlt2
   have hst := rowN_step R C (allT R C X i) i k
   have hT1 : rowT R C (allT R C X i) i (k + 1) = setX (rowT R C (allT R C X i) i k) i k ((cellR R C (rowT R C (allT R C X i) i k) i k).1, (cellR R C (rowT R C (allT R C X i) i k) i k).1) := rfl
   obtain ⟨xb, xo, B, o, c, hux, k1, k2⟩ := hu.cell i k hlt hlt2
   have hyl := hZV.x
   have hrx := hZV.rX hlt hlt2
   generalize rowT R C (allT R C X i) i k = Y at *
   generalize rowN R C (allT R C X i) i k = rn at *
   have hxy : X.length = Y.length := by omega
   rw [hxy]
   have hwi := fun w1 (h : TabR w1 u.r.1 u.c.1 u.x.1 R C Y) r => with_any u.r.1 u.r.2 u.c.1 u.c.2 u.x.1 u.x.2 R C Y w1 h hZV i k hlt hlt2 r
   have hbl : (xAt Y i k).1 ≤ (cellR R C Y i k).1 ∧ (cellR R C Y i k).1 ≤ (xAt Y i k).2 := by
    obtain ⟨f, hf, e1⟩ := hok.lo
    have := hf.x i k hlt hlt2
    omega
   have hva : ∀ t : Int, 0 ≤ t ∧ t ≤ 12 → Valid R C (setX Y i k (t, t)) := fun t ht => hZV.setX hlt hlt2 (rangeB_iff.2 (by dsimp only; omega))
   have his := fun (x : TabX) t w1 (h : TabR w1 x.r.1 x.c.1 x.x.1 R C (setX Y i k (t, t))) hv => is_any x.r.1 x.r.2 x.c.1 x.c.2 x.x.1 x.x.2 R C (setX Y i k (t, t)) w1 h hv
   have hha : ∀ t : Int, (xAt Y i k).1 ≤ t → t ≤ (xAt Y i k).2 → (HasT R C (setX Y i k (t, t)) ↔ cellP R C Y i k t) := fun t h1 h2 => hasT_setX hZV hlt hlt2 ⟨h1, h2⟩
   unfold tabV at *
   have ht0 := hu.tab
   rw [hux] at hwi ht0 ⊢
   generalize hN0 : nsCh 2 1 xs (nestI (truL R C X i)) = N0
   generalize hVs : nsVs xs (nestI (truL R C X i)) = Vs
   have hmA : ∀ d ∈ u.T, d ∈ (.own (.slice Bl k cl) 2 1 k (i64s rn) :: .own (.slice Bo i co) 66 1 i Vs :: .blk g1 25 [.slice u.r.1 R.length u.r.2, .slice u.c.1 C.length u.c.2, .slice (some ⟨xb, xo, none⟩) Y.length u.x.2] :: (N0 ++ u.T)) := fun d hd => .tail _ (.tail _ (.tail _ (List.mem_append_right _ hd)))
   have ht := fun w1 hs => ht0 _ w1 hmA hs
   have k1' := k1 _ hmA
   have k2' := k2 _ hmA
   ((try first | apply tr_v tk | apply ot_v tk); (conv => whnf); (repeat ((first | (apply VIx.mk (j := i); exact rfl; omega) | (apply VIx.mk (j := k); exact rfl; omega) | (apply VLd.mk; first | exact k1' | exact k2') | (apply VLd.mk; (focus ((repeat (first | ((with_reducible apply ld_blk); exact rfl) | (with_reducible apply ld_skip))); done))) | apply VBr.t | (apply v_t; omega)); (conv => whnf))); try (first | apply VStop.mk | apply VCall.stop))
   refine v_loop (fun gm3 ds ts A => ds = [] ∧ ∃ t : Int, (xAt Y i k).1 ≤ t ∧ t ≤ (cellR R C Y i k).1 ∧ t + gm3 = (cellR R C Y i k).1 ∧ A = (.own (.slice Bl k cl) 2 1 k (i64s rn) :: .own (.slice Bo i co) 66 1 i Vs :: .blk g1 25 [.slice u.r.1 R.length u.r.2, .slice u.c.1 C.length u.c.2, .slice (some ⟨xb, xo, none⟩) Y.length u.x.2] :: (N0 ++ u.T)) ∧ ts = [(1, .pointer (some ⟨g1, 0, none⟩)), (4, .slice Bo i co), (5, .int .i64 (i : Int)), (6, .slice Bl k cl), (7, .int .i64 (k : Int)), (8, .int .i64 t)]) ((cellR R C Y i k).1 - (xAt Y i k).1).toNat
    (l := [(1, _), (4, _), (5, _), (6, _), (7, _), (8, _)]) (B := _) ?_ (List.Sublist.refl _) ⟨rfl, (xAt Y i k).1, by omega, by omega, by omega, rfl, rfl⟩ ?_
   ·exact ⟨rfl, rfl, rfl, rfl, rfl, rfl, trivial⟩
   rintro gm3 ds ts A ⟨rfl, t, ht1, ht2, ht3, rfl, rfl⟩
   by_cases hlt3 : gm3 = 0
   rotate_left
   ·have hno : ¬HasT R C (setX Y i k (t, t)) := by
     rw [hha t (by omega) (by omega)]
     intro h
     have := (hok.all _ h).1
     omega
    ((try first | apply tr_v tk | apply ot_v tk); (conv => whnf); (repeat ((first | (apply VLdN.mk; (focus ((repeat (first | (with_reducible apply ldn_blk) | (with_reducible apply ldn_skip))); done)); exact rfl)); (conv => whnf))); try (first | apply VStop.mk | apply VCall.stop))
    refine ot_callT (X := TabX) (us := []) (vs := []) (fun x => tabX x R C (setX Y i k (t, t))) (fun x => []) (fun x => tabCh R C (setX Y i k (t, t)) x) _ (fun x c hc => tabCh_mut (x := x) c hc) (by decide) rfl rfl rfl rfl (by kernel_rfl) (evl_of rfl) rfl (fun w1 hs => hwi w1 (ht w1 hs) (t, t)) ?_
    intro x hx
    have h2 := fun w1 h => his x t w1 h (hva t (by omega)) false (by simp [hno])
    have h3 := fun w1 (hs : St w (.own (.slice Bl k cl) 2 1 k (i64s rn) :: .own (.slice Bo i co) 66 1 i Vs :: .blk g1 25 [.slice u.r.1 R.length u.r.2, .slice u.c.1 C.length u.c.2, .slice (some ⟨xb, xo, none⟩) Y.length u.x.2] :: (N0 ++ u.T ++ tabCh R C (setX Y i k (t, t)) x)) w1) => h2 w1 (hs.tabX x hx (fun d hd => .tail _ (.tail _ (.tail _ (List.mem_append_right _ hd)))))
    unfold tabX tabV at *
    dsimp only [List.cons_append, List.nil_append]
    apply ot_v tk
    ((try first | apply tr_v tk | apply ot_v tk); (conv => whnf); (repeat ((first | (apply VCall.q; kernel_rfl; (focus (intro w1 hs; first | with_reducible apply h3 w1 hs))) | (apply VRng.mk; omega) | apply VBr.t); (conv => whnf))); try (first | apply VStop.mk | apply VCall.stop))
    exact v_rnd (gm3 - 1) (by omega) (l := [(1, _), (4, _), (5, _), (6, _), (7, _), (8, _)]) (B := (.own (.slice Bl k cl) 2 1 k (i64s rn) :: .own (.slice Bo i co) 66 1 i Vs :: .blk g1 25 [.slice u.r.1 R.length u.r.2, .slice u.c.1 C.length u.c.2, .slice (some ⟨xb, xo, none⟩) Y.length u.x.2] :: (N0 ++ u.T))) ⟨rfl, rfl, rfl, rfl, rfl, rfl, trivial⟩ (.cons_cons _ (.cons_cons _ (.cons_cons _ (List.sublist_append_left _ _)))) ⟨rfl, t + 1, by omega, by omega, by omega, rfl, rfl⟩
   obtain rfl : t = (cellR R C Y i k).1 := by omega
   have hyes : HasT R C (setX Y i k ((cellR R C Y i k).1, (cellR R C Y i k).1)) := by
    rw [hha _ (by omega) (by omega)]
    exact hok.lo
   ((try first | apply tr_v tk | apply ot_v tk); (conv => whnf); (repeat ((first | (apply VLdN.mk; (focus ((repeat (first | (with_reducible apply ldn_blk) | (with_reducible apply ldn_skip))); done)); exact rfl)); (conv => whnf))); try (first | apply VStop.mk | apply VCall.stop))
   refine ot_callT (X := TabX) (us := []) (vs := []) (fun x => tabX x R C (setX Y i k ((cellR R C Y i k).1, (cellR R C Y i k).1))) (fun x => []) (fun x => tabCh R C (setX Y i k ((cellR R C Y i k).1, (cellR R C Y i k).1)) x) _ (fun x c hc => tabCh_mut (x := x) c hc) (by decide) rfl rfl rfl rfl (by kernel_rfl) (evl_of rfl) rfl (fun w1 hs => hwi w1 (ht w1 hs) ((cellR R C Y i k).1, (cellR R C Y i k).1)) ?_
   intro x hx
   have h2 := fun w1 h => his x (cellR R C Y i k).1 w1 h (hva _ (by omega)) true (by simp [hyes])
   have h3 := fun w1 (hs : St w (.own (.slice Bl k cl) 2 1 k (i64s rn) :: .own (.slice Bo i co) 66 1 i Vs :: .blk g1 25 [.slice u.r.1 R.length u.r.2, .slice u.c.1 C.length u.c.2, .slice (some ⟨xb, xo, none⟩) Y.length u.x.2] :: (N0 ++ u.T ++ tabCh R C (setX Y i k ((cellR R C Y i k).1, (cellR R C Y i k).1)) x)) w1) => h2 w1 (hs.tabX x hx (fun d hd => .tail _ (.tail _ (.tail _ (List.mem_append_right _ hd)))))
   unfold tabX tabV at *
   dsimp only [List.cons_append, List.nil_append]
   apply ot_v tk
   ((try first | apply tr_v tk | apply ot_v tk); (conv => whnf); (repeat ((first | (apply VCall.q; kernel_rfl; (focus (intro w1 hs; first | with_reducible apply h3 w1 hs))) | apply VBr.f); (conv => whnf))); try (first | apply VStop.mk | apply VCall.stop))
   refine tr_st (B := .own (.slice Bl k cl) 2 1 k (i64s rn) :: .own (.slice Bo i co) 66 1 i Vs :: .blk g1 25 [.slice u.r.1 R.length u.r.2, .slice u.c.1 C.length u.c.2, .slice (some ⟨xb, xo, none⟩) Y.length u.x.2] :: (N0 ++ u.T)) (fun _ hs => hs.sub (.cons_cons _ (.cons_cons _ (.cons_cons _ (List.sublist_append_left _ _))))) ?_
   refine tr_weak (l := [(1, .pointer (some ⟨g1, 0, none⟩)), (4, .slice Bo i co), (5, .int .i64 (i : Int)), (6, .slice Bl k cl), (7, .int .i64 (k : Int)), (8, .int .i64 (cellR R C Y i k).1)]) ⟨rfl, rfl, rfl, rfl, rfl, rfl, trivial⟩ (List.Sublist.refl _) ?_
   clear h3 h2 hx x hlt3 ht1 ht2 ht3
   have hv2 := hva (cellR R C Y i k).1 (by omega)
   have hwo : ∀ w1, TabR w1 u.r.1 u.c.1 (some ⟨xb, xo, none⟩) R C Y → Calls Try.prog 47 #[.agg #[.slice u.r.1 R.length u.r.2, .slice u.c.1 C.length u.c.2, .slice (some ⟨xb, xo, none⟩) Y.length u.x.2], .int .i64 (i : Int), .int .i64 (k : Int), .agg #[.int .i64 (cellR R C Y i k).1, .int .i64 (cellR R C Y i k).1]] w1 fun e w' => ∃ x : TabX, e = .returned (.agg #[.slice x.r.1 R.length x.r.2, .slice x.c.1 C.length x.c.2, .slice x.x.1 (setX Y i k ((cellR R C Y i k).1, (cellR R C Y i k).1)).length x.x.2]) ∧ OwnP (setX Y i k ((cellR R C Y i k).1, (cellR R C Y i k).1)) x ∧ St w1 ([] ++ tabCh R C (setX Y i k ((cellR R C Y i k).1, (cellR R C Y i k).1)) x) w' := fun w1 h => (hwi w1 h ((cellR R C Y i k).1, (cellR R C Y i k).1)).mono fun e w' ⟨x, e1, e2, e3⟩ => ⟨x, e1, ownP_of hv2 e2 e3, e3⟩
   have e9 : i64s rn ++ [.int .i64 (cellR R C Y i k).1] = i64s (rowN R C (allT R C X i) i (k + 1)) := by rw [hst]; simp [i64s]
   have hsl := setX_len Y i k ((cellR R C Y i k).1, (cellR R C Y i k).1)
   have hcu := fun (x : TabX) (hx : OwnP (setX Y i k ((cellR R C Y i k).1, (cellR R C Y i k).1)) x) => cur_own (w := w) hv2 x hx.len hx.bx hx.rows
   rw [← hT1] at hcu
   rw [hsl] at hwo
   ((try first | apply tr_v tk | apply ot_v tk); (conv => whnf); (repeat ((first | ((first | apply VStop.mk | apply VCall.stop); (first | refine tr_region_treeV (id := 14) (by kernel_rfl) [] (by (repeat (first | exact sl0 _ | exact sl1 _ | refine sl2 _ ?_ | refine sl3 _ ?_))) [0, 1, 5, 6, 7, 8, 9] [2, 3, 4, 10, 11, 12] [.rd, .rd, .rd, .rd, .rd, .rd, .rd] (fun i => [.wr, .wr, .cr, .wr, .wr, .wr, .wr, .wr, .wr, .wr, .cr, .wr, .wr].getD i .wr) _ rfl rfl (by kernel_rfl) ?_); try first | apply ot_v tk | apply tr_v tk)); (conv => whnf))); try (first | apply VStop.mk | apply VCall.stop))
   refine ox2 2 4 ?_ ?_
   ·(apply ot_v tk; (conv => whnf); (apply VNew.mk; intro gb hgb; (conv => whnf)); refine sla ?_)
    refine ox2 3 4 ?_ ?_
    ·(refine ot_appendS (sz := 1) (sl := k) (xs := i64s rn) (news := [.int .i64 (cellR R C Y i k).1]) (A'v := fun v' => _ :: .own v' 2 1 (k + 1) _ :: _) tk rfl rfl rfl rfl rfl rfl rfl rfl rfl rfl (by decide) rfl (cells_blk_all (.head _)) rfl rfl (fun v' => .there .here) (by omega) (by decide) (fun Bm cm => ?_); refine ot_nil ?_; refine sla ?_)
     refine ox1 4 ?_
     (apply ot_v tk; (conv => whnf); (apply VLdN.mk; exact cells_blk_all (by (repeat (first | with_unfolding_all exact List.Mem.head _ | assumption | with_unfolding_all refine List.Mem.tail _ ?_))); exact rfl; (conv => whnf)); refine sla ?_)
     refine ox1 10 ?_
     (refine ot_callT (X := TabX) (us := []) (vs := []) _ (fun x => []) (fun x => tabCh R C (setX Y i k ((cellR R C Y i k).1, (cellR R C Y i k).1)) x) _ (fun x c hc => tabCh_mut (x := x) c hc) (by decide) rfl rfl rfl rfl (by kernel_rfl) (evl_of rfl) rfl (fun w1 hs => hwo w1 (ht0 _ w1 (fun d hd => by repeat (first | exact List.mem_append_right _ hd | apply List.Mem.tail)) hs)) (fun x hx => ?_); refine ot_nil ?_; refine sla ?_)
     refine ox1 11 ?_
     (apply ot_v tk; (conv => whnf); refine sla ?_)
     refine ox1 12 ?_
     (apply ot_v tk; (conv => whnf); (apply VSt.mk; (focus (repeat (first | exact At.here | apply At.there)); done); exact rfl; (conv => whnf)); refine sla ?_)
     refine VT.mk (otx_end ?_)
     (((try first | apply tr_v tk | apply ot_v tk); (conv => whnf); (repeat ((first | (apply VRng.mk; omega)); (conv => whnf))); try (first | apply VStop.mk | apply VCall.stop)); rw [e9, ← hT1]; exact v_rnd (gm2 - 1) (by omega) (l := [(1, _), (4, _), (5, _), (6, _), (7, _)]) (B := .own (.slice Bm (k + 1) cm) 2 1 (k + 1) (i64s (rowN R C (allT R C X i) i (k + 1))) :: .own (.slice Bo i co) 66 1 i Vs :: .blk g1 25 [.slice x.r.1 R.length x.r.2, .slice x.c.1 C.length x.c.2, .slice x.x.1 Y.length x.x.2] :: (N0 ++ tabCh R C (rowT R C (allT R C X i) i (k + 1)) x)) ⟨rfl, rfl, rfl, rfl, rfl, trivial⟩ (.cons _ (.cons_cons _ (.cons_cons _ (.cons_cons _ ((List.sublist_append_left N0 u.T).append (List.Sublist.refl _)))))) ⟨rfl, k + 1, Bm, cm, ⟨x.r, x.c, x.x, tabCh R C (rowT R C (allT R C X i) i (k + 1)) x⟩, by omega, hcu x (by rw [hT1]; exact hx), rfl, rfl⟩)
    ·(apply ot_v tk; (conv => whnf); (apply VLdN.mk; exact cells_blk_all (by (repeat (first | with_unfolding_all exact List.Mem.head _ | assumption | with_unfolding_all refine List.Mem.tail _ ?_))); exact rfl; (conv => whnf)); refine sla ?_)
     refine ox1 3 ?_
     (refine ot_appendS (sz := 1) (sl := k) (xs := i64s rn) (news := [.int .i64 (cellR R C Y i k).1]) (A'v := fun v' => _ :: .own v' 2 1 (k + 1) _ :: _) tk rfl rfl rfl rfl rfl rfl rfl rfl rfl rfl (by decide) rfl (cells_blk_all (.head _)) rfl rfl (fun v' => .there .here) (by omega) (by decide) (fun Bm cm => ?_); refine ot_nil ?_; refine sla ?_)
     refine ox1 10 ?_
     (refine ot_callT (X := TabX) (us := []) (vs := []) _ (fun x => []) (fun x => tabCh R C (setX Y i k ((cellR R C Y i k).1, (cellR R C Y i k).1)) x) _ (fun x c hc => tabCh_mut (x := x) c hc) (by decide) rfl rfl rfl rfl (by kernel_rfl) (evl_of rfl) rfl (fun w1 hs => hwo w1 (ht0 _ w1 (fun d hd => by repeat (first | exact List.mem_append_right _ hd | apply List.Mem.tail)) hs)) (fun x hx => ?_); refine ot_nil ?_; refine sla ?_)
     refine ox1 11 ?_
     (apply ot_v tk; (conv => whnf); refine sla ?_)
     refine ox1 12 ?_
     (apply ot_v tk; (conv => whnf); (apply VSt.mk; (focus (repeat (first | exact At.here | apply At.there)); done); exact rfl; (conv => whnf)); refine sla ?_)
     refine VT.mk (otx_end ?_)
     (((try first | apply tr_v tk | apply ot_v tk); (conv => whnf); (repeat ((first | (apply VRng.mk; omega)); (conv => whnf))); try (first | apply VStop.mk | apply VCall.stop)); rw [e9, ← hT1]; exact v_rnd (gm2 - 1) (by omega) (l := [(1, _), (4, _), (5, _), (6, _), (7, _)]) (B := .own (.slice Bm (k + 1) cm) 2 1 (k + 1) (i64s (rowN R C (allT R C X i) i (k + 1))) :: .own (.slice Bo i co) 66 1 i Vs :: .blk g1 25 [.slice x.r.1 R.length x.r.2, .slice x.c.1 C.length x.c.2, .slice x.x.1 Y.length x.x.2] :: (N0 ++ tabCh R C (rowT R C (allT R C X i) i (k + 1)) x)) ⟨rfl, rfl, rfl, rfl, rfl, trivial⟩ (.cons _ (.cons_cons _ (.cons_cons _ (.cons_cons _ ((List.sublist_append_left N0 u.T).append (List.Sublist.refl _)))))) ⟨rfl, k + 1, Bm, cm, ⟨x.r, x.c, x.x, tabCh R C (rowT R C (allT R C X i) i (k + 1)) x⟩, by omega, hcu x (by rw [hT1]; exact hx), rfl, rfl⟩)
   ·(apply ot_v tk; (conv => whnf); (apply VLdN.mk; exact cells_blk_all (by (repeat (first | with_unfolding_all exact List.Mem.head _ | assumption | with_unfolding_all refine List.Mem.tail _ ?_))); exact rfl; (conv => whnf)); refine sla ?_)
    refine ox1 2 ?_
    (apply ot_v tk; (conv => whnf); (apply VNew.mk; intro gb hgb; (conv => whnf)); refine sla ?_)
    refine ox1 3 ?_
    (refine ot_appendS (sz := 1) (sl := k) (xs := i64s rn) (news := [.int .i64 (cellR R C Y i k).1]) (A'v := fun v' => _ :: .own v' 2 1 (k + 1) _ :: _) tk rfl rfl rfl rfl rfl rfl rfl rfl rfl rfl (by decide) rfl (cells_blk_all (.head _)) rfl rfl (fun v' => .there .here) (by omega) (by decide) (fun Bm cm => ?_); refine ot_nil ?_; refine sla ?_)
    refine ox1 10 ?_
    (refine ot_callT (X := TabX) (us := []) (vs := []) _ (fun x => []) (fun x => tabCh R C (setX Y i k ((cellR R C Y i k).1, (cellR R C Y i k).1)) x) _ (fun x c hc => tabCh_mut (x := x) c hc) (by decide) rfl rfl rfl rfl (by kernel_rfl) (evl_of rfl) rfl (fun w1 hs => hwo w1 (ht0 _ w1 (fun d hd => by repeat (first | exact List.mem_append_right _ hd | apply List.Mem.tail)) hs)) (fun x hx => ?_); refine ot_nil ?_; refine sla ?_)
    refine ox1 11 ?_
    (apply ot_v tk; (conv => whnf); refine sla ?_)
    refine ox1 12 ?_
    (apply ot_v tk; (conv => whnf); (apply VSt.mk; (focus (repeat (first | exact At.here | apply At.there)); done); exact rfl; (conv => whnf)); refine sla ?_)
    refine VT.mk (otx_end ?_)
    (((try first | apply tr_v tk | apply ot_v tk); (conv => whnf); (repeat ((first | (apply VRng.mk; omega)); (conv => whnf))); try (first | apply VStop.mk | apply VCall.stop)); rw [e9, ← hT1]; exact v_rnd (gm2 - 1) (by omega) (l := [(1, _), (4, _), (5, _), (6, _), (7, _)]) (B := .own (.slice Bm (k + 1) cm) 2 1 (k + 1) (i64s (rowN R C (allT R C X i) i (k + 1))) :: .own (.slice Bo i co) 66 1 i Vs :: .blk g1 25 [.slice x.r.1 R.length x.r.2, .slice x.c.1 C.length x.c.2, .slice x.x.1 Y.length x.x.2] :: (N0 ++ tabCh R C (rowT R C (allT R C X i) i (k + 1)) x)) ⟨rfl, rfl, rfl, rfl, rfl, trivial⟩ (.cons _ (.cons_cons _ (.cons_cons _ (.cons_cons _ ((List.sublist_append_left N0 u.T).append (List.Sublist.refl _)))))) ⟨rfl, k + 1, Bm, cm, ⟨x.r, x.c, x.x, tabCh R C (rowT R C (allT R C X i) i (k + 1)) x⟩, by omega, hcu x (by rw [hT1]; exact hx), rfl, rfl⟩)
  obtain rfl : k = C.length := by omega
  have e1 := truL_step R C X i
  have e2 := congrArg nestI e1
  rw [nestI_snoc, rowN_len] at e2
  have hxn : xs.length = (nestI (truL R C X i)).length := by rw [nestI_length, truL_len]; exact hxs
  have e3 := nsVs_snoc (xs := xs) (S := nestI (truL R C X i)) (x := (Bl, cl)) (s := (C.length, i64s (rowN R C (allT R C X i) i C.length))) hxn
  have e4 := nsCh_snoc (e := 2) (sz := 1) (xs := xs) (S := nestI (truL R C X i)) (x := (Bl, cl)) (s := (C.length, i64s (rowN R C (allT R C X i) i C.length))) hxn
  rw [← e2] at e3 e4
  ((try first | apply tr_v tk | apply ot_v tk); (conv => whnf); (repeat ((first | ((first | apply VStop.mk | apply VCall.stop); (first | (refine ot_appendS (sz := 1) (sl := i) (xs := nsVs xs (nestI (truL R C X i))) (news := [.slice Bl C.length cl]) (A'v := fun v' => _ :: _ :: .own v' 66 1 (i + 1) _ :: _) tk rfl rfl rfl rfl rfl rfl rfl rfl rfl rfl (by decide) rfl (cells_blk_all (.head _)) rfl rfl (fun v' => .there (.there .here)) (by omega) (by decide) (fun Bm cm => ?_))); try first | apply ot_v tk | apply tr_v tk) | (apply VLd.mk; (focus ((repeat (first | ((with_reducible apply ld_blk); exact rfl) | (with_reducible apply ld_skip))); done))) | (apply VRng.mk; omega) | apply VBr.f | (apply v_f; omega) | (apply VNew.mk; intro g hg)); (conv => whnf))); try (first | apply VStop.mk | apply VCall.stop))
  refine v_rnd (gm - 1) (by omega) (l := [(1, _), (4, _), (5, _)]) (B := _) ⟨rfl, rfl, rfl, trivial⟩ (.cons _ (List.Sublist.refl _)) ⟨rfl, i + 1, Bm, cm, xs ++ [(Bl, cl)], u, by omega, by rw [List.length_append, hxs]; rfl, hu, ?_, rfl⟩
  rw [e4, e3, List.append_assoc, List.singleton_append]
  refine (List.Perm.swap _ _ _).trans (.cons _ ((List.Perm.swap _ _ _).trans (.cons _ ?_)))
  exact List.perm_middle.symm
 obtain rfl : i = R.length := by omega
 ((try first | apply tr_v tk | apply ot_v tk); (conv => whnf); (repeat ((first | (apply VLd.mk; (focus ((repeat (first | ((with_reducible apply ld_blk); exact rfl) | (with_reducible apply ld_skip))); done))) | apply VBr.f | (apply v_f; omega)); (conv => whnf))); try (first | apply VStop.mk | apply VCall.stop))
 (apply VRet.mk)
 refine ret2 (by first | exact .inl rfl | exact .inr rfl) rfl (by exact rv_tmp rfl) (by exact rv_tmp rfl) ?_
 exact fun w hs => ⟨⟨(Bo, co), xs⟩, rfl, hxs, hs.sub (.cons_cons _ (.cons _ (List.sublist_append_left _ _)))⟩
end
end Go.Proofs.Ytalcccgialpjgaa
