/- The first truth: lemmas for the rows of this seat. No conditions. -/
import Derived.Test.YtalcccgialpjgaaN15
set_option linter.all false
namespace Go.Proofs.Ytalcccgialpjgaa
open Go.RowKit
/-! ## The first truth -/
theorem net_setX {R C : List R2} {Y : List (List R2)} (hV : Valid R C Y) {i k : Nat} (hi : i < R.length) (hk : k < C.length) (x : Int) {u v : Nat} (he : netE R.length C.length u v = true) :
  netLo R C (setX Y i k (x, x)) u v = (if u = 2 + i ∧ v = 2 + R.length + k then x else netLo R C Y u v) ∧ netHi R C (setX Y i k (x, x)) u v = (if u = 2 + i ∧ v = 2 + R.length + k then x else netHi R C Y u v) := by
 have hx := hV.x
 rcases net_cases he with ⟨rfl, rfl⟩ | ⟨a, ha, rfl, rfl⟩ | ⟨a, b, ha, hb, rfl, rfl⟩ | ⟨b, hb, rfl, rfl⟩
 ·rw [net_10.1, net_10.2, net_10.1, net_10.2, if_neg (by omega), if_neg (by omega)]; exact ⟨rfl, rfl⟩
 ·rw [(net_0r ha).1, (net_0r ha).2, (net_0r ha).1, (net_0r ha).2, if_neg (by omega), if_neg (by omega)]; exact ⟨rfl, rfl⟩
 ·rw [(net_rc ha hb).1, (net_rc ha hb).2, (net_rc ha hb).1, (net_rc ha hb).2, setX_at _ hV.xs (by omega) hk]
  by_cases h : a = i ∧ b = k
  ·rw [if_pos h, if_pos (by omega), if_pos (by omega)]; exact ⟨rfl, rfl⟩
  ·rw [if_neg h, if_neg (by omega), if_neg (by omega)]; exact ⟨rfl, rfl⟩
 ·rw [(net_c1 hV.r1 hb).1, (net_c1 hV.r1 hb).2, (net_c1 hV.r1 hb).1, (net_c1 hV.r1 hb).2, if_neg (by omega), if_neg (by omega)]; exact ⟨rfl, rfl⟩
theorem keyM_setX {R C : List R2} {Y : List (List R2)} (hV : Valid R C Y) {i k : Nat} (hi : i < R.length) (hk : k < C.length) (x : Int) :
  updM (keyM (netE R.length C.length) (rngV (netLo R C Y) (netHi R C Y))) (((2 + i : Nat) : Int), ((2 + R.length + k : Nat) : Int)) (.agg #[.int .i64 x, .int .i64 x]) = keyM (netE R.length C.length) (rngV (netLo R C (setX Y i k (x, x))) (netHi R C (setX Y i k (x, x)))) := by
 have he := netE_rc (i := i) (k := k) hi hk
 rw [keyM_upd _ (rngV (netLo R C Y) (netHi R C Y)) (rngV (netLo R C (setX Y i k (x, x))) (netHi R C (setX Y i k (x, x)))) (2 + i) (2 + R.length + k) _ (by
  have := net_setX hV hi hk x he
  rw [if_pos ⟨rfl, rfl⟩, if_pos ⟨rfl, rfl⟩] at this
  unfold rngV
  rw [this.1, this.2]) fun a b h hab => by
  have := net_setX hV hi hk x hab
  rw [if_neg h, if_neg h] at this
  unfold rngV
  rw [this.1, this.2]]
 refine keyM_congr (fun a b => ?_) fun _ _ _ => rfl
 by_cases h : a = 2 + i ∧ b = 2 + R.length + k
 ·rw [h.1, h.2, he]; rfl
 ·rw [decide_eq_false h, Bool.or_false]
theorem circ_setX {R C : List R2} {Y : List (List R2)} (hV : Valid R C Y) {i k : Nat} (hi : i < R.length) (hk : k < C.length) {g : Nat → Nat → Int} (hc : Circ (2 + R.length + C.length) (netLo R C Y) (netHi R C Y) g) : Circ (2 + R.length + C.length) (netLo R C (setX Y i k (g (2 + i) (2 + R.length + k), g (2 + i) (2 + R.length + k)))) (netHi R C (setX Y i k (g (2 + i) (2 + R.length + k), g (2 + i) (2 + R.length + k)))) g := by
 refine ⟨fun u v hu hv => ?_, hc.exc⟩
 have h0 := hc.inb u v hu hv
 cases he : netE R.length C.length u v with
 | false => rw [(net_no he).1, (net_no he).2] at h0 ⊢; exact h0
 | true =>
  have := net_setX hV hi hk (g (2 + i) (2 + R.length + k)) he
  rw [this.1, this.2]
  split
  ·rename_i h
   rw [h.1, h.2]; omega
  ·exact h0
noncomputable def rowT (R C : List R2) (Y : List (List R2)) (i : Nat) : Nat → List (List R2)
 | 0 => Y
 | k + 1 => setX (rowT R C Y i k) i k ((cellR R C (rowT R C Y i k) i k).1, (cellR R C (rowT R C Y i k) i k).1)
noncomputable def rowN (R C : List R2) (Y : List (List R2)) (i k : Nat) : List Int := (List.range k).map fun j => (cellR R C (rowT R C Y i j) i j).1
noncomputable def allT (R C : List R2) (X : List (List R2)) : Nat → List (List R2)
 | 0 => X
 | i + 1 => rowT R C (allT R C X i) i C.length
noncomputable def truL (R C : List R2) (X : List (List R2)) (i : Nat) : List (List Int) := (List.range i).map fun a => rowN R C (allT R C X a) a C.length
theorem rowN_step (R C : List R2) (Y : List (List R2)) (i k : Nat) : rowN R C Y i (k + 1) = rowN R C Y i k ++ [(cellR R C (rowT R C Y i k) i k).1] := map_range_step _ k
theorem truL_step (R C : List R2) (X : List (List R2)) (i : Nat) : truL R C X (i + 1) = truL R C X i ++ [rowN R C (allT R C X i) i C.length] := map_range_step _ i
theorem rowN_len (R C : List R2) (Y : List (List R2)) (i k : Nat) : (rowN R C Y i k).length = k := map_range_len _ k
theorem truL_len (R C : List R2) (X : List (List R2)) (i : Nat) : (truL R C X i).length = i := map_range_len _ i
theorem rowT_ok {R C : List R2} {Y : List (List R2)} (hV : Valid R C Y) (hT : HasT R C Y) {i : Nat} (hi : i < R.length) : ∀ k, k ≤ C.length → Valid R C (rowT R C Y i k) ∧ HasT R C (rowT R C Y i k)
 | 0, _ => ⟨hV, hT⟩
 | k + 1, hk => by
  obtain ⟨h1, h2⟩ := rowT_ok hV hT hi k (by omega)
  have h3 := cellR_ok h2 hi (show k < C.length by omega)
  obtain ⟨f, hf, e⟩ := h3.lo
  have h4 := hf.x i k hi (by omega)
  have h5 := h1.rX hi (show k < C.length by omega)
  rw [rowT]
  refine ⟨h1.setX hi (by omega) (rangeB_iff.2 (by dsimp only; omega)), ?_⟩
  rw [hasT_setX h1 hi (by omega) (by omega)]
  exact h3.lo
theorem allT_ok {R C : List R2} {X : List (List R2)} (hV : Valid R C X) (hT : HasT R C X) : ∀ i, i ≤ R.length → Valid R C (allT R C X i) ∧ HasT R C (allT R C X i)
 | 0, _ => ⟨hV, hT⟩
 | i + 1, hi => by
  obtain ⟨h1, h2⟩ := allT_ok hV hT i (by omega)
  exact rowT_ok h1 h2 (by omega) _ (Nat.le_refl _)
/-! ## Truth -/
theorem own_cap {w : World} {base m c sz : Nat} {t : TypeId} {B : Option Addr} {xs : List Value} (h : w.ownsRow base t sz (.slice B m c) m xs) : m ≤ c := by
 rcases h.2 with ⟨h1, h2⟩ | ⟨g, cap, cur, h1, _, _, h2, _⟩
 ·omega
 ·cases h1; exact h2
theorem nestI_snoc (L : List (List Int)) (s : List Int) : nestI (L ++ [s]) = nestI L ++ [(s.length, i64s s)] := by unfold nestI; rw [List.map_append]; rfl
structure NumX where
 x : NsX
 xs : List NsX
section
variable (RA : Option Addr) (rc : Nat) (CA : Option Addr) (cc : Nat) (XA : Option Addr) (xc : Nat) (R C : List R2) (X : List (List R2)) (w : World) (hT : TabR w RA CA XA R C X)
include hT
set_option maxHeartbeats 2000000 in
set_option maxRecDepth 20000 in
theorem truth_err (hF : FitT R C X) (hE : errT R C X ≠ 0) : Calls Try.prog 23 #[tabV RA rc CA cc XA xc R C X] w fun e w' => e = .returned (.tuple #[.slice none 0 0, .int .i64 (errT R C X)]) ∧ Below w.heap.size w w' := by
 have her := fun w1 (h : TabR w1 RA CA XA R C X) hz => filled_err RA rc CA cc XA xc R C X w1 h hF hz
 have hno := fun w1 (h : TabR w1 RA CA XA R C X) hV hH => filled_no RA rc CA cc XA xc R C X w1 h hV hH
 unfold tabV at *
 by_cases hz : chkTab R C X = 0
 rotate_left
 ·rw [errT_chk hz]
  generalize chkTab R C X = z at *
  refine fn_v tk (n := 65) (A := []) Try.func23 rfl rfl (Nat.le_of_ble_eq_true rfl) (St.nil (Below.refl _ _)) ?_
  ((conv => whnf); (repeat ((first | (apply VCall.q; kernel_rfl; (focus (intro w1 hs; first | with_reducible apply her w1 (hs.tab hT) hz))) | (apply VLdN.mk; (focus ((repeat (first | (with_reducible apply ldn_blk) | (with_reducible apply ldn_skip))); done)); exact rfl) | apply VBr.t | (apply v_t; omega) | (apply VNew.mk; intro g hg)); (conv => whnf))))
  (apply VRet.mk)
  refine ret2 (by first | exact .inl rfl | exact .inr rfl) rfl (by exact rv_tmp rfl) (by exact rv_tmp rfl) ?_
  exact fun w h => ⟨rfl, h.base⟩
 have hV := chk_valid hz
 have hH : ¬HasT R C X := fun h => hE (errT_ok hV h)
 rw [errT_no hV hH]
 refine fn_v tk (n := 65) (A := []) Try.func23 rfl rfl (Nat.le_of_ble_eq_true rfl) (St.nil (Below.refl _ _)) ?_
 ((conv => whnf); (repeat ((first | (apply VCall.q; kernel_rfl; (focus (intro w1 hs; first | with_reducible apply hno w1 (hs.tab hT) hV hH))) | (apply VLdN.mk; (focus ((repeat (first | (with_reducible apply ldn_blk) | (with_reducible apply ldn_skip))); done)); exact rfl) | apply VBr.t | (apply v_t; omega) | (apply VNew.mk; intro g hg)); (conv => whnf))))
 (apply VRet.mk)
 refine ret2 (by first | exact .inl rfl | exact .inr rfl) rfl (by exact rv_tmp rfl) (by exact rv_tmp rfl) ?_
 exact fun w h => ⟨rfl, h.base⟩
set_option maxHeartbeats 2000000 in
set_option maxRecDepth 20000 in
theorem truth_ok (hV : Valid R C X) (hH : HasT R C X) : Calls Try.prog 23 #[tabV RA rc CA cc XA xc R C X] w fun e w' => ∃ x : NumX, e = .returned (.tuple #[.slice x.x.1 R.length x.x.2, .int .i64 0]) ∧ x.xs.length = R.length ∧ St w (.own (.slice x.x.1 R.length x.x.2) 66 1 R.length (nsVs x.xs (nestI (truL R C X R.length))) :: nsCh 2 1 x.xs (nestI (truL R C X R.length))) w' := by
 have hok := fun w1 (h : TabR w1 RA CA XA R C X) => filled_ok RA rc CA cc XA xc R C X w1 h hV hH
 have hn := hV.r1
 have hn4 := hV.r4
 have hm := hV.c1
 have hm4 := hV.c4
 unfold tabV at *
 refine fn_v tk (n := 65) (A := []) Try.func23 rfl rfl (Nat.le_of_ble_eq_true rfl) (St.nil (Below.refl _ _)) ?_
 ((conv => whnf); (repeat ((first | (apply VLdN.mk; (focus ((repeat (first | (with_reducible apply ldn_blk) | (with_reducible apply ldn_skip))); done)); exact rfl) | (apply VNew.mk; intro g hg)); (conv => whnf))); apply VCall.stop)
 revert g hg
 intro gt hgt
 refine ot_callC (X := FilX) (us := []) (vs := []) _ _ _ (fun x c hc => by simp at hc; rcases hc with rfl | rfl | rfl <;> rfl) (by decide) rfl rfl rfl rfl (by kernel_rfl) (evl_of rfl) rfl (fun w1 hs => hok w1 (hs.tab hT)) ?_
 rintro ⟨gn, bm, fm, stb, fl, st⟩ ⟨hg0, hc0⟩
 (dsimp only [List.cons_append, List.nil_append]; apply ot_v tk)
 ((conv => whnf); (repeat ((first | (apply VLd.mk; (focus ((repeat (first | ((with_reducible apply ld_blk); exact rfl) | (with_reducible apply ld_skip))); done))) | apply VBr.f | (apply v_f; omega)); (conv => whnf))); apply VStop.mk)
 refine tr_own_nil 66 1 ?_
 refine v_loop (fun gm ds ts A => ds = [] ∧ ∃ (i : Nat) (Bo : Option Addr) (co : Nat) (xs : List NsX) (fl : Nat → Nat → Int) (st : List (Nat × (Int × Int))), i + gm = R.length ∧ xs.length = i ∧ (∀ u v, netE R.length C.length u v = false → fl u v = 0) ∧ Circ (2 + R.length + C.length) (netLo R C (allT R C X i)) (netHi R C (allT R C X i)) fl ∧
   A.Perm (.own (.slice Bo i co) 66 1 i (nsVs xs (nestI (truL R C X i))) :: netA (netC RA rc CA cc XA xc R C X bm fm) gn bm (keyM (netE R.length C.length) (rngV (netLo R C (allT R C X i)) (netHi R C (allT R C X i)))) stb fm (keyM (netE R.length C.length) (intV fl)) st (.blk gt 25 [.slice RA R.length rc, .slice CA C.length cc, .slice XA X.length xc] :: nsCh 2 1 xs (nestI (truL R C X i)))) ∧
   ts = [(1, .pointer (some ⟨gt, 0, none⟩)), (4, .pointer (some ⟨gn, 0, none⟩)), (6, .slice Bo i co), (22, .int .i64 (R.length : Int)), (23, .int .i64 (i : Int))]) R.length
   (l := [(1, _), (4, _), (6, _), (22, _), (23, _)]) (B := _) ?_ (List.Sublist.refl _) ⟨rfl, 0, none, 0, [], fl, st, by omega, rfl, hg0, hc0, .refl _, rfl⟩ ?_
 ·exact ⟨rfl, rfl, rfl, rfl, rfl, trivial⟩
 clear hg0 hc0 fl st
 rintro gm ds ts A ⟨rfl, i, Bo, co, xs, fl, st, hi, hxs, hg0, hc0, hA, rfl⟩
 refine tr_perm hA ?_
 clear hA A
 by_cases hlt : i < R.length
 ·obtain ⟨hYV, hYT⟩ := allT_ok hV hH i (by omega)
  have hro := fun w1 => row_any gn i w1 (by omega)
  (apply tr_v tk; (conv => whnf); (repeat ((first | (apply VLd.mk; (focus ((repeat (first | ((with_reducible apply ld_blk); exact rfl) | (with_reducible apply ld_skip))); done))) | apply VBr.t | (apply v_t; omega)); (conv => whnf))); apply VStop.mk)
  refine tr_own_nil 2 1 ?_
  refine v_loop (fun gm2 ds ts A => ds = [] ∧ ∃ (k : Nat) (Bk : Option Addr) (ck : Nat) (fl : Nat → Nat → Int) (st : List (Nat × (Int × Int))), k + gm2 = C.length ∧ ((k = 0 ∧ Bk = none ∧ ck = 0) ∨ 0 < k) ∧ (∀ u v, netE R.length C.length u v = false → fl u v = 0) ∧ Circ (2 + R.length + C.length) (netLo R C (rowT R C (allT R C X i) i k)) (netHi R C (rowT R C (allT R C X i) i k)) fl ∧
   A = .own (.slice Bk k ck) 2 1 k (i64s (rowN R C (allT R C X i) i k)) :: .own (.slice Bo i co) 66 1 i (nsVs xs (nestI (truL R C X i))) :: netA (netC RA rc CA cc XA xc R C X bm fm) gn bm (keyM (netE R.length C.length) (rngV (netLo R C (rowT R C (allT R C X i) i k)) (netHi R C (rowT R C (allT R C X i) i k)))) stb fm (keyM (netE R.length C.length) (intV fl)) st (.blk gt 25 [.slice RA R.length rc, .slice CA C.length cc, .slice XA X.length xc] :: nsCh 2 1 xs (nestI (truL R C X i))) ∧
   ts = [(1, .pointer (some ⟨gt, 0, none⟩)), (4, .pointer (some ⟨gn, 0, none⟩)), (6, .slice Bo i co), (22, .int .i64 (R.length : Int)), (23, .int .i64 (i : Int)), (7, .int .i64 (i : Int)), (8, .slice Bk k ck), (28, .int .i64 (C.length : Int)), (29, .int .i64 (k : Int))]) C.length
   (l := [(1, _), (4, _), (6, _), (22, _), (23, _), (7, _), (8, _), (28, _), (29, _)]) (B := _) ?_ (List.Sublist.refl _) ⟨rfl, 0, none, 0, fl, st, by omega, .inl ⟨rfl, rfl, rfl⟩, hg0, hc0, rfl, rfl⟩ ?_
  ·exact ⟨rfl, rfl, rfl, rfl, rfl, rfl, rfl, rfl, rfl, trivial⟩
  clear hg0 hc0 fl st
  rintro gm2 ds ts A ⟨rfl, k, Bk, ck, fl, st, hk, hB, hg0, hc0, rfl, rfl⟩
  by_cases hlt2 : k < C.length
  ·obtain ⟨hZV, hZT⟩ := rowT_ok hYV hYT hlt k (by omega)
   have hco := fun w1 h => column_any RA rc R gn k w1 h (by omega) (by omega)
   have hrs := rowN_step R C (allT R C X i) i k
   have hrl := rowN_len R C (allT R C X i) i k
   have hT1 : rowT R C (allT R C X i) i (k + 1) = setX (rowT R C (allT R C X i) i k) i k ((cellR R C (rowT R C (allT R C X i) i k) i k).1, (cellR R C (rowT R C (allT R C X i) i k) i k).1) := rfl
   have hnx : ∀ {bm fm}, netC RA rc CA cc XA xc R C X bm fm = netC RA rc CA cc XA xc R C (rowT R C (allT R C X i) i k) bm fm := fun {bm fm} => by unfold netC; rw [hV.x, hZV.x]
   generalize rowT R C (allT R C X i) i k = Y at *
   generalize rowN R C (allT R C X i) i k = rn at *
   refine tr_fact (p := k ≤ ck ∧ (0 < k → ∃ b, Bk = some ⟨b, 0, none⟩)) (fun w' hs => ⟨own_cap (hs.all _ (.head _)), fun h0 => by
    obtain ⟨B, c, e, h⟩ := own_form (hs.all _ (.head _))
    cases e
    exact h h0⟩) fun ⟨hcap, hsome⟩ => ?_
   (apply tr_v tk; (conv => whnf); (repeat ((first | (apply VCall.q; kernel_rfl; (focus (intro w1 hs; first | with_reducible apply hro w1 | ((with_reducible apply hco w1); exact cell_blk (by (repeat (first | exact List.Mem.head _ | assumption | refine List.Mem.tail _ ?_))) rfl w1 hs)))) | (apply VLdN.mk; (focus ((repeat (first | (with_reducible apply ldn_blk) | (with_reducible apply ldn_skip))); done)); exact rfl) | apply VBr.t | (apply v_t; omega) | (apply VNew.mk; intro g hg) | (apply VSt.mk; (focus ((repeat (first | (with_reducible exact At.here) | (with_reducible apply At.there))); done)); exact rfl)); (conv => whnf))); apply VCall.stop)
   revert g hg
   intro g10 hg10
   refine ot_callW (X := SpanX) (us := []) (vs := []) (fun x => .agg #[.int .i64 (x.fl (2 + i) (2 + R.length + k)), .int .i64 x.hi]) _ _ rfl rfl rfl rfl rfl (by kernel_rfl) (evl_of rfl) rfl (fun w1 hs => span_fr [_, _, _] hZV hg0 hc0 (netE_rc hlt hlt2) hnx hs) ?_
   rintro ⟨hi, fl1, st1⟩ ⟨hg1, hc1, h3⟩
   have hcr := h3.cell hZV hlt hlt2
   dsimp only at hcr hg1 hc1 ⊢
   rw [hcr] at hrs hT1
   dsimp only at hrs hT1
   have hc2 := circ_setX hZV hlt hlt2 hc1
   have hup := keyM_setX hZV hlt hlt2 (fl1 (2 + i) (2 + R.length + k))
   rw [← hT1] at hc2 hup
   (dsimp only [List.cons_append, List.nil_append]; apply ot_v tk)
   rcases hB with ⟨rfl, rfl, rfl⟩ | hk0
   ·have hrn : rn = [] := List.eq_nil_of_length_eq_zero hrl
    subst hrn
    have e9 : ([] : List Value) ++ [.int .i64 (fl1 (2 + i) (2 + R.length + 0))] = i64s (rowN R C (allT R C X i) i (0 + 1)) := by rw [hrs]; rfl
    ((conv => whnf); (repeat ((first | (apply VStop.mk; (first | refine tr_region_draw (id := 14) (by kernel_rfl) [0, 1, 2, 3, 4, 5, 6, 7, 8] [.rd, .rd, .rd, .rd, .rd, .rd, .rd, .rd, .wr] rfl (by kernel_rfl) ?_ | (refine ot_updF (k := (((2 + i : Nat) : Int), ((2 + R.length + 0 : Nat) : Int))) pairK mapB rfl rfl rfl rfl rfl (by exact rfl) (by exact rfl) (.there (.there (.there (.there .here)))) ?_) | (refine ot_slice_trim tk rfl rfl rfl rfl rfl rfl rfl rfl rfl rfl rfl (Nat.le_refl _) (.inl rfl) ?_) | (refine ot_appendS (sz := 1) (sl := 0) (xs := []) (news := [.int .i64 (fl1 (2 + i) (2 + R.length + 0))]) (A'v := fun v' => _ :: _ :: .own v' 2 1 1 _ :: _) tk rfl rfl rfl rfl rfl rfl rfl rfl rfl rfl (by decide) rfl (cells_blk_all (.head _)) rfl rfl (fun v' => .there (.there .here)) (by omega) (by decide) (fun Bn cn => ?_))); apply ot_v tk) | (apply VLd.mk; (focus ((repeat (first | ((with_reducible apply ld_blk); exact rfl) | (with_reducible apply ld_skip))); done))) | (apply VLdN.mk; (focus ((repeat (first | (with_reducible apply ldn_blk) | (with_reducible apply ldn_skip))); done)); exact rfl) | (apply VRng.mk; omega) | (apply VNew.mk; intro g hg)); (conv => whnf))))
    rw [e9, hup]
    exact v_rnd (gm2 - 1) (by omega) (l := [(1, _), (4, _), (6, _), (22, _), (23, _), (7, _), (8, _), (28, _), (29, _)]) (B := _) ⟨rfl, rfl, rfl, rfl, rfl, rfl, rfl, rfl, rfl, trivial⟩ (.cons _ (.cons _ (List.Sublist.refl _))) ⟨rfl, 0 + 1, Bn, cn, fl1, st1, by omega, .inr (by omega), hg1, hc2, rfl, rfl⟩
   ·obtain ⟨b, rfl⟩ := hsome hk0
    have e9 : i64s rn ++ [.int .i64 (fl1 (2 + i) (2 + R.length + k))] = i64s (rowN R C (allT R C X i) i (k + 1)) := by rw [hrs]; simp [i64s]
    ((conv => whnf); (repeat ((first | (apply VStop.mk; (first | refine tr_region_draw (id := 14) (by kernel_rfl) [0, 1, 2, 3, 4, 5, 6, 7, 8] [.rd, .rd, .rd, .rd, .rd, .rd, .rd, .rd, .wr] rfl (by kernel_rfl) ?_ | (refine ot_updF (k := (((2 + i : Nat) : Int), ((2 + R.length + k : Nat) : Int))) pairK mapB rfl rfl rfl rfl rfl (by exact rfl) (by exact rfl) (.there (.there (.there (.there .here)))) ?_) | (refine ot_slice_trim tk rfl rfl rfl rfl rfl rfl rfl rfl rfl rfl rfl hcap (.inr ⟨_, _, rfl⟩) ?_) | (refine ot_append_fullO (sz := 1) (sl := k) (m := 1) (xs := i64s rn) (news := [.int .i64 (fl1 (2 + i) (2 + R.length + k))]) tk (by decide) rfl rfl rfl rfl rfl rfl rfl rfl rfl rfl (by decide) hk0 (fun w1 hs => hs.own_rd (.tail _ (.tail _ (.head _)))) (cells_blk_all (.head _)) rfl (by omega) (by decide) (fun gk ck' hgk => ?_))); apply ot_v tk) | (apply VLd.mk; (focus ((repeat (first | ((with_reducible apply ld_blk); exact rfl) | (with_reducible apply ld_skip))); done))) | (apply VLdN.mk; (focus ((repeat (first | (with_reducible apply ldn_blk) | (with_reducible apply ldn_skip))); done)); exact rfl) | (apply VRng.mk; omega) | (apply VNew.mk; intro g hg)); (conv => whnf))))
    rw [e9, hup]
    exact v_rnd (gm2 - 1) (by omega) (l := [(1, _), (4, _), (6, _), (22, _), (23, _), (7, _), (8, _), (28, _), (29, _)]) (B := _) ⟨rfl, rfl, rfl, rfl, rfl, rfl, rfl, rfl, rfl, trivial⟩ (.cons_cons _ (.cons _ (.cons _ (.cons _ (List.Sublist.refl _))))) ⟨rfl, k + 1, some ⟨gk, 0, none⟩, ck', fl1, st1, by omega, .inr (by omega), hg1, hc2, rfl, rfl⟩
  obtain rfl : k = C.length := by omega
  have e1 := truL_step R C X i
  have e2 := congrArg nestI e1
  rw [nestI_snoc, rowN_len] at e2
  have hxn : xs.length = (nestI (truL R C X i)).length := by rw [nestI_length, truL_len]; exact hxs
  have e3 := nsVs_snoc (xs := xs) (S := nestI (truL R C X i)) (x := (Bk, ck)) (s := (C.length, i64s (rowN R C (allT R C X i) i C.length))) hxn
  have e4 := nsCh_snoc (e := 2) (sz := 1) (xs := xs) (S := nestI (truL R C X i)) (x := (Bk, ck)) (s := (C.length, i64s (rowN R C (allT R C X i) i C.length))) hxn
  rw [← e2] at e3 e4
  (apply tr_v tk; (conv => whnf); (repeat ((first | (apply VStop.mk; (refine ot_appendS (sz := 1) (sl := i) (xs := nsVs xs (nestI (truL R C X i))) (news := [.slice Bk C.length ck]) (A'v := fun v' => _ :: _ :: .own v' 66 1 (i + 1) _ :: _) tk rfl rfl rfl rfl rfl rfl rfl rfl rfl rfl (by decide) rfl (cells_blk_all (.head _)) rfl rfl (fun v' => .there (.there .here)) (by omega) (by decide) (fun Bm cm => ?_)); apply ot_v tk) | (apply VRng.mk; omega) | apply VBr.f | (apply v_f; omega) | (apply VNew.mk; intro g hg)); (conv => whnf))))
  exact v_rnd (gm - 1) (by omega) (l := [(1, _), (4, _), (6, _), (22, _), (23, _)]) (B := _) ⟨rfl, rfl, rfl, rfl, rfl, trivial⟩ (.cons _ (List.Sublist.refl _)) ⟨rfl, i + 1, Bm, cm, xs ++ [(Bk, ck)], fl, st, by omega, by rw [List.length_append, hxs]; rfl, hg0, hc0, by rw [e4, e3]; exact (List.perm_append_singleton _ (_ :: _ :: _ :: _ :: _ :: _)).symm, rfl⟩
 obtain rfl : i = R.length := by omega
 (apply tr_v tk; (conv => whnf); (repeat ((first | apply VBr.f | (apply v_f; omega)); (conv => whnf))))
 (apply VRet.mk)
 refine ret2 (by first | exact .inl rfl | exact .inr rfl) rfl (by exact rv_tmp rfl) (by exact rv_tmp rfl) ?_
 exact fun w hs => ⟨⟨(Bo, co), xs⟩, rfl, hxs, hs.sub (.cons_cons _ (.cons _ (.cons _ (.cons _ (.cons _ (List.Sublist.refl _))))))⟩
end
end Go.Proofs.Ytalcccgialpjgaa
