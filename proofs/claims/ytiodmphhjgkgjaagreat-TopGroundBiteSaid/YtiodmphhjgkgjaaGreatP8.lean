/- Rows that rise and fall: lemmas for the rows of this seat. No conditions. -/
import Derived.Laws.StructEq
import Derived.Test.YtiodmphhjgkgjaaGreatP7
set_option linter.all false
namespace Go.Proofs.YtiodmphhjgkgjaaGreat
open Go.RowKit
/-! ## Rows that rise and fall -/
def Peak (l : List Int) (p : Nat) : Prop := p < l.length ∧ (∀ i, i < p → rAt l i ≤ rAt l (i + 1)) ∧ ∀ i, p ≤ i → i + 1 < l.length → rAt l (i + 1) ≤ rAt l i
theorem Peak.up {l : List Int} {p : Nat} (h : Peak l p) : ∀ {i j : Nat}, i ≤ j → j ≤ p → rAt l i ≤ rAt l j := by
 intro i j hij hj
 induction j with
 | zero => rw [show i = 0 by omega]; exact Int.le_refl _
 | succ j ih =>
  rcases Nat.lt_or_ge i (j + 1) with h1 | h1
  ·exact Int.le_trans (ih (by omega) (by omega)) (h.2.1 j (by omega))
  ·rw [show i = j + 1 by omega]; exact Int.le_refl _
theorem Peak.down {l : List Int} {p : Nat} (h : Peak l p) : ∀ {i j : Nat}, i ≤ j → p ≤ i → j < l.length → rAt l j ≤ rAt l i := by
 intro i j hij hi hj
 induction j with
 | zero => rw [show i = 0 by omega]; exact Int.le_refl _
 | succ j ih =>
  rcases Nat.lt_or_ge i (j + 1) with h1 | h1
  ·exact Int.le_trans (h.2.2 j (by omega) hj) (ih (by omega) (by omega))
  ·rw [show i = j + 1 by omega]; exact Int.le_refl _
theorem Peak.noVal {l : List Int} {p : Nat} (h : Peak l p) : NoVal l := fun i k j hik hkj hj => by
 rcases Nat.lt_or_ge p k with h1 | h1
 ·have := h.down (i := k) (j := j) (by omega) (by omega) hj
  omega
 ·have := h.up (i := i) (j := k) (by omega) h1
  omega
theorem rAt_drop {l : List Int} {m i : Nat} : rAt (l.drop m) i = rAt l (m + i) := by
 unfold rAt
 rw [List.getElem?_drop]
theorem Peak.upDown {l : List Int} {p : Nat} (h : Peak l p) : UpDown l p := by
 have hp := h.1
 refine ⟨h.1, fun i hi => ?_, fun i hi => ?_⟩
 ·rw [List.length_take] at hi
  rw [rAt_take (by omega), rAt_take (by omega)]
  exact h.2.1 i (by omega)
 ·rw [List.length_reverse, List.length_drop] at hi
  rw [rAt_rev (by rw [List.length_drop]; omega), rAt_rev (by rw [List.length_drop]; omega), List.length_drop, rAt_drop, rAt_drop]
  exact h.down (by omega) (by omega) (by omega)
theorem Peak.pk {l : List Int} {p : Nat} (h : Peak l p) : (p : Int) ∈ pkL l l.length := by
 unfold pkL
 refine List.mem_map.2 ⟨p, List.mem_filter.2 ⟨List.mem_range.2 h.1, ?_⟩, rfl⟩
 unfold pkOk
 rw [List.all_eq_true]
 intro k hk
 rw [List.mem_range] at hk
 unfold rowOk
 rw [List.all_eq_true]
 intro j hj
 rw [List.mem_range] at hj
 unfold pairOk
 rw [Bool.not_eq_true', Bool.or_eq_false_iff, Bool.and_eq_false_iff, Bool.and_eq_false_iff, decide_eq_false_iff_not, decide_eq_false_iff_not, decide_eq_false_iff_not, decide_eq_false_iff_not]
 constructor
 ·rcases Nat.lt_or_ge p k with h1 | h1
  ·exact .inl (by omega)
  ·have := h.up (i := j) (j := k) (by omega) h1
   exact .inr (by omega)
 ·rcases Nat.lt_or_ge j p with h1 | h1
  ·exact .inl (by omega)
  ·have := h.down (i := j) (j := k) (by omega) h1 hk
   exact .inr (by omega)
set_option maxHeartbeats 1000000 in
set_option maxRecDepth 20000 in
theorem smooth_any (A0 : Option Addr) (n c : Nat) (l : List Int) (pl : Int) (w : World) (hn : l.length = n) (h : Reads w w.heap.size 1 A0 n (i64s l)) (hcap : n ≤ c) (hz : rowE l = 0) {p : Nat} (hp : Peak l p) (hpl : pl < 0 ∨ pl = p) :
  Calls Tryz.prog 10 #[.slice A0 n c, .int .i64 pl] w fun e w' => e = .returned (.bool true) ∧ Below w.heap.size w w' := by
 have hN := hp.noVal
 have hpk := hp.pk
 have hne : pkL l l.length ≠ [] := fun e => by rw [e] at hpk; cases hpk
 have hlen := pkL_len l l.length
 have ⟨hm, hv⟩ := rowE_ok.1 hz
 subst hn
 have k1 := fun w1 hr => even_none A0 c l w1 hr hz hN
 have k2 := fun w1 hr => nearAll_any A0 l.length c l w1 rfl hr hcap hz ⟨p, hp.upDown⟩
 have k3 := fun w1 hr => valley_none A0 c l w1 hr hz hN
 have k4 := fun w1 hr => peaks0_any A0 c l w1 hr hcap hz hne
 have hpos : 0 < (pkL l l.length).length := List.length_pos_of_mem hpk
 generalize hP : pkL l l.length = pk at *
 clear hP
 refine fn_v tk (n := 88) (A := []) Tryz.func10 rfl rfl (Nat.le_of_ble_eq_true rfl) (St.nil (Below.refl _ _)) ?_
 ((conv => whnf); apply VCall.stop)
 refine ot_callT (X := SlX) (us := []) (vs := []) (fun x => .tuple #[.int .i64 0, .slice x.1 l.length x.2, .int .i64 0]) (fun x => []) (fun x => []) _ (fun x c hc => nil_mut hc) (by decide) rfl rfl rfl rfl (by kernel_rfl) (evl_of rfl) rfl (fun w1 hs => k1 w1 (hs.reads h)) ?_
 rintro ⟨Be, ce⟩ _
 (dsimp only [List.cons_append, List.nil_append]; apply ot_v tk)
 ((conv => whnf); apply VCall.stop)
 refine ot_callT (X := Nat) (us := []) (vs := []) (fun x => .tuple #[.int .i64 0, .slice (some ⟨x, 0, none⟩) l.length l.length, .int .i64 0]) (fun x => []) (fun x => []) _ (fun x c hc => nil_mut hc) (by decide) rfl rfl rfl rfl (by kernel_rfl) (evl_of rfl) rfl (fun w1 hs => k2 w1 (hs.reads h)) ?_
 rintro ge _
 (dsimp only [List.cons_append, List.nil_append]; apply ot_v tk)
 ((conv => whnf); (repeat ((apply VCall.q; kernel_rfl; (focus (intro w1 hs; first | with_reducible apply k3 w1 (hs.reads h)))); (conv => whnf))); apply VCall.stop)
 refine ot_callT (X := Nat × Nat) (us := []) (vs := []) (fun x => .tuple #[.slice (some ⟨x.1, 0, none⟩) pk.length x.2, .int .i64 0]) (fun x => []) (fun x => [.own (.slice (some ⟨x.1, 0, none⟩) pk.length x.2) 3 1 pk.length (i64s pk)]) _ (fun x c hc => one_mut hc) (by decide) rfl rfl rfl rfl (by kernel_rfl) (evl_of rfl) rfl (fun w1 hs => k4 w1 (hs.reads h)) ?_
 rintro ⟨gp, cp⟩ _
 (dsimp only [List.cons_append, List.nil_append]; apply ot_v tk)
 ((conv => whnf); (repeat ((first | apply VBr.f | (apply v_f; omega) | apply v_d); (conv => whnf))); apply VStop.mk)
 obtain ⟨q, hq, hqe⟩ : ∃ q, q < pk.length ∧ rAt pk q = p := by
  obtain ⟨q, hq, hqe⟩ := List.getElem_of_mem hpk
  exact ⟨q, hq, by unfold rAt; rw [List.getElem?_eq_getElem hq, hqe]; rfl⟩
 have hpk2 : pk.length ≤ 12 := by omega
 refine v_loop (fun gm ds ts A => ds = [] ∧ ∃ (i : Nat) (bb : Bool), i + gm = pk.length ∧ (pl < 0 ∨ q < i → bb = true) ∧ A = [.own (.slice (some ⟨gp, 0, none⟩) pk.length cp) 3 1 pk.length (i64s pk)] ∧ ts = [(1, .int .i64 pl), (15, .slice (some ⟨gp, 0, none⟩) pk.length cp), (17, .bool bb), (18, .int .i64 (i : Int))]) pk.length
  (l := [(1, _), (15, _), (17, _), (18, _)]) (B := _) ?_ (List.Sublist.refl _) ⟨rfl, 0, _, by omega, fun hb => by rcases hb with hb | hb; exact decide_eq_true hb; omega, rfl, rfl⟩ ?_
 ·exact ⟨rfl, rfl, rfl, rfl, trivial⟩
 rintro gm ds ts A ⟨rfl, i, bb, hi, hbb, rfl, rfl⟩
 by_cases hlt : i < pk.length
 ·have c1 : ∀ {R' : List Chunk}, CellAt w (.own (.slice (some ⟨gp, 0, none⟩) pk.length cp) 3 1 pk.length (i64s pk) :: R') gp (0 + i * 1) (.int .i64 (rAt pk i)) := by
   rw [Nat.zero_add, Nat.mul_one]; exact cell_own (.head _) (rAt_get hlt)
  cases bb with
  | true =>
   (apply tr_v tk; (conv => whnf); (repeat ((first | (apply VRng.mk; omega) | apply VBr.t | (apply v_t; omega)); (conv => whnf))))
   exact v_rnd (gm - 1) (by omega) (l := [(1, _), (15, _), (17, _), (18, _)]) (B := _) ⟨rfl, rfl, rfl, rfl, trivial⟩ (List.Sublist.refl _) ⟨rfl, i + 1, true, by omega, fun _ => rfl, rfl, rfl⟩
  | false =>
   have hx : q = i → rAt pk i = pl := fun e => by
    subst e
    rcases hpl with h1 | h1
    ·exact absurd (hbb (.inl h1)) (by decide)
    ·rw [hqe, h1]
   generalize rAt pk i = x at *
   (apply tr_v tk; (conv => whnf); (repeat ((first | (apply VLd.mk; exact c1) | (apply VIx.mk (j := i); exact rfl; omega) | (apply VRng.mk; omega) | apply VBr.t | apply VBr.f | (apply v_t; omega) | apply v_d); (conv => whnf))))
   exact v_rnd (gm - 1) (by omega) (l := [(1, _), (15, _), (17, _), (18, _)]) (B := _) ⟨rfl, rfl, rfl, rfl, trivial⟩ (List.Sublist.refl _) ⟨rfl, i + 1, _, by omega, fun hb => by
    rcases hb with hb | hb
    ·exact absurd (hbb (.inl hb)) (by decide)
    ·rcases Nat.lt_or_ge q i with h1 | h1
     ·exact absurd (hbb (.inr h1)) (by decide)
     ·exact decide_eq_true (hx (by omega)), rfl, rfl⟩
 ·obtain rfl : bb = true := hbb (.inr (by omega))
  (apply tr_v tk; (conv => whnf); (repeat ((first | apply VBr.f | (apply v_f; omega)); (conv => whnf))))
  ((apply VRet.mk); refine ret1 (by first | exact .inl rfl | exact .inr rfl) rfl (by exact rv_tmp rfl) ?_; exact fun w h => ⟨rfl, h.base⟩)
/-! ## CheckCurve, of a row that rises and falls, and itself -/
set_option maxHeartbeats 1000000 in
set_option maxRecDepth 20000 in
theorem curve_any (A0 : Option Addr) (n c : Nat) (l : List Int) (w : World) (hn : l.length = n) (h : Reads w w.heap.size 1 A0 n (i64s l)) (hcap : n ≤ c) (hz : rowE l = 0) {p : Nat} (hp : Peak l p) :
  Calls Tryz.prog 9 #[.slice A0 n c, .slice A0 n c] w fun e w' => e = .returned (.tuple #[.int .i64 0, .int .i64 0, .int .i64 0]) ∧ Below w.heap.size w w' := by
 have ⟨hm, hv⟩ := rowE_ok.1 hz
 rw [hn] at hm
 have ko := fun w1 (h2 : Reads w1 w1.heap.size 1 A0 n (i64s l)) => openB_ok A0 c l w1 (by rw [hn]; exact h2) (by unfold maxLen; omega) hz
 rw [hn] at ko
 have hw0 : within 0 1000 l = true := by
  unfold within badIn
  simp only [Bool.not_eq_true', List.any_eq_false, Bool.or_eq_true, decide_eq_true_eq, not_or]
  intro x hx
  have := hv x hx
  omega
 have kw := fun w1 (h2 : Reads w1 w1.heap.size 1 A0 n (i64s l)) => withinB_any A0 c l 0 1000 w1 (by rw [hn]; exact h2) (by unfold maxLen; omega)
 rw [hw0, hn] at kw
 have kf : ∀ w1 (h2 : Reads w1 w1.heap.size 1 A0 n (i64s l)) (i : Nat), i < n → Calls Tryz.prog 20 #[.agg #[.slice A0 n c], .int .i64 (i : Int), .int .i64 (rAt l i)] w1 fun e w' => e = .returned (.int .i64 0) ∧ Below w1.heap.size w1 w' := fun w1 h2 i hi => by
  have := offB_any A0 c l i (rAt l i) w1 (by rw [hn]; exact h2) (by omega) hv (by omega) (hv _ (rAt_mem (by omega)))
  rwa [hn, show max (rAt l i - rAt l i) (rAt l i - rAt l i) = 0 by omega] at this
 obtain ⟨b0, o0, rfl, _⟩ := h.2 (by omega)
 have ct := fun (k : Nat) (hk : k < n) A => int_cell (k := k) h hk A
 refine fn_v tk (n := 95) (A := []) Tryz.func9 rfl rfl (Nat.le_of_ble_eq_true rfl) (St.nil (Below.refl _ _)) ?_
 ((conv => whnf); apply VCall.stop)
 refine ot_callT (X := Nat) (us := []) (vs := []) (fun x => .tuple #[.pointer (some ⟨x, 0, none⟩), .int .i64 0]) (fun x => []) (fun x => [.blk x 61 [.slice (some ⟨b0, o0, none⟩) n c]]) _ (fun x c hc => blk1_mut hc) (by decide) rfl rfl rfl rfl (by kernel_rfl) (evl_of rfl) rfl (fun w1 hs => ko w1 (hs.reads h)) ?_
 rintro gc _
 (dsimp only [List.cons_append, List.nil_append]; apply ot_v tk)
 ((conv => whnf); (repeat ((first | (apply VCall.q; kernel_rfl; (focus (intro w1 hs; first | with_reducible apply kw w1 (hs.reads h)))) | apply VBr.f | (apply v_f; omega)); (conv => whnf))); apply VStop.mk)
 refine ot_slice_lo (lo := 1) tk rfl rfl rfl rfl rfl rfl rfl rfl rfl (by omega) ?_
 generalize (some (if c = 1 then (⟨b0, o0, none⟩ : Addr) else ⟨b0, o0 + 1 * Tryz.t2.size, none⟩)) = AD
 (apply ot_v tk; (conv => whnf); apply VStop.mk)
 refine v_loop (fun gm ds ts A => ds = [] ∧ ∃ (i : Nat) (fb : Bool), i + 1 + gm = n ∧ (fb = true → p ≤ i) ∧ A = [.blk gc 61 [.slice (some ⟨b0, o0, none⟩) n c]] ∧ ts = [(0, .slice (some ⟨b0, o0, none⟩) n c), (1, .slice (some ⟨b0, o0, none⟩) n c), (7, .pointer (some ⟨gc, 0, none⟩)), (9, .bool fb), (37, .int .i64 ((n - 1 : Nat) : Int)), (38, .int .i64 (i : Int))]) (n - 1)
  (l := [(0, _), (1, _), (7, _), (9, _), (37, _), (38, _)]) (B := _) ?_ (List.Sublist.refl _) ⟨rfl, 0, false, by omega, (fun h => by cases h), rfl, rfl⟩ ?_
 ·exact ⟨rfl, rfl, rfl, rfl, rfl, rfl, trivial⟩
 rintro gm ds ts A ⟨rfl, i, fb, hi, hfb, rfl, rfl⟩
 by_cases hlt : i + 1 < n
 ·have c1 : ∀ A, CellAt w A b0 (o0 + i * 1) (.int .i64 (rAt l i)) := ct i (by omega)
  have c2 : ∀ A, CellAt w A b0 (o0 + (i + 1) * 1) (.int .i64 (rAt l (i + 1))) := ct (i + 1) (by omega)
  have d1 := hp.2.1 i
  have d2 := fun h => hp.2.2 i h (by omega)
  generalize rAt l i = x at *
  generalize rAt l (i + 1) = y at *
  cases fb with
  | true =>
   have hyx := d2 (hfb rfl)
   (apply tr_v tk; (conv => whnf); (repeat ((first | (apply VStop.mk; (first | refine tr_region_lex (id := 12) (by kernel_rfl) [.rd, .rd, .rd, .rd, .rd, .rd, .rd, .rd, .rd, .rd, .rd, .rd, .rd] rfl (by kernel_rfl) ?_ | refine tr_region_lex (id := 14) (by kernel_rfl) [.rd, .rd, .rd, .rd, .rd, .rd, .rd, .rd, .rd, .rd, .rd, .rd, .rd, .rd] rfl (by kernel_rfl) ?_); apply ot_v tk) | (apply VLd.mk; first | exact c1 _ | exact c2 _) | (apply VIx.mk (j := i); exact rfl; omega) | (apply VIx.mk (j := i + 1); exact rfl; omega) | (apply VRng.mk; omega) | apply VBr.t | apply VBr.f | (apply v_t; omega) | (apply v_f; omega)); (conv => whnf))))
   exact v_rnd (gm - 1) (by omega) (l := [(0, _), (1, _), (7, _), (9, _), (37, _), (38, _)]) (B := _) ⟨rfl, rfl, rfl, rfl, rfl, rfl, trivial⟩ (List.Sublist.refl _) ⟨rfl, i + 1, true, by omega, (fun _ => by have := hfb rfl; omega), rfl, rfl⟩
  | false =>
   (apply tr_v tk; (conv => whnf); (repeat ((first | (apply VStop.mk; (first | refine tr_region_lex (id := 12) (by kernel_rfl) [.rd, .rd, .rd, .rd, .rd, .rd, .rd, .rd, .rd, .rd, .rd, .rd, .rd] rfl (by kernel_rfl) ?_ | refine tr_region_lex (id := 14) (by kernel_rfl) [.rd, .rd, .rd, .rd, .rd, .rd, .rd, .rd, .rd, .rd, .rd, .rd, .rd, .rd] rfl (by kernel_rfl) ?_); apply ot_v tk) | (apply VLd.mk; first | exact c1 _ | exact c2 _) | (apply VIx.mk (j := i); exact rfl; omega) | (apply VIx.mk (j := i + 1); exact rfl; omega) | (apply VRng.mk; omega) | apply VBr.t | apply VBr.f | (apply v_t; omega) | apply v_d); (conv => whnf))))
   exact v_rnd (gm - 1) (by omega) (l := [(0, _), (1, _), (7, _), (9, _), (37, _), (38, _)]) (B := _) ⟨rfl, rfl, rfl, rfl, rfl, rfl, trivial⟩ (List.Sublist.refl _) ⟨rfl, i + 1, _, by omega, (fun hb => by
    have hb := of_decide_eq_true hb
    rcases Nat.lt_or_ge i p with h1 | h1
    ·have := d1 h1; omega
    ·omega), rfl, rfl⟩
 ·(apply tr_v tk; (conv => whnf); (repeat ((first | (apply VLdN.mk; (focus ((repeat (first | (with_reducible apply ldn_blk) | (with_reducible apply ldn_skip))); done)); exact rfl) | apply VBr.f | (apply v_f; omega)); (conv => whnf))); apply VStop.mk)
  refine v_loop (fun gm ds ts A => ds = [] ∧ ∃ (i : Nat), i + gm = n ∧ A = [.blk gc 61 [.slice (some ⟨b0, o0, none⟩) n c]] ∧ ts = [(11, .func (.func 20) #[.agg #[.slice (some ⟨b0, o0, none⟩) n c]] #[]), (12, .int .i64 0), (13, .int .i64 0), (73, .slice (some ⟨b0, o0, none⟩) n c), (74, .int .i64 (n : Int)), (75, .int .i64 (i : Int))]) n
   (l := [(11, _), (12, _), (13, _), (73, _), (74, _), (75, _)]) (B := _) ?_ (List.Sublist.refl _) ⟨rfl, 0, by omega, rfl, rfl⟩ ?_
  ·exact ⟨rfl, rfl, rfl, rfl, rfl, rfl, trivial⟩
  clear hi hlt hfb gm
  rintro gm ds ts A ⟨rfl, i, hi, rfl, rfl⟩
  by_cases hlt : i < n
  ·have c1 : ∀ A, CellAt w A b0 (o0 + i * 1) (.int .i64 (rAt l i)) := ct i (by omega)
   have kfi := fun w1 h2 => kf w1 h2 i hlt
   generalize rAt l i = x at *
   (apply tr_v tk; (conv => whnf); (repeat ((first | (apply VLd.mk; exact c1 _) | (apply VIx.mk (j := i); exact rfl; omega) | (apply VCall.q; kernel_rfl; (focus (intro w1 hs; first | with_reducible apply kfi w1 (hs.reads h)))) | (apply VRng.mk; omega) | apply VBr.t | (apply v_t; omega)); (conv => whnf))))
   exact v_rnd (gm - 1) (by omega) (l := [(11, _), (12, _), (13, _), (73, _), (74, _), (75, _)]) (B := _) ⟨rfl, rfl, rfl, rfl, rfl, rfl, trivial⟩ (List.Sublist.refl _) ⟨rfl, i + 1, by omega, rfl, rfl⟩
  ·(apply tr_v tk; (conv => whnf); (repeat ((first | apply VBr.f | (apply v_f; omega)); (conv => whnf))))
   (apply VRet.mk)
   refine ret3 (by first | exact .inl rfl | exact .inr rfl) rfl (by exact rv_tmp rfl) (by exact rv_tmp rfl) (by exact rv_tmp rfl) ?_
   exact fun w hs => ⟨rfl, hs.base⟩
end Go.Proofs.YtiodmphhjgkgjaaGreat
