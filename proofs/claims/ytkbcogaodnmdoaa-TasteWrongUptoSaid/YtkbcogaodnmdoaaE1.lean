/- Numbers within bounds: lemmas for the rows of this seat. No conditions. -/
import Derived.Test.YtkbcogaodnmdoaaProg
import Derived.WalkKit
import Derived.WalkSpells
import Derived.WalkLawsBesides
import Derived.Lib.Hide
import Derived.Deep.AppendLies
import Derived.Deep.Draws
import Derived.Maps.AppendAt
import Derived.RegionTactic
import Derived.OwnWalk
import Derived.Deep.QuietTactic
import Derived.BigQuiet
import Derived.Deep.DeepFit
import Derived.Deep.LoopGhost
import Derived.Deep.DeepMust
import Derived.Deep.DeepCutAuto
import Derived.StillTail
import Derived.Deep.Quiet
import Derived.Deep.RegionHeld3
import Derived.Deep.RegionWith
import Derived.Deep.RegionLaw
import Derived.Maps.OwnOps
import Derived.Maps.OwnSet
import Derived.Maps.OwnRows
import Derived.Maps.RangeWalk
import Derived.Carry
import Derived.Test.YtkbcogaodnmdoaaBase
import Derived.Test.YtkbcogaodnmdoaaMaps
import Derived.Test.YtkbcogaodnmdoaaKeys
import Derived.Test.YtkbcogaodnmdoaaS1
import Derived.Test.YtkbcogaodnmdoaaS5
import Derived.Test.YtkbcogaodnmdoaaS14
import Derived.Test.YtkbcogaodnmdoaaV
import Derived.Test.YtkbcogaodnmdoaaTab
set_option linter.all false
namespace Go.Proofs.Ytkbcogaodnmdoaa
open Go.RowKit
/-! ## Numbers within bounds -/
/-- Layer 1: what is out of bounds. -/
def badIn (lo hi n : Int) : Bool := decide (n < lo) || decide (hi < n)
def within (lo hi : Int) (l : List Int) : Bool := !l.any (badIn lo hi)
def firstBad {α : Type} (bad : α → Bool) (d : α) (l : List α) : Nat → Nat → Int
  | 0, _ => -1
  | k + 1, j => if bad (l[j]?.getD d) then j else firstBad bad d l k (j + 1)
theorem firstBad_any {α : Type} (bad : α → Bool) (d : α) (l : List α) : ∀ k j, j + k = l.length → decide (0 ≤ firstBad bad d l k j) = (l.drop j).any bad := by
  intro k
  induction k with
  | zero => intro j hj; rw [List.drop_of_length_le (by omega)]; rfl
  | succ k ih =>
    intro j hj
    rw [List.drop_eq_getElem_cons (show j < l.length by omega), List.any_cons, firstBad, List.getElem?_eq_getElem (show j < l.length by omega), Option.getD_some]
    cases h : bad l[j]
    · simp only [Bool.false_eq_true, if_false, Bool.false_or]; exact ih (j + 1) (by omega)
    · simp only [if_true, Bool.true_or]; exact decide_eq_true (by omega)
theorem int_cell {w : World} {n : Nat} {b o : Nat} {l : List Int} (h : Reads w w.heap.size 1 (some ⟨b, o, none⟩) n (i64s l)) {k : Nat} (hk : k < n) (A : List Chunk) : CellAt w A b (o + k * 1) (.int .i64 (l[k]?.getD 0)) := by
  obtain ⟨b', o', he, _, h1⟩ := h.int hk
  cases he
  rw [Nat.mul_one]
  exact CellAt.base h1
set_option maxRecDepth 20000 in
theorem within1_any (n lo hi : Int) (g1 g2 : Nat) (w : World) (h1 : w.cell? ⟨g1, 0, none⟩ = some (.int .i64 lo)) (h2 : w.cell? ⟨g2, 0, none⟩ = some (.int .i64 hi)) :
    Calls Try.prog 82 #[.int .i64 n, .pointer (some ⟨g1, 0, none⟩), .pointer (some ⟨g2, 0, none⟩)] w fun e w' => e = .returned (.bool (badIn lo hi n)) ∧ Below w.heap.size w w' := by
  have hb : badIn lo hi n = (decide (n < lo) || decide (hi < n)) := rfl
  refine fn_v Try.tabOk (n := 13) (A := []) Try.func82 rfl rfl (Nat.le_of_ble_eq_true rfl) (St.nil (Below.refl _ _)) ?_
  by_cases e1 : n < lo
  · rw [decide_eq_true e1] at hb
    ((try first | apply tr_v Try.tabOk | apply ot_v Try.tabOk); (conv => whnf); (repeat ((first | (apply VLd.mk; (focus ((repeat (first | ((with_reducible apply ld_blk); exact rfl) | ((with_reducible apply ld_row); exact rfl) | ((with_reducible apply ld_row0); exact rfl) | (with_reducible assumption) | (with_reducible exact CellAt.base (by assumption)) | (with_reducible apply ld_skip))); done))) | apply VBr.t | (apply v_t; omega)); (conv => whnf))); try (first | apply VStop.mk | apply VCall.stop))
    (apply VRet.mk)
    refine ret1 (by first | exact .inl rfl | exact .inr rfl) rfl (by exact rv_tmp rfl) ?_
    exact fun w h => ⟨by rw [hb]; rfl, h.base⟩
  · rw [decide_eq_false e1] at hb
    ((try first | apply tr_v Try.tabOk | apply ot_v Try.tabOk); (conv => whnf); (repeat ((first | (apply VLd.mk; (focus ((repeat (first | ((with_reducible apply ld_blk); exact rfl) | ((with_reducible apply ld_row); exact rfl) | ((with_reducible apply ld_row0); exact rfl) | (with_reducible assumption) | (with_reducible exact CellAt.base (by assumption)) | (with_reducible apply ld_skip))); done))) | apply VBr.f | (apply v_f; omega) | apply v_d); (conv => whnf))); try (first | apply VStop.mk | apply VCall.stop))
    (apply VRet.mk)
    refine ret1 (by first | exact .inl rfl | exact .inr rfl) rfl (by exact rv_tmp rfl) ?_
    exact fun w h => ⟨by rw [hb]; rfl, h.base⟩
set_option maxRecDepth 20000 in
theorem index81_any (Al : Option Addr) (c : Nat) (l : List Int) (lo hi : Int) (g1 g2 : Nat) (w : World) (h : Reads w w.heap.size 1 Al l.length (i64s l)) (hm : l.length ≤ maxLen) (h1 : w.cell? ⟨g1, 0, none⟩ = some (.int .i64 lo)) (h2 : w.cell? ⟨g2, 0, none⟩ = some (.int .i64 hi)) :
    Calls Try.prog 92 #[.slice Al l.length c, .func (.func 82) #[] #[.pointer (some ⟨g1, 0, none⟩), .pointer (some ⟨g2, 0, none⟩)]] w fun e w' => e = .returned (.int .i64 (firstBad (badIn lo hi) 0 l l.length 0)) ∧ Below w.heap.size w w' := by
  unfold maxLen at hm
  have c1 : ∀ A, CellAt w A g1 0 _ := fun A => CellAt.base h1
  have c2 : ∀ A, CellAt w A g2 0 _ := fun A => CellAt.base h2
  refine fn_v Try.tabOk (n := 19) (A := []) Try.func92 rfl rfl (Nat.le_of_ble_eq_true rfl) (St.nil (Below.refl _ _)) ?_
  ((try first | apply tr_v Try.tabOk | apply ot_v Try.tabOk); (conv => whnf); try (first | apply VStop.mk | apply VCall.stop))
  refine v_loop (fun gm ds ts A => ds = [] ∧ A = [] ∧ ∃ j, j + gm = l.length ∧ firstBad (badIn lo hi) 0 l l.length 0 = firstBad (badIn lo hi) 0 l gm j ∧ ts = [(0, .slice Al l.length c), (1, .func (.func 82) #[] #[.pointer (some ⟨g1, 0, none⟩), .pointer (some ⟨g2, 0, none⟩)]), (7, .int .i64 (l.length : Int)), (8, .int .i64 (j : Int))]) l.length (l := [(0, _), (1, _), (7, _), (8, _)]) (B := _) ?_ (List.Sublist.refl _) ⟨rfl, rfl, 0, by omega, rfl, rfl⟩ ?_
  · exact ⟨rfl, rfl, rfl, rfl, trivial⟩
  rintro gm ds ts A ⟨rfl, rfl, j, hj, hres, rfl⟩
  by_cases hlt : j < l.length
  · obtain ⟨b, o, rfl, _⟩ := h.2 (by omega)
    have hc := int_cell h hlt
    have hf := fun w1 (hs : St w [] w1) => within1_any (l[j]?.getD 0) lo hi g1 g2 w1 (c1 _ w1 hs) (c2 _ w1 hs)
    obtain ⟨gm, rfl⟩ : ∃ g, gm = g + 1 := ⟨gm - 1, by omega⟩
    rw [firstBad] at hres
    generalize l[j]?.getD 0 = x at *
    cases hx : badIn lo hi x with
    | true =>
      rw [hx] at hf
      rw [hx, if_pos rfl] at hres
      ((try first | apply tr_v Try.tabOk | apply ot_v Try.tabOk); (conv => whnf); (repeat ((first | (apply VLd.mk; exact hc _) | (apply VCall.q; kernel_rfl; (focus (intro w1 hs; first | with_reducible apply hf w1 hs))) | apply VBr.t | (apply v_t; omega) | (apply VIx.mk; exact rfl; omega)); (conv => whnf))); try (first | apply VStop.mk | apply VCall.stop))
      (apply VRet.mk)
      refine ret1 (by first | exact .inl rfl | exact .inr rfl) rfl (by exact rv_tmp rfl) ?_
      exact fun w h => ⟨by rw [hres], h.base⟩
    | false =>
      rw [hx] at hf
      rw [hx, if_neg (by simp)] at hres
      ((try first | apply tr_v Try.tabOk | apply ot_v Try.tabOk); (conv => whnf); (repeat ((first | (apply VLd.mk; exact hc _) | (apply VCall.q; kernel_rfl; (focus (intro w1 hs; first | with_reducible apply hf w1 hs))) | (apply VRng.mk; omega) | apply VBr.t | apply VBr.f | (apply v_t; omega) | (apply VIx.mk; exact rfl; omega)); (conv => whnf))); try (first | apply VStop.mk | apply VCall.stop))
      exact v_rnd gm (by omega) (l := [(0, _), (1, _), (7, _), (8, _)]) (B := []) ⟨rfl, rfl, rfl, rfl, trivial⟩ (List.nil_sublist _) ⟨rfl, rfl, j + 1, by omega, hres, rfl⟩
  · obtain rfl : gm = 0 := by omega
    ((try first | apply tr_v Try.tabOk | apply ot_v Try.tabOk); (conv => whnf); (repeat ((first | apply VBr.f | (apply v_f; omega)); (conv => whnf))); try (first | apply VStop.mk | apply VCall.stop))
    (apply VRet.mk)
    refine ret1 (by first | exact .inl rfl | exact .inr rfl) rfl (by exact rv_tmp rfl) ?_
    exact fun w h => ⟨by rw [hres]; rfl, h.base⟩
set_option maxRecDepth 20000 in
theorem contains81_any (Al : Option Addr) (c : Nat) (l : List Int) (lo hi : Int) (g1 g2 : Nat) (w : World) (h : Reads w w.heap.size 1 Al l.length (i64s l)) (hm : l.length ≤ maxLen) (h1 : w.cell? ⟨g1, 0, none⟩ = some (.int .i64 lo)) (h2 : w.cell? ⟨g2, 0, none⟩ = some (.int .i64 hi)) :
    Calls Try.prog 81 #[.slice Al l.length c, .func (.func 82) #[] #[.pointer (some ⟨g1, 0, none⟩), .pointer (some ⟨g2, 0, none⟩)]] w fun e w' => e = .returned (.bool (l.any (badIn lo hi))) ∧ Below w.heap.size w w' := by
  have hq := firstBad_any (badIn lo hi) 0 l l.length 0 (by omega)
  rw [List.drop_zero] at hq
  rw [← hq]
  have hf := fun w1 (hs : St w [] w1) => index81_any Al c l lo hi g1 g2 w1 (hs.reads h) hm (CellAt.base h1 w1 hs) (CellAt.base h2 w1 hs)
  refine fn_v Try.tabOk (n := 9) (A := []) Try.func81 rfl rfl (Nat.le_of_ble_eq_true rfl) (St.nil (Below.refl _ _)) ?_
  ((try first | apply tr_v Try.tabOk | apply ot_v Try.tabOk); (conv => whnf); (repeat ((first | (apply VCall.q; kernel_rfl; (focus (intro w1 hs; first | with_reducible apply hf w1 hs))) | apply v_d); (conv => whnf))); try (first | apply VStop.mk | apply VCall.stop))
  ((apply VRet.mk); refine ret1 (by first | exact .inl rfl | exact .inr rfl) rfl (by exact rv_tmp rfl) ?_; exact fun w h => ⟨rfl, h.base⟩)
set_option maxRecDepth 20000 in
theorem within_any (A : Option Addr) (c : Nat) (l : List Int) (lo hi : Int) (w : World) (h : Reads w w.heap.size 1 A l.length (i64s l)) (hm : l.length ≤ maxLen) :
    Calls Try.prog 55 #[.int .i64 lo, .int .i64 hi, .slice A l.length c] w fun e w' => e = .returned (.bool (within lo hi l)) ∧ Below w.heap.size w w' := by
  refine fn_v Try.tabOk (n := 11) (A := []) Try.func55 rfl rfl (Nat.le_of_ble_eq_true rfl) (St.nil (Below.refl _ _)) ?_
  ((try first | apply tr_v Try.tabOk | apply ot_v Try.tabOk); (conv => whnf); (repeat ((first | (apply VNew.mk; intro g hg)); (conv => whnf))); try (first | apply VStop.mk | apply VCall.stop))
  refine ot_call_q rfl rfl rfl (by kernel_rfl) (evl_of rfl) (fun w1 hs => contains81_any A c l lo hi _ _ w1 (hs.reads h) hm (cell_blk (by (repeat (first | exact List.Mem.head _ | assumption | refine List.Mem.tail _ ?_))) rfl w1 hs) (cell_blk (by (repeat (first | exact List.Mem.head _ | assumption | refine List.Mem.tail _ ?_))) rfl w1 hs)) ?_
  ((try first | apply tr_v Try.tabOk | apply ot_v Try.tabOk); (conv => whnf); try (first | apply VStop.mk | apply VCall.stop))
  ((apply VRet.mk); refine ret1 (by first | exact .inl rfl | exact .inr rfl) rfl (by exact rv_tmp rfl) ?_; exact fun w h => ⟨rfl, h.base⟩)
/-! ## Lists of lists, one behind the other -/
/-- Layer 1: a slice of slices is read. -/
def NestR (w : World) (sz : Nat) (A : Option Addr) (L : List (Nat × List Value)) : Prop :=
  ∃ vs, Reads w w.heap.size 1 A L.length vs ∧ ∀ i (h : i < L.length), ∃ B c, vs[i]? = some (.slice B L[i].1 c) ∧ Reads w w.heap.size sz B L[i].1 L[i].2
def sumN : List (Nat × List Value) → Nat
  | [] => 0
  | p :: L => p.1 + sumN L
def catN : List (Nat × List Value) → List Value
  | [] => []
  | p :: L => p.2 ++ catN L
theorem sumN_append (L M : List (Nat × List Value)) : sumN (L ++ M) = sumN L + sumN M := by
  induction L with
  | nil => simp [sumN]
  | cons p L ih => simp [sumN, ih]; omega
theorem catN_append (L M : List (Nat × List Value)) : catN (L ++ M) = catN L ++ catN M := by
  induction L with
  | nil => simp [catN]
  | cons p L ih => simp [catN, ih]
theorem take_snoc {α : Type} (L : List α) (j : Nat) (h : j < L.length) : L.take (j + 1) = L.take j ++ [L[j]] := by
  rw [List.take_add_one, List.getElem?_eq_getElem h]; rfl
theorem sumN_step (L : List (Nat × List Value)) (j : Nat) (h : j < L.length) : sumN (L.take (j + 1)) = sumN (L.take j) + L[j].1 := by
  rw [take_snoc L j h, sumN_append]; simp [sumN]
theorem catN_step (L : List (Nat × List Value)) (j : Nat) (h : j < L.length) : catN (L.take (j + 1)) = catN (L.take j) ++ L[j].2 := by
  rw [take_snoc L j h, catN_append]; simp [catN]
theorem sumN_take (L : List (Nat × List Value)) (k : Nat) (_ : k ≤ L.length) : sumN (L.take k) ≤ sumN L := by
  have := sumN_append (L.take k) (L.drop k)
  rw [List.take_append_drop] at this
  omega

set_option maxRecDepth 20000 in
/-- slices.Grow of nothing. -/
theorem grow84_any (n : Nat) (hn : n ≤ 1000000) (w : World) : Calls Try.prog 84 #[.slice none 0 0, .int .i64 (n : Int)] w (OwnRet 67 3 0 [] w) := by
  refine fn_v Try.tabOk (n := 27) (A := []) Try.func84 rfl rfl (Nat.le_of_ble_eq_true rfl) (St.nil (Below.refl _ _)) ?_
  by_cases h0 : (n : Int) > 0
  · ((try first | apply tr_v Try.tabOk | apply ot_v Try.tabOk); (conv => whnf); (repeat ((first | ((first | apply VStop.mk | apply VCall.stop); (first | refine ot_cap Try.tabOk rfl rfl rfl rfl rfl rfl ?_ | refine ot_slice_hi Try.tabOk rfl rfl rfl rfl rfl rfl rfl rfl (hi := 0) rfl (Nat.zero_le _) ?_ | (refine ot_append_make (m := n) Try.tabOk (by decide) rfl rfl rfl rfl rfl (by omega) rfl rfl rfl rfl rfl rfl (by omega) (by omega) (by decide) ?_; intro g cap hg hc1 hc2)); try first | apply ot_v Try.tabOk | apply tr_v Try.tabOk) | (apply VRng.mk; omega) | apply VBr.t | apply VBr.f | (apply v_t; omega) | (apply v_f; omega)); (conv => whnf))); try (first | apply VStop.mk | apply VCall.stop))
    (apply VRet.mk)
    refine ret1 (by first | exact .inl rfl | exact .inr rfl) rfl (by exact rv_tmp rfl) ?_
    intro w1 hs
    refine ⟨⟨_, rfl, rfl, .inr ?_⟩, hs.base⟩
    obtain ⟨h1, _, cur, h3, h4⟩ := hs.all _ (.head _)
    exact ⟨g, cap, cur, rfl, h1, h3, by omega, hc2, h4, by simp⟩
  · ((try first | apply tr_v Try.tabOk | apply ot_v Try.tabOk); (conv => whnf); (repeat ((first | ((first | apply VStop.mk | apply VCall.stop); (first | refine ot_cap Try.tabOk rfl rfl rfl rfl rfl rfl ?_); try first | apply ot_v Try.tabOk | apply tr_v Try.tabOk) | (apply VRng.mk; omega) | apply VBr.f | (apply v_f; omega)); (conv => whnf))); try (first | apply VStop.mk | apply VCall.stop))
    (apply VRet.mk)
    refine ret1 (by first | exact .inl rfl | exact .inr rfl) rfl (by exact rv_tmp rfl) ?_
    exact fun w1 hs => ⟨⟨_, rfl, rfl, .inl ⟨rfl, rfl⟩⟩, hs.base⟩
set_option maxHeartbeats 1000000 in
set_option maxRecDepth 20000 in
theorem concat58_any (Al : Option Addr) (c : Nat) (L : List (Nat × List Value)) (w : World) (h : NestR w 3 Al L) (hl : L.length ≤ 1000) (hs : sumN L ≤ 100000) (h1 : ∀ p ∈ L, ∀ u ∈ p.2, u.oneCell' = true) :
    Calls Try.prog 58 #[.slice Al L.length c] w (OwnRet 67 3 (sumN L) (catN L) w) := by
  obtain ⟨vs, hv, hi⟩ := h
  have hsz := fun k (hk : k ≤ L.length) => sumN_take L k hk
  refine fn_v Try.tabOk (n := 36) (A := []) Try.func58 rfl rfl (Nat.le_of_ble_eq_true rfl) (St.nil (Below.refl _ _)) ?_
  ((try first | apply tr_v Try.tabOk | apply ot_v Try.tabOk); (conv => whnf); try (first | apply VStop.mk | apply VCall.stop))
  refine v_loop (fun gm ds ts A => ds = [] ∧ A = [] ∧ ∃ j, j + gm = L.length ∧ ts = [(0, .slice Al L.length c), (3, .int .i64 (sumN (L.take j) : Int)), (9, .slice Al L.length c), (10, .int .i64 (L.length : Int)), (11, .int .i64 (j : Int))]) L.length (l := [(0, _), (3, _), (9, _), (10, _), (11, _)]) (B := _) ?_ (List.Sublist.refl _) ⟨rfl, rfl, 0, by omega, rfl⟩ ?_
  · exact ⟨rfl, rfl, rfl, rfl, rfl, trivial⟩
  rintro gm ds ts A ⟨rfl, rfl, j, hj, rfl⟩
  by_cases hlt : j < L.length
  · obtain ⟨B, c', e1, hr⟩ := hi j hlt
    obtain ⟨b, o, rfl, _, hcell⟩ := hv.2 (by omega)
    have hc : ∀ A, CellAt w A b (o + j * 1) _ := fun A => CellAt.base (by rw [Nat.mul_one]; exact hcell j _ e1)
    have hst := sumN_step L j hlt
    have hs1 := hsz (j + 1) (by omega)
    have hs0 := hsz j (by omega)
    rw [hst] at hs1
    ((try first | apply tr_v Try.tabOk | apply ot_v Try.tabOk); (conv => whnf); (repeat ((first | (apply VLd.mk; exact hc _) | (apply VRng.mk; omega) | apply VBr.t | apply VBr.f | (apply v_t; omega) | (apply v_f; omega) | (apply VIx.mk; exact rfl; omega)); (conv => whnf))); try (first | apply VStop.mk | apply VCall.stop))
    exact v_rnd (gm - 1) (by omega) (l := [(0, _), (3, _), (9, _), (10, _), (11, _)]) (B := []) ⟨rfl, rfl, rfl, rfl, rfl, trivial⟩ (List.nil_sublist _) ⟨rfl, rfl, j + 1, by omega, by rw [hst]; rfl⟩
  · obtain rfl : j = L.length := by omega
    rw [List.take_length]
    ((try first | apply tr_v Try.tabOk | apply ot_v Try.tabOk); (conv => whnf); (repeat ((first | apply VBr.f | (apply v_f; omega)); (conv => whnf))); try (first | apply VStop.mk | apply VCall.stop))
    refine ot_call_own (t := 67) (sz := 3) (m := 0) (xs := []) (by decide) rfl rfl rfl (by kernel_rfl) (evl_of rfl) (fun w1 hs => grow84_any (sumN L) (by omega) w1) (fun v0 => ?_)
    ((try first | apply tr_v Try.tabOk | apply ot_v Try.tabOk); (conv => whnf); try (first | apply VStop.mk | apply VCall.stop))
    refine v_loop (fun gm ds ts A => ds = [] ∧ ∃ j v, j + gm = L.length ∧ A = [.own v 67 3 (sumN (L.take j)) (catN (L.take j))] ∧ ts = [(6, v), (25, .slice Al L.length c), (26, .int .i64 (L.length : Int)), (27, .int .i64 (j : Int))]) L.length (l := [(6, _), (25, _), (26, _), (27, _)]) (B := [_]) ?_ (by (repeat (first | exact List.nil_sublist _ | exact List.Sublist.refl _ | refine List.Sublist.cons_cons _ ?_ | refine List.Sublist.cons _ ?_))) ⟨rfl, 0, v0, by omega, rfl, rfl⟩ ?_
    · exact ⟨rfl, rfl, rfl, rfl, trivial⟩
    rintro gm ds ts A ⟨rfl, j, v, hj, rfl, rfl⟩
    by_cases hlt : j < L.length
    · obtain ⟨B, c', e1, hr⟩ := hi j hlt
      obtain ⟨b, o, rfl, _, hcell⟩ := hv.2 (by omega)
      have hc : ∀ A, CellAt w A b (o + j * 1) _ := fun A => CellAt.base (by rw [Nat.mul_one]; exact hcell j _ e1)
      have hst := sumN_step L j hlt
      have hct := catN_step L j hlt
      have hs1 := hsz (j + 1) (by omega)
      rw [hst] at hs1
      ((try first | apply tr_v Try.tabOk | apply ot_v Try.tabOk); (conv => whnf); (repeat ((first | (apply VLd.mk; exact hc _) | apply VBr.t | (apply v_t; omega) | (apply VIx.mk; exact rfl; omega)); (conv => whnf))); try (first | apply VStop.mk | apply VCall.stop))
      refine ot_appendR (sz := 3) (A'v := fun v' => [.own v' 67 3 _ _]) Try.tabOk rfl rfl rfl rfl rfl rfl rfl rfl rfl rfl (by decide) rfl (fun w1 hs => hs.reads hr) (h1 _ (List.getElem_mem hlt)) (fun v' => by (repeat (first | exact Upd.here | apply Upd.there))) (by omega) (by decide) (fun v' => ?_)
      ((try first | apply tr_v Try.tabOk | apply ot_v Try.tabOk); (conv => whnf); (repeat ((first | (apply VRng.mk; omega)); (conv => whnf))); try (first | apply VStop.mk | apply VCall.stop))
      exact v_rnd (gm - 1) (by omega) (l := [(6, _), (25, _), (26, _), (27, _)]) (B := [_]) ⟨rfl, rfl, rfl, rfl, trivial⟩ (List.Sublist.refl _) ⟨rfl, j + 1, v', by omega, by rw [hst, hct], rfl⟩
    · obtain rfl : j = L.length := by omega
      rw [List.take_length]
      ((try first | apply tr_v Try.tabOk | apply ot_v Try.tabOk); (conv => whnf); (repeat ((first | apply VBr.f | (apply v_f; omega)); (conv => whnf))); try (first | apply VStop.mk | apply VCall.stop))
      (apply VRet.mk)
      refine ret1 (by first | exact .inl rfl | exact .inr rfl) rfl (by exact rv_tmp rfl) ?_
      exact fun w1 hs => own_ret hs (.head _)
set_option maxRecDepth 20000 in
/-- slices.Grow of nothing. -/
theorem grow85_any (n : Nat) (hn : n ≤ 1000000) (w : World) : Calls Try.prog 85 #[.slice none 0 0, .int .i64 (n : Int)] w (OwnRet 2 1 0 [] w) := by
  refine fn_v Try.tabOk (n := 27) (A := []) Try.func85 rfl rfl (Nat.le_of_ble_eq_true rfl) (St.nil (Below.refl _ _)) ?_
  by_cases h0 : (n : Int) > 0
  · ((try first | apply tr_v Try.tabOk | apply ot_v Try.tabOk); (conv => whnf); (repeat ((first | ((first | apply VStop.mk | apply VCall.stop); (first | refine ot_cap Try.tabOk rfl rfl rfl rfl rfl rfl ?_ | refine ot_slice_hi Try.tabOk rfl rfl rfl rfl rfl rfl rfl rfl (hi := 0) rfl (Nat.zero_le _) ?_ | (refine ot_append_make (m := n) Try.tabOk (by decide) rfl rfl rfl rfl rfl (by omega) rfl rfl rfl rfl rfl rfl (by omega) (by omega) (by decide) ?_; intro g cap hg hc1 hc2)); try first | apply ot_v Try.tabOk | apply tr_v Try.tabOk) | (apply VRng.mk; omega) | apply VBr.t | apply VBr.f | (apply v_t; omega) | (apply v_f; omega)); (conv => whnf))); try (first | apply VStop.mk | apply VCall.stop))
    (apply VRet.mk)
    refine ret1 (by first | exact .inl rfl | exact .inr rfl) rfl (by exact rv_tmp rfl) ?_
    intro w1 hs
    refine ⟨⟨_, rfl, rfl, .inr ?_⟩, hs.base⟩
    obtain ⟨h1, _, cur, h3, h4⟩ := hs.all _ (.head _)
    exact ⟨g, cap, cur, rfl, h1, h3, by omega, hc2, h4, by simp⟩
  · ((try first | apply tr_v Try.tabOk | apply ot_v Try.tabOk); (conv => whnf); (repeat ((first | ((first | apply VStop.mk | apply VCall.stop); (first | refine ot_cap Try.tabOk rfl rfl rfl rfl rfl rfl ?_); try first | apply ot_v Try.tabOk | apply tr_v Try.tabOk) | (apply VRng.mk; omega) | apply VBr.f | (apply v_f; omega)); (conv => whnf))); try (first | apply VStop.mk | apply VCall.stop))
    (apply VRet.mk)
    refine ret1 (by first | exact .inl rfl | exact .inr rfl) rfl (by exact rv_tmp rfl) ?_
    exact fun w1 hs => ⟨⟨_, rfl, rfl, .inl ⟨rfl, rfl⟩⟩, hs.base⟩
set_option maxHeartbeats 1000000 in
set_option maxRecDepth 20000 in
theorem concat61_any (Al : Option Addr) (c : Nat) (L : List (Nat × List Value)) (w : World) (h : NestR w 1 Al L) (hl : L.length ≤ 1000) (hs : sumN L ≤ 100000) (h1 : ∀ p ∈ L, ∀ u ∈ p.2, u.oneCell' = true) :
    Calls Try.prog 61 #[.slice Al L.length c] w (OwnRet 2 1 (sumN L) (catN L) w) := by
  obtain ⟨vs, hv, hi⟩ := h
  have hsz := fun k (hk : k ≤ L.length) => sumN_take L k hk
  refine fn_v Try.tabOk (n := 36) (A := []) Try.func61 rfl rfl (Nat.le_of_ble_eq_true rfl) (St.nil (Below.refl _ _)) ?_
  ((try first | apply tr_v Try.tabOk | apply ot_v Try.tabOk); (conv => whnf); try (first | apply VStop.mk | apply VCall.stop))
  refine v_loop (fun gm ds ts A => ds = [] ∧ A = [] ∧ ∃ j, j + gm = L.length ∧ ts = [(0, .slice Al L.length c), (3, .int .i64 (sumN (L.take j) : Int)), (9, .slice Al L.length c), (10, .int .i64 (L.length : Int)), (11, .int .i64 (j : Int))]) L.length (l := [(0, _), (3, _), (9, _), (10, _), (11, _)]) (B := _) ?_ (List.Sublist.refl _) ⟨rfl, rfl, 0, by omega, rfl⟩ ?_
  · exact ⟨rfl, rfl, rfl, rfl, rfl, trivial⟩
  rintro gm ds ts A ⟨rfl, rfl, j, hj, rfl⟩
  by_cases hlt : j < L.length
  · obtain ⟨B, c', e1, hr⟩ := hi j hlt
    obtain ⟨b, o, rfl, _, hcell⟩ := hv.2 (by omega)
    have hc : ∀ A, CellAt w A b (o + j * 1) _ := fun A => CellAt.base (by rw [Nat.mul_one]; exact hcell j _ e1)
    have hst := sumN_step L j hlt
    have hs1 := hsz (j + 1) (by omega)
    have hs0 := hsz j (by omega)
    rw [hst] at hs1
    ((try first | apply tr_v Try.tabOk | apply ot_v Try.tabOk); (conv => whnf); (repeat ((first | (apply VLd.mk; exact hc _) | (apply VRng.mk; omega) | apply VBr.t | apply VBr.f | (apply v_t; omega) | (apply v_f; omega) | (apply VIx.mk; exact rfl; omega)); (conv => whnf))); try (first | apply VStop.mk | apply VCall.stop))
    exact v_rnd (gm - 1) (by omega) (l := [(0, _), (3, _), (9, _), (10, _), (11, _)]) (B := []) ⟨rfl, rfl, rfl, rfl, rfl, trivial⟩ (List.nil_sublist _) ⟨rfl, rfl, j + 1, by omega, by rw [hst]; rfl⟩
  · obtain rfl : j = L.length := by omega
    rw [List.take_length]
    ((try first | apply tr_v Try.tabOk | apply ot_v Try.tabOk); (conv => whnf); (repeat ((first | apply VBr.f | (apply v_f; omega)); (conv => whnf))); try (first | apply VStop.mk | apply VCall.stop))
    refine ot_call_own (t := 2) (sz := 1) (m := 0) (xs := []) (by decide) rfl rfl rfl (by kernel_rfl) (evl_of rfl) (fun w1 hs => grow85_any (sumN L) (by omega) w1) (fun v0 => ?_)
    ((try first | apply tr_v Try.tabOk | apply ot_v Try.tabOk); (conv => whnf); try (first | apply VStop.mk | apply VCall.stop))
    refine v_loop (fun gm ds ts A => ds = [] ∧ ∃ j v, j + gm = L.length ∧ A = [.own v 2 1 (sumN (L.take j)) (catN (L.take j))] ∧ ts = [(6, v), (25, .slice Al L.length c), (26, .int .i64 (L.length : Int)), (27, .int .i64 (j : Int))]) L.length (l := [(6, _), (25, _), (26, _), (27, _)]) (B := [_]) ?_ (by (repeat (first | exact List.nil_sublist _ | exact List.Sublist.refl _ | refine List.Sublist.cons_cons _ ?_ | refine List.Sublist.cons _ ?_))) ⟨rfl, 0, v0, by omega, rfl, rfl⟩ ?_
    · exact ⟨rfl, rfl, rfl, rfl, trivial⟩
    rintro gm ds ts A ⟨rfl, j, v, hj, rfl, rfl⟩
    by_cases hlt : j < L.length
    · obtain ⟨B, c', e1, hr⟩ := hi j hlt
      obtain ⟨b, o, rfl, _, hcell⟩ := hv.2 (by omega)
      have hc : ∀ A, CellAt w A b (o + j * 1) _ := fun A => CellAt.base (by rw [Nat.mul_one]; exact hcell j _ e1)
      have hst := sumN_step L j hlt
      have hct := catN_step L j hlt
      have hs1 := hsz (j + 1) (by omega)
      rw [hst] at hs1
      ((try first | apply tr_v Try.tabOk | apply ot_v Try.tabOk); (conv => whnf); (repeat ((first | (apply VLd.mk; exact hc _) | apply VBr.t | (apply v_t; omega) | (apply VIx.mk; exact rfl; omega)); (conv => whnf))); try (first | apply VStop.mk | apply VCall.stop))
      refine ot_appendR (sz := 1) (A'v := fun v' => [.own v' 2 1 _ _]) Try.tabOk rfl rfl rfl rfl rfl rfl rfl rfl rfl rfl (by decide) rfl (fun w1 hs => hs.reads hr) (h1 _ (List.getElem_mem hlt)) (fun v' => by (repeat (first | exact Upd.here | apply Upd.there))) (by omega) (by decide) (fun v' => ?_)
      ((try first | apply tr_v Try.tabOk | apply ot_v Try.tabOk); (conv => whnf); (repeat ((first | (apply VRng.mk; omega)); (conv => whnf))); try (first | apply VStop.mk | apply VCall.stop))
      exact v_rnd (gm - 1) (by omega) (l := [(6, _), (25, _), (26, _), (27, _)]) (B := [_]) ⟨rfl, rfl, rfl, rfl, trivial⟩ (List.Sublist.refl _) ⟨rfl, j + 1, v', by omega, by rw [hst, hct], rfl⟩
    · obtain rfl : j = L.length := by omega
      rw [List.take_length]
      ((try first | apply tr_v Try.tabOk | apply ot_v Try.tabOk); (conv => whnf); (repeat ((first | apply VBr.f | (apply v_f; omega)); (conv => whnf))); try (first | apply VStop.mk | apply VCall.stop))
      (apply VRet.mk)
      refine ret1 (by first | exact .inl rfl | exact .inr rfl) rfl (by exact rv_tmp rfl) ?_
      exact fun w1 hs => own_ret hs (.head _)
end Go.Proofs.Ytkbcogaodnmdoaa
