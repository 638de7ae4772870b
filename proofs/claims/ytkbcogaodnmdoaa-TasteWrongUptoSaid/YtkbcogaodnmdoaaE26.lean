/- The laws: small helpers: lemmas for the rows of this seat. No conditions. -/
import Derived.Test.YtkbcogaodnmdoaaProg
import Derived.WalkKit
import Derived.WalkSpells
import Derived.WalkLawsBesides
import Derived.Lib.Hide
import Derived.Deep.AppendLies
import Derived.Deep.Draws
import Derived.Maps.AppendAt
import Derived.RegionTactic
import Derived.OwnWalk
import Derived.Deep.QuietTactic
import Derived.BigQuiet
import Derived.Deep.DeepFit
import Derived.Deep.LoopGhost
import Derived.Deep.DeepMust
import Derived.Deep.DeepCutAuto
import Derived.StillTail
import Derived.Deep.Quiet
import Derived.Deep.RegionHeld3
import Derived.Deep.RegionWith
import Derived.Deep.RegionLaw
import Derived.Maps.OwnOps
import Derived.Maps.OwnSet
import Derived.Maps.OwnRows
import Derived.Maps.RangeWalk
import Derived.Carry
import Derived.Test.YtkbcogaodnmdoaaBase
import Derived.Test.YtkbcogaodnmdoaaMaps
import Derived.Test.YtkbcogaodnmdoaaKeys
import Derived.Test.YtkbcogaodnmdoaaS1
import Derived.Test.YtkbcogaodnmdoaaS5
import Derived.Test.YtkbcogaodnmdoaaS12
import Derived.Test.YtkbcogaodnmdoaaS14
import Derived.Test.YtkbcogaodnmdoaaV
import Derived.Test.YtkbcogaodnmdoaaV2
import Derived.Test.YtkbcogaodnmdoaaV3
import Derived.Test.YtkbcogaodnmdoaaTab
import Derived.Test.YtkbcogaodnmdoaaE1
import Derived.Test.YtkbcogaodnmdoaaE2
import Derived.Test.YtkbcogaodnmdoaaE3
import Derived.Test.YtkbcogaodnmdoaaE4
import Derived.Test.YtkbcogaodnmdoaaE5
import Derived.Test.YtkbcogaodnmdoaaE6
import Derived.Test.YtkbcogaodnmdoaaE7
import Derived.Test.YtkbcogaodnmdoaaE8
import Derived.Test.YtkbcogaodnmdoaaE9
import Derived.Test.YtkbcogaodnmdoaaE10
import Derived.Test.YtkbcogaodnmdoaaE11
import Derived.Test.YtkbcogaodnmdoaaE12
import Derived.Test.YtkbcogaodnmdoaaE13
import Derived.Test.YtkbcogaodnmdoaaE14
import Derived.Test.YtkbcogaodnmdoaaE15
import Derived.Test.YtkbcogaodnmdoaaE16
import Derived.Test.YtkbcogaodnmdoaaE17
import Derived.Test.YtkbcogaodnmdoaaE18
import Derived.Test.YtkbcogaodnmdoaaE19
import Derived.Test.YtkbcogaodnmdoaaE20
import Derived.Test.YtkbcogaodnmdoaaE21
import Derived.Test.YtkbcogaodnmdoaaE22
import Derived.Test.YtkbcogaodnmdoaaE23
import Derived.Test.YtkbcogaodnmdoaaE24
import Derived.Test.YtkbcogaodnmdoaaE25
set_option linter.all false
namespace Go.Proofs.Ytkbcogaodnmdoaa
open Go.RowKit
/-! ## The laws: small helpers -/
/-- Two lists of numbers are compared. -/
theorem same_upto {a b : List Int} (hl : a.length = b.length) (h : ∀ j, j < a.length → iAt a j = iAt b j) : a = b := iAt_ext hl h
set_option maxRecDepth 20000 in
theorem longs_eq_any (A B : Option Addr) (ca cb : Nat) (a b : List Int) (w : World) (ha : Reads w w.heap.size 1 A a.length (i64s a)) (hb : Reads w w.heap.size 1 B b.length (i64s b)) (hm : a.length ≤ 1000000) (hmb : b.length ≤ 1000000) :
    Calls Try.prog 29 #[.slice A a.length ca, .slice B b.length cb] w fun e w' => e = .returned (.bool (decide (a = b))) ∧ Below w.heap.size w w' := by
  refine fn_v Try.tabOk (n := 26) (A := []) Try.func29 rfl rfl (Nat.le_of_ble_eq_true rfl) (St.nil (Below.refl _ _)) ?_
  by_cases hl : a.length = b.length
  rotate_left
  · rw [decide_eq_false (fun e => hl (by rw [e]))]
    ((try first | apply tr_v Try.tabOk | apply ot_v Try.tabOk); (conv => whnf); (repeat ((first | apply VBr.t | (apply v_t; omega)); (conv => whnf))); try (first | apply VStop.mk | apply VCall.stop))
    ((apply VRet.mk); refine ret1 (by first | exact .inl rfl | exact .inr rfl) rfl (by exact rv_tmp rfl) ?_; exact fun w h => ⟨rfl, h.base⟩)
  ((try first | apply tr_v Try.tabOk | apply ot_v Try.tabOk); (conv => whnf); (repeat ((first | apply VBr.f | (apply v_f; omega)); (conv => whnf))); try (first | apply VStop.mk | apply VCall.stop))
  refine v_loop (fun gm' ds ts A' => ds = [] ∧ A' = [] ∧ ∃ k : Nat, k + gm' = a.length ∧ (∀ j, j < k → iAt a j = iAt b j) ∧ ts = [(0, .slice A a.length ca), (1, .slice B b.length cb), (5, .int .i64 (k : Int))]) a.length
    (l := [(0, _), (1, _), (5, _)]) (B := _) ?_ (List.Sublist.refl _) ⟨rfl, rfl, 0, by omega, fun j hj => by omega, rfl⟩ ?_
  · exact ⟨rfl, rfl, rfl, trivial⟩
  rintro gm' ds ts A' ⟨rfl, rfl, k, hk, hall, rfl⟩
  by_cases hlt : k < a.length
  · obtain ⟨b1, o1, rfl, _⟩ := ha.2 (by omega)
    obtain ⟨b2, o2, rfl, _⟩ := hb.2 (by omega)
    have h1 := iAt_cell ha hlt
    have h2 := iAt_cell hb (show k < b.length by omega)
    have hne : iAt a k ≠ iAt b k → a ≠ b := fun h e => h (by rw [e])
    generalize hxk : iAt a k = x at *
    generalize hyk : iAt b k = y at *
    by_cases hxy : x = y
    · ((try first | apply tr_v Try.tabOk | apply ot_v Try.tabOk); (conv => whnf); (repeat ((first | ((first | apply VStop.mk | apply VCall.stop); (first | refine tr_region_lex (id := 6) (by kernel_rfl) [.rd, .rd, .rd, .rd, .rd, .rd, .rd, .rd, .rd] rfl (by kernel_rfl) ?_); try first | apply ot_v Try.tabOk | apply tr_v Try.tabOk) | (apply VLd.mk; first | exact h1 _ | exact h2 _) | (apply VRng.mk; omega) | apply VBr.t | apply VBr.f | (apply v_t; omega) | (apply v_f; omega) | (apply VIx.mk; exact rfl; omega)); (conv => whnf))); try (first | apply VStop.mk | apply VCall.stop))
      exact v_rnd (gm' - 1) (by omega) (l := [(0, _), (1, _), (5, _)]) (B := []) ⟨rfl, rfl, rfl, trivial⟩ (List.nil_sublist _) ⟨rfl, rfl, k + 1, by omega, fun j hj => by
        rcases Nat.lt_or_ge j k with h | h
        · exact hall j h
        · obtain rfl : j = k := by omega
          rw [hxk, hyk, hxy], rfl⟩
    · rw [decide_eq_false (hne hxy)]
      ((try first | apply tr_v Try.tabOk | apply ot_v Try.tabOk); (conv => whnf); (repeat ((first | ((first | apply VStop.mk | apply VCall.stop); (first | refine tr_region_lex (id := 6) (by kernel_rfl) [.rd, .rd, .rd, .rd, .rd, .rd, .rd, .rd, .rd] rfl (by kernel_rfl) ?_); try first | apply ot_v Try.tabOk | apply tr_v Try.tabOk) | (apply VLd.mk; first | exact h1 _ | exact h2 _) | apply VBr.t | (apply v_t; omega) | (apply VIx.mk; exact rfl; omega)); (conv => whnf))); try (first | apply VStop.mk | apply VCall.stop))
      ((apply VRet.mk); refine ret1 (by first | exact .inl rfl | exact .inr rfl) rfl (by exact rv_tmp rfl) ?_; exact fun w h => ⟨rfl, h.base⟩)
  · rw [decide_eq_true (same_upto hl fun j hj => hall j (by omega))]
    ((try first | apply tr_v Try.tabOk | apply ot_v Try.tabOk); (conv => whnf); (repeat ((first | apply VBr.f | (apply v_f; omega)); (conv => whnf))); try (first | apply VStop.mk | apply VCall.stop))
    ((apply VRet.mk); refine ret1 (by first | exact .inl rfl | exact .inr rfl) rfl (by exact rv_tmp rfl) ?_; exact fun w h => ⟨rfl, h.base⟩)
set_option maxRecDepth 20000 in
theorem ints_eq_any (A B : Option Addr) (ca cb : Nat) (a b : List Int) (w : World) (ha : Reads w w.heap.size 1 A a.length (i64s a)) (hb : Reads w w.heap.size 1 B b.length (i64s b)) (hm : a.length ≤ 1000000) (hmb : b.length ≤ 1000000) :
    Calls Try.prog 40 #[.slice A a.length ca, .slice B b.length cb] w fun e w' => e = .returned (.bool (decide (a = b))) ∧ Below w.heap.size w w' := by
  refine fn_v Try.tabOk (n := 26) (A := []) Try.func40 rfl rfl (Nat.le_of_ble_eq_true rfl) (St.nil (Below.refl _ _)) ?_
  by_cases hl : a.length = b.length
  rotate_left
  · rw [decide_eq_false (fun e => hl (by rw [e]))]
    ((try first | apply tr_v Try.tabOk | apply ot_v Try.tabOk); (conv => whnf); (repeat ((first | apply VBr.t | (apply v_t; omega)); (conv => whnf))); try (first | apply VStop.mk | apply VCall.stop))
    ((apply VRet.mk); refine ret1 (by first | exact .inl rfl | exact .inr rfl) rfl (by exact rv_tmp rfl) ?_; exact fun w h => ⟨rfl, h.base⟩)
  ((try first | apply tr_v Try.tabOk | apply ot_v Try.tabOk); (conv => whnf); (repeat ((first | apply VBr.f | (apply v_f; omega)); (conv => whnf))); try (first | apply VStop.mk | apply VCall.stop))
  refine v_loop (fun gm' ds ts A' => ds = [] ∧ A' = [] ∧ ∃ k : Nat, k + gm' = a.length ∧ (∀ j, j < k → iAt a j = iAt b j) ∧ ts = [(0, .slice A a.length ca), (1, .slice B b.length cb), (5, .int .i64 (k : Int))]) a.length
    (l := [(0, _), (1, _), (5, _)]) (B := _) ?_ (List.Sublist.refl _) ⟨rfl, rfl, 0, by omega, fun j hj => by omega, rfl⟩ ?_
  · exact ⟨rfl, rfl, rfl, trivial⟩
  rintro gm' ds ts A' ⟨rfl, rfl, k, hk, hall, rfl⟩
  by_cases hlt : k < a.length
  · obtain ⟨b1, o1, rfl, _⟩ := ha.2 (by omega)
    obtain ⟨b2, o2, rfl, _⟩ := hb.2 (by omega)
    have h1 := iAt_cell ha hlt
    have h2 := iAt_cell hb (show k < b.length by omega)
    have hne : iAt a k ≠ iAt b k → a ≠ b := fun h e => h (by rw [e])
    generalize hxk : iAt a k = x at *
    generalize hyk : iAt b k = y at *
    by_cases hxy : x = y
    · ((try first | apply tr_v Try.tabOk | apply ot_v Try.tabOk); (conv => whnf); (repeat ((first | ((first | apply VStop.mk | apply VCall.stop); (first | refine tr_region_lex (id := 6) (by kernel_rfl) [.rd, .rd, .rd, .rd, .rd, .rd, .rd, .rd, .rd] rfl (by kernel_rfl) ?_); try first | apply ot_v Try.tabOk | apply tr_v Try.tabOk) | (apply VLd.mk; first | exact h1 _ | exact h2 _) | (apply VRng.mk; omega) | apply VBr.t | apply VBr.f | (apply v_t; omega) | (apply v_f; omega) | (apply VIx.mk; exact rfl; omega)); (conv => whnf))); try (first | apply VStop.mk | apply VCall.stop))
      exact v_rnd (gm' - 1) (by omega) (l := [(0, _), (1, _), (5, _)]) (B := []) ⟨rfl, rfl, rfl, trivial⟩ (List.nil_sublist _) ⟨rfl, rfl, k + 1, by omega, fun j hj => by
        rcases Nat.lt_or_ge j k with h | h
        · exact hall j h
        · obtain rfl : j = k := by omega
          rw [hxk, hyk, hxy], rfl⟩
    · rw [decide_eq_false (hne hxy)]
      ((try first | apply tr_v Try.tabOk | apply ot_v Try.tabOk); (conv => whnf); (repeat ((first | ((first | apply VStop.mk | apply VCall.stop); (first | refine tr_region_lex (id := 6) (by kernel_rfl) [.rd, .rd, .rd, .rd, .rd, .rd, .rd, .rd, .rd] rfl (by kernel_rfl) ?_); try first | apply ot_v Try.tabOk | apply tr_v Try.tabOk) | (apply VLd.mk; first | exact h1 _ | exact h2 _) | apply VBr.t | (apply v_t; omega) | (apply VIx.mk; exact rfl; omega)); (conv => whnf))); try (first | apply VStop.mk | apply VCall.stop))
      ((apply VRet.mk); refine ret1 (by first | exact .inl rfl | exact .inr rfl) rfl (by exact rv_tmp rfl) ?_; exact fun w h => ⟨rfl, h.base⟩)
  · rw [decide_eq_true (same_upto hl fun j hj => hall j (by omega))]
    ((try first | apply tr_v Try.tabOk | apply ot_v Try.tabOk); (conv => whnf); (repeat ((first | apply VBr.f | (apply v_f; omega)); (conv => whnf))); try (first | apply VStop.mk | apply VCall.stop))
    ((apply VRet.mk); refine ret1 (by first | exact .inl rfl | exact .inr rfl) rfl (by exact rv_tmp rfl) ?_; exact fun w h => ⟨rfl, h.base⟩)
set_option maxRecDepth 20000 in
theorem longs_any (v : Value) (w : World) : Calls Try.prog 52 #[v] w fun e w' => e = .returned v ∧ Below w.heap.size w w' := by
  refine fn_v Try.tabOk (n := 4) (A := []) Try.func52 rfl rfl (Nat.le_of_ble_eq_true rfl) (St.nil (Below.refl _ _)) ?_
  ((try first | apply tr_v Try.tabOk | apply ot_v Try.tabOk); (conv => whnf); try (first | apply VStop.mk | apply VCall.stop))
  ((apply VRet.mk); refine ret1 (by first | exact .inl rfl | exact .inr rfl) rfl (by exact rv_tmp rfl) ?_; exact fun w h => ⟨rfl, h.base⟩)
set_option maxRecDepth 20000 in
theorem of_any (v : Value) (w : World) : Calls Try.prog 53 #[v] w fun e w' => e = .returned v ∧ Below w.heap.size w w' := by
  refine fn_v Try.tabOk (n := 4) (A := []) Try.func53 rfl rfl (Nat.le_of_ble_eq_true rfl) (St.nil (Below.refl _ _)) ?_
  ((try first | apply tr_v Try.tabOk | apply ot_v Try.tabOk); (conv => whnf); try (first | apply VStop.mk | apply VCall.stop))
  ((apply VRet.mk); refine ret1 (by first | exact .inl rfl | exact .inr rfl) rfl (by exact rv_tmp rfl) ?_; exact fun w h => ⟨rfl, h.base⟩)
set_option maxRecDepth 20000 in
theorem to_any (a b : Int) (w : World) : Calls Try.prog 43 #[.int .i64 a, .int .i64 b] w fun e w' => e = .returned (.agg #[.int .i64 a, .int .i64 b]) ∧ Below w.heap.size w w' := by
  refine fn_v Try.tabOk (n := 8) (A := []) Try.func43 rfl rfl (Nat.le_of_ble_eq_true rfl) (St.nil (Below.refl _ _)) ?_
  ((try first | apply tr_v Try.tabOk | apply ot_v Try.tabOk); (conv => whnf); (repeat ((first | (apply VNew.mk; intro g hg) | (apply VSt.mk; (focus ((repeat (first | (with_reducible exact At.here) | (with_reducible apply At.there))); done)); exact rfl)); (conv => whnf))); try (first | apply VStop.mk | apply VCall.stop))
  ((apply VRet.mk); refine ret1 (by first | exact .inl rfl | exact .inr rfl) rfl (by exact rv_row Try.tabOk rfl rfl rfl (by first | exact cells_blk_all (by (repeat (first | exact List.Mem.head _ | assumption | refine List.Mem.tail _ ?_))) | exact cells_row0 (by (repeat (first | exact List.Mem.head _ | assumption | refine List.Mem.tail _ ?_)))) rfl) ?_; exact fun w h => ⟨rfl, h.base⟩)
set_option maxRecDepth 20000 in
theorem book_any (lo hi lots : Int) (A : Option Addr) (n c : Nat) (w : World) : Calls Try.prog 80 #[.int .i64 lo, .int .i64 hi, .int .i64 lots, .slice A n c] w fun e w' => e = .returned (bookV lo hi lots A n c) ∧ Below w.heap.size w w' := by
  have ht := fun w1 => to_any lo hi w1
  unfold bookV
  refine fn_v Try.tabOk (n := 15) (A := []) Try.func80 rfl rfl (Nat.le_of_ble_eq_true rfl) (St.nil (Below.refl _ _)) ?_
  ((try first | apply tr_v Try.tabOk | apply ot_v Try.tabOk); (conv => whnf); (repeat ((first | (apply VCall.q; kernel_rfl; (focus (intro w1 hs; first | with_reducible apply ht w1))) | (apply VNew.mk; intro g hg) | (apply VSt.mk; (focus ((repeat (first | (with_reducible exact At.here) | (with_reducible apply At.there))); done)); exact rfl)); (conv => whnf))); try (first | apply VStop.mk | apply VCall.stop))
  ((apply VRet.mk); refine ret1 (by first | exact .inl rfl | exact .inr rfl) rfl (by exact rv_row Try.tabOk rfl rfl rfl (by first | exact cells_blk_all (by (repeat (first | exact List.Mem.head _ | assumption | refine List.Mem.tail _ ?_))) | exact cells_row0 (by (repeat (first | exact List.Mem.head _ | assumption | refine List.Mem.tail _ ?_)))) rfl) ?_; exact fun w h => ⟨rfl, h.base⟩)
/-- A sitting, of numbers. -/
def sitF (l : List Int) (j : Nat) : T3 := (iAt l (3 * j), iAt l (3 * j + 1), iAt l (3 * j + 2))
def sitP (l : List Int) : List T3 := (List.range (l.length / 3)).map (sitF l)
set_option maxRecDepth 20000 in
theorem sitting_any (A : Option Addr) (c : Nat) (l : List Int) (w : World) (h : Reads w w.heap.size 1 A l.length (i64s l)) (hl : l.length ≤ 1000) :
    Calls Try.prog 47 #[.slice A l.length c] w (OwnRet 67 3 (sitP l).length (saidCells (sitP l)) w) := by
  have ht := fun a b w1 => to_any a b w1
  refine fn_v Try.tabOk (n := 32) (A := []) Try.func47 rfl rfl (Nat.le_of_ble_eq_true rfl) (St.nil (Below.refl _ _)) ?_
  ((try first | apply tr_v Try.tabOk | apply ot_v Try.tabOk); (conv => whnf); try (first | apply VStop.mk | apply VCall.stop))
  refine tr_own_nil 67 3 ?_
  refine v_loop (fun gm' ds ts A' => ds = [] ∧ ∃ (k : Nat) (v : Value), k + gm' = l.length / 3 ∧ A' = [.own v 67 3 k (saidCells ((List.range k).map (sitF l)))] ∧ ts = [(0, .slice A l.length c), (3, v), (4, .int .i64 ((3 * k : Nat) : Int))]) (l.length / 3)
    (l := [(0, _), (3, _), (4, _)]) (B := _) ?_ (List.Sublist.refl _) ⟨rfl, 0, _, by omega, rfl, rfl⟩ ?_
  · exact ⟨rfl, rfl, rfl, trivial⟩
  rintro gm' ds ts A' ⟨rfl, k, v, hk, rfl, rfl⟩
  by_cases hlt : 3 * k + 2 < l.length
  · obtain ⟨b1, o1, rfl, _⟩ := h.2 (by omega)
    have h0 := iAt_cell h (show 3 * k < l.length by omega)
    have h1 := iAt_cell h (show 3 * k + 1 < l.length by omega)
    have h2 := iAt_cell h (show 3 * k + 2 < l.length by omega)
    have hsn : saidCells ((List.range k).map (sitF l)) ++ saidCells [sitF l k] = saidCells ((List.range (k + 1)).map (sitF l)) := by
      rw [← saidCells_append, List.range_succ, List.map_append]; rfl
    have e3 : 3 * (k + 1) = 3 * k + 3 := by omega
    ((try first | apply tr_v Try.tabOk | apply ot_v Try.tabOk); (conv => whnf); (repeat ((first | ((first | apply VStop.mk | apply VCall.stop); (first | refine tr_region_lex (id := 5) (by kernel_rfl) [.rd, .rd, .rd, .rd, .rd, .rd, .rd, .rd, .rd, .rd, .rd, .rd, .rd, .rd, .rd, .cr, .rd, .cr, .wr, .rd] rfl (by kernel_rfl) ?_); try first | apply ot_v Try.tabOk | apply tr_v Try.tabOk) | (apply VIx.mk (j := 3 * k); exact rfl; omega) | (apply VIx.mk (j := 3 * k + 1); omega; omega) | (apply VIx.mk (j := 3 * k + 2); omega; omega) | (apply VLd.mk; first | exact h0 _ | exact h1 _ | exact h2 _) | (apply VCall.q; kernel_rfl; (focus (intro w1 hs; first | with_reducible apply ht _ _ w1))) | (apply VRng.mk; omega) | apply VBr.t | (apply v_t; omega) | (apply VNew.mk; intro g hg)); (conv => whnf))); try (first | apply VStop.mk | apply VCall.stop))
    refine ot_append (sz := 3) (sl := k) (xs := saidCells ((List.range k).map (sitF l))) (A'v := fun v' => _ :: .own v' 67 3 (k + 1) _ :: _) Try.tabOk rfl rfl rfl rfl rfl rfl rfl rfl rfl rfl (by decide) rfl (cells_blk_all (.head _)) rfl rfl (fun v' => .there .here) (by omega) (by decide) (fun v' => ?_)
    apply ot_v Try.tabOk
    ((try first | apply tr_v Try.tabOk | apply ot_v Try.tabOk); (conv => whnf); (repeat ((first | (apply VRng.mk; omega)); (conv => whnf))); try (first | apply VStop.mk | apply VCall.stop))
    exact v_rnd (gm' - 1) (by omega) (l := [(0, _), (3, _), (4, _)]) (B := [.own v' 67 3 (k + 1) (saidCells ((List.range k).map (sitF l)) ++ saidCells [sitF l k])]) ⟨rfl, rfl, rfl, trivial⟩ (.cons _ (List.Sublist.refl _)) ⟨rfl, k + 1, v', by omega, by rw [hsn], by rw [e3]; rfl⟩
  · have hkk : k = l.length / 3 := by omega
    ((try first | apply tr_v Try.tabOk | apply ot_v Try.tabOk); (conv => whnf); (repeat ((first | (apply VRng.mk; omega) | apply VBr.f | (apply v_f; omega)); (conv => whnf))); try (first | apply VStop.mk | apply VCall.stop))
    (apply VRet.mk)
    refine ret1 (.inr rfl) rfl (by exact rv_tmp rfl) fun w' hs => ?_
    unfold sitP
    rw [List.length_map, List.length_range, ← hkk]
    exact own_ret hs (.head _)
/-- The books of the examples. -/
def bookA : List (List T3) := [[(0, 50, 52), (1, 40, 41), (0, 45, 47)]]
def bookB : List (List T3) := [[(0, 50, 50), (0, 44, 45)]]
/-- What a book of one sitting lies in. -/
structure BookX where
  (g : Nat) (B : Option Addr) (c : Nat)
def bookCh (l : List T3) (x : BookX) : List Chunk := [.blk x.g 55 [.slice x.B l.length x.c], .own (.slice x.B l.length x.c) 67 3 l.length (saidCells l)]
theorem bookCh_mut (l : List T3) (x : BookX) : ∀ d ∈ bookCh l x, d.mut = true := fun d hd => by
  unfold bookCh at hd
  simp only [List.mem_cons, List.not_mem_nil, or_false] at hd
  rcases hd with rfl | rfl <;> rfl
theorem St.book {w0 w : World} {A : List Chunk} {l : List T3} {x : BookX} (hs : St w0 A w) (h : ∀ d ∈ bookCh l x, d ∈ A) : NestR w 3 (some ⟨x.g, 0, none⟩) (nestOf [l]) := by
  refine ⟨[.slice x.B l.length x.c], hs.blk_reads (h _ (.head _)) rfl, fun i hi => ?_⟩
  match i, hi with
  | 0, _ => exact ⟨_, _, rfl, hs.own_rd (h _ (.tail _ (.head _)))⟩
set_option maxRecDepth 20000 in
theorem two_any (w : World) : Calls Try.prog 50 #[] w fun e w' => ∃ x : BookX, e = .returned (bookV 1 3 2 (some ⟨x.g, 0, none⟩) 1 1) ∧ St w (bookCh [(0, 50, 52), (1, 40, 41), (0, 45, 47)] x) w' := by
  have hsi : ∀ g w1 A', St w (.blk g 3 (i64s [0, 50, 52, 1, 40, 41, 0, 45, 47]) :: A') w1 → Calls Try.prog 47 #[.slice (some ⟨g, 0, none⟩) 9 9] w1 (OwnRet 67 3 3 (saidCells [(0, 50, 52), (1, 40, 41), (0, 45, 47)]) w1) := fun g w1 A' hs => sitting_any (some ⟨g, 0, none⟩) 9 [0, 50, 52, 1, 40, 41, 0, 45, 47] w1 (hs.blk_reads (.head _) rfl) (by decide)
  have hbk := fun A n c w1 => book_any 1 3 2 A n c w1
  unfold bookV at *
  refine fn_v Try.tabOk (n := 5) (A := []) Try.func50 rfl rfl (Nat.le_of_ble_eq_true rfl) (St.nil (Below.refl _ _)) ?_
  ((try first | apply tr_v Try.tabOk | apply ot_v Try.tabOk); (conv => whnf); (repeat ((first | (apply VNew.mk; intro g hg)); (conv => whnf))); try (first | apply VStop.mk | apply VCall.stop))
  refine ot_call_ownS (by decide) rfl rfl rfl (by kernel_rfl) (evl_of rfl) (fun w1 hs => hsi _ w1 _ hs) (fun B c _ => ?_)
  apply ot_v Try.tabOk
  ((try first | apply tr_v Try.tabOk | apply ot_v Try.tabOk); (conv => whnf); (repeat ((first | (apply VCall.q; kernel_rfl; (focus (intro w1 hs; first | with_reducible apply hbk _ _ _ w1))) | (apply VNew.mk; intro g hg) | (apply VSt.mk; (focus ((repeat (first | (with_reducible exact At.here) | (with_reducible apply At.there))); done)); exact rfl)); (conv => whnf))); try (first | apply VStop.mk | apply VCall.stop))
  (apply VRet.mk)
  refine ret1 (by first | exact .inl rfl | exact .inr rfl) rfl (by exact rv_row Try.tabOk rfl rfl rfl (by first | exact cells_blk_all (by (repeat (first | exact List.Mem.head _ | assumption | refine List.Mem.tail _ ?_))) | exact cells_row0 (by (repeat (first | exact List.Mem.head _ | assumption | refine List.Mem.tail _ ?_)))) rfl) ?_
  exact fun w' hs => ⟨⟨g, B, c⟩, rfl, hs.sub (.cons_cons _ (.cons_cons _ (List.nil_sublist _)))⟩
set_option maxRecDepth 20000 in
theorem one_any (w : World) : Calls Try.prog 51 #[] w fun e w' => ∃ x : BookX, e = .returned (bookV 1 3 1 (some ⟨x.g, 0, none⟩) 1 1) ∧ St w (bookCh [(0, 50, 50), (0, 44, 45)] x) w' := by
  have hsi : ∀ g w1 A', St w (.blk g 3 (i64s [0, 50, 50, 0, 44, 45]) :: A') w1 → Calls Try.prog 47 #[.slice (some ⟨g, 0, none⟩) 6 6] w1 (OwnRet 67 3 2 (saidCells [(0, 50, 50), (0, 44, 45)]) w1) := fun g w1 A' hs => sitting_any (some ⟨g, 0, none⟩) 6 [0, 50, 50, 0, 44, 45] w1 (hs.blk_reads (.head _) rfl) (by decide)
  have hbk := fun A n c w1 => book_any 1 3 1 A n c w1
  unfold bookV at *
  refine fn_v Try.tabOk (n := 5) (A := []) Try.func51 rfl rfl (Nat.le_of_ble_eq_true rfl) (St.nil (Below.refl _ _)) ?_
  ((try first | apply tr_v Try.tabOk | apply ot_v Try.tabOk); (conv => whnf); (repeat ((first | (apply VNew.mk; intro g hg)); (conv => whnf))); try (first | apply VStop.mk | apply VCall.stop))
  refine ot_call_ownS (by decide) rfl rfl rfl (by kernel_rfl) (evl_of rfl) (fun w1 hs => hsi _ w1 _ hs) (fun B c _ => ?_)
  apply ot_v Try.tabOk
  ((try first | apply tr_v Try.tabOk | apply ot_v Try.tabOk); (conv => whnf); (repeat ((first | (apply VCall.q; kernel_rfl; (focus (intro w1 hs; first | with_reducible apply hbk _ _ _ w1))) | (apply VNew.mk; intro g hg) | (apply VSt.mk; (focus ((repeat (first | (with_reducible exact At.here) | (with_reducible apply At.there))); done)); exact rfl)); (conv => whnf))); try (first | apply VStop.mk | apply VCall.stop))
  (apply VRet.mk)
  refine ret1 (by first | exact .inl rfl | exact .inr rfl) rfl (by exact rv_row Try.tabOk rfl rfl rfl (by first | exact cells_blk_all (by (repeat (first | exact List.Mem.head _ | assumption | refine List.Mem.tail _ ?_))) | exact cells_row0 (by (repeat (first | exact List.Mem.head _ | assumption | refine List.Mem.tail _ ?_)))) rfl) ?_
  exact fun w' hs => ⟨⟨g, B, c⟩, rfl, hs.sub (.cons_cons _ (.cons_cons _ (List.nil_sublist _)))⟩
/-! ## The examples -/
/-- A walk, by its names. -/
def walkB (bf : Nat → Nat → Option Int) (N : Nat) : Nat → List Nat → Option (Nat × Int)
  | i, [] => some (i, 0)
  | i, j :: l => if i < N ∧ j < N then match bf i j, walkB bf N j l with
    | some w, some (k, s) => some (k, w + s)
    | _, _ => none else none
theorem walkB_ok {bf : Nat → Nat → Option Int} {N : Nat} : ∀ {l : List Nat} {i k : Nat} {s : Int}, walkB bf N i l = some (k, s) → Walk (allE bf N N) i l k s
  | [], i, k, s, h => by
    rw [walkB] at h
    cases h
    exact .nil _
  | j :: l, i, k, s, h => by
    rw [walkB] at h
    split at h
    · rename_i hc
      split at h
      · rename_i w k' s' h1 h2
        cases h
        exact .cons (mem_allE.2 ⟨hc.1, hc.2, h1⟩) (walkB_ok h2)
      · cases h
    · cases h
section
variable {rlo rhi : Int} {L : Nat} {S : List (List T3)} (hO : Okb rlo rhi L S)
include hO
theorem truth_can {sharp tired : List Int} (h : truthR rlo rhi L S sharp tired = 0) (but : Int) : canB rlo rhi L S but = true := by
  have h0 : chkBook rlo rhi L S = 0 := chk_ok.2 hO
  unfold truthR at h
  rw [if_neg (by simpa using h0)] at h
  split at h
  · cases h
  · rename_i hl
    split at h
    · cases h
    · rename_i ht
      rw [Bool.not_eq_false] at ht
      have := (truth_iff hO (show sharp.length = L by omega) (show tired.length = S.flatten.length by omega)).1 ht
      exact (canB_iff hO but).2 ((has_iff hO but).2 ⟨_, _, this.sharp, this.first, this.next, fun k hk _ => this.said k hk (by omega)⟩)
theorem truth_potR {sharp tired : List Int} (h : truthR rlo rhi L S sharp tired = 0) : Pot (allE (bnd rlo rhi L S (-1)) (1 + L + S.flatten.length) (1 + L + S.flatten.length)) (pOf L (iAt sharp) (iAt tired)) := by
  have h0 : chkBook rlo rhi L S = 0 := chk_ok.2 hO
  unfold truthR at h
  rw [if_neg (by simpa using h0)] at h
  split at h
  · cases h
  · rename_i hl
    split at h
    · cases h
    · rename_i ht
      rw [Bool.not_eq_false] at ht
      exact truth_pot hO ((truth_iff hO (show sharp.length = L by omega) (show tired.length = S.flatten.length by omega)).1 ht)
theorem jm_is {i k : Nat} {x : Int} (l : List Nat) (sharp tired : List Int) (hw : walkB (bnd rlo rhi L S (-1)) (1 + L + S.flatten.length) i l = some (k, x)) (hi : i < 1 + L + S.flatten.length) (hk : k < 1 + L + S.flatten.length)
    (h : truthR rlo rhi L S sharp tired = 0) (hp : pOf L (iAt sharp) (iAt tired) k - pOf L (iAt sharp) (iAt tired) i = x) : jm rlo rhi L S (-1) i k = x := by
  have hb := bnd_ok hO (-1)
  have hh := (canB_iff hO (-1)).1 (truth_can hO h (-1))
  refine (hb.join_dist hh hi hk (reach2 hO (-1) hi hk)).uniq ⟨⟨l, walkB_ok hw⟩, fun m s hm => ?_⟩
  have := hm.pot (truth_potR hO h)
  omega
theorem round_can {l : List Int} {n : Int} (h : roundR rlo rhi L S l = (n, 0)) : canB rlo rhi L S (-1) = false := by
  have h0 : chkBook rlo rhi L S = 0 := chk_ok.2 hO
  unfold roundR at h
  rw [if_neg (by simpa using h0), Int.toNat_natCast] at h
  rw [canB_no hO]
  intro hp
  have := (bnd_ok hO (-1)).no_round hp l
  rw [h] at this
  exact this rfl
end
abbrev SA : List (List T3) := [[(0, 50, 52), (1, 40, 41), (0, 45, 47)]]
abbrev SB : List (List T3) := [[(0, 50, 50), (0, 44, 45)]]
theorem okA : Okb 1 3 ((2 : Nat) : Int) SA := chk_ok.1 (by decide +kernel)
theorem okB : Okb 1 3 ((1 : Nat) : Int) SB := chk_ok.1 (by decide +kernel)
theorem canA : canB 1 3 2 SA (-1) = true := truth_can okA (sharp := [50, 41]) (tired := [0, 1, 3]) (by decide +kernel) (-1)
theorem canBn : canB 1 3 1 SB (-1) = false := round_can okB (l := [1, 2, 3]) (n := 2) (by decide +kernel)
theorem jA10 : jm 1 3 2 SA (-1) 1 0 = -50 := jm_is okA [3, 0] [50, 41] [0, 1, 3] (by decide +kernel) (by decide) (by decide) (by decide +kernel) (by decide +kernel)
theorem jA20 : jm 1 3 2 SA (-1) 2 0 = -41 := jm_is okA [4, 3, 0] [50, 41] [0, 1, 3] (by decide +kernel) (by decide) (by decide) (by decide +kernel) (by decide +kernel)
theorem jA30 : jm 1 3 2 SA (-1) 3 0 = 0 := jm_is okA [0] [50, 41] [0, 1, 3] (by decide +kernel) (by decide) (by decide) (by decide +kernel) (by decide +kernel)
theorem jA40 : jm 1 3 2 SA (-1) 4 0 = -1 := jm_is okA [3, 0] [50, 41] [0, 1, 3] (by decide +kernel) (by decide) (by decide) (by decide +kernel) (by decide +kernel)
theorem jA50 : jm 1 3 2 SA (-1) 5 0 = -3 := jm_is okA [1, 3, 0] [50, 41] [0, 1, 3] (by decide +kernel) (by decide) (by decide) (by decide +kernel) (by decide +kernel)
theorem jA01 : jm 1 3 2 SA (-1) 0 1 = 52 := jm_is okA [3, 1] [52, 44] [0, 3, 6] (by decide +kernel) (by decide) (by decide) (by decide +kernel) (by decide +kernel)
theorem jA02 : jm 1 3 2 SA (-1) 0 2 = 44 := jm_is okA [3, 4, 2] [52, 44] [0, 3, 6] (by decide +kernel) (by decide) (by decide) (by decide +kernel) (by decide +kernel)
theorem jA03 : jm 1 3 2 SA (-1) 0 3 = 0 := jm_is okA [3] [52, 44] [0, 3, 6] (by decide +kernel) (by decide) (by decide) (by decide +kernel) (by decide +kernel)
theorem jA04 : jm 1 3 2 SA (-1) 0 4 = 3 := jm_is okA [3, 4] [52, 44] [0, 3, 6] (by decide +kernel) (by decide) (by decide) (by decide +kernel) (by decide +kernel)
theorem jA05 : jm 1 3 2 SA (-1) 0 5 = 6 := jm_is okA [3, 4, 5] [52, 44] [0, 3, 6] (by decide +kernel) (by decide) (by decide) (by decide +kernel) (by decide +kernel)
theorem jA12 : jm 1 3 2 SA (-1) 1 2 = -6 := jm_is okA [3, 4, 2] [50, 44] [0, 3, 4] (by decide +kernel) (by decide) (by decide) (by decide +kernel) (by decide +kernel)
theorem jA21 : jm 1 3 2 SA (-1) 2 1 = 10 := jm_is okA [4, 5, 1] [52, 42] [0, 2, 5] (by decide +kernel) (by decide) (by decide) (by decide +kernel) (by decide +kernel)
theorem jA22 : jm 1 3 2 SA (-1) 2 2 = 0 := jm_is okA [] [50, 41] [0, 1, 3] (by decide +kernel) (by decide) (by decide) (by decide +kernel) (by decide +kernel)
theorem ends0 (m : Mx) : sharpL m false 2 = [-(m 1 0), -(m 2 0)] ∧ tiredL m false 2 3 = [-(m 3 0), -(m 4 0), -(m 5 0)] := ⟨rfl, rfl⟩
theorem ends1 (m : Mx) : sharpL m true 2 = [m 0 1, m 0 2] ∧ tiredL m true 2 3 = [m 0 3, m 0 4, m 0 5] := ⟨rfl, rfl⟩
theorem lenA : SA.flatten.length = 3 := rfl
theorem end_yes {rlo rhi : Int} {L : Nat} {S : List (List T3)} (hO : Okb rlo rhi L S) (hc : canB rlo rhi L S (-1) = true) (gr : Bool) : endR rlo rhi L S gr = (sharpL (jm rlo rhi L S (-1)) gr L, tiredL (jm rlo rhi L S (-1)) gr L S.flatten.length, 0) := by
  have h0 : chkBook rlo rhi L S = 0 := chk_ok.2 hO
  unfold endR
  rw [if_neg (by simpa using h0), Int.toNat_natCast, if_neg (by rw [hc]; decide)]
theorem end_no {rlo rhi : Int} {L : Nat} {S : List (List T3)} (hO : Okb rlo rhi L S) (hc : canB rlo rhi L S (-1) = false) (gr : Bool) : endR rlo rhi L S gr = ([], [], 17) := by
  have h0 : chkBook rlo rhi L S = 0 := chk_ok.2 hO
  unfold endR
  rw [if_neg (by simpa using h0), Int.toNat_natCast, if_pos hc]
theorem endA0 : endR 1 3 2 SA false = ([50, 41], [0, 1, 3], 0) := by
  have h := end_yes okA canA false
  rw [lenA, (ends0 _).1, (ends0 _).2, jA10, jA20, jA30, jA40, jA50] at h
  exact h
theorem endA1 : endR 1 3 2 SA true = ([52, 44], [0, 3, 6], 0) := by
  have h := end_yes okA canA true
  rw [lenA, (ends1 _).1, (ends1 _).2, jA01, jA02, jA03, jA04, jA05] at h
  exact h
theorem endB1 : endR 1 3 1 SB true = ([], [], 17) := by
  unfold endR
  rw [if_neg (by decide +kernel), if_pos (by rw [show (1 : Int).toNat = 1 from rfl, canBn])]
theorem spanA0 : spanR 1 3 2 SA 0 = (50, 52, 0) := by
  unfold spanR
  rw [if_neg (by decide +kernel), if_neg (by decide), if_neg (by rw [show (2 : Int).toNat = 2 from rfl, canA]; decide)]
  show ((-(jm 1 3 2 SA (-1) 1 0), jm 1 3 2 SA (-1) 0 1, 0) : Int × Int × Int) = _
  rw [jA10, jA01]; rfl
theorem spanA1 : spanR 1 3 2 SA 1 = (41, 44, 0) := by
  unfold spanR
  rw [if_neg (by decide +kernel), if_neg (by decide), if_neg (by rw [show (2 : Int).toNat = 2 from rfl, canA]; decide)]
  show ((-(jm 1 3 2 SA (-1) 2 0), jm 1 3 2 SA (-1) 0 2, 0) : Int × Int × Int) = _
  rw [jA20, jA02]; rfl
theorem spanA2 : spanR 1 3 2 SA 2 = (0, 0, 2) := by
  unfold spanR
  rw [if_neg (by decide +kernel), if_pos (by decide)]
theorem apartA01 : apartR 1 3 2 SA 0 1 = (6, 10, 0) := by
  unfold apartR
  rw [if_neg (by decide +kernel), if_neg (by decide), if_neg (by rw [show (2 : Int).toNat = 2 from rfl, canA]; decide)]
  show ((-(jm 1 3 2 SA (-1) 1 2), jm 1 3 2 SA (-1) 2 1, 0) : Int × Int × Int) = _
  rw [jA12, jA21]; rfl
theorem apartA10 : apartR 1 3 2 SA 1 0 = (-10, -6, 0) := by
  unfold apartR
  rw [if_neg (by decide +kernel), if_neg (by decide), if_neg (by rw [show (2 : Int).toNat = 2 from rfl, canA]; decide)]
  show ((-(jm 1 3 2 SA (-1) 2 1), jm 1 3 2 SA (-1) 1 2, 0) : Int × Int × Int) = _
  rw [jA12, jA21]
theorem apartA11 : apartR 1 3 2 SA 1 1 = (0, 0, 0) := by
  unfold apartR
  rw [if_neg (by decide +kernel), if_neg (by decide), if_neg (by rw [show (2 : Int).toNat = 2 from rfl, canA]; decide)]
  show ((-(jm 1 3 2 SA (-1) 2 2), jm 1 3 2 SA (-1) 2 2, 0) : Int × Int × Int) = _
  rw [jA22]; rfl
theorem roundRetA : roundRet 1 3 2 SA = ([], 5) := by
  unfold roundRet
  rw [if_neg (by decide +kernel), if_pos (by rw [show (2 : Int).toNat = 2 from rfl, canA])]
theorem roundRet_yes {rlo rhi : Int} {L : Nat} {S : List (List T3)} (hO : Okb rlo rhi L S) (hc : canB rlo rhi L S (-1) = false) : ∃ r n, roundRet rlo rhi L S = (r, 0) ∧ 0 < n ∧ roundR rlo rhi L S r = (n, 0) ∧ 1 ≤ r.length ∧ r.length ≤ 19 := by
  have h0 : chkBook rlo rhi L S = 0 := chk_ok.2 hO
  have hp := (canB_no hO (-1)).1 hc
  have hb := bnd_ok hO (-1)
  obtain ⟨n, hn, hr⟩ := hb.round_proves hp
  have hl := hb.round_len hp
  have hn1 := hb.n1
  unfold roundRet roundR
  rw [if_neg (by simpa using h0), Int.toNat_natCast, if_neg (by rw [hc]; decide)]
  refine ⟨_, n, rfl, hn, ?_, hl.1, by omega⟩
  rw [if_neg (by simpa using h0)]
  exact hr
theorem roundRet_no {rlo rhi : Int} {L : Nat} {S : List (List T3)} (hO : Okb rlo rhi L S) (hc : canB rlo rhi L S (-1) = true) : roundRet rlo rhi L S = ([], 5) := by
  have h0 : chkBook rlo rhi L S = 0 := chk_ok.2 hO
  unfold roundRet
  rw [if_neg (by simpa using h0), Int.toNat_natCast, if_pos hc]
theorem roundRetB : ∃ r n, roundRet 1 3 1 SB = (r, 0) ∧ 0 < n ∧ roundR 1 3 1 SB r = (n, 0) ∧ 1 ≤ r.length ∧ r.length ≤ 19 := roundRet_yes okB canBn
theorem canB_is (k : Nat) (sh ti : Nat → Int) (h : TruthN 1 3 1 SB k sh ti) : canB 1 3 1 SB k = true := (canB_iff okB k).2 ((has_iff okB k).2 ⟨sh, ti, h⟩)
theorem wrongB : wrongR 1 3 1 SB = ([0, 1], 0) := by
  have h0 : canB 1 3 1 SB (0 : Nat) = true := canB_is 0 (fun _ => 46) (fun k => if k = 1 then 1 else 0) (by
    refine ⟨fun i hi => by decide, fun k hk hf => ?_, fun k hk hf => ?_, fun k hk hn => ?_⟩
    all_goals (have hk2 : k < 2 := hk)
    all_goals (rcases (show k = 0 ∨ k = 1 by omega) with rfl | rfl)
    all_goals first | decide | (exact absurd hf (by decide)) | (exact absurd rfl hn))
  have h1 : canB 1 3 1 SB (1 : Nat) = true := canB_is 1 (fun _ => 50) (fun k => if k = 1 then 1 else 0) (by
    refine ⟨fun i hi => by decide, fun k hk hf => ?_, fun k hk hf => ?_, fun k hk hn => ?_⟩
    all_goals (have hk2 : k < 2 := hk)
    all_goals (rcases (show k = 0 ∨ k = 1 by omega) with rfl | rfl)
    all_goals first | decide | (exact absurd hf (by decide)) | (exact absurd rfl hn))
  unfold wrongR
  rw [if_neg (by decide +kernel)]
  show (wrongUpto (fun k => canB 1 3 1 SB k) 2, (0 : Int)) = _
  simp only [wrongUpto, h0, h1, if_true]
  rfl
theorem wrongA : wrongR 1 3 2 SA = ([0, 1, 2], 0) := by
  have h : ∀ k : Nat, canB 1 3 2 SA k = true := fun k => truth_can okA (sharp := [50, 41]) (tired := [0, 1, 3]) (by decide +kernel) k
  unfold wrongR
  rw [if_neg (by decide +kernel)]
  show (wrongUpto (fun k => canB 1 3 2 SA k) 3, (0 : Int)) = _
  simp only [wrongUpto, h, if_true]
  rfl
end Go.Proofs.Ytkbcogaodnmdoaa
