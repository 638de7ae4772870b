/- Books: lemmas for the rows of this seat. No conditions. -/
import Derived.Test.YtkbcogaodnmdoaaProg
import Derived.WalkKit
import Derived.WalkSpells
import Derived.WalkLawsBesides
import Derived.Lib.Hide
import Derived.Deep.AppendLies
import Derived.Deep.Draws
import Derived.Maps.AppendAt
import Derived.RegionTactic
import Derived.OwnWalk
import Derived.Deep.QuietTactic
import Derived.BigQuiet
import Derived.Deep.DeepFit
import Derived.Deep.LoopGhost
import Derived.Deep.DeepMust
import Derived.Deep.DeepCutAuto
import Derived.StillTail
import Derived.Deep.Quiet
import Derived.Deep.RegionHeld3
import Derived.Deep.RegionWith
import Derived.Deep.RegionLaw
import Derived.Maps.OwnOps
import Derived.Maps.OwnSet
import Derived.Maps.OwnRows
import Derived.Maps.RangeWalk
import Derived.Carry
import Derived.Test.YtkbcogaodnmdoaaBase
import Derived.Test.YtkbcogaodnmdoaaMaps
import Derived.Test.YtkbcogaodnmdoaaKeys
import Derived.Test.YtkbcogaodnmdoaaS1
import Derived.Test.YtkbcogaodnmdoaaS5
import Derived.Test.YtkbcogaodnmdoaaS14
import Derived.Test.YtkbcogaodnmdoaaV
import Derived.Test.YtkbcogaodnmdoaaTab
import Derived.Test.YtkbcogaodnmdoaaE1
set_option linter.all false
namespace Go.Proofs.Ytkbcogaodnmdoaa
open Go.RowKit
/-! ## Books -/
abbrev T3 := Int × Int × Int
/-- Layer 1: what a taste says, as it is written. -/
def saidL (x : T3) : List Value := [.int .i64 x.1, .int .i64 x.2.1, .int .i64 x.2.2]
def saidCells : List T3 → List Value
  | [] => []
  | x :: l => saidL x ++ saidCells l
def nestOf (S : List (List T3)) : List (Nat × List Value) := S.map fun s => (s.length, saidCells s)
def bookV (rlo rhi lots : Int) (A : Option Addr) (n c : Nat) : Value := .agg #[.int .i64 rlo, .int .i64 rhi, .int .i64 lots, .slice A n c]
theorem saidCells_append (l m : List T3) : saidCells (l ++ m) = saidCells l ++ saidCells m := by
  induction l with
  | nil => rfl
  | cons x l ih => simp [saidCells, ih]
theorem saidCells_length (l : List T3) : (saidCells l).length = l.length * 3 := by
  induction l with
  | nil => rfl
  | cons x l ih => simp [saidCells, saidL, ih]; omega
theorem saidCells_one (l : List T3) : ∀ u ∈ saidCells l, u.oneCell' = true := by
  induction l with
  | nil => simp [saidCells]
  | cons x l ih =>
    intro u hu
    simp only [saidCells, saidL, List.cons_append, List.nil_append, List.mem_cons] at hu
    rcases hu with rfl | rfl | rfl | hu
    · rfl
    · rfl
    · rfl
    · exact ih u hu
theorem saidCells_get (l : List T3) (k : Nat) (hk : k < l.length) (j : Nat) (hj : j < 3) : (saidCells l)[k * 3 + j]? = (saidL (l[k]?.getD (0, 0, 0)))[j]? := by
  induction l generalizing k with
  | nil => simp at hk
  | cons x l ih =>
    cases k with
    | zero =>
      simp only [saidCells, Nat.zero_mul, Nat.zero_add]
      rw [List.getElem?_append_left (by simp [saidL]; omega)]
      rfl
    | succ k =>
      rw [show (k + 1) * 3 + j = 3 + (k * 3 + j) by omega, saidCells, List.getElem?_append_right (by simp [saidL]), show 3 + (k * 3 + j) - (saidL x).length = k * 3 + j by simp [saidL]]
      rw [ih k (by simpa using hk), List.getElem?_cons_succ]
theorem said_cells {w : World} {n : Nat} {b o : Nat} {l : List T3} (h : Reads w w.heap.size 3 (some ⟨b, o, none⟩) n (saidCells l)) {k : Nat} (hk : k < l.length) (hn : 0 < n) (A : List Chunk) : CellsAt w A b (o + k * 3) (saidL (l[k]?.getD (0, 0, 0))) := by
  obtain ⟨b', o', he, hb, h1⟩ := h.2 hn
  cases he
  intro w' hs j u hu
  have hj : j < 3 := by
    have := (List.getElem?_eq_some_iff.1 hu).1
    simpa [saidL] using this
  rw [Nat.add_assoc, hs.base.cell (p := ⟨b, o + (k * 3 + j), none⟩) hb]
  exact h1 _ u (by rw [saidCells_get l k hk j hj]; exact hu)
theorem CellsAt.sub {w0 : World} {A : List Chunk} {b o j : Nat} {cs : List Value} (h : CellsAt w0 A b o cs) (xs : List Value) (hx : ∀ i u, xs[i]? = some u → cs[j + i]? = some u) : CellsAt w0 A b (o + j) xs := fun w hs i u hu => by
  rw [Nat.add_assoc]; exact h w hs (j + i) u (hx i u hu)
theorem CellsAt.cell {w0 : World} {A : List Chunk} {b o j : Nat} {cs : List Value} {v : Value} (h : CellsAt w0 A b o cs) (hx : cs[j]? = some v) : CellAt w0 A b (o + j) v := fun w hs => h w hs j v hx
theorem catN_nest (S : List (List T3)) : catN (nestOf S) = saidCells S.flatten := by
  induction S with
  | nil => rfl
  | cons s S ih => simp only [nestOf, List.map_cons, catN, List.flatten_cons, saidCells_append] at *; rw [ih]
theorem sumN_nest (S : List (List T3)) : sumN (nestOf S) = S.flatten.length := by
  induction S with
  | nil => rfl
  | cons s S ih => simp only [nestOf, List.map_cons, sumN, List.flatten_cons, List.length_append] at *; rw [ih]
/-- A range is valid, between two bounds. -/
def rangeB (lo hi a b : Int) : Bool := decide (lo ≤ a ∧ a ≤ b ∧ b ≤ hi)
theorem range_within (lo hi a b : Int) : (within lo hi [a, b] && decide (a ≤ b)) = rangeB lo hi a b := by
  unfold within rangeB badIn
  rw [Bool.eq_iff_iff]
  simp
  omega
set_option maxRecDepth 20000 in
theorem isRange_any (lo hi a b : Int) (w : World) : Calls Try.prog 54 #[.agg #[.int .i64 a, .int .i64 b], .int .i64 lo, .int .i64 hi] w fun e w' => e = .returned (.bool (rangeB lo hi a b)) ∧ Below w.heap.size w w' := by
  have hr := range_within lo hi a b
  rw [← hr]
  generalize hwi : within lo hi [a, b] = bb
  refine fn_v Try.tabOk (n := 22) (A := []) Try.func54 rfl rfl (Nat.le_of_ble_eq_true rfl) (St.nil (Below.refl _ _)) ?_
  ((try first | apply tr_v Try.tabOk | apply ot_v Try.tabOk); (conv => whnf); (repeat ((first | (apply VLd.mk; (focus ((repeat (first | ((with_reducible apply ld_blk); exact rfl) | ((with_reducible apply ld_row); exact rfl) | ((with_reducible apply ld_row0); exact rfl) | (with_reducible assumption) | (with_reducible exact CellAt.base (by assumption)) | (with_reducible apply ld_skip))); done))) | (apply VNew.mk; intro g hg)); (conv => whnf))); try (first | apply VStop.mk | apply VCall.stop))
  refine ot_call_q rfl rfl rfl (by kernel_rfl) (evl_of rfl) (fun w1 hs => by have := within_any _ 2 [a, b] lo hi w1 (hs.blk_reads (by (repeat (first | exact List.Mem.head _ | assumption | refine List.Mem.tail _ ?_))) rfl) (by simp [maxLen]); rw [hwi] at this; exact this) ?_
  cases bb
  · ((try first | apply tr_v Try.tabOk | apply ot_v Try.tabOk); (conv => whnf); (repeat ((first | apply VBr.f); (conv => whnf))); try (first | apply VStop.mk | apply VCall.stop))
    ((apply VRet.mk); refine ret1 (by first | exact .inl rfl | exact .inr rfl) rfl (by exact rv_tmp rfl) ?_; exact fun w h => ⟨rfl, h.base⟩)
  · by_cases e : a ≤ b
    · rw [decide_eq_true e]
      ((try first | apply tr_v Try.tabOk | apply ot_v Try.tabOk); (conv => whnf); (repeat ((first | (apply VLd.mk; (focus ((repeat (first | ((with_reducible apply ld_blk); exact rfl) | ((with_reducible apply ld_row); exact rfl) | ((with_reducible apply ld_row0); exact rfl) | (with_reducible assumption) | (with_reducible exact CellAt.base (by assumption)) | (with_reducible apply ld_skip))); done))) | apply VBr.t | (apply v_t; omega)); (conv => whnf))); try (first | apply VStop.mk | apply VCall.stop))
      ((apply VRet.mk); refine ret1 (by first | exact .inl rfl | exact .inr rfl) rfl (by exact rv_tmp rfl) ?_; exact fun w h => ⟨rfl, h.base⟩)
    · rw [decide_eq_false e]
      ((try first | apply tr_v Try.tabOk | apply ot_v Try.tabOk); (conv => whnf); (repeat ((first | (apply VLd.mk; (focus ((repeat (first | ((with_reducible apply ld_blk); exact rfl) | ((with_reducible apply ld_row); exact rfl) | ((with_reducible apply ld_row0); exact rfl) | (with_reducible assumption) | (with_reducible exact CellAt.base (by assumption)) | (with_reducible apply ld_skip))); done))) | apply VBr.t | (apply v_f; omega)); (conv => whnf))); try (first | apply VStop.mk | apply VCall.stop))
      ((apply VRet.mk); refine ret1 (by first | exact .inl rfl | exact .inr rfl) rfl (by exact rv_tmp rfl) ?_; exact fun w h => ⟨rfl, h.base⟩)
set_option maxRecDepth 20000 in
theorem refRange_any (lo hi a b : Int) (w : World) : Calls Try.prog 59 #[.agg #[.int .i64 a, .int .i64 b], .int .i64 lo, .int .i64 hi] w fun e w' => e = .returned (.bool (rangeB lo hi a b)) ∧ Below w.heap.size w w' := by
  unfold rangeB
  refine fn_v Try.tabOk (n := 24) (A := []) Try.func59 rfl rfl (Nat.le_of_ble_eq_true rfl) (St.nil (Below.refl _ _)) ?_
  by_cases e1 : lo ≤ a
  · by_cases e2 : a ≤ b
    · by_cases e3 : b ≤ hi
      · rw [decide_eq_true ⟨e1, e2, e3⟩]
        ((try first | apply tr_v Try.tabOk | apply ot_v Try.tabOk); (conv => whnf); (repeat ((first | (apply VLd.mk; (focus ((repeat (first | ((with_reducible apply ld_blk); exact rfl) | ((with_reducible apply ld_row); exact rfl) | ((with_reducible apply ld_row0); exact rfl) | (with_reducible assumption) | (with_reducible exact CellAt.base (by assumption)) | (with_reducible apply ld_skip))); done))) | apply VBr.t | (apply v_t; omega) | (apply VNew.mk; intro g hg)); (conv => whnf))); try (first | apply VStop.mk | apply VCall.stop))
        ((apply VRet.mk); refine ret1 (by first | exact .inl rfl | exact .inr rfl) rfl (by exact rv_tmp rfl) ?_; exact fun w h => ⟨rfl, h.base⟩)
      · rw [decide_eq_false (by omega)]
        ((try first | apply tr_v Try.tabOk | apply ot_v Try.tabOk); (conv => whnf); (repeat ((first | (apply VLd.mk; (focus ((repeat (first | ((with_reducible apply ld_blk); exact rfl) | ((with_reducible apply ld_row); exact rfl) | ((with_reducible apply ld_row0); exact rfl) | (with_reducible assumption) | (with_reducible exact CellAt.base (by assumption)) | (with_reducible apply ld_skip))); done))) | apply VBr.t | (apply v_t; omega) | (apply v_f; omega) | (apply VNew.mk; intro g hg)); (conv => whnf))); try (first | apply VStop.mk | apply VCall.stop))
        ((apply VRet.mk); refine ret1 (by first | exact .inl rfl | exact .inr rfl) rfl (by exact rv_tmp rfl) ?_; exact fun w h => ⟨rfl, h.base⟩)
    · rw [decide_eq_false (by omega)]
      ((try first | apply tr_v Try.tabOk | apply ot_v Try.tabOk); (conv => whnf); (repeat ((first | (apply VLd.mk; (focus ((repeat (first | ((with_reducible apply ld_blk); exact rfl) | ((with_reducible apply ld_row); exact rfl) | ((with_reducible apply ld_row0); exact rfl) | (with_reducible assumption) | (with_reducible exact CellAt.base (by assumption)) | (with_reducible apply ld_skip))); done))) | apply VBr.t | apply VBr.f | (apply v_t; omega) | (apply v_f; omega) | (apply VNew.mk; intro g hg)); (conv => whnf))); try (first | apply VStop.mk | apply VCall.stop))
      ((apply VRet.mk); refine ret1 (by first | exact .inl rfl | exact .inr rfl) rfl (by exact rv_tmp rfl) ?_; exact fun w h => ⟨rfl, h.base⟩)
  · rw [decide_eq_false (by omega)]
    ((try first | apply tr_v Try.tabOk | apply ot_v Try.tabOk); (conv => whnf); (repeat ((first | (apply VLd.mk; (focus ((repeat (first | ((with_reducible apply ld_blk); exact rfl) | ((with_reducible apply ld_row); exact rfl) | ((with_reducible apply ld_row0); exact rfl) | (with_reducible assumption) | (with_reducible exact CellAt.base (by assumption)) | (with_reducible apply ld_skip))); done))) | apply VBr.f | (apply v_f; omega) | (apply VNew.mk; intro g hg)); (conv => whnf))); try (first | apply VStop.mk | apply VCall.stop))
    ((apply VRet.mk); refine ret1 (by first | exact .inl rfl | exact .inr rfl) rfl (by exact rv_tmp rfl) ?_; exact fun w h => ⟨rfl, h.base⟩)
/-- A taste is not as described. -/
def strayB (lots : Int) (x : T3) : Bool := !(decide (0 ≤ x.1 ∧ x.1 < lots)) || !rangeB (-1000) 1000 x.2.1 x.2.2
theorem within_one (lo hi n : Int) : within lo hi [n] = decide (lo ≤ n ∧ n ≤ hi) := by
  unfold within badIn
  rw [Bool.eq_iff_iff]
  simp
set_option maxRecDepth 20000 in
theorem stray_any (x : T3) (lots : Int) (g : Nat) (cs : List Value) (w : World) (hl : -1000 ≤ lots ∧ lots ≤ 1000) (hc : w.cell? ⟨g, 2, none⟩ = some (.int .i64 lots)) :
    Calls Try.prog 56 #[.agg #[.int .i64 x.1, .int .i64 x.2.1, .int .i64 x.2.2], .pointer (some ⟨g, 0, none⟩)] w fun e w' => e = .returned (.bool (strayB lots x)) ∧ Below w.heap.size w w' := by
  obtain ⟨x1, x2, x3⟩ := x
  have hsb : strayB lots (x1, x2, x3) = (!(decide (0 ≤ x1 ∧ x1 < lots)) || !rangeB (-1000) 1000 x2 x3) := rfl
  rw [hsb]
  have hwi := within_one 0 (lots - 1) x1
  rw [show decide (0 ≤ x1 ∧ x1 ≤ lots - 1) = decide (0 ≤ x1 ∧ x1 < lots) by rw [Bool.eq_iff_iff]; simp; omega] at hwi
  have hra := fun w1 => isRange_any (-1000) 1000 x2 x3 w1
  generalize decide (0 ≤ x1 ∧ x1 < lots) = b1 at *
  generalize rangeB (-1000) 1000 x2 x3 = b2 at *
  refine fn_v Try.tabOk (n := 18) (A := []) Try.func56 rfl rfl (Nat.le_of_ble_eq_true rfl) (St.nil (Below.refl _ _)) ?_
  ((try first | apply tr_v Try.tabOk | apply ot_v Try.tabOk); (conv => whnf); (repeat ((first | (apply VLd.mk; (focus ((repeat (first | ((with_reducible apply ld_blk); exact rfl) | ((with_reducible apply ld_row); exact rfl) | ((with_reducible apply ld_row0); exact rfl) | (with_reducible assumption) | (with_reducible exact CellAt.base (by assumption)) | (with_reducible apply ld_skip))); done))) | (apply VRng.mk; omega) | (apply VNew.mk; intro g hg)); (conv => whnf))); try (first | apply VStop.mk | apply VCall.stop))
  refine ot_call_q rfl rfl rfl (by kernel_rfl) (evl_of rfl) (fun w1 hs => by have := within_any _ 1 [x1] 0 (lots - 1) w1 (hs.blk_reads (by (repeat (first | exact List.Mem.head _ | assumption | refine List.Mem.tail _ ?_))) rfl) (by simp [maxLen]); rw [hwi] at this; exact this) ?_
  cases b1
  · ((try first | apply tr_v Try.tabOk | apply ot_v Try.tabOk); (conv => whnf); (repeat ((first | apply VBr.t); (conv => whnf))); try (first | apply VStop.mk | apply VCall.stop))
    ((apply VRet.mk); refine ret1 (by first | exact .inl rfl | exact .inr rfl) rfl (by exact rv_tmp rfl) ?_; exact fun w h => ⟨rfl, h.base⟩)
  · ((try first | apply tr_v Try.tabOk | apply ot_v Try.tabOk); (conv => whnf); (repeat ((first | (apply VCall.q; kernel_rfl; (focus (intro w1 hs; first | with_reducible apply hra w1))) | apply VBr.f | (apply VLdN.sub; (focus ((repeat (first | (with_reducible apply ldn_blk) | (with_reducible apply ldn_row) | (with_reducible assumption) | (with_reducible apply ldn_skip))); done)); exact rfl)); (conv => whnf))); try (first | apply VStop.mk | apply VCall.stop))
    cases b2
    · ((try first | apply tr_v Try.tabOk | apply ot_v Try.tabOk); (conv => whnf); try (first | apply VStop.mk | apply VCall.stop))
      ((apply VRet.mk); refine ret1 (by first | exact .inl rfl | exact .inr rfl) rfl (by exact rv_tmp rfl) ?_; exact fun w h => ⟨rfl, h.base⟩)
    · ((try first | apply tr_v Try.tabOk | apply ot_v Try.tabOk); (conv => whnf); try (first | apply VStop.mk | apply VCall.stop))
      ((apply VRet.mk); refine ret1 (by first | exact .inl rfl | exact .inr rfl) rfl (by exact rv_tmp rfl) ?_; exact fun w h => ⟨rfl, h.base⟩)
/-! ## CheckBook -/
set_option maxRecDepth 20000 in
theorem index57_any (Al : Option Addr) (c : Nat) (l : List T3) (lots : Int) (g : Nat) (w : World) (h : Reads w w.heap.size 3 Al l.length (saidCells l)) (hm : l.length ≤ 1000) (hl : -1000 ≤ lots ∧ lots ≤ 1000) (hc : w.cell? ⟨g, 2, none⟩ = some (.int .i64 lots)) :
    Calls Try.prog 83 #[.slice Al l.length c, .func (.func 56) #[] #[.pointer (some ⟨g, 0, none⟩)]] w fun e w' => e = .returned (.int .i64 (firstBad (strayB lots) (0, 0, 0) l l.length 0)) ∧ Below w.heap.size w w' := by
  have c1 : ∀ A, CellAt w A g 2 _ := fun A => CellAt.base hc
  refine fn_v Try.tabOk (n := 19) (A := []) Try.func83 rfl rfl (Nat.le_of_ble_eq_true rfl) (St.nil (Below.refl _ _)) ?_
  ((try first | apply tr_v Try.tabOk | apply ot_v Try.tabOk); (conv => whnf); try (first | apply VStop.mk | apply VCall.stop))
  refine v_loop (fun gm ds ts A => ds = [] ∧ A = [] ∧ ∃ j, j + gm = l.length ∧ firstBad (strayB lots) (0, 0, 0) l l.length 0 = firstBad (strayB lots) (0, 0, 0) l gm j ∧ ts = [(0, .slice Al l.length c), (1, .func (.func 56) #[] #[.pointer (some ⟨g, 0, none⟩)]), (7, .int .i64 (l.length : Int)), (8, .int .i64 (j : Int))]) l.length (l := [(0, _), (1, _), (7, _), (8, _)]) (B := _) ?_ (List.Sublist.refl _) ⟨rfl, rfl, 0, by omega, rfl, rfl⟩ ?_
  · exact ⟨rfl, rfl, rfl, rfl, trivial⟩
  rintro gm ds ts A ⟨rfl, rfl, j, hj, hres, rfl⟩
  by_cases hlt : j < l.length
  · obtain ⟨b, o, rfl, _⟩ := h.2 (by omega)
    have hce := said_cells h hlt (by omega)
    have hf := fun w1 (hs : St w [] w1) => stray_any (l[j]?.getD (0, 0, 0)) lots g [] w1 hl (c1 _ w1 hs)
    obtain ⟨gm, rfl⟩ : ∃ g, gm = g + 1 := ⟨gm - 1, by omega⟩
    rw [firstBad] at hres
    generalize l[j]?.getD (0, 0, 0) = x at *
    obtain ⟨x1, x2, x3⟩ := x
    change ∀ A, CellsAt w A b (o + j * 3) [.int .i64 x1, .int .i64 x2, .int .i64 x3] at hce
    dsimp only at hf
    cases hx : strayB lots (x1, x2, x3) with
    | true =>
      rw [hx] at hf
      rw [hx, if_pos rfl] at hres
      ((try first | apply tr_v Try.tabOk | apply ot_v Try.tabOk); (conv => whnf); (repeat ((first | (apply VLdN.mk; exact hce _; exact rfl) | (apply VCall.q; kernel_rfl; (focus (intro w1 hs; first | with_reducible apply hf w1 hs))) | apply VBr.t | (apply v_t; omega) | (apply VIx.mk; exact rfl; omega)); (conv => whnf))); try (first | apply VStop.mk | apply VCall.stop))
      (apply VRet.mk)
      refine ret1 (by first | exact .inl rfl | exact .inr rfl) rfl (by exact rv_tmp rfl) ?_
      exact fun w h => ⟨by rw [hres], h.base⟩
    | false =>
      rw [hx] at hf
      rw [hx, if_neg (by simp)] at hres
      ((try first | apply tr_v Try.tabOk | apply ot_v Try.tabOk); (conv => whnf); (repeat ((first | (apply VLdN.mk; exact hce _; exact rfl) | (apply VCall.q; kernel_rfl; (focus (intro w1 hs; first | with_reducible apply hf w1 hs))) | (apply VRng.mk; omega) | apply VBr.t | apply VBr.f | (apply v_t; omega) | (apply VIx.mk; exact rfl; omega)); (conv => whnf))); try (first | apply VStop.mk | apply VCall.stop))
      exact v_rnd gm (by omega) (l := [(0, _), (1, _), (7, _), (8, _)]) (B := []) ⟨rfl, rfl, rfl, rfl, trivial⟩ (List.nil_sublist _) ⟨rfl, rfl, j + 1, by omega, hres, rfl⟩
  · obtain rfl : gm = 0 := by omega
    ((try first | apply tr_v Try.tabOk | apply ot_v Try.tabOk); (conv => whnf); (repeat ((first | apply VBr.f | (apply v_f; omega)); (conv => whnf))); try (first | apply VStop.mk | apply VCall.stop))
    (apply VRet.mk)
    refine ret1 (by first | exact .inl rfl | exact .inr rfl) rfl (by exact rv_tmp rfl) ?_
    exact fun w h => ⟨by rw [hres]; rfl, h.base⟩
set_option maxRecDepth 20000 in
theorem contains57_any (Al : Option Addr) (c : Nat) (l : List T3) (lots : Int) (g : Nat) (w : World) (h : Reads w w.heap.size 3 Al l.length (saidCells l)) (hm : l.length ≤ 1000) (hl : -1000 ≤ lots ∧ lots ≤ 1000) (hc : w.cell? ⟨g, 2, none⟩ = some (.int .i64 lots)) :
    Calls Try.prog 57 #[.slice Al l.length c, .func (.func 56) #[] #[.pointer (some ⟨g, 0, none⟩)]] w fun e w' => e = .returned (.bool (l.any (strayB lots))) ∧ Below w.heap.size w w' := by
  have hq := firstBad_any (strayB lots) (0, 0, 0) l l.length 0 (by omega)
  rw [List.drop_zero] at hq
  rw [← hq]
  have hf := fun w1 (hs : St w [] w1) => index57_any Al c l lots g w1 (hs.reads h) hm hl (CellAt.base hc w1 hs)
  refine fn_v Try.tabOk (n := 9) (A := []) Try.func57 rfl rfl (Nat.le_of_ble_eq_true rfl) (St.nil (Below.refl _ _)) ?_
  ((try first | apply tr_v Try.tabOk | apply ot_v Try.tabOk); (conv => whnf); (repeat ((first | (apply VCall.q; kernel_rfl; (focus (intro w1 hs; first | with_reducible apply hf w1 hs))) | apply v_d); (conv => whnf))); try (first | apply VStop.mk | apply VCall.stop))
  ((apply VRet.mk); refine ret1 (by first | exact .inl rfl | exact .inr rfl) rfl (by exact rv_tmp rfl) ?_; exact fun w h => ⟨rfl, h.base⟩)
/-- Whether a sitting has no taste, or there are too many, as the program finds it. -/
def scanP : Nat → List (List T3) → Bool
  | _, [] => false
  | m, s :: S => if s.length = 0 ∨ 12 < m + s.length then true else scanP (m + s.length) S
def scanR : List (List T3) → Bool
  | [] => false
  | s :: S => if s.length = 0 ∨ 12 < s.length then true else scanR S
def manyB (S : List (List T3)) : Bool := S.any (fun s => decide (s.length = 0)) || decide (12 < S.flatten.length)
theorem scanP_eq (S : List (List T3)) : ∀ m, m ≤ 12 → scanP m S = (S.any (fun s => decide (s.length = 0)) || decide (12 < m + S.flatten.length)) := by
  induction S with
  | nil => intro m hm; simp [scanP]; omega
  | cons s S ih =>
    intro m hm
    simp only [scanP, List.any_cons, List.flatten_cons, List.length_append]
    by_cases h : s.length = 0 ∨ 12 < m + s.length
    · rw [if_pos h]
      symm
      rw [Bool.or_eq_true, Bool.or_eq_true]
      rcases h with h | h
      · exact .inl (.inl (decide_eq_true h))
      · exact .inr (decide_eq_true (by omega))
    · rw [if_neg h, ih _ (by omega), show decide (s.length = 0) = false from decide_eq_false (by omega), Bool.false_or]
      congr 1
      rw [Nat.add_assoc]
theorem scanR_eq (S : List (List T3)) : (scanR S || decide (12 < S.flatten.length)) = manyB S := by
  unfold manyB
  induction S with
  | nil => rfl
  | cons s S ih =>
    simp only [scanR, List.any_cons, List.flatten_cons, List.length_append]
    by_cases h : s.length = 0 ∨ 12 < s.length
    · rw [if_pos h]
      symm
      simp only [Bool.true_or]
      rw [Bool.or_eq_true, Bool.or_eq_true]
      rcases h with h | h
      · exact .inl (.inl (decide_eq_true h))
      · exact .inr (decide_eq_true (by omega))
    · rw [if_neg h, show decide (s.length = 0) = false from decide_eq_false (by omega), Bool.false_or]
      by_cases h2 : 12 < S.flatten.length
      · rw [decide_eq_true (show 12 < s.length + S.flatten.length by omega)]; simp
      · rw [decide_eq_false h2, Bool.or_false, Bool.or_false] at ih
        rw [ih]
theorem flat_step (S : List (List T3)) (j : Nat) (h : j < S.length) : (S.take (j + 1)).flatten = (S.take j).flatten ++ S[j] := by
  rw [take_snoc S j h, List.flatten_append, List.flatten_singleton]
/-- Layer 1: CheckBook. -/
def chkBook (rlo rhi lots : Int) (S : List (List T3)) : Int :=
  if rangeB 0 50 rlo rhi = false then 3 else if lots < 1 ∨ 6 < lots ∨ 4 < S.length then 6 else if manyB S = true then 6 else if S.flatten.any (strayB lots) = true then 3 else 0
theorem nestOf_length (S : List (List T3)) : (nestOf S).length = S.length := by simp [nestOf]
theorem nest_at {w : World} {A : Option Addr} {S : List (List T3)} (h : NestR w 3 A (nestOf S)) {j : Nat} (hj : j < S.length) :
    ∃ b o, A = some ⟨b, o, none⟩ ∧ ∃ B c, (∀ Ch, CellAt w Ch b (o + j * 1) (.slice B S[j].length c)) ∧ Reads w w.heap.size 3 B S[j].length (saidCells S[j]) := by
  obtain ⟨vs, hv, hi⟩ := h
  rw [nestOf_length] at hv
  obtain ⟨b, o, rfl, _, hcell⟩ := hv.2 (by omega)
  obtain ⟨B, c, e1, hr⟩ := hi j (by rw [nestOf_length]; exact hj)
  have e2 : (nestOf S)[j]'(by rw [nestOf_length]; exact hj) = (S[j].length, saidCells S[j]) := by simp [nestOf]
  rw [e2] at e1 hr
  exact ⟨b, o, rfl, B, c, fun Ch => CellAt.base (by rw [Nat.mul_one]; exact hcell j _ e1), hr⟩
theorem St.nest {w w' : World} {Ch : List Chunk} {sz : Nat} {A : Option Addr} {L : List (Nat × List Value)} (hs : St w Ch w') (h : NestR w sz A L) : NestR w' sz A L := by
  obtain ⟨vs, hv, hi⟩ := h
  exact ⟨vs, hs.reads hv, fun i hl => by obtain ⟨B, c, h1, h2⟩ := hi i hl; exact ⟨B, c, h1, hs.reads h2⟩⟩
/-- A book that is not too great to look at. -/
structure Fit (S : List (List T3)) : Prop where
  len : S.length ≤ 8
  all : ∀ s ∈ S, s.length ≤ 16
theorem Fit.sum : ∀ {S : List (List T3)}, (∀ s ∈ S, s.length ≤ 16) → S.flatten.length ≤ 16 * S.length := by
  intro S
  induction S with
  | nil => simp
  | cons s S ih =>
    intro h
    have h1 := ih fun x hx => h x (.tail _ hx)
    have h2 := h s (.head _)
    simp only [List.flatten_cons, List.length_append, List.length_cons]
    omega
theorem Fit.at_ {S : List (List T3)} (h : Fit S) {j : Nat} (hj : j < S.length) : S[j].length ≤ 16 := h.all _ (List.getElem_mem hj)
theorem Fit.total {S : List (List T3)} (h : Fit S) : S.flatten.length ≤ 128 := by
  have := Fit.sum h.all
  have := h.len
  omega
section
variable (rlo rhi lots : Int) (Al : Option Addr) (c : Nat) (S : List (List T3)) (w : World) (hN : NestR w 3 Al (nestOf S)) (hF : Fit S)
include hN hF
set_option maxHeartbeats 2000000 in
set_option maxRecDepth 20000 in
theorem checkBook_any : Calls Try.prog 21 #[bookV rlo rhi lots Al S.length c] w fun e w' => e = .returned (.int .i64 (chkBook rlo rhi lots S)) ∧ Below w.heap.size w w' := by
  unfold bookV
  have hlen := hF.len
  have htot := hF.total
  have hra := fun w1 => isRange_any 0 50 rlo rhi w1
  have hck : chkBook rlo rhi lots S = if rangeB 0 50 rlo rhi = false then 3 else if lots < 1 ∨ 6 < lots ∨ 4 < S.length then 6 else if manyB S = true then 6 else if S.flatten.any (strayB lots) = true then 3 else 0 := rfl
  generalize rangeB 0 50 rlo rhi = b1 at *
  refine fn_v Try.tabOk (n := 49) (A := []) Try.func21 rfl rfl (Nat.le_of_ble_eq_true rfl) (St.nil (Below.refl _ _)) ?_
  cases b1 with
  | false =>
    rw [if_pos rfl] at hck
    rw [hck]
    ((try first | apply tr_v Try.tabOk | apply ot_v Try.tabOk); (conv => whnf); (repeat ((first | (apply VCall.q; kernel_rfl; (focus (intro w1 hs; first | with_reducible apply hra w1))) | apply VBr.t | (apply VNew.mk; intro g hg) | (apply VLdN.sub; (focus ((repeat (first | (with_reducible apply ldn_blk) | (with_reducible apply ldn_row) | (with_reducible assumption) | (with_reducible apply ldn_skip))); done)); exact rfl)); (conv => whnf))); try (first | apply VStop.mk | apply VCall.stop))
    ((apply VRet.mk); refine ret1 (by first | exact .inl rfl | exact .inr rfl) rfl (by exact rv_tmp rfl) ?_; exact fun w h => ⟨rfl, h.base⟩)
  | true =>
    rw [if_neg (by simp)] at hck
    have hwi := within_one 1 6 lots
    ((try first | apply tr_v Try.tabOk | apply ot_v Try.tabOk); (conv => whnf); (repeat ((first | (apply VCall.q; kernel_rfl; (focus (intro w1 hs; first | with_reducible apply hra w1))) | (apply VLd.mk; (focus ((repeat (first | ((with_reducible apply ld_blk); exact rfl) | ((with_reducible apply ld_row); exact rfl) | ((with_reducible apply ld_row0); exact rfl) | (with_reducible assumption) | (with_reducible exact CellAt.base (by assumption)) | (with_reducible apply ld_skip))); done))) | apply VBr.f | (apply VNew.mk; intro g hg) | (apply VLdN.sub; (focus ((repeat (first | (with_reducible apply ldn_blk) | (with_reducible apply ldn_row) | (with_reducible assumption) | (with_reducible apply ldn_skip))); done)); exact rfl)); (conv => whnf))); try (first | apply VStop.mk | apply VCall.stop))
    refine ot_call_q rfl rfl rfl (by kernel_rfl) (evl_of rfl) (fun w1 hs => by have := within_any _ 1 [lots] 1 6 w1 (hs.blk_reads (by (repeat (first | exact List.Mem.head _ | assumption | refine List.Mem.tail _ ?_))) rfl) (by simp [maxLen]); rw [hwi] at this; exact this) ?_
    by_cases hlo : 1 ≤ lots ∧ lots ≤ 6
    rotate_left
    · rw [decide_eq_false hlo]
      rw [if_pos (by omega)] at hck
      rw [hck]
      ((try first | apply tr_v Try.tabOk | apply ot_v Try.tabOk); (conv => whnf); (repeat ((first | apply VBr.t); (conv => whnf))); try (first | apply VStop.mk | apply VCall.stop))
      ((apply VRet.mk); refine ret1 (by first | exact .inl rfl | exact .inr rfl) rfl (by exact rv_tmp rfl) ?_; exact fun w h => ⟨rfl, h.base⟩)
    · rw [decide_eq_true hlo]
      by_cases h4 : 4 < (S.length : Int)
      · rw [if_pos (by omega)] at hck
        rw [hck]
        ((try first | apply tr_v Try.tabOk | apply ot_v Try.tabOk); (conv => whnf); (repeat ((first | (apply VLd.mk; (focus ((repeat (first | ((with_reducible apply ld_blk); exact rfl) | ((with_reducible apply ld_row); exact rfl) | ((with_reducible apply ld_row0); exact rfl) | (with_reducible assumption) | (with_reducible exact CellAt.base (by assumption)) | (with_reducible apply ld_skip))); done))) | apply VBr.t | apply VBr.f | (apply v_t; omega)); (conv => whnf))); try (first | apply VStop.mk | apply VCall.stop))
        ((apply VRet.mk); refine ret1 (by first | exact .inl rfl | exact .inr rfl) rfl (by exact rv_tmp rfl) ?_; exact fun w h => ⟨rfl, h.base⟩)
      · rw [if_neg (by omega)] at hck
        have hsc := scanP_eq S 0 (by omega)
        rw [Nat.zero_add] at hsc
        change scanP 0 S = manyB S at hsc
        rw [← hsc] at hck
        clear hsc
        ((try first | apply tr_v Try.tabOk | apply ot_v Try.tabOk); (conv => whnf); (repeat ((first | (apply VLd.mk; (focus ((repeat (first | ((with_reducible apply ld_blk); exact rfl) | ((with_reducible apply ld_row); exact rfl) | ((with_reducible apply ld_row0); exact rfl) | (with_reducible assumption) | (with_reducible exact CellAt.base (by assumption)) | (with_reducible apply ld_skip))); done))) | apply VBr.f | (apply v_f; omega)); (conv => whnf))); try (first | apply VStop.mk | apply VCall.stop))
        rename_i g0 hg0
        refine v_loop (fun gm ds ts A => ds = [] ∧ ∃ j, j + gm = S.length ∧ (S.take j).flatten.length ≤ 12 ∧ scanP 0 S = scanP (S.take j).flatten.length (S.drop j) ∧ A = [.blk g0 26 [.int .i64 rlo, .int .i64 rhi, .int .i64 lots, .slice Al S.length c]] ∧ ts = [(1, .pointer (some ⟨g0, 0, none⟩)), (3, .int .i64 ((S.take j).flatten.length : Int)), (25, .slice Al S.length c), (26, .int .i64 (S.length : Int)), (27, .int .i64 (j : Int))]) S.length
          (l := [(1, _), (3, _), (25, _), (26, _), (27, _)]) (B := [_]) ?_ (by (repeat (first | exact List.nil_sublist _ | exact List.Sublist.refl _ | refine List.Sublist.cons_cons _ ?_ | refine List.Sublist.cons _ ?_))) ⟨rfl, 0, by omega, by simp, rfl, rfl, rfl⟩ ?_
        · exact ⟨rfl, rfl, rfl, rfl, rfl, trivial⟩
        rintro gm ds ts A ⟨rfl, j, hj, hm12, hsc, rfl, rfl⟩
        by_cases hlt : j < S.length
        · obtain ⟨b, o, rfl, B, c', hce, hrd⟩ := nest_at hN hlt
          have hl16 := hF.at_ hlt
          have hst : (S.take (j + 1)).flatten.length = (S.take j).flatten.length + S[j].length := by rw [flat_step S j hlt, List.length_append]
          rw [List.drop_eq_getElem_cons hlt, scanP] at hsc
          by_cases hb : S[j].length = 0 ∨ 12 < (S.take j).flatten.length + S[j].length
          · rw [if_pos hb] at hsc
            rw [hsc, if_pos rfl] at hck
            rw [hck]
            by_cases hb0 : S[j].length = 0
            · ((try first | apply tr_v Try.tabOk | apply ot_v Try.tabOk); (conv => whnf); (repeat ((first | (apply VLd.mk; exact hce _) | (apply VRng.mk; omega) | apply VBr.t | (apply v_t; omega) | (apply VIx.mk; exact rfl; omega)); (conv => whnf))); try (first | apply VStop.mk | apply VCall.stop))
              ((apply VRet.mk); refine ret1 (by first | exact .inl rfl | exact .inr rfl) rfl (by exact rv_tmp rfl) ?_; exact fun w h => ⟨rfl, h.base⟩)
            · ((try first | apply tr_v Try.tabOk | apply ot_v Try.tabOk); (conv => whnf); (repeat ((first | (apply VLd.mk; exact hce _) | (apply VRng.mk; omega) | apply VBr.t | apply VBr.f | (apply v_t; omega) | (apply v_f; omega) | (apply VIx.mk; exact rfl; omega)); (conv => whnf))); try (first | apply VStop.mk | apply VCall.stop))
              ((apply VRet.mk); refine ret1 (by first | exact .inl rfl | exact .inr rfl) rfl (by exact rv_tmp rfl) ?_; exact fun w h => ⟨rfl, h.base⟩)
          · rw [if_neg hb, ← hst] at hsc
            ((try first | apply tr_v Try.tabOk | apply ot_v Try.tabOk); (conv => whnf); (repeat ((first | (apply VLd.mk; exact hce _) | (apply VRng.mk; omega) | apply VBr.t | apply VBr.f | (apply v_t; omega) | (apply v_f; omega) | (apply VIx.mk; exact rfl; omega)); (conv => whnf))); try (first | apply VStop.mk | apply VCall.stop))
            exact v_rnd (gm - 1) (by omega) (l := [(1, _), (3, _), (25, _), (26, _), (27, _)]) (B := [_]) ⟨rfl, rfl, rfl, rfl, rfl, trivial⟩ (by (repeat (first | exact List.nil_sublist _ | exact List.Sublist.refl _ | refine List.Sublist.cons_cons _ ?_ | refine List.Sublist.cons _ ?_))) ⟨rfl, j + 1, by omega, by omega, hsc, rfl, by rw [hst]; rfl⟩
        · obtain rfl : j = S.length := by omega
          rw [List.drop_length, scanP] at hsc
          rw [hsc, if_neg (by simp)] at hck
          rw [hck]
          have hcc := fun w1 (h : NestR w1 3 Al (nestOf S)) => concat58_any Al c (nestOf S) w1 h (by rw [nestOf_length]; omega) (by rw [sumN_nest]; omega) (fun p hp u hu => by
            obtain ⟨s, _, rfl⟩ := List.mem_map.1 hp
            exact saidCells_one s u hu)
          rw [nestOf_length, sumN_nest, catN_nest] at hcc
          ((try first | apply tr_v Try.tabOk | apply ot_v Try.tabOk); (conv => whnf); (repeat ((first | (apply VLd.mk; (focus ((repeat (first | ((with_reducible apply ld_blk); exact rfl) | ((with_reducible apply ld_row); exact rfl) | ((with_reducible apply ld_row0); exact rfl) | (with_reducible assumption) | (with_reducible exact CellAt.base (by assumption)) | (with_reducible apply ld_skip))); done))) | apply VBr.f | (apply v_f; omega)); (conv => whnf))); try (first | apply VStop.mk | apply VCall.stop))
          refine ot_call_own (t := 67) (sz := 3) (m := S.flatten.length) (xs := saidCells S.flatten) (by decide) rfl rfl rfl (by kernel_rfl) (evl_of rfl) (fun w1 hs => hcc w1 (hs.nest hN)) (fun v0 => ?_)
          refine ot_fact rfl (p := ∃ B cap, v0 = .slice B S.flatten.length cap) (fun w1 hs => ?_) ?_
          · obtain ⟨B, cc, e, _⟩ := hs.own_reads (v := v0) (.head _)
            exact ⟨B, cc, e⟩
          rintro ⟨B, cap, rfl⟩
          have hco := fun w1 (hs : St w [.own (.slice B S.flatten.length cap) 67 3 S.flatten.length (saidCells S.flatten), .blk g0 26 [.int .i64 rlo, .int .i64 rhi, .int .i64 lots, .slice Al S.length c]] w1) => contains57_any B cap S.flatten lots g0 w1 (hs.own_rd (.head _)) (by omega) (by omega) (cell_blk (.tail _ (.head _)) rfl w1 hs)
          generalize S.flatten.any (strayB lots) = b3 at *
          ((try first | apply tr_v Try.tabOk | apply ot_v Try.tabOk); (conv => whnf); (repeat ((first | (apply VCall.q; kernel_rfl; (focus (intro w1 hs; first | with_reducible apply hco w1 hs)))); (conv => whnf))); try (first | apply VStop.mk | apply VCall.stop))
          cases b3
          · ((try first | apply tr_v Try.tabOk | apply ot_v Try.tabOk); (conv => whnf); (repeat ((first | apply VBr.f); (conv => whnf))); try (first | apply VStop.mk | apply VCall.stop))
            ((apply VRet.mk); refine ret1 (by first | exact .inl rfl | exact .inr rfl) rfl (by exact rv_tmp rfl) ?_; exact fun w h => ⟨rfl, h.base⟩)
          · ((try first | apply tr_v Try.tabOk | apply ot_v Try.tabOk); (conv => whnf); (repeat ((first | apply VBr.t); (conv => whnf))); try (first | apply VStop.mk | apply VCall.stop))
            ((apply VRet.mk); refine ret1 (by first | exact .inl rfl | exact .inr rfl) rfl (by exact rv_tmp rfl) ?_; exact fun w h => ⟨rfl, h.base⟩)
end
end Go.Proofs.Ytkbcogaodnmdoaa
