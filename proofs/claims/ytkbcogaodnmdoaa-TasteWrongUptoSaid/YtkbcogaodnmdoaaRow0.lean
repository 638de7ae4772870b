/- From an argument as data to what the walks read: lemmas for the rows of this seat. No conditions. -/
import Derived.WalkKit
import Derived.WalkSpells
import Derived.WalkLawsBesides
import Derived.Lib.Hide
import Derived.Deep.AppendLies
import Derived.Deep.Draws
import Derived.Maps.AppendAt
import Derived.RegionTactic
import Derived.OwnWalk
import Derived.Deep.QuietTactic
import Derived.BigQuiet
import Derived.Deep.DeepFit
import Derived.Deep.LoopGhost
import Derived.Deep.DeepMust
import Derived.Deep.DeepCutAuto
import Derived.StillTail
import Derived.Deep.Quiet
import Derived.Deep.RegionHeld3
import Derived.Deep.RegionWith
import Derived.Deep.RegionLaw
import Derived.Maps.OwnOps
import Derived.Maps.OwnSet
import Derived.Maps.OwnRows
import Derived.Maps.RangeWalk
import Derived.Carry
import Derived.Test.YtkbcogaodnmdoaaProg
import Derived.Test.YtkbcogaodnmdoaaBase
import Derived.Test.YtkbcogaodnmdoaaMaps
import Derived.Test.YtkbcogaodnmdoaaKeys
import Derived.Test.YtkbcogaodnmdoaaS1
import Derived.Test.YtkbcogaodnmdoaaS5
import Derived.Test.YtkbcogaodnmdoaaS12
import Derived.Test.YtkbcogaodnmdoaaS14
import Derived.Test.YtkbcogaodnmdoaaV
import Derived.Test.YtkbcogaodnmdoaaTab
import Derived.Test.YtkbcogaodnmdoaaE1
import Derived.Test.YtkbcogaodnmdoaaE2
import Derived.ProofKit
import Derived.Deep.SlicePairs
import Derived.Lib.SmallJoins
import Derived.SizedLaws
set_option linter.all false
namespace Go.Proofs.Ytkbcogaodnmdoaa
open Go.RowKit
/-! ## From an argument as data to what the walks read -/
section
open Go.ChangeShapes Go.WideShapes Go.ChangeAt Go.RowKit Go.Deep Go.Joins
variable {H : Type} {enc : TypeId × Value → H} {P : Program} {W : World} {base : Nat} {spare : Nat → Bool} {held : Bool}
/-- Lay theorems by their runs: the number of a cell. -/
def numOf : Value → Int
  | .int _ n => n
  | _ => 0
theorem getD_range {α : Type} (f : Nat → α) (n k : Nat) (hk : k < n) : ((List.range n).map f)[k]? = some (f k) := by
  rw [List.getElem?_map, List.getElem?_range hk]; rfl
/-- A taste, in its cells. -/
theorem said_in {t e : TypeId} {f0 f1 g0 g1 : Field} {fuel : Nat} {cs : List Value} {x : DataW H × List MemPlace} (ht : P.underlying t = some (.struct #[f0, f1])) (ce : P.cellsOf t = 3) (o0 : f0.offset = 0) (o1 : f1.offset = 1) (c0 : P.cellsOf f0.type = 1) (c1 : P.cellsOf f1.type = 2)
    (k0 : P.underlying f0.type = some (.int .i64)) (he : f1.type = e) (hs : P.underlying e = some (.struct #[g0, g1])) (p0 : g0.offset = 0) (p1 : g1.offset = 1) (d0 : P.cellsOf g0.type = 1) (d1 : P.cellsOf g1.type = 1) (l0 : P.underlying g0.type = some (.int .i64)) (l1 : P.underlying g1.type = some (.int .i64))
    (h : DataW.trod enc P W 0 (fun _ => true) true fuel t cs = some x) : ∃ q : T3, cs = saidL q := by
  subst he
  obtain ⟨y0, y1, n, _, hl, h0, h1⟩ := trod_struct2 ht h
  rw [ce] at hl
  match cs, hl with
  | [a, b, c], _ =>
    simp [o0, c0] at h0
    simp [o1, c1] at h1
    obtain ⟨z0, z1, m, _, _, h2, h3⟩ := trod_struct2 hs h1
    simp [p0, d0] at h2
    simp [p1, d1] at h3
    obtain ⟨q0, e0, _, _⟩ := DataW.trod_int k0 h0
    obtain ⟨q1, e1, _, _⟩ := DataW.trod_int l0 h2
    obtain ⟨q2, e2, _, _⟩ := DataW.trod_int l1 h3
    simp only [List.cons.injEq, and_true] at e0 e1 e2
    subst e0 e1 e2
    exact ⟨(q0, q1, q2), rfl⟩
/-- A sitting, as the walks read it. -/
theorem sitting_in {t e : TypeId} {fuel : Nat} {v : Value} {x : DataW H × List MemPlace} (ht : P.underlying t = some (.slice e)) (ce : P.cellsOf e = 3) (hsd : ∀ {fuel cs x}, DataW.trod enc P W 0 (fun _ => true) true fuel e cs = some x → ∃ q : T3, cs = saidL q)
    (h : DataW.trod enc P W 0 (fun _ => true) true fuel t [v] = some x) : ∃ (B : Option Addr) (c : Nat) (xs : List T3), v = .slice B xs.length c ∧ Reads W W.heap.size 3 B xs.length (saidCells xs) ∧ xs.length ≤ maxLen := by
  rcases open_slice ht h with ⟨hcs, _⟩ | ⟨a, len, cap, m, n, D, Pl, hcs, _, hl, hm, hmm, _, hx⟩
  · simp only [List.cons.injEq, and_true] at hcs
    subst hcs
    exact ⟨none, 0, [], rfl, ⟨rfl, fun h => absurd h (by decide)⟩, Nat.zero_le _⟩
  · simp only [List.cons.injEq, and_true] at hcs
    subst hcs
    have hlm : len ≤ m := by rw [hmm]; simp; omega
    have each : ∀ i, i < len → ∃ q : T3, ∀ j, j < 3 → W.cell? (a.add (i * 3 + j)) = (saidL q)[j]? := fun i hi => by
      obtain ⟨cs', h1, h2⟩ := hx i (by omega)
      rw [ce] at h1
      obtain ⟨_, hlen, hcell⟩ := World.cells?_some h1
      obtain ⟨q, rfl⟩ := hsd h2
      refine ⟨q, fun j hj => ?_⟩
      have := hcell j hj
      rwa [add_add] at this
    obtain ⟨q, hq⟩ := choose_lt each
    have hln : ((List.range len).map q).length = len := by simp
    refine ⟨some a, cap, (List.range len).map q, by rw [hln], ⟨by rw [saidCells_length], fun hn => ?_⟩, by rw [hln]; omega⟩
    rw [hln] at hn
    obtain ⟨b, off, spot⟩ := a
    have hc0 := hq 0 hn 0 (by decide)
    have hspot : spot = none := by simpa [Addr.add] using World.cell?_spot hc0
    subst hspot
    refine ⟨b, off, rfl, World.block_lt_of_cell? _ _ hc0, fun j u hu => ?_⟩
    have hjl := (List.getElem?_eq_some_iff.1 hu).1
    rw [saidCells_length, hln] at hjl
    have h3 := hq (j / 3) (by omega) (j % 3) (by omega)
    have h4 := saidCells_get ((List.range len).map q) (j / 3) (by rw [hln]; omega) (j % 3) (by omega)
    have e1 : j / 3 * 3 + j % 3 = j := by omega
    rw [e1] at h3 h4
    rw [getD_range _ _ _ (by omega), Option.getD_some, hu] at h4
    rw [Addr.add_none] at h3
    rw [h3, ← h4]
/-- Sittings, as the walks read them. -/
theorem nest_in {t e : TypeId} {fuel : Nat} {v : Value} {x : DataW H × List MemPlace} (ht : P.underlying t = some (.slice e)) (ce : P.cellsOf e = 1) (hst : ∀ {fuel v x}, DataW.trod enc P W 0 (fun _ => true) true fuel e [v] = some x → ∃ (B : Option Addr) (c : Nat) (xs : List T3), v = .slice B xs.length c ∧ Reads W W.heap.size 3 B xs.length (saidCells xs) ∧ xs.length ≤ maxLen)
    (h : DataW.trod enc P W 0 (fun _ => true) true fuel t [v] = some x) : ∃ (A : Option Addr) (c : Nat) (S : List (List T3)), v = .slice A S.length c ∧ NestR W 3 A (nestOf S) ∧ (∀ s ∈ S, s.length ≤ maxLen) ∧ S.length ≤ maxLen := by
  rcases open_slice ht h with ⟨hcs, _⟩ | ⟨a, len, cap, m, n, D, Pl, hcs, _, hl, hm, hmm, _, hx⟩
  · simp only [List.cons.injEq, and_true] at hcs
    subst hcs
    exact ⟨none, 0, [], rfl, ⟨[], ⟨rfl, fun h => absurd h (by decide)⟩, fun i hi => absurd hi (by simp [nestOf])⟩, (fun s hs => by cases hs), Nat.zero_le _⟩
  · simp only [List.cons.injEq, and_true] at hcs
    subst hcs
    have hlm : len ≤ m := by rw [hmm]; simp; omega
    have each : ∀ i, i < len → ∃ q : Option Addr × Nat × List T3, W.cell? (a.add i) = some (.slice q.1 q.2.2.length q.2.1) ∧ Reads W W.heap.size 3 q.1 q.2.2.length (saidCells q.2.2) ∧ q.2.2.length ≤ maxLen := fun i hi => by
      obtain ⟨cs', h1, h2⟩ := hx i (by omega)
      rw [ce] at h1
      obtain ⟨_, hlen, hcell⟩ := World.cells?_some h1
      match cs', hlen with
      | [u], _ =>
        obtain ⟨B, c, xs, rfl, h3, h4⟩ := hst h2
        refine ⟨(B, c, xs), ?_, h3, h4⟩
        have := hcell 0 (by decide)
        rw [add_add, Nat.mul_one, Nat.add_zero] at this
        exact this
    obtain ⟨q, hq⟩ := choose_lt each
    have hln : ((List.range len).map fun i => (q i).2.2).length = len := by simp
    have hlN : (nestOf ((List.range len).map fun i => (q i).2.2)).length = len := by simp [nestOf]
    refine ⟨some a, cap, (List.range len).map fun i => (q i).2.2, by rw [hln], ⟨(List.range len).map fun i => .slice (q i).1 (q i).2.2.length (q i).2.1, ⟨by rw [hlN]; simp, fun hn => ?_⟩, fun i hi => ?_⟩, fun s hs => ?_, by rw [hln]; omega⟩
    · rw [hlN] at hn
      obtain ⟨b, off, spot⟩ := a
      have hc0 := (hq 0 hn).1
      have hspot : spot = none := by simpa [Addr.add] using World.cell?_spot hc0
      subst hspot
      refine ⟨b, off, rfl, World.block_lt_of_cell? _ _ hc0, fun j u hu => ?_⟩
      have hjl := (List.getElem?_eq_some_iff.1 hu).1
      simp at hjl
      rw [getD_range _ _ _ hjl] at hu
      have := (hq j hjl).1
      rw [Addr.add_none] at this
      rw [this, hu]
    · rw [hlN] at hi
      have h1 := hq i hi
      refine ⟨(q i).1, (q i).2.1, ?_, ?_⟩
      · rw [getD_range _ _ _ hi]; simp [nestOf]
      · simpa [nestOf] using h1.2.1
    · obtain ⟨i, hi, rfl⟩ := List.mem_map.1 hs
      exact (hq i (List.mem_range.1 hi)).2.2
/-- A slice of numbers of a kind, as the walks read it. -/
theorem nums_in {t e : TypeId} {k : IntKind} {fuel : Nat} {a0 : Option Addr} {len cap : Nat} {x : DataW H × List MemPlace} (ht : P.underlying t = some (.slice e)) (he : P.underlying e = some (.int k)) (hc : P.cellsOf e = 1)
    (h : DataW.trod enc P W 0 (fun _ => true) true fuel t [.slice a0 len cap] = some x) : ∃ xs : List Int, xs.length = len ∧ Reads W W.heap.size 1 a0 xs.length (xs.map (Value.int k)) ∧ xs.length ≤ maxLen ∧ ∀ z ∈ xs, (Lit.int k z).wf = true := by
  rcases open_ints ht he hc h with ⟨hcs, _⟩ | ⟨a, len', cap', zs, hcs, _, hl, hm, hz, _, hcell, hw⟩
  · cases hcs
    exact ⟨[], rfl, Reads.none_, Nat.zero_le _, fun z hz => by cases hz⟩
  · cases hcs
    simp only [if_true] at hz
    refine ⟨zs.take len, by simp; omega, ⟨by simp, fun hn => ?_⟩, by simp; omega, fun z hz' => hw z (List.mem_of_mem_take hz')⟩
    have hn : 0 < zs.length := by simp at hn; omega
    obtain ⟨b, off, spot⟩ := a
    have hspot : spot = none := by simpa [Addr.add] using World.cell?_spot (hcell 0 hn)
    subst hspot
    refine ⟨b, off, rfl, World.block_lt_of_cell? _ _ (hcell 0 hn), fun j u hu => ?_⟩
    have hjl := (List.getElem?_eq_some_iff.1 hu).1
    simp only [List.length_map, List.length_take] at hjl
    have hc := hcell j (by omega)
    rw [Addr.add_none] at hc
    rw [hc]
    simp only [List.getElem?_map] at hu
    rw [List.getElem?_take_of_lt (by omega), List.getElem?_eq_getElem (by omega)] at hu
    simp only [Option.map_some, Option.some.injEq] at hu
    rw [← hu, List.getD_eq_getElem?_getD, List.getElem?_eq_getElem (by omega)]; rfl
end
theorem u8_in {z : Int} (h : (Lit.int .u8 z).wf = true) : 0 ≤ z ∧ z ≤ 255 := by
  have e1 : IntKind.u8.min = 0 := rfl
  have e2 : IntKind.u8.max = 255 := rfl
  simpa [Lit.wf, e1, e2] using h
theorem u16_in {z : Int} (h : (Lit.int .u16 z).wf = true) : 0 ≤ z ∧ z ≤ 65535 := by
  have e1 : IntKind.u16.min = 0 := rfl
  have e2 : IntKind.u16.max = 65535 := rfl
  simpa [Lit.wf, e1, e2] using h
section
open Go.ChangeShapes Go.RowKit
variable {H : Type} {enc : TypeId × Value → H} {P : Program} {w : World} {base : Nat} {spare : Nat → Bool} {held : Bool}
theorem trodAll_none0 {args : Array Value} {ds : List (DataW H)} {ps : List MemPlace} (h : DataW.TrodAll enc P w base spare held [] args.toList ds ps) : args = #[] ∧ ds = [] ∧ ps = [] := by
  obtain ⟨h1, h2, h3⟩ := trodAll_nil h
  exact ⟨by cases args; simp_all, h2, h3⟩
theorem trodAll_mk0 : DataW.TrodAll enc P w base spare held [] [] [] [] := rfl
theorem trodAll_five {t0 t1 t2 t3 t4 : TypeId} {args : Array Value} {ds : List (DataW H)} {ps : List MemPlace} (h : DataW.TrodAll enc P w base spare held [t0, t1, t2, t3, t4] args.toList ds ps) :
    ∃ v0 v1 v2 v3 v4 d0 d1 d2 d3 d4 p0 p1 p2 p3 p4, args = #[v0, v1, v2, v3, v4] ∧ ds = [d0, d1, d2, d3, d4] ∧ ps = p0 ++ (p1 ++ (p2 ++ (p3 ++ p4))) ∧ DataW.Trod enc P w base spare held t0 v0 d0 p0 ∧ DataW.Trod enc P w base spare held t1 v1 d1 p1 ∧ DataW.Trod enc P w base spare held t2 v2 d2 p2 ∧ DataW.Trod enc P w base spare held t3 v3 d3 p3 ∧ DataW.Trod enc P w base spare held t4 v4 d4 p4 := by
  obtain ⟨v0, vs0, d0, ds0, p0, q0, hargs, rfl, rfl, hd0, hr0⟩ := trodAll_cons h
  obtain ⟨v1, vs1, d1, ds1, p1, q1, rfl, rfl, rfl, hd1, hr1⟩ := trodAll_cons hr0
  obtain ⟨v2, vs2, d2, ds2, p2, q2, rfl, rfl, rfl, hd2, hr2⟩ := trodAll_cons hr1
  obtain ⟨v3, vs3, d3, ds3, p3, q3, rfl, rfl, rfl, hd3, hr3⟩ := trodAll_cons hr2
  obtain ⟨v4, vs4, d4, ds4, p4, q4, rfl, rfl, rfl, hd4, hr4⟩ := trodAll_cons hr3
  obtain ⟨rfl, rfl, rfl⟩ := trodAll_nil hr4
  exact ⟨v0, v1, v2, v3, v4, d0, d1, d2, d3, d4, p0, p1, p2, p3, p4, by cases args; simp_all, rfl, by simp, hd0, hd1, hd2, hd3, hd4⟩
theorem trodAll_mk5 {t0 t1 t2 t3 t4 : TypeId} {v0 v1 v2 v3 v4 : Value} {d0 d1 d2 d3 d4 : DataW H} {p0 p1 p2 p3 p4 : List MemPlace} (h0 : DataW.Trod enc P w base spare held t0 v0 d0 p0) (h1 : DataW.Trod enc P w base spare held t1 v1 d1 p1)
    (h2 : DataW.Trod enc P w base spare held t2 v2 d2 p2) (h3 : DataW.Trod enc P w base spare held t3 v3 d3 p3) (h4 : DataW.Trod enc P w base spare held t4 v4 d4 p4) : DataW.TrodAll enc P w base spare held [t0, t1, t2, t3, t4] [v0, v1, v2, v3, v4] [d0, d1, d2, d3, d4] (p0 ++ (p1 ++ (p2 ++ (p3 ++ p4)))) := ⟨p0, p1 ++ (p2 ++ (p3 ++ p4)), h0, trodAll_mk4 h1 h2 h3 h4, rfl⟩
end
theorem Try.own : ownKnob Try.prog.godebug = none := by kernel_rfl
theorem Try.laidOut : laidOutB Try.prog = true := by kernel_rfl
section
open Go.ChangeShapes Go.WideShapes Go.ChangeAt Go.RowKit Go.Deep Go.Joins
variable {H : Type} {enc : TypeId × Value → H} {W : World}
set_option maxRecDepth 100000 in
/-- A book, as the walks read it. -/
theorem book_in {base : Nat} {v : Value} {d : DataW H} {p : List MemPlace} (hv : Value.okWide Try.prog W .any base 26 v) (h : DataW.Trod enc Try.prog W 0 (fun _ => true) true 26 v d p) :
    ∃ (rlo rhi lots : Int) (A : Option Addr) (c : Nat) (S : List (List T3)), v = bookV rlo rhi lots A S.length c ∧ NestR W 3 A (nestOf S) ∧ (∀ s ∈ S, s.length ≤ maxLen) ∧ S.length ≤ maxLen := by
  obtain ⟨cs, rfl, hsz⟩ := okWide_struct Try.underlying26 hv
  obtain ⟨c0, c1, c2, c3, rfl⟩ : ∃ c0 c1 c2 c3, cs = #[c0, c1, c2, c3] := by
    have h4 : cs.size = 4 := hsz.trans (by kernel_rfl)
    obtain ⟨l⟩ := cs
    match l, h4 with
    | [a, b, c, d], _ => exact ⟨a, b, c, d, rfl⟩
  obtain ⟨fuel, hf⟩ := h
  obtain ⟨y0, y1, y2, n, _, _, h0, h1, h2⟩ := trod_struct3 Try.underlying26 hf
  have k23 : Try.prog.cellsOf 23 = 2 := by kernel_rfl
  have k3 : Try.prog.cellsOf 3 = 1 := by kernel_rfl
  have k2 : Try.prog.cellsOf 2 = 1 := by kernel_rfl
  have k24 : Try.prog.cellsOf 24 = 1 := by kernel_rfl
  simp [Value.cells, k23] at h0
  simp [Value.cells, k3] at h1
  simp [Value.cells, k24] at h2
  obtain ⟨z0, z1, m, _, _, g0, g1⟩ := trod_struct2 Try.underlying23 h0
  simp [k2] at g0 g1
  obtain ⟨a, e0, _, _⟩ := DataW.trod_int Try.underlying2 g0
  obtain ⟨b, e1, _, _⟩ := DataW.trod_int Try.underlying2 g1
  obtain ⟨l, e2, _, _⟩ := DataW.trod_int Try.underlying3 h1
  simp only [List.cons.injEq, and_true] at e0 e1 e2
  subst e0 e1 e2
  obtain ⟨A, c, S, rfl, hN, hm, hn⟩ := nest_in Try.underlying24 (by kernel_rfl) (fun h => sitting_in Try.underlying55 (by kernel_rfl) (fun h => said_in Try.underlying67 (by kernel_rfl) rfl rfl k3 k23 Try.underlying3 rfl Try.underlying23 rfl rfl k2 k2 Try.underlying2 Try.underlying2 h) h) h2
  exact ⟨a, b, l, A, c, S, rfl, hN, hm, hn⟩
end
end Go.Proofs.Ytkbcogaodnmdoaa
