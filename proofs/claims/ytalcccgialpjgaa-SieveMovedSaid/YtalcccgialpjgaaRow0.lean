/- From an argument as data to what the walks read: lemmas for the rows of this seat. No conditions. -/
import Derived.ProofKit
import Derived.Deep.SlicePairs
import Derived.Lib.SmallJoins
import Derived.SizedLaws
import Derived.Test.YtalcccgialpjgaaN10
set_option linter.all false
namespace Go.Proofs.Ytalcccgialpjgaa
open Go.RowKit
/-! ## From an argument as data to what the walks read -/
section
open Go.ChangeShapes Go.WideShapes Go.ChangeAt Go.RowKit Go.Deep Go.Joins
variable {H : Type} {enc : TypeId × Value → H} {P : Program} {W : World} {base : Nat} {spare : Nat → Bool} {held : Bool}
theorem getD_range {α : Type} (f : Nat → α) (n k : Nat) (hk : k < n) : ((List.range n).map f)[k]? = some (f k) := by
  rw [List.getElem?_map, List.getElem?_range hk]; rfl
/-- A range, in its cells. -/
theorem range_in {t : TypeId} {f0 f1 : Field} {fuel : Nat} {cs : List Value} {x : DataW H × List MemPlace} (ht : P.underlying t = some (.struct #[f0, f1])) (ce : P.cellsOf t = 2) (o0 : f0.offset = 0) (o1 : f1.offset = 1) (c0 : P.cellsOf f0.type = 1) (c1 : P.cellsOf f1.type = 1)
    (k0 : P.underlying f0.type = some (.int .i64)) (k1 : P.underlying f1.type = some (.int .i64))
    (h : DataW.trod enc P W 0 (fun _ => true) true fuel t cs = some x) : ∃ q : R2, cs = rgL q := by
  obtain ⟨y0, y1, n, _, hl, h0, h1⟩ := trod_struct2 ht h
  rw [ce] at hl
  match cs, hl with
  | [a, b], _ =>
    simp [o0, c0] at h0
    simp [o1, c1] at h1
    obtain ⟨q0, e0, _, _⟩ := DataW.trod_int k0 h0
    obtain ⟨q1, e1, _, _⟩ := DataW.trod_int k1 h1
    simp only [List.cons.injEq, and_true] at e0 e1
    subst e0 e1
    exact ⟨(q0, q1), rfl⟩
/-- Ranges, as the walks read them. -/
theorem ranges_in {t e : TypeId} {fuel : Nat} {v : Value} {x : DataW H × List MemPlace} (ht : P.underlying t = some (.slice e)) (ce : P.cellsOf e = 2) (hsd : ∀ {fuel cs x}, DataW.trod enc P W 0 (fun _ => true) true fuel e cs = some x → ∃ q : R2, cs = rgL q)
    (h : DataW.trod enc P W 0 (fun _ => true) true fuel t [v] = some x) : ∃ (B : Option Addr) (c : Nat) (xs : List R2), v = .slice B xs.length c ∧ Reads W W.heap.size 2 B xs.length (rgC xs) ∧ xs.length ≤ maxLen := by
  rcases open_slice ht h with ⟨hcs, _⟩ | ⟨a, len, cap, m, n, D, Pl, hcs, _, hl, hm, hmm, _, hx⟩
  · simp only [List.cons.injEq, and_true] at hcs
    subst hcs
    exact ⟨none, 0, [], rfl, ⟨rfl, fun h => absurd h (by decide)⟩, Nat.zero_le _⟩
  · simp only [List.cons.injEq, and_true] at hcs
    subst hcs
    have hlm : len ≤ m := by rw [hmm]; simp; omega
    have each : ∀ i, i < len → ∃ q : R2, ∀ j, j < 2 → W.cell? (a.add (i * 2 + j)) = (rgL q)[j]? := fun i hi => by
      obtain ⟨cs', h1, h2⟩ := hx i (by omega)
      rw [ce] at h1
      obtain ⟨_, hlen, hcell⟩ := World.cells?_some h1
      obtain ⟨q, rfl⟩ := hsd h2
      refine ⟨q, fun j hj => ?_⟩
      have := hcell j hj
      rwa [add_add] at this
    obtain ⟨q, hq⟩ := choose_lt each
    have hln : ((List.range len).map q).length = len := by simp
    refine ⟨some a, cap, (List.range len).map q, by rw [hln], ⟨by rw [rgC_length], fun hn => ?_⟩, by rw [hln]; omega⟩
    rw [hln] at hn
    obtain ⟨b, off, spot⟩ := a
    have hc0 := hq 0 hn 0 (by decide)
    have hspot : spot = none := by simpa [Addr.add] using World.cell?_spot hc0
    subst hspot
    refine ⟨b, off, rfl, World.block_lt_of_cell? _ _ hc0, fun j u hu => ?_⟩
    have hjl := (List.getElem?_eq_some_iff.1 hu).1
    rw [rgC_length, hln] at hjl
    have h3 := hq (j / 2) (by omega) (j % 2) (by omega)
    have h4 := rgC_get ((List.range len).map q) (j / 2) (by rw [hln]; omega) (j % 2) (by omega)
    have e1 : j / 2 * 2 + j % 2 = j := by omega
    rw [e1] at h3 h4
    rw [show rAt ((List.range len).map q) (j / 2) = q (j / 2) by unfold rAt; rw [getD_range _ _ _ (by omega)]; rfl, hu] at h4
    rw [Addr.add_none] at h3
    rw [h3, ← h4]
/-- Lists of lists, as the walks read them. -/
theorem nest_in {T : Type} {sz : Nat} {cells : List T → List Value} {t e : TypeId} {fuel : Nat} {v : Value} {x : DataW H × List MemPlace} (ht : P.underlying t = some (.slice e)) (ce : P.cellsOf e = 1) (hst : ∀ {fuel v x}, DataW.trod enc P W 0 (fun _ => true) true fuel e [v] = some x → ∃ (B : Option Addr) (c : Nat) (xs : List T), v = .slice B xs.length c ∧ Reads W W.heap.size sz B xs.length (cells xs) ∧ xs.length ≤ maxLen)
    (h : DataW.trod enc P W 0 (fun _ => true) true fuel t [v] = some x) : ∃ (A : Option Addr) (c : Nat) (S : List (List T)), v = .slice A S.length c ∧ NestR W sz A (S.map fun s => (s.length, cells s)) ∧ (∀ s ∈ S, s.length ≤ maxLen) ∧ S.length ≤ maxLen := by
  rcases open_slice ht h with ⟨hcs, _⟩ | ⟨a, len, cap, m, n, D, Pl, hcs, _, hl, hm, hmm, _, hx⟩
  · simp only [List.cons.injEq, and_true] at hcs
    subst hcs
    exact ⟨none, 0, [], rfl, ⟨[], ⟨rfl, fun h => absurd h (Nat.lt_irrefl _)⟩, fun i hi => absurd hi (Nat.not_lt_zero _)⟩, (fun s hs => by cases hs), Nat.zero_le _⟩
  · simp only [List.cons.injEq, and_true] at hcs
    subst hcs
    have hlm : len ≤ m := by rw [hmm]; simp; omega
    have each : ∀ i, i < len → ∃ q : Option Addr × Nat × List T, W.cell? (a.add i) = some (.slice q.1 q.2.2.length q.2.1) ∧ Reads W W.heap.size sz q.1 q.2.2.length (cells q.2.2) ∧ q.2.2.length ≤ maxLen := fun i hi => by
      obtain ⟨cs', h1, h2⟩ := hx i (by omega)
      rw [ce] at h1
      obtain ⟨_, hlen, hcell⟩ := World.cells?_some h1
      match cs', hlen with
      | [u], _ =>
        obtain ⟨B, c, xs, rfl, h3, h4⟩ := hst h2
        refine ⟨(B, c, xs), ?_, h3, h4⟩
        have := hcell 0 (by decide)
        rw [add_add, Nat.mul_one, Nat.add_zero] at this
        exact this
    obtain ⟨q, hq⟩ := choose_lt each
    have hln : ((List.range len).map fun i => (q i).2.2).length = len := by simp
    have hlN : (((List.range len).map fun i => (q i).2.2).map fun s => (s.length, cells s)).length = len := by simp
    refine ⟨some a, cap, (List.range len).map fun i => (q i).2.2, by rw [hln], ⟨(List.range len).map fun i => .slice (q i).1 (q i).2.2.length (q i).2.1, ⟨by rw [hlN]; simp, fun hn => ?_⟩, fun i hi => ?_⟩, fun s hs => ?_, by rw [hln]; omega⟩
    · rw [hlN] at hn
      obtain ⟨b, off, spot⟩ := a
      have hc0 := (hq 0 hn).1
      have hspot : spot = none := by simpa [Addr.add] using World.cell?_spot hc0
      subst hspot
      refine ⟨b, off, rfl, World.block_lt_of_cell? _ _ hc0, fun j u hu => ?_⟩
      have hjl := (List.getElem?_eq_some_iff.1 hu).1
      simp at hjl
      rw [getD_range _ _ _ hjl] at hu
      have := (hq j hjl).1
      rw [Addr.add_none] at this
      rw [this, hu]
    · rw [hlN] at hi
      have h1 := hq i hi
      refine ⟨(q i).1, (q i).2.1, ?_, ?_⟩
      · rw [getD_range _ _ _ hi]; simp
      · simpa using h1.2.1
    · obtain ⟨i, hi, rfl⟩ := List.mem_map.1 hs
      exact (hq i (List.mem_range.1 hi)).2.2
/-- A slice of numbers of a kind, as the walks read it. -/
theorem nums_in {t e : TypeId} {k : IntKind} {fuel : Nat} {a0 : Option Addr} {len cap : Nat} {x : DataW H × List MemPlace} (ht : P.underlying t = some (.slice e)) (he : P.underlying e = some (.int k)) (hc : P.cellsOf e = 1)
    (h : DataW.trod enc P W 0 (fun _ => true) true fuel t [.slice a0 len cap] = some x) : ∃ xs : List Int, xs.length = len ∧ Reads W W.heap.size 1 a0 xs.length (xs.map (Value.int k)) ∧ xs.length ≤ maxLen ∧ ∀ z ∈ xs, (Lit.int k z).wf = true := by
  rcases open_ints ht he hc h with ⟨hcs, _⟩ | ⟨a, len', cap', zs, hcs, _, hl, hm, hz, _, hcell, hw⟩
  · cases hcs
    exact ⟨[], rfl, Reads.none_, Nat.zero_le _, fun z hz => by cases hz⟩
  · cases hcs
    simp only [if_true] at hz
    refine ⟨zs.take len, by simp; omega, ⟨by simp, fun hn => ?_⟩, by simp; omega, fun z hz' => hw z (List.mem_of_mem_take hz')⟩
    have hn : 0 < zs.length := by simp at hn; omega
    obtain ⟨b, off, spot⟩ := a
    have hspot : spot = none := by simpa [Addr.add] using World.cell?_spot (hcell 0 hn)
    subst hspot
    refine ⟨b, off, rfl, World.block_lt_of_cell? _ _ (hcell 0 hn), fun j u hu => ?_⟩
    have hjl := (List.getElem?_eq_some_iff.1 hu).1
    simp only [List.length_map, List.length_take] at hjl
    have hc := hcell j (by omega)
    rw [Addr.add_none] at hc
    rw [hc]
    simp only [List.getElem?_map] at hu
    rw [List.getElem?_take_of_lt (by omega), List.getElem?_eq_getElem (by omega)] at hu
    simp only [Option.map_some, Option.some.injEq] at hu
    rw [← hu, List.getD_eq_getElem?_getD, List.getElem?_eq_getElem (by omega)]; rfl
end
theorem u8_in {z : Int} (h : (Lit.int .u8 z).wf = true) : 0 ≤ z ∧ z ≤ 255 := by
  have e1 : IntKind.u8.min = 0 := rfl
  have e2 : IntKind.u8.max = 255 := rfl
  simpa [Lit.wf, e1, e2] using h
theorem u8_nat {z : Int} (h : (Lit.int .u8 z).wf = true) : ∃ b : Nat, z = (b : Int) ∧ b < 256 := ⟨z.toNat, by have := u8_in h; omega, by have := u8_in h; omega⟩
section
open Go.ChangeShapes Go.RowKit
variable {H : Type} {enc : TypeId × Value → H} {P : Program} {w : World} {base : Nat} {spare : Nat → Bool} {held : Bool}
theorem trodAll_none0 {args : Array Value} {ds : List (DataW H)} {ps : List MemPlace} (h : DataW.TrodAll enc P w base spare held [] args.toList ds ps) : args = #[] ∧ ds = [] ∧ ps = [] := by
  obtain ⟨h1, h2, h3⟩ := trodAll_nil h
  exact ⟨by cases args; simp_all, h2, h3⟩
theorem trodAll_mk0 : DataW.TrodAll enc P w base spare held [] [] [] [] := rfl
end
theorem Try.own : ownKnob Try.prog.godebug = none := by kernel_rfl
theorem Try.laidOut : laidOutB Try.prog = true := by kernel_rfl
section
open Go.ChangeShapes Go.WideShapes Go.ChangeAt Go.RowKit Go.Deep Go.Joins
variable {H : Type} {enc : TypeId × Value → H} {W : World}
theorem arr_three {cs : Array Value} (h : cs.size = 3) : ∃ a b c, cs = #[a, b, c] := by
  obtain ⟨l⟩ := cs
  match l, h with
  | [a, b, c], _ => exact ⟨a, b, c, rfl⟩
set_option maxRecDepth 100000 in
/-- A table, as the walks read it. -/
theorem table_in {base : Nat} {v : Value} {d : DataW H} {p : List MemPlace} (hv : Value.okWide Try.prog W .any base 25 v) (h : DataW.Trod enc Try.prog W 0 (fun _ => true) true 25 v d p) :
    ∃ (RA : Option Addr) (rc : Nat) (CA : Option Addr) (cc : Nat) (XA : Option Addr) (xc : Nat) (R C : List R2) (X : List (List R2)), v = tabV RA rc CA cc XA xc R C X ∧ TabR W RA CA XA R C X ∧ X.length ≤ maxLen := by
  obtain ⟨cs, rfl, hsz⟩ := okWide_struct Try.underlying25 hv
  obtain ⟨c0, c1, c2, rfl⟩ := arr_three (hsz.trans (by kernel_rfl))
  obtain ⟨fuel, hf⟩ := h
  obtain ⟨y0, y1, y2, n, _, _, h0, h1, h2⟩ := trod_struct3 Try.underlying25 hf
  have k22 : Try.prog.cellsOf 22 = 1 := by kernel_rfl
  have k23 : Try.prog.cellsOf 23 = 1 := by kernel_rfl
  have k2 : Try.prog.cellsOf 2 = 1 := by kernel_rfl
  have k37 : Try.prog.cellsOf 37 = 2 := by kernel_rfl
  simp [Value.cells, k22] at h0 h1
  simp [Value.cells, k23] at h2
  have hr : ∀ {fuel cs x}, DataW.trod enc Try.prog W 0 (fun _ => true) true fuel 37 cs = some x → ∃ q : R2, cs = rgL q := fun h => range_in Try.underlying37 k37 rfl rfl k2 k2 Try.underlying2 Try.underlying2 h
  obtain ⟨RA, rc, R, rfl, hR, _⟩ := ranges_in Try.underlying22 k37 hr h0
  obtain ⟨CA, cc, C, rfl, hC, _⟩ := ranges_in Try.underlying22 k37 hr h1
  obtain ⟨XA, xc, X, rfl, hX, _, hm⟩ := nest_in Try.underlying23 k22 (fun h => ranges_in Try.underlying22 k37 hr h) h2
  exact ⟨RA, rc, CA, cc, XA, xc, R, C, X, rfl, ⟨hR, hC, hX⟩, hm⟩
end
end Go.Proofs.Ytalcccgialpjgaa
