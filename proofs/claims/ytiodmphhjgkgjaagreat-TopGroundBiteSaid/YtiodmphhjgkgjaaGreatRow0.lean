/- From an argument as data to what the walks read: lemmas for the rows of this seat. No conditions. -/
import Derived.ProofKit
import Derived.Deep.SlicePairs
import Derived.Lib.SmallJoins
import Derived.SizedLaws
import Derived.Test.YtiodmphhjgkgjaaGreatP9
set_option linter.all false
namespace Go.Proofs.YtiodmphhjgkgjaaGreat
open Go.RowKit
/-! ## From an argument as data to what the walks read -/
theorem Tryz.own : ownKnob Tryz.prog.godebug = none := by kernel_rfl
theorem Tryz.laidOut : laidOutB Tryz.prog = true := by kernel_rfl
theorem u8_in {z : Int} (h : (Lit.int .u8 z).wf = true) : 0 ≤ z ∧ z ≤ 255 := by
  have e1 : IntKind.u8.min = 0 := rfl
  have e2 : IntKind.u8.max = 255 := rfl
  simpa [Lit.wf, e1, e2] using h
section
open Go.ChangeShapes Go.WideShapes Go.ChangeAt Go.RowKit Go.Deep Go.Joins
variable {H : Type} {enc : TypeId × Value → H} {W : World}
theorem getD_range {α : Type} (f : Nat → α) (n k : Nat) (hk : k < n) : ((List.range n).map f)[k]? = some (f k) := by
  rw [List.getElem?_map, List.getElem?_range hk]; rfl
set_option maxRecDepth 100000 in
/-- An hour, in its cells. -/
theorem hour_in {fuel : Nat} {cs : List Value} {x : DataW H × List MemPlace} (h : DataW.trod enc Tryz.prog W 0 (fun _ => true) true fuel 32 cs = some x) : ∃ q : HourT, cs = hrL q := by
  have k32 : Tryz.prog.cellsOf 32 = 3 := by kernel_rfl
  have k30 : Tryz.prog.cellsOf 30 = 2 := by kernel_rfl
  have k2 : Tryz.prog.cellsOf 2 = 1 := by kernel_rfl
  obtain ⟨y0, y1, n, _, hl, h0, h1⟩ := trod_struct2 Tryz.underlying32 h
  rw [k32] at hl
  match cs, hl with
  | [a, b, c], _ =>
    simp [k30] at h0
    simp [k2] at h1
    obtain ⟨z0, z1, m, _, _, h2, h3⟩ := trod_struct2 Tryz.underlying30 h0
    simp [k2] at h2 h3
    obtain ⟨q0, e0, _, _⟩ := DataW.trod_int Tryz.underlying2 h2
    obtain ⟨q1, e1, _, _⟩ := DataW.trod_int Tryz.underlying2 h3
    obtain ⟨q2, e2, _, _⟩ := DataW.trod_int Tryz.underlying2 h1
    simp only [List.cons.injEq, and_true] at e0 e1 e2
    subst e0 e1 e2
    exact ⟨⟨q0, q1, q2⟩, rfl⟩
/-- Hours, as the walks read them. -/
theorem hours_in {fuel : Nat} {v : Value} {x : DataW H × List MemPlace} (h : DataW.trod enc Tryz.prog W 0 (fun _ => true) true fuel 22 [v] = some x) : ∃ (B : Option Addr) (c : Nat) (xs : List HourT), v = .slice B xs.length c ∧ Reads W W.heap.size 3 B xs.length (hrC xs) ∧ xs.length ≤ maxLen := by
  have k32 : Tryz.prog.cellsOf 32 = 3 := by kernel_rfl
  rcases open_slice Tryz.underlying22 h with ⟨hcs, _⟩ | ⟨a, len, cap, m, n, D, Pl, hcs, _, hl, hm, hmm, _, hx⟩
  · simp only [List.cons.injEq, and_true] at hcs
    subst hcs
    exact ⟨none, 0, [], rfl, ⟨rfl, fun h => absurd h (by decide)⟩, Nat.zero_le _⟩
  · simp only [List.cons.injEq, and_true] at hcs
    subst hcs
    have hlm : len ≤ m := by rw [hmm]; simp; omega
    have each : ∀ i, i < len → ∃ q : HourT, ∀ j, j < 3 → W.cell? (a.add (i * 3 + j)) = (hrL q)[j]? := fun i hi => by
      obtain ⟨cs', h1, h2⟩ := hx i (by omega)
      rw [k32] at h1
      obtain ⟨_, hlen, hcell⟩ := World.cells?_some h1
      obtain ⟨q, rfl⟩ := hour_in h2
      refine ⟨q, fun j hj => ?_⟩
      have := hcell j hj
      rwa [add_add] at this
    haveI : Inhabited HourT := ⟨⟨0, 0, 0⟩⟩
    obtain ⟨q, hq⟩ := choose_lt each
    have hln : ((List.range len).map q).length = len := by simp
    refine ⟨some a, cap, (List.range len).map q, by rw [hln], ⟨by rw [hrC_len], fun hn => ?_⟩, by rw [hln]; omega⟩
    rw [hln] at hn
    obtain ⟨b, off, spot⟩ := a
    have hc0 := hq 0 hn 0 (by decide)
    have hspot : spot = none := by simpa [Addr.add] using World.cell?_spot hc0
    subst hspot
    refine ⟨b, off, rfl, World.block_lt_of_cell? _ _ hc0, fun j u hu => ?_⟩
    have hjl := (List.getElem?_eq_some_iff.1 hu).1
    rw [hrC_len, hln] at hjl
    have h3 := hq (j / 3) (by omega) (j % 3) (by omega)
    have h4 := hrC_get (H := (List.range len).map q) (k := j / 3) (j := j % 3) (by rw [hln]; omega) (by omega)
    have e1 : j / 3 * 3 + j % 3 = j := by omega
    rw [e1] at h3 h4
    rw [show hAt ((List.range len).map q) (j / 3) = q (j / 3) by unfold hAt; rw [getD_range _ _ _ (by omega)]; rfl, hu] at h4
    rw [Addr.add_none] at h3
    rw [h3, ← h4]
set_option maxRecDepth 100000 in
/-- A mill, as the walks read it. -/
theorem mill_in {base : Nat} {v : Value} {d : DataW H} {p : List MemPlace} (hv : Value.okWide Tryz.prog W .any base 24 v) (h : DataW.Trod enc Tryz.prog W 0 (fun _ => true) true 24 v d p) :
    ∃ (M : MillT) (B : Option Addr) (c : Nat) (xs : List HourT), v = millV M B xs.length c ∧ Reads W W.heap.size 3 B xs.length (hrC xs) ∧ xs.length ≤ maxLen := by
  obtain ⟨cs, rfl, hsz⟩ := okWide_struct Tryz.underlying24 hv
  have k24 : Tryz.prog.cellsOf 24 = 5 := by kernel_rfl
  have k22 : Tryz.prog.cellsOf 22 = 1 := by kernel_rfl
  have k2 : Tryz.prog.cellsOf 2 = 1 := by kernel_rfl
  obtain ⟨fuel, hf⟩ := h
  obtain ⟨xs, n, _, _, hl, hlen, hfs⟩ := DataW.trod_struct Tryz.underlying24 hf
  obtain ⟨l⟩ := cs
  have hl : l.length = 5 := hsz.trans k24
  match xs, hlen, l, hl with
  | [y0, y1, y2, y3, y4], _, [a, b, c, d, e], _ =>
    have h0 := hfs 0 _ rfl
    have h1 := hfs 1 _ rfl
    have h2 := hfs 2 _ rfl
    have h3 := hfs 3 _ rfl
    have h4 := hfs 4 _ rfl
    simp [Value.cells, k2] at h0 h1 h2 h3
    simp [Value.cells, k22] at h4
    obtain ⟨q0, e0, _, _⟩ := DataW.trod_int Tryz.underlying2 h0
    obtain ⟨q1, e1, _, _⟩ := DataW.trod_int Tryz.underlying2 h1
    obtain ⟨q2, e2, _, _⟩ := DataW.trod_int Tryz.underlying2 h2
    obtain ⟨q3, e3, _, _⟩ := DataW.trod_int Tryz.underlying2 h3
    simp only [List.cons.injEq, and_true] at e0 e1 e2 e3
    subst e0 e1 e2 e3
    obtain ⟨B, c, xs, rfl, h5, h6⟩ := hours_in h4
    exact ⟨⟨q0, q1, q2, q3⟩, B, c, xs, rfl, h5, h6⟩
end
end Go.Proofs.YtiodmphhjgkgjaaGreat
