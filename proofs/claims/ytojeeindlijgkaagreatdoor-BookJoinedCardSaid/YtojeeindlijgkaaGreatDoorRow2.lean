/- An array of three small numbers: lemmas for the rows of this seat. No conditions. -/
import Derived.Test.YtojeeindlijgkaaGreatDoorRows
import Derived.OpenShut
import Derived.Test.YtojeeindlijgkaaGreatDoorRow0
set_option linter.all false
namespace Go.Proofs.YtojeeindlijgkaaGreatDoor
open Go.RowKit
/-! ## An array of three small numbers -/
section
open Go.ChangeShapes Go.WideShapes Go.ChangeAt Go.RowKit Go.Deep Go.Joins
variable {H : Type} {enc : TypeId × Value → H} {W : World}
set_option maxRecDepth 100000 in
theorem three_in {base : Nat} {v : Value} {d : DataW H} {p : List MemPlace} (hv : Value.okWide Tryz.prog W .any base 55 v) (h : DataW.Trod enc Tryz.prog W 0 (fun _ => true) true 55 v d p) :
    ∃ M : Nat → Nat, (∀ k, M k < 256) ∧ v = .agg #[.int .u8 (M 0 : Int), .int .u8 (M 1 : Int), .int .u8 (M 2 : Int)] := by
  have k55 : Tryz.prog.cellsOf 55 = 3 := by kernel_rfl
  have k5 : Tryz.prog.cellsOf 5 = 1 := by kernel_rfl
  obtain ⟨cs, rfl, hsz⟩ : ∃ cs, v = .agg cs ∧ cs.size = Tryz.prog.cellsOf 55 := by
    simp only [Value.okWide, Tryz.underlying55] at hv
    obtain ⟨cs, h1, h2, _⟩ := hv
    exact ⟨cs, h1, h2⟩
  obtain ⟨fuel, hf⟩ := h
  obtain ⟨xs, m1, _, _, hlen, hn3, hel⟩ := DataW.trod_array Tryz.underlying55 hf
  obtain ⟨c0, c1, c2, rfl⟩ : ∃ c0 c1 c2, cs = #[c0, c1, c2] := by
    obtain ⟨l⟩ := cs
    have hsz : l.length = 3 := hsz.trans k55
    match l, hsz with
    | [a, b, c], _ => exact ⟨a, b, c, rfl⟩
  match xs, hn3 with
  | [x0, x1, x2], _ =>
    have h0 := hel 0 (by decide)
    have h1 := hel 1 (by decide)
    have h2 := hel 2 (by decide)
    rw [k5] at h0 h1 h2
    simp [Value.cells] at h0 h1 h2
    obtain ⟨q0, e0, _, w0⟩ := DataW.trod_int Tryz.underlying5 h0
    obtain ⟨q1, e1, _, w1⟩ := DataW.trod_int Tryz.underlying5 h1
    obtain ⟨q2, e2, _, w2⟩ := DataW.trod_int Tryz.underlying5 h2
    simp only [List.cons.injEq, and_true] at e0 e1 e2
    subst e0 e1 e2
    obtain ⟨b0, rfl, g0⟩ := u8_nat w0
    obtain ⟨b1, rfl, g1⟩ := u8_nat w1
    obtain ⟨b2, rfl, g2⟩ := u8_nat w2
    refine ⟨fun k => match k with | 0 => b0 | 1 => b1 | 2 => b2 | _ => 0, fun k => ?_, rfl⟩
    match k with
    | 0 => exact g0
    | 1 => exact g1
    | 2 => exact g2
    | _ + 3 => show (0 : Nat) < 256; decide
end
end Go.Proofs.YtojeeindlijgkaaGreatDoor
