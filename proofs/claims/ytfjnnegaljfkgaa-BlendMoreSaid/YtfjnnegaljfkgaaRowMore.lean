/- Proved: the law BlendMore returns true for every input: a lot more never makes any cheapest price, nor any price at least, dearer; nor does a lower Price. Conditions: none. -/
import Derived.Test.YtfjnnegaljfkgaaRows
import Derived.Test.YtfjnnegaljfkgaaRow0
import Derived.Test.YtfjnnegaljfkgaaC19
set_option linter.all false
namespace Go.Proofs.Ytfjnnegaljfkgaa
open Go.RowKit
/- Proved: the law BlendMore returns true for every input: a lot more never makes any cheapest price, nor any price at least, dearer; nor does a lower Price. Conditions: none. -/
open Go.ChangeShapes Go.WideShapes Go.ChangeAt Go.RowKit Go.Deep Go.Joins
set_option maxRecDepth 100000 in
theorem blendMore_lifted (os : Os) (started : os.Started) (H : Type) (enc : TypeId × Value → H) :
    ReturnsInHanded {} Try.checked os 11 .any (Rows.blendMoreSpec.pre6 enc Try.prog Try.f11 Rows.blendMoreRow.domain false) (Rows.blendMoreSpec.post enc Try.prog Try.f11 false true false false) := by
  refine returnsInHanded_of_change (C := Try.checked) Try.own started (by kernel_rfl) Try.func11
    (ChangeSpec.witness6 (enc := enc) (C := Try.checked) false ⟨#[], #[.slice none 0 0, .agg #[.int .i64 0, .int .i64 0], .int .u8 0, .int .u16 0, .int .u8 0], []⟩ 8 (by kernel_rfl) (by kernel_rfl) (by kernel_rfl) (by kernel_rfl)) ?_
  intro W base args ds gs before hval0 hW hcnd _
  have hval : ∀ (j : Nat) t v, Try.f11.params[j]? = some t → args[j]? = some v → Value.okWide Try.prog W .any base t v := hval0
  have hW' := hW
  obtain ⟨p, q, hA0, hV, rfl, _, _⟩ := hW
  have hA : DataW.TrodAll enc Try.prog W 0 (fun _ => true) true Try.f11.params.toList args.toList ds p := hA0
  rw [Try.params11] at hA hval
  obtain ⟨v0, v1, v2, v3, v4, d0, d1, d2, d3, d4, p0, p1, p2, p3, p4, rfl, rfl, rfl, h0, h1, h2, h3, h4⟩ := trodAll_five hA
  obtain ⟨rfl, rfl⟩ := trodVars_none hV
  have h0k := h0
  have h1k := h1
  have h2k := h2
  have h3k := h3
  have h4k := h4
  clear hA0 hval0
  simp only [List.append_nil] at hW'
  have hlt : ∀ x ∈ p0 ++ p1 ++ p2 ++ p3 ++ p4, x.block < W.heap.size := fun x hx => hW'.lt x (by simpa using hx)
  obtain ⟨a0, len0, cap0, rfl⟩ := okWide_slice Try.underlying22 (hval 0 22 v0 rfl rfl)
  obtain ⟨fuel0, hf0⟩ := h0
  obtain ⟨xs0, hl0, hr0, hm0⟩ := lots_in Try.underlying22 Try.underlying67 Try.cells67 rfl rfl Try.cells2 Try.cells2 Try.underlying2 Try.underlying2 hf0
  subst hl0
  obtain ⟨c1a, c1b, y1a, y1b, m1, rfl, rfl, rfl, g1a, g1b⟩ := open_agg2 Try.underlying67 (by kernel_rfl) Try.cells67 (hval 1 67 v1 rfl rfl) h1
  obtain ⟨z1a, e1a, rfl, _⟩ := DataW.trod_int Try.underlying2 g1a
  simp only [List.cons.injEq, and_true] at e1a
  subst e1a
  obtain ⟨z1b, e1b, rfl, _⟩ := DataW.trod_int Try.underlying2 g1b
  simp only [List.cons.injEq, and_true] at e1b
  subst e1b
  obtain ⟨z2, rfl, rfl, rfl, w2⟩ := open_int Try.underlying5 (hval 2 5 v2 rfl rfl) h2
  obtain ⟨z3, rfl, rfl, rfl, w3⟩ := open_int Try.underlying69 (hval 3 69 v3 rfl rfl) h3
  obtain ⟨z4, rfl, rfl, rfl, w4⟩ := open_int Try.underlying5 (hval 4 5 v4 rfl rfl) h4
  refine (blendMore_any a0 cap0 xs0 W hr0 hm0 z1a z1b z2 z3 z4 (u8_in w2) (u16_in w3) (u8_in w4)).mono fun e W' ⟨he, hb⟩ => ?_
  subst he
  exact ⟨_, rfl, _, _, _, [], _, [], hW', trodAll_mk1 (shut_bool Try.underlying4 true), trodAll_mk5 (Below.trod Try.laidOut (by kernel_rfl) (of_decide_eq_true (by kernel_rfl)) h0k hb (fun x hx => hlt x (by simp [hx]))) (Below.trod Try.laidOut (by kernel_rfl) (of_decide_eq_true (by kernel_rfl)) h1k hb (fun x hx => absurd hx (by simp))) (Below.trod Try.laidOut (by kernel_rfl) (of_decide_eq_true (by kernel_rfl)) h2k hb (fun x hx => absurd hx (by simp))) (Below.trod Try.laidOut (by kernel_rfl) (of_decide_eq_true (by kernel_rfl)) h3k hb (fun x hx => absurd hx (by simp))) (Below.trod Try.laidOut (by kernel_rfl) (of_decide_eq_true (by kernel_rfl)) h4k hb (fun x hx => absurd hx (by simp))), rfl, hb.frame _, fun h => by cases h⟩
theorem blendMore_holds : Rows.BlendMoreSaid :=
  OpenClaim.holds_of_wide 11 Try.f11 rfl rfl rfl rfl rfl rfl rfl ⟨rfl, rfl, rfl, rfl, rfl⟩ rfl rfl rfl rfl rfl (by kernel_rfl) Try.func11 (by kernel_rfl)
    (of_decide_eq_true (by kernel_rfl)) (by unfold Func.isWrapper; first | (rw [if_pos (by decide +kernel)]; kernel_rfl) | (rw [if_neg (by decide +kernel)]; exact ⟨rfl, rfl⟩))
    (fun os started H enc _ => blendMore_lifted os started H enc)
end Go.Proofs.Ytfjnnegaljfkgaa
