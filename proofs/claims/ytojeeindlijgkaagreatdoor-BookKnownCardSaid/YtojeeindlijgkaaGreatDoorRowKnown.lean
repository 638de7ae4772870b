/- Proved: the law BookKnown returns true for every input: the examples of the chapter. Conditions: the library's variables (tables of internal/strconv, math/bits and unicode/utf8, strconv.ErrSyntax, strconv.ErrRange) read as the text of the program lays them: the card ties them to it. -/
import Derived.Test.YtojeeindlijgkaaGreatDoorRows
import Derived.Test.YtojeeindlijgkaaGreatDoorTie
import Derived.Test.YtojeeindlijgkaaGreatDoorCards
import Derived.SevenTiedAt
import Derived.Test.YtojeeindlijgkaaGreatDoorK47
import Derived.Test.YtojeeindlijgkaaGreatDoorRow0
set_option linter.all false
namespace Go.Proofs.YtojeeindlijgkaaGreatDoor
open Go.RowKit
/- Proved: the law BookKnown returns true for every input: the examples of the chapter. Conditions: the library's variables (tables of internal/strconv, math/bits and unicode/utf8, strconv.ErrSyntax, strconv.ErrRange) read as the text of the program lays them: the card ties them to it. -/
open Go.ChangeShapes Go.WideShapes Go.ChangeAt Go.RowKit Go.Deep Go.Joins
set_option maxRecDepth 100000 in
theorem bookKnown_lifted (os : Os) (started : os.Started) (H : Type) (enc : TypeId × Value → H) :
    ReturnsInHanded {} Tryz.checked os 14 .any (fun w args => (Rows.bookKnownSpec.pre enc Tryz.prog Tryz.f14 [] false w args ∧ laidMetH Tryz.prog laidL w) ∧ sizedMet enc Tryz.prog Tryz.f14 (OpenSpec.ofChange Rows.bookKnownSpec) false w args) (Rows.bookKnownSpec.post enc Tryz.prog Tryz.f14 false true false false) := by
  refine handed_both (C := Tryz.checked) (X := fun w _ => laidMetH Tryz.prog laidL w) (fun _ _ _ hh h => h.of_heap hh) Tryz.own started (by kernel_rfl) Tryz.func14
    (ChangeSpec.witness_shaped (enc := enc) (C := Tryz.checked) (os := os) (X := fun w _ => laidMetH Tryz.prog laidL w) false (laidW os) #[] 8 rfl (laidW_shaped os _) (by kernel_rfl) (by kernel_rfl) (by kernel_rfl) (laidW_met os _)) ?_
  intro W base args ds gs before hval0 hW hL hO
  have hE := lay_of hL
  have hM := max_of hO
  have hval : ∀ (j : Nat) t v, Tryz.f14.params[j]? = some t → args[j]? = some v → Value.okWide Tryz.prog W .any base t v := hval0
  have hW' := hW
  obtain ⟨p, q, hA0, hV, rfl, _, _⟩ := hW
  have hA : DataW.TrodAll enc Tryz.prog W 0 (fun _ => true) true Tryz.f14.params.toList args.toList ds p := hA0
  rw [Tryz.params14] at hA hval
  obtain ⟨rfl, rfl, rfl⟩ := trodAll_none0 hA
  obtain ⟨rfl, rfl⟩ := trodVars_none hV
  clear hA0 hval0
  simp only [List.append_nil] at hW'
  refine (law14_any W hE hM).mono fun e W' ⟨he, hb⟩ => ?_
  subst he
  exact ⟨_, rfl, _, _, _, [], _, [], hW', trodAll_mk1 (shut_bool Tryz.underlying4 true), trodAll_mk0, rfl, hb.frame _, fun h => by cases h⟩
theorem bookKnown_said : Rows.BookKnownSaid :=
  OpenClaim.holds_of_wide 14 Tryz.f14 rfl rfl rfl rfl rfl rfl rfl ⟨rfl, rfl, rfl, rfl, rfl⟩ rfl rfl rfl rfl rfl (by kernel_rfl) Tryz.func14 (by kernel_rfl)
    (of_decide_eq_true (by kernel_rfl)) (by unfold Func.isWrapper; first | (rw [if_pos (by decide +kernel)]; kernel_rfl) | (rw [if_neg (by decide +kernel)]; exact ⟨rfl, rfl⟩))
    (fun os started H enc _ => bookKnown_lifted os started H enc)
set_option maxRecDepth 100000 in
theorem bookKnown_holds : Rows.BookKnownCardSaid :=
  Claim7.holds_tied_plain_at .later [] [.data, .data, .data, .data, .sentinel, .sentinel, .pinned] true (true, "066dbba9b204677d37cdcfd04352d9775fa1ec62d717b4473e5aaae6bd045017") true
    bookKnown_said (fun _ h => by cases h) (by kernel_rfl) (fun _ h => by cases h) bookKnown_row_tie rfl ⟨rfl, rfl⟩ (by kernel_rfl) rfl
    (fun f fn hf hfn => by
      obtain rfl : f = 14 := Option.some.inj ((show Tryz.prog.funcNamed "senvy/senvylaw12.BookKnown" = some 14 by kernel_rfl).symm.trans hf) |>.symm
      obtain rfl : fn = Tryz.f14 := (Option.some.inj (Tryz.func14.symm.trans hfn)).symm
      exact ⟨by kernel_rfl, fun j t ht => by
        rw [Tryz.params14] at ht
        have hm : t ∈ ([] : List TypeId) := List.mem_of_getElem? (i := j) (by simpa using ht)
        exact (show Tryz.prog.wantsStandIn t = false by simpa using List.all_eq_true.1 (show ([] : List TypeId).all (fun t => !Tryz.prog.wantsStandIn t) = true by kernel_rfl) t hm)⟩)
    (by kernel_rfl)
end Go.Proofs.YtojeeindlijgkaaGreatDoor
