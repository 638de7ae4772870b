/- Proved: the law BookJoined returns true for every input: two books that have, of each clerk, the first lines of one book do not contradict one another; each becomes what they are together by what is new in the other one, to what it has seen. Conditions: the library's variables (tables of internal/strconv, math/bits and unicode/utf8, strconv.ErrSyntax, strconv.ErrRange) read as the text of the program lays them: the card ties them to it. -/
import Derived.Test.YtojeeindlijgkaaGreatDoorRows
import Derived.Test.YtojeeindlijgkaaGreatDoorTie
import Derived.Test.YtojeeindlijgkaaGreatDoorCards
import Derived.SevenTiedAt
import Derived.Test.YtojeeindlijgkaaGreatDoorK52
import Derived.Test.YtojeeindlijgkaaGreatDoorRow2
set_option linter.all false
namespace Go.Proofs.YtojeeindlijgkaaGreatDoor
open Go.RowKit
/- Proved: the law BookJoined returns true for every input: two books that have, of each clerk, the first lines of one book do not contradict one another; each becomes what they are together by what is new in the other one, to what it has seen. Conditions: the library's variables (tables of internal/strconv, math/bits and unicode/utf8, strconv.ErrSyntax, strconv.ErrRange) read as the text of the program lays them: the card ties them to it. -/
open Go.ChangeShapes Go.WideShapes Go.ChangeAt Go.RowKit Go.Deep Go.Joins
set_option maxRecDepth 100000 in
theorem bookJoined_lifted (os : Os) (started : os.Started) (H : Type) (enc : TypeId × Value → H) :
    ReturnsInHanded {} Tryz.checked os 8 .any (fun w args => (Rows.bookJoinedSpec.pre enc Tryz.prog Tryz.f8 [] false w args ∧ laidMetH Tryz.prog laidL w) ∧ sizedMet enc Tryz.prog Tryz.f8 (OpenSpec.ofChange Rows.bookJoinedSpec) false w args) (Rows.bookJoinedSpec.post enc Tryz.prog Tryz.f8 false true false false) := by
  refine handed_both (C := Tryz.checked) (X := fun w _ => laidMetH Tryz.prog laidL w) (fun _ _ _ hh h => h.of_heap hh) Tryz.own started (by kernel_rfl) Tryz.func8
    (ChangeSpec.witness_shaped (enc := enc) (C := Tryz.checked) (os := os) (X := fun w _ => laidMetH Tryz.prog laidL w) false (laidW os) #[.agg #[.slice none 0 0], .agg #[.int .u8 0, .int .u8 0, .int .u8 0], .agg #[.int .u8 0, .int .u8 0, .int .u8 0]] 8 rfl (laidW_shaped os _) (by kernel_rfl) (by kernel_rfl) (by kernel_rfl) (laidW_met os _)) ?_
  intro W base args ds gs before hval0 hW hL hO
  have hE := lay_of hL
  have hM := max_of hO
  have hval : ∀ (j : Nat) t v, Tryz.f8.params[j]? = some t → args[j]? = some v → Value.okWide Tryz.prog W .any base t v := hval0
  have hW' := hW
  obtain ⟨p, q, hA0, hV, rfl, _, _⟩ := hW
  have hA : DataW.TrodAll enc Tryz.prog W 0 (fun _ => true) true Tryz.f8.params.toList args.toList ds p := hA0
  rw [Tryz.params8] at hA hval
  obtain ⟨v0, v1, v2, d0, d1, d2, p0, p1, p2, rfl, rfl, rfl, h0, h1, h2⟩ := trodAll_three hA
  obtain ⟨rfl, rfl⟩ := trodVars_none hV
  have h0k := h0
  have h1k := h1
  have h2k := h2
  clear hA0 hval0
  simp only [List.append_nil] at hW'
  have hlt : ∀ x ∈ p0 ++ p1 ++ p2, x.block < W.heap.size := fun x hx => hW'.lt x (by simpa using hx)
  obtain ⟨A0, a0, l0, rfl, hB0, hb0, hc0⟩ := book_in (hval 0 24 v0 rfl rfl) h0
  obtain ⟨M1, hM1, rfl⟩ := three_in (hval 1 55 v1 rfl rfl) h1
  obtain ⟨M2, hM2, rfl⟩ := three_in (hval 2 55 v2 rfl rfl) h2
  refine (law8_any A0 a0 l0 M1 M2 hM1 hM2 W hB0 hb0 hE hM).mono fun e W' ⟨he, hb⟩ => ?_
  subst he
  exact ⟨_, rfl, _, _, _, [], _, [], hW', trodAll_mk1 (shut_bool Tryz.underlying4 true), (trodAll_mk3 (Below.trod Tryz.laidOut (by kernel_rfl) (of_decide_eq_true (by kernel_rfl)) h0k hb (fun x hx => hlt x (by first | (simp [hx]; done) | cases hx))) (Below.trod Tryz.laidOut (by kernel_rfl) (of_decide_eq_true (by kernel_rfl)) h1k hb (fun x hx => hlt x (by first | (simp [hx]; done) | cases hx))) (Below.trod Tryz.laidOut (by kernel_rfl) (of_decide_eq_true (by kernel_rfl)) h2k hb (fun x hx => hlt x (by first | (simp [hx]; done) | cases hx)))), rfl, hb.frame _, fun h => by cases h⟩
theorem bookJoined_said : Rows.BookJoinedSaid :=
  OpenClaim.holds_of_wide 8 Tryz.f8 rfl rfl rfl rfl rfl rfl rfl ⟨rfl, rfl, rfl, rfl, rfl⟩ rfl rfl rfl rfl rfl (by kernel_rfl) Tryz.func8 (by kernel_rfl)
    (of_decide_eq_true (by kernel_rfl)) (by unfold Func.isWrapper; first | (rw [if_pos (by decide +kernel)]; kernel_rfl) | (rw [if_neg (by decide +kernel)]; exact ⟨rfl, rfl⟩))
    (fun os started H enc _ => bookJoined_lifted os started H enc)
set_option maxRecDepth 100000 in
theorem bookJoined_holds : Rows.BookJoinedCardSaid :=
  Claim7.holds_tied_plain_at .later [] [.data, .data, .data, .data, .sentinel, .sentinel, .pinned] true (true, "066dbba9b204677d37cdcfd04352d9775fa1ec62d717b4473e5aaae6bd045017") true
    bookJoined_said (fun _ h => by cases h) (by kernel_rfl) (fun _ h => by cases h) bookJoined_row_tie rfl ⟨rfl, rfl⟩ (by kernel_rfl) rfl
    (fun f fn hf hfn => by
      obtain rfl : f = 8 := Option.some.inj ((show Tryz.prog.funcNamed "senvy/senvylaw12.BookJoined" = some 8 by kernel_rfl).symm.trans hf) |>.symm
      obtain rfl : fn = Tryz.f8 := (Option.some.inj (Tryz.func8.symm.trans hfn)).symm
      exact ⟨by kernel_rfl, fun j t ht => by
        rw [Tryz.params8] at ht
        have hm : t ∈ ([24, 55, 55] : List TypeId) := List.mem_of_getElem? (i := j) (by simpa using ht)
        exact (show Tryz.prog.wantsStandIn t = false by simpa using List.all_eq_true.1 (show ([24, 55, 55] : List TypeId).all (fun t => !Tryz.prog.wantsStandIn t) = true by kernel_rfl) t hm)⟩)
    (by kernel_rfl)
end Go.Proofs.YtojeeindlijgkaaGreatDoor
