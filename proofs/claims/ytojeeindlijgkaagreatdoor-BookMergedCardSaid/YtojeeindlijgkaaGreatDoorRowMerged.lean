/- Proved: the law BookMerged returns true for every input: books that are parts of one book are put together in whatever order, and as often, to the same book, which has all lines of all, and no others; its stock is theirs if it is the whole book. Conditions: the library's variables (tables of internal/strconv, math/bits and unicode/utf8, strconv.ErrSyntax, strconv.ErrRange) read as the text of the program lays them: the card ties them to it. -/
import Derived.Test.YtojeeindlijgkaaGreatDoorRows
import Derived.Test.YtojeeindlijgkaaGreatDoorTie
import Derived.Test.YtojeeindlijgkaaGreatDoorCards
import Derived.SevenTiedAt
import Derived.Test.YtojeeindlijgkaaGreatDoorRow0
import Derived.Test.YtojeeindlijgkaaGreatDoorK53
set_option linter.all false
namespace Go.Proofs.YtojeeindlijgkaaGreatDoor
open Go.RowKit
/- Proved: the law BookMerged returns true for every input: books that are parts of one book are put together in whatever order, and as often, to the same book, which has all lines of all, and no others; its stock is theirs if it is the whole book. Conditions: the library's variables (tables of internal/strconv, math/bits and unicode/utf8, strconv.ErrSyntax, strconv.ErrRange) read as the text of the program lays them: the card ties them to it. -/
open Go.ChangeShapes Go.WideShapes Go.ChangeAt Go.RowKit Go.Deep Go.Joins
set_option maxRecDepth 100000 in
theorem bookMerged_lifted (os : Os) (started : os.Started) (H : Type) (enc : TypeId × Value → H) :
    ReturnsInHanded {} Tryz.checked os 7 .any (fun w args => (Rows.bookMergedSpec.pre enc Tryz.prog Tryz.f7 [] false w args ∧ laidMetH Tryz.prog laidL w) ∧ sizedMet enc Tryz.prog Tryz.f7 (OpenSpec.ofChange Rows.bookMergedSpec) false w args) (Rows.bookMergedSpec.post enc Tryz.prog Tryz.f7 false true false false) := by
  refine handed_both (C := Tryz.checked) (X := fun w _ => laidMetH Tryz.prog laidL w) (fun _ _ _ hh h => h.of_heap hh) Tryz.own started (by kernel_rfl) Tryz.func7
    (ChangeSpec.witness_shaped (enc := enc) (C := Tryz.checked) (os := os) (X := fun w _ => laidMetH Tryz.prog laidL w) false (laidW os) #[.agg #[.slice none 0 0], .int .u32 0, .int .u32 0, .int .u32 0] 8 rfl (laidW_shaped os _) (by kernel_rfl) (by kernel_rfl) (by kernel_rfl) (laidW_met os _)) ?_
  intro W base args ds gs before hval0 hW hL hO
  have hE := lay_of hL
  have hM := max_of hO
  have hval : ∀ (j : Nat) t v, Tryz.f7.params[j]? = some t → args[j]? = some v → Value.okWide Tryz.prog W .any base t v := hval0
  have hW' := hW
  obtain ⟨p, q, hA0, hV, rfl, _, _⟩ := hW
  have hA : DataW.TrodAll enc Tryz.prog W 0 (fun _ => true) true Tryz.f7.params.toList args.toList ds p := hA0
  rw [Tryz.params7] at hA hval
  obtain ⟨v0, v1, v2, v3, d0, d1, d2, d3, p0, p1, p2, p3, rfl, rfl, rfl, h0, h1, h2, h3⟩ := trodAll_four hA
  obtain ⟨rfl, rfl⟩ := trodVars_none hV
  have h0k := h0
  have h1k := h1
  have h2k := h2
  have h3k := h3
  clear hA0 hval0
  simp only [List.append_nil] at hW'
  have hlt : ∀ x ∈ p0 ++ p1 ++ p2 ++ p3, x.block < W.heap.size := fun x hx => hW'.lt x (by simpa using hx)
  obtain ⟨A0, a0, l0, rfl, hB0, hb0, hc0⟩ := book_in (hval 0 24 v0 rfl rfl) h0
  obtain ⟨z1, rfl, rfl, rfl, hw1⟩ := open_int Tryz.underlying50 (hval 1 50 v1 rfl rfl) h1
  obtain ⟨b1, rfl, hb1⟩ := u32_nat hw1
  obtain ⟨z2, rfl, rfl, rfl, hw2⟩ := open_int Tryz.underlying50 (hval 2 50 v2 rfl rfl) h2
  obtain ⟨b2, rfl, hb2⟩ := u32_nat hw2
  obtain ⟨z3, rfl, rfl, rfl, hw3⟩ := open_int Tryz.underlying50 (hval 3 50 v3 rfl rfl) h3
  obtain ⟨b3, rfl, hb3⟩ := u32_nat hw3
  refine (law7_any A0 a0 l0 b1 b2 b3 hb1 hb2 hb3 W hB0 hb0 hE hM).mono fun e W' ⟨he, hb⟩ => ?_
  subst he
  exact ⟨_, rfl, _, _, _, [], _, [], hW', trodAll_mk1 (shut_bool Tryz.underlying4 true), (trodAll_mk4 (Below.trod Tryz.laidOut (by kernel_rfl) (of_decide_eq_true (by kernel_rfl)) h0k hb (fun x hx => hlt x (by first | (simp [hx]; done) | cases hx))) (Below.trod Tryz.laidOut (by kernel_rfl) (of_decide_eq_true (by kernel_rfl)) h1k hb (fun x hx => hlt x (by first | (simp [hx]; done) | cases hx))) (Below.trod Tryz.laidOut (by kernel_rfl) (of_decide_eq_true (by kernel_rfl)) h2k hb (fun x hx => hlt x (by first | (simp [hx]; done) | cases hx))) (Below.trod Tryz.laidOut (by kernel_rfl) (of_decide_eq_true (by kernel_rfl)) h3k hb (fun x hx => hlt x (by first | (simp [hx]; done) | cases hx)))), rfl, hb.frame _, fun h => by cases h⟩
theorem bookMerged_said : Rows.BookMergedSaid :=
  OpenClaim.holds_of_wide 7 Tryz.f7 rfl rfl rfl rfl rfl rfl rfl ⟨rfl, rfl, rfl, rfl, rfl⟩ rfl rfl rfl rfl rfl (by kernel_rfl) Tryz.func7 (by kernel_rfl)
    (of_decide_eq_true (by kernel_rfl)) (by unfold Func.isWrapper; first | (rw [if_pos (by decide +kernel)]; kernel_rfl) | (rw [if_neg (by decide +kernel)]; exact ⟨rfl, rfl⟩))
    (fun os started H enc _ => bookMerged_lifted os started H enc)
set_option maxRecDepth 100000 in
theorem bookMerged_holds : Rows.BookMergedCardSaid :=
  Claim7.holds_tied_plain_at .later [] [.data, .data, .data, .data, .sentinel, .sentinel, .pinned] true (true, "066dbba9b204677d37cdcfd04352d9775fa1ec62d717b4473e5aaae6bd045017") true
    bookMerged_said (fun _ h => by cases h) (by kernel_rfl) (fun _ h => by cases h) bookMerged_row_tie rfl ⟨rfl, rfl⟩ (by kernel_rfl) rfl
    (fun f fn hf hfn => by
      obtain rfl : f = 7 := Option.some.inj ((show Tryz.prog.funcNamed "senvy/senvylaw12.BookMerged" = some 7 by kernel_rfl).symm.trans hf) |>.symm
      obtain rfl : fn = Tryz.f7 := (Option.some.inj (Tryz.func7.symm.trans hfn)).symm
      exact ⟨by kernel_rfl, fun j t ht => by
        rw [Tryz.params7] at ht
        have hm : t ∈ ([24, 50, 50, 50] : List TypeId) := List.mem_of_getElem? (i := j) (by simpa using ht)
        exact (show Tryz.prog.wantsStandIn t = false by simpa using List.all_eq_true.1 (show ([24, 50, 50, 50] : List TypeId).all (fun t => !Tryz.prog.wantsStandIn t) = true by kernel_rfl) t hm)⟩)
    (by kernel_rfl)
end Go.Proofs.YtojeeindlijgkaaGreatDoor
