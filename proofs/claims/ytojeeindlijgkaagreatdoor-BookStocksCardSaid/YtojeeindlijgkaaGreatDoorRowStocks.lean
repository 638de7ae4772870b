/- Proved: the law BookStocks returns true for every input: the stock at the greatest stamp is the stock; without one of its lines only the number of its thing is another one, and no stock at a lesser stamp; a line with BookAdd behind all others adds its Value. Conditions: the library's variables (tables of internal/strconv, math/bits and unicode/utf8, strconv.ErrSyntax, strconv.ErrRange) read as the text of the program lays them: the card ties them to it. -/
import Derived.Test.YtojeeindlijgkaaGreatDoorRows
import Derived.Test.YtojeeindlijgkaaGreatDoorTie
import Derived.Test.YtojeeindlijgkaaGreatDoorCards
import Derived.SevenTiedAt
import Derived.Test.YtojeeindlijgkaaGreatDoorRow0
import Derived.Test.YtojeeindlijgkaaGreatDoorK55
import Derived.Test.YtojeeindlijgkaaGreatDoorRa
set_option linter.all false
namespace Go.Proofs.YtojeeindlijgkaaGreatDoor
open Go.RowKit
/- Proved: the law BookStocks returns true for every input: the stock at the greatest stamp is the stock; without one of its lines only the number of its thing is another one, and no stock at a lesser stamp; a line with BookAdd behind all others adds its Value. Conditions: the library's variables (tables of internal/strconv, math/bits and unicode/utf8, strconv.ErrSyntax, strconv.ErrRange) read as the text of the program lays them: the card ties them to it. -/
open Go.ChangeShapes Go.WideShapes Go.ChangeAt Go.RowKit Go.Deep Go.Joins
set_option maxRecDepth 100000 in
theorem bookStocks_lifted (os : Os) (started : os.Started) (H : Type) (enc : TypeId × Value → H) :
    ReturnsInHanded {} Tryz.checked os 10 .any (fun w args => (Rows.bookStocksSpec.pre enc Tryz.prog Tryz.f10 [] false w args ∧ laidMetH Tryz.prog laidL w) ∧ sizedMet enc Tryz.prog Tryz.f10 (OpenSpec.ofChange Rows.bookStocksSpec) false w args) (Rows.bookStocksSpec.post enc Tryz.prog Tryz.f10 false true false false) := by
  refine handed_both (C := Tryz.checked) (X := fun w _ => laidMetH Tryz.prog laidL w) (fun _ _ _ hh h => h.of_heap hh) Tryz.own started (by kernel_rfl) Tryz.func10
    (ChangeSpec.witness_shaped (enc := enc) (C := Tryz.checked) (os := os) (X := fun w _ => laidMetH Tryz.prog laidL w) false (laidW os) #[.agg #[.slice none 0 0], .int .u8 0, .int .u16 0, .int .u8 0, .int .u8 0, .int .i16 0] 8 rfl (laidW_shaped os _) (by kernel_rfl) (by kernel_rfl) (by kernel_rfl) (laidW_met os _)) ?_
  intro W base args ds gs before hval0 hW hL hO
  have hE := lay_of hL
  have hM := max_of hO
  have hval : ∀ (j : Nat) t v, Tryz.f10.params[j]? = some t → args[j]? = some v → Value.okWide Tryz.prog W .any base t v := hval0
  have hW' := hW
  obtain ⟨p, q, hA0, hV, rfl, _, _⟩ := hW
  have hA : DataW.TrodAll enc Tryz.prog W 0 (fun _ => true) true Tryz.f10.params.toList args.toList ds p := hA0
  rw [Tryz.params10] at hA hval
  obtain ⟨v0, v1, v2, v3, v4, v5, d0, d1, d2, d3, d4, d5, p0, p1, p2, p3, p4, p5, rfl, rfl, rfl, h0, h1, h2, h3, h4, h5⟩ := trodAll_six hA
  obtain ⟨rfl, rfl⟩ := trodVars_none hV
  have h0k := h0
  have h1k := h1
  have h2k := h2
  have h3k := h3
  have h4k := h4
  have h5k := h5
  clear hA0 hval0
  simp only [List.append_nil] at hW'
  have hlt : ∀ x ∈ p0 ++ p1 ++ p2 ++ p3 ++ p4 ++ p5, x.block < W.heap.size := fun x hx => hW'.lt x (by simpa using hx)
  obtain ⟨A0, a0, l0, rfl, hB0, hb0, hc0⟩ := book_in (hval 0 24 v0 rfl rfl) h0
  obtain ⟨z1, rfl, rfl, rfl, hw1⟩ := open_int Tryz.underlying5 (hval 1 5 v1 rfl rfl) h1
  obtain ⟨b1, rfl, hb1⟩ := u8_nat hw1
  obtain ⟨z2, rfl, rfl, rfl, hw2⟩ := open_int Tryz.underlying58 (hval 2 58 v2 rfl rfl) h2
  obtain ⟨b2, rfl, hb2⟩ := u16_nat hw2
  obtain ⟨z3, rfl, rfl, rfl, hw3⟩ := open_int Tryz.underlying5 (hval 3 5 v3 rfl rfl) h3
  obtain ⟨b3, rfl, hb3⟩ := u8_nat hw3
  obtain ⟨z4, rfl, rfl, rfl, hw4⟩ := open_int Tryz.underlying5 (hval 4 5 v4 rfl rfl) h4
  obtain ⟨b4, rfl, hb4⟩ := u8_nat hw4
  obtain ⟨z5, rfl, rfl, rfl, hw5⟩ := open_int Tryz.underlying59 (hval 5 59 v5 rfl rfl) h5
  have hz5 := i16_in hw5
  refine (law10_any A0 a0 l0 b1 b2 b3 b4 z5 hb1 hb2 hb3 hb4 hz5 W hB0 hb0 hc0 hE hM).mono fun e W' ⟨he, hb⟩ => ?_
  subst he
  exact ⟨_, rfl, _, _, _, [], _, [], hW', trodAll_mk1 (shut_bool Tryz.underlying4 true), (trodAll_mk6 (Below.trod Tryz.laidOut (by kernel_rfl) (of_decide_eq_true (by kernel_rfl)) h0k hb (fun x hx => hlt x (by first | (simp [hx]; done) | cases hx))) (Below.trod Tryz.laidOut (by kernel_rfl) (of_decide_eq_true (by kernel_rfl)) h1k hb (fun x hx => hlt x (by first | (simp [hx]; done) | cases hx))) (Below.trod Tryz.laidOut (by kernel_rfl) (of_decide_eq_true (by kernel_rfl)) h2k hb (fun x hx => hlt x (by first | (simp [hx]; done) | cases hx))) (Below.trod Tryz.laidOut (by kernel_rfl) (of_decide_eq_true (by kernel_rfl)) h3k hb (fun x hx => hlt x (by first | (simp [hx]; done) | cases hx))) (Below.trod Tryz.laidOut (by kernel_rfl) (of_decide_eq_true (by kernel_rfl)) h4k hb (fun x hx => hlt x (by first | (simp [hx]; done) | cases hx))) (Below.trod Tryz.laidOut (by kernel_rfl) (of_decide_eq_true (by kernel_rfl)) h5k hb (fun x hx => hlt x (by first | (simp [hx]; done) | cases hx)))), rfl, hb.frame _, fun h => by cases h⟩
theorem bookStocks_said : Rows.BookStocksSaid :=
  OpenClaim.holds_of_wide 10 Tryz.f10 rfl rfl rfl rfl rfl rfl rfl ⟨rfl, rfl, rfl, rfl, rfl⟩ rfl rfl rfl rfl rfl (by kernel_rfl) Tryz.func10 (by kernel_rfl)
    (of_decide_eq_true (by kernel_rfl)) (by unfold Func.isWrapper; first | (rw [if_pos (by decide +kernel)]; kernel_rfl) | (rw [if_neg (by decide +kernel)]; exact ⟨rfl, rfl⟩))
    (fun os started H enc _ => bookStocks_lifted os started H enc)
set_option maxRecDepth 100000 in
theorem bookStocks_holds : Rows.BookStocksCardSaid :=
  Claim7.holds_tied_plain_at .later [] [.data, .data, .data, .data, .sentinel, .sentinel, .pinned] true (true, "066dbba9b204677d37cdcfd04352d9775fa1ec62d717b4473e5aaae6bd045017") true
    bookStocks_said (fun _ h => by cases h) (by kernel_rfl) (fun _ h => by cases h) bookStocks_row_tie rfl ⟨rfl, rfl⟩ (by kernel_rfl) rfl
    (fun f fn hf hfn => by
      obtain rfl : f = 10 := Option.some.inj ((show Tryz.prog.funcNamed "senvy/senvylaw12.BookStocks" = some 10 by kernel_rfl).symm.trans hf) |>.symm
      obtain rfl : fn = Tryz.f10 := (Option.some.inj (Tryz.func10.symm.trans hfn)).symm
      exact ⟨by kernel_rfl, fun j t ht => by
        rw [Tryz.params10] at ht
        have hm : t ∈ ([24, 5, 58, 5, 5, 59] : List TypeId) := List.mem_of_getElem? (i := j) (by simpa using ht)
        exact (show Tryz.prog.wantsStandIn t = false by simpa using List.all_eq_true.1 (show ([24, 5, 58, 5, 5, 59] : List TypeId).all (fun t => !Tryz.prog.wantsStandIn t) = true by kernel_rfl) t hm)⟩)
    (by kernel_rfl)
end Go.Proofs.YtojeeindlijgkaaGreatDoor
