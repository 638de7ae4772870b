/-
  No cell of these rows narrows 'for every input' (looked for: loops, veiled, ifaces, maps, wideKeys, modest, calm, conditions, laid).
  DERIVED. THE GIVEN ROWS OF THIS SEAT. 16 by the template 'for every input the law returns true; each argument reads behind the call as it read before'; 0 by the template 'total and deterministic' (their statements: YtkbcogaodnmdoaaTotals.lean).
  GIVEN WITH THE SEED: the statements are not yours to turn. If you find one false, say at which input.
  Laid BY PROGRAM, IN A SANDBOX (cutbox-rows.mjs): the forced cells as the released guide's own fill.sh prints them over the translation 180a4621bd677c78… (all of the seat's roots in one cut). By AI agents, Wed Nov 11 2026. No macro, syntax, notation, axiom, sorry.
-/
import Derived.Test.YtkbcogaodnmdoaaChecked
import GoSem.Claim
import GoSem.ClaimJoined
import GoSem.ClaimMapViews
import Derived.JoinedTies
import Derived.KernelRfl
namespace Go.Proofs.Ytkbcogaodnmdoaa
/- THE CELL 'sum', in the pinned program and in every row, IS THE sha256 OF THE DUMP (.gsa) THAT YtkbcogaodnmdoaaProg.lean LOADS. Nothing in Lean hashes anything: it is a label: what it is worth is what the hold of that sum in a sandbox is worth. -/
noncomputable def Try.pinned : Pinned := { name := "ytkbcogaodnmdoaa", sum := "180a4621bd677c7832c802dd5e39f7ca3b6c4a71f84820d7ef58689e608f9d08", checked := Try.checked }
namespace Rows
def none {H : Type} : Left H := { results := [], args := [] }

/-- 'senvylaw01.TasteBooks': WHATEVER THE INPUT: true; the input reads as it did. -/
def tasteBooksSpec : ChangeSpec := { name := "tasteBooks", fn := fun _ => fun
  | [d1, d2, d3] => { results := [.lit (.bool true)], args := [d1, d2, d3] }
  | _ => none }
def tasteBooksRow : OpenClaim := { program := "ytkbcogaodnmdoaa", sum := "180a4621bd677c7832c802dd5e39f7ca3b6c4a71f84820d7ef58689e608f9d08", func := "senvy/senvylaw01.TasteBooks", spec := "tasteBooks", unfollowed := true, recurses := true, plainKeys := false, apart := false }
def TasteBooksSaid : Prop := tasteBooksRow.holds Try.pinned (OpenSpec.ofChange tasteBooksSpec)

/-- ITS FALSE NEIGHBOUR: 'it returns false'. Refute it at one input. -/
def tasteBooksWrong : ChangeSpec := { name := "tasteBooks", fn := fun _ => fun
  | [d1, d2, d3] => { results := [.lit (.bool false)], args := [d1, d2, d3] }
  | _ => none }
def TasteBooksWrongFalsely : Prop := tasteBooksRow.holds Try.pinned (OpenSpec.ofChange tasteBooksWrong)

/-- 'senvylaw01.TasteTruths': WHATEVER THE INPUT: true; the input reads as it did. -/
def tasteTruthsSpec : ChangeSpec := { name := "tasteTruths", fn := fun _ => fun
  | [d] => { results := [.lit (.bool true)], args := [d] }
  | _ => none }
def tasteTruthsRow : OpenClaim := { program := "ytkbcogaodnmdoaa", sum := "180a4621bd677c7832c802dd5e39f7ca3b6c4a71f84820d7ef58689e608f9d08", func := "senvy/senvylaw01.TasteTruths", spec := "tasteTruths", unfollowed := true, recurses := true, plainKeys := false, apart := false }
def TasteTruthsSaid : Prop := tasteTruthsRow.holds Try.pinned (OpenSpec.ofChange tasteTruthsSpec)

/-- ITS FALSE NEIGHBOUR: 'it returns false'. Refute it at one input. -/
def tasteTruthsWrong : ChangeSpec := { name := "tasteTruths", fn := fun _ => fun
  | [d] => { results := [.lit (.bool false)], args := [d] }
  | _ => none }
def TasteTruthsWrongFalsely : Prop := tasteTruthsRow.holds Try.pinned (OpenSpec.ofChange tasteTruthsWrong)

/-- 'senvylaw01.TasteSpans': WHATEVER THE INPUT: true; the input reads as it did. -/
def tasteSpansSpec : ChangeSpec := { name := "tasteSpans", fn := fun _ => fun
  | [d1, d2, d3] => { results := [.lit (.bool true)], args := [d1, d2, d3] }
  | _ => none }
def tasteSpansRow : OpenClaim := { program := "ytkbcogaodnmdoaa", sum := "180a4621bd677c7832c802dd5e39f7ca3b6c4a71f84820d7ef58689e608f9d08", func := "senvy/senvylaw01.TasteSpans", spec := "tasteSpans", unfollowed := true, recurses := true, plainKeys := false, apart := false }
def TasteSpansSaid : Prop := tasteSpansRow.holds Try.pinned (OpenSpec.ofChange tasteSpansSpec)

/-- ITS FALSE NEIGHBOUR: 'it returns false'. Refute it at one input. -/
def tasteSpansWrong : ChangeSpec := { name := "tasteSpans", fn := fun _ => fun
  | [d1, d2, d3] => { results := [.lit (.bool false)], args := [d1, d2, d3] }
  | _ => none }
def TasteSpansWrongFalsely : Prop := tasteSpansRow.holds Try.pinned (OpenSpec.ofChange tasteSpansWrong)

/-- 'senvylaw01.TasteRounds': WHATEVER THE INPUT: true; the input reads as it did. -/
def tasteRoundsSpec : ChangeSpec := { name := "tasteRounds", fn := fun _ => fun
  | [d1, d2] => { results := [.lit (.bool true)], args := [d1, d2] }
  | _ => none }
def tasteRoundsRow : OpenClaim := { program := "ytkbcogaodnmdoaa", sum := "180a4621bd677c7832c802dd5e39f7ca3b6c4a71f84820d7ef58689e608f9d08", func := "senvy/senvylaw01.TasteRounds", spec := "tasteRounds", unfollowed := true, recurses := true, plainKeys := false, apart := false }
def TasteRoundsSaid : Prop := tasteRoundsRow.holds Try.pinned (OpenSpec.ofChange tasteRoundsSpec)

/-- ITS FALSE NEIGHBOUR: 'it returns false'. Refute it at one input. -/
def tasteRoundsWrong : ChangeSpec := { name := "tasteRounds", fn := fun _ => fun
  | [d1, d2] => { results := [.lit (.bool false)], args := [d1, d2] }
  | _ => none }
def TasteRoundsWrongFalsely : Prop := tasteRoundsRow.holds Try.pinned (OpenSpec.ofChange tasteRoundsWrong)

/-- 'senvylaw01.TasteWrongs': WHATEVER THE INPUT: true; the input reads as it did. -/
def tasteWrongsSpec : ChangeSpec := { name := "tasteWrongs", fn := fun _ => fun
  | [d] => { results := [.lit (.bool true)], args := [d] }
  | _ => none }
def tasteWrongsRow : OpenClaim := { program := "ytkbcogaodnmdoaa", sum := "180a4621bd677c7832c802dd5e39f7ca3b6c4a71f84820d7ef58689e608f9d08", func := "senvy/senvylaw01.TasteWrongs", spec := "tasteWrongs", unfollowed := true, recurses := true, plainKeys := false, apart := false }
def TasteWrongsSaid : Prop := tasteWrongsRow.holds Try.pinned (OpenSpec.ofChange tasteWrongsSpec)

/-- ITS FALSE NEIGHBOUR: 'it returns false'. Refute it at one input. -/
def tasteWrongsWrong : ChangeSpec := { name := "tasteWrongs", fn := fun _ => fun
  | [d] => { results := [.lit (.bool false)], args := [d] }
  | _ => none }
def TasteWrongsWrongFalsely : Prop := tasteWrongsRow.holds Try.pinned (OpenSpec.ofChange tasteWrongsWrong)

/-- 'senvylaw01.TasteEither': WHATEVER THE INPUT: true; the input reads as it did. -/
def tasteEitherSpec : ChangeSpec := { name := "tasteEither", fn := fun _ => fun
  | [d1, d2, d3] => { results := [.lit (.bool true)], args := [d1, d2, d3] }
  | _ => none }
def tasteEitherRow : OpenClaim := { program := "ytkbcogaodnmdoaa", sum := "180a4621bd677c7832c802dd5e39f7ca3b6c4a71f84820d7ef58689e608f9d08", func := "senvy/senvylaw01.TasteEither", spec := "tasteEither", unfollowed := true, recurses := true, plainKeys := false, apart := false }
def TasteEitherSaid : Prop := tasteEitherRow.holds Try.pinned (OpenSpec.ofChange tasteEitherSpec)

/-- ITS FALSE NEIGHBOUR: 'it returns false'. Refute it at one input. -/
def tasteEitherWrong : ChangeSpec := { name := "tasteEither", fn := fun _ => fun
  | [d1, d2, d3] => { results := [.lit (.bool false)], args := [d1, d2, d3] }
  | _ => none }
def TasteEitherWrongFalsely : Prop := tasteEitherRow.holds Try.pinned (OpenSpec.ofChange tasteEitherWrong)

/-- 'senvylaw01.TasteHeld': WHATEVER THE INPUT: true; the input reads as it did. -/
def tasteHeldSpec : ChangeSpec := { name := "tasteHeld", fn := fun _ => fun
  | [d1, d2, d3, d4] => { results := [.lit (.bool true)], args := [d1, d2, d3, d4] }
  | _ => none }
def tasteHeldRow : OpenClaim := { program := "ytkbcogaodnmdoaa", sum := "180a4621bd677c7832c802dd5e39f7ca3b6c4a71f84820d7ef58689e608f9d08", func := "senvy/senvylaw01.TasteHeld", spec := "tasteHeld", unfollowed := true, recurses := true, plainKeys := false, apart := false }
def TasteHeldSaid : Prop := tasteHeldRow.holds Try.pinned (OpenSpec.ofChange tasteHeldSpec)

/-- ITS FALSE NEIGHBOUR: 'it returns false'. Refute it at one input. -/
def tasteHeldWrong : ChangeSpec := { name := "tasteHeld", fn := fun _ => fun
  | [d1, d2, d3, d4] => { results := [.lit (.bool false)], args := [d1, d2, d3, d4] }
  | _ => none }
def TasteHeldWrongFalsely : Prop := tasteHeldRow.holds Try.pinned (OpenSpec.ofChange tasteHeldWrong)

/-- 'senvylaw01.TasteReached': WHATEVER THE INPUT: true; the input reads as it did. -/
def tasteReachedSpec : ChangeSpec := { name := "tasteReached", fn := fun _ => fun
  | [d1, d2, d3] => { results := [.lit (.bool true)], args := [d1, d2, d3] }
  | _ => none }
def tasteReachedRow : OpenClaim := { program := "ytkbcogaodnmdoaa", sum := "180a4621bd677c7832c802dd5e39f7ca3b6c4a71f84820d7ef58689e608f9d08", func := "senvy/senvylaw01.TasteReached", spec := "tasteReached", unfollowed := true, recurses := true, plainKeys := false, apart := false }
def TasteReachedSaid : Prop := tasteReachedRow.holds Try.pinned (OpenSpec.ofChange tasteReachedSpec)

/-- ITS FALSE NEIGHBOUR: 'it returns false'. Refute it at one input. -/
def tasteReachedWrong : ChangeSpec := { name := "tasteReached", fn := fun _ => fun
  | [d1, d2, d3] => { results := [.lit (.bool false)], args := [d1, d2, d3] }
  | _ => none }
def TasteReachedWrongFalsely : Prop := tasteReachedRow.holds Try.pinned (OpenSpec.ofChange tasteReachedWrong)

/-- 'senvylaw01.TasteBoth': WHATEVER THE INPUT: true; the input reads as it did. -/
def tasteBothSpec : ChangeSpec := { name := "tasteBoth", fn := fun _ => fun
  | [d1, d2, d3] => { results := [.lit (.bool true)], args := [d1, d2, d3] }
  | _ => none }
def tasteBothRow : OpenClaim := { program := "ytkbcogaodnmdoaa", sum := "180a4621bd677c7832c802dd5e39f7ca3b6c4a71f84820d7ef58689e608f9d08", func := "senvy/senvylaw01.TasteBoth", spec := "tasteBoth", unfollowed := true, recurses := true, plainKeys := false, apart := false }
def TasteBothSaid : Prop := tasteBothRow.holds Try.pinned (OpenSpec.ofChange tasteBothSpec)

/-- ITS FALSE NEIGHBOUR: 'it returns false'. Refute it at one input. -/
def tasteBothWrong : ChangeSpec := { name := "tasteBoth", fn := fun _ => fun
  | [d1, d2, d3] => { results := [.lit (.bool false)], args := [d1, d2, d3] }
  | _ => none }
def TasteBothWrongFalsely : Prop := tasteBothRow.holds Try.pinned (OpenSpec.ofChange tasteBothWrong)

/-- 'senvylaw01.TasteApart': WHATEVER THE INPUT: true; the input reads as it did. -/
def tasteApartSpec : ChangeSpec := { name := "tasteApart", fn := fun _ => fun
  | [d1, d2, d3] => { results := [.lit (.bool true)], args := [d1, d2, d3] }
  | _ => none }
def tasteApartRow : OpenClaim := { program := "ytkbcogaodnmdoaa", sum := "180a4621bd677c7832c802dd5e39f7ca3b6c4a71f84820d7ef58689e608f9d08", func := "senvy/senvylaw01.TasteApart", spec := "tasteApart", unfollowed := true, recurses := true, plainKeys := false, apart := false }
def TasteApartSaid : Prop := tasteApartRow.holds Try.pinned (OpenSpec.ofChange tasteApartSpec)

/-- ITS FALSE NEIGHBOUR: 'it returns false'. Refute it at one input. -/
def tasteApartWrong : ChangeSpec := { name := "tasteApart", fn := fun _ => fun
  | [d1, d2, d3] => { results := [.lit (.bool false)], args := [d1, d2, d3] }
  | _ => none }
def TasteApartWrongFalsely : Prop := tasteApartRow.holds Try.pinned (OpenSpec.ofChange tasteApartWrong)

/-- 'senvylaw01.TasteNarrower': WHATEVER THE INPUT: true; the input reads as it did. -/
def tasteNarrowerSpec : ChangeSpec := { name := "tasteNarrower", fn := fun _ => fun
  | [d1, d2, d3, d4] => { results := [.lit (.bool true)], args := [d1, d2, d3, d4] }
  | _ => none }
def tasteNarrowerRow : OpenClaim := { program := "ytkbcogaodnmdoaa", sum := "180a4621bd677c7832c802dd5e39f7ca3b6c4a71f84820d7ef58689e608f9d08", func := "senvy/senvylaw01.TasteNarrower", spec := "tasteNarrower", unfollowed := true, recurses := true, plainKeys := false, apart := false }
def TasteNarrowerSaid : Prop := tasteNarrowerRow.holds Try.pinned (OpenSpec.ofChange tasteNarrowerSpec)

/-- ITS FALSE NEIGHBOUR: 'it returns false'. Refute it at one input. -/
def tasteNarrowerWrong : ChangeSpec := { name := "tasteNarrower", fn := fun _ => fun
  | [d1, d2, d3, d4] => { results := [.lit (.bool false)], args := [d1, d2, d3, d4] }
  | _ => none }
def TasteNarrowerWrongFalsely : Prop := tasteNarrowerRow.holds Try.pinned (OpenSpec.ofChange tasteNarrowerWrong)

/-- 'senvylaw01.TasteAlone': WHATEVER THE INPUT: true; the input reads as it did. -/
def tasteAloneSpec : ChangeSpec := { name := "tasteAlone", fn := fun _ => fun
  | [d] => { results := [.lit (.bool true)], args := [d] }
  | _ => none }
def tasteAloneRow : OpenClaim := { program := "ytkbcogaodnmdoaa", sum := "180a4621bd677c7832c802dd5e39f7ca3b6c4a71f84820d7ef58689e608f9d08", func := "senvy/senvylaw01.TasteAlone", spec := "tasteAlone", unfollowed := true, recurses := true, plainKeys := false, apart := false }
def TasteAloneSaid : Prop := tasteAloneRow.holds Try.pinned (OpenSpec.ofChange tasteAloneSpec)

/-- ITS FALSE NEIGHBOUR: 'it returns false'. Refute it at one input. -/
def tasteAloneWrong : ChangeSpec := { name := "tasteAlone", fn := fun _ => fun
  | [d] => { results := [.lit (.bool false)], args := [d] }
  | _ => none }
def TasteAloneWrongFalsely : Prop := tasteAloneRow.holds Try.pinned (OpenSpec.ofChange tasteAloneWrong)

/-- 'senvylaw01.TasteMoved': WHATEVER THE INPUT: true; the input reads as it did. -/
def tasteMovedSpec : ChangeSpec := { name := "tasteMoved", fn := fun _ => fun
  | [d1, d2, d3, d4] => { results := [.lit (.bool true)], args := [d1, d2, d3, d4] }
  | _ => none }
def tasteMovedRow : OpenClaim := { program := "ytkbcogaodnmdoaa", sum := "180a4621bd677c7832c802dd5e39f7ca3b6c4a71f84820d7ef58689e608f9d08", func := "senvy/senvylaw01.TasteMoved", spec := "tasteMoved", unfollowed := true, recurses := true, plainKeys := false, apart := false }
def TasteMovedSaid : Prop := tasteMovedRow.holds Try.pinned (OpenSpec.ofChange tasteMovedSpec)

/-- ITS FALSE NEIGHBOUR: 'it returns false'. Refute it at one input. -/
def tasteMovedWrong : ChangeSpec := { name := "tasteMoved", fn := fun _ => fun
  | [d1, d2, d3, d4] => { results := [.lit (.bool false)], args := [d1, d2, d3, d4] }
  | _ => none }
def TasteMovedWrongFalsely : Prop := tasteMovedRow.holds Try.pinned (OpenSpec.ofChange tasteMovedWrong)

/-- 'senvylaw01.TasteOrder': WHATEVER THE INPUT: true; the input reads as it did. -/
def tasteOrderSpec : ChangeSpec := { name := "tasteOrder", fn := fun _ => fun
  | [d] => { results := [.lit (.bool true)], args := [d] }
  | _ => none }
def tasteOrderRow : OpenClaim := { program := "ytkbcogaodnmdoaa", sum := "180a4621bd677c7832c802dd5e39f7ca3b6c4a71f84820d7ef58689e608f9d08", func := "senvy/senvylaw01.TasteOrder", spec := "tasteOrder", unfollowed := true, recurses := true, plainKeys := false, apart := false }
def TasteOrderSaid : Prop := tasteOrderRow.holds Try.pinned (OpenSpec.ofChange tasteOrderSpec)

/-- ITS FALSE NEIGHBOUR: 'it returns false'. Refute it at one input. -/
def tasteOrderWrong : ChangeSpec := { name := "tasteOrder", fn := fun _ => fun
  | [d] => { results := [.lit (.bool false)], args := [d] }
  | _ => none }
def TasteOrderWrongFalsely : Prop := tasteOrderRow.holds Try.pinned (OpenSpec.ofChange tasteOrderWrong)

/-- 'senvylaw01.TasteWrong': WHATEVER THE INPUT: true; the input reads as it did. -/
def tasteWrongSpec : ChangeSpec := { name := "tasteWrong", fn := fun _ => fun
  | [d1, d2] => { results := [.lit (.bool true)], args := [d1, d2] }
  | _ => none }
def tasteWrongRow : OpenClaim := { program := "ytkbcogaodnmdoaa", sum := "180a4621bd677c7832c802dd5e39f7ca3b6c4a71f84820d7ef58689e608f9d08", func := "senvy/senvylaw01.TasteWrong", spec := "tasteWrong", unfollowed := true, recurses := true, plainKeys := false, apart := false }
def TasteWrongSaid : Prop := tasteWrongRow.holds Try.pinned (OpenSpec.ofChange tasteWrongSpec)

/-- ITS FALSE NEIGHBOUR: 'it returns false'. Refute it at one input. -/
def tasteWrongWrong : ChangeSpec := { name := "tasteWrong", fn := fun _ => fun
  | [d1, d2] => { results := [.lit (.bool false)], args := [d1, d2] }
  | _ => none }
def TasteWrongWrongFalsely : Prop := tasteWrongRow.holds Try.pinned (OpenSpec.ofChange tasteWrongWrong)

/-- 'senvylaw01.TasteKnown': WHATEVER THE INPUT: true; the input reads as it did. -/
def tasteKnownSpec : ChangeSpec := { name := "tasteKnown", fn := fun _ => fun
  | [] => { results := [.lit (.bool true)], args := [] }
  | _ => none }
def tasteKnownRow : OpenClaim := { program := "ytkbcogaodnmdoaa", sum := "180a4621bd677c7832c802dd5e39f7ca3b6c4a71f84820d7ef58689e608f9d08", func := "senvy/senvylaw01.TasteKnown", spec := "tasteKnown", unfollowed := true, recurses := true, plainKeys := false, apart := false }
def TasteKnownSaid : Prop := tasteKnownRow.holds Try.pinned (OpenSpec.ofChange tasteKnownSpec)

/-- ITS FALSE NEIGHBOUR: 'it returns false'. Refute it at one input. -/
def tasteKnownWrong : ChangeSpec := { name := "tasteKnown", fn := fun _ => fun
  | [] => { results := [.lit (.bool false)], args := [] }
  | _ => none }
def TasteKnownWrongFalsely : Prop := tasteKnownRow.holds Try.pinned (OpenSpec.ofChange tasteKnownWrong)

/- THE SECOND FORM. 'bulk': how many values and letters a reading holds, each counted each time it is reached (what is shared counts as often as it is met; a slice's spare places count too). A statement '..UptoSaid' is the law's where the arguments, and the package variables that the reading takes, are together of bulk at most 1048576: NARROWER than '..Said'. Prove '..Said' where nothing that the law and all that it calls make is longer than what came in: it says more and counts as full. Else prove '..UptoSaid'. A law counts once. -/
mutual
def uptoBulk {H : Type} : DataW H → Nat
  | .lit (.string bytes) => bytes.length + 1
  | .lit _ => 1
  | .nil => 1
  | .ptr d => uptoBulk d + 1
  | .slice elems spare => uptoBulkAll elems + uptoBulkAll spare + 1
  | .agg parts => uptoBulkAll parts + 1
  | .iface _ d => uptoBulk d + 1
  | .map entries => uptoBulkEntries entries + 1
  | .held _ => 1
def uptoBulkAll {H : Type} : List (DataW H) → Nat
  | [] => 0
  | d :: r => uptoBulk d + uptoBulkAll r
def uptoBulkEntries {H : Type} : List (Lit × DataW H) → Nat
  | [] => 0
  | x :: r => uptoBulkEntry x + uptoBulkEntries r
def uptoBulkEntry {H : Type} : Lit × DataW H → Nat
  | (.string bytes, d) => bytes.length + uptoBulk d + 1
  | (_, d) => uptoBulk d + 1
 end
def uptoSmall : (H : Type) → List (DataW H) → Bool := fun _ ds => decide (uptoBulkAll ds ≤ 1048576)
def OpenSpec.upto (s : _root_.Go.ChangeSpec) : _root_.Go.OpenSpec := { _root_.Go.OpenSpec.ofChange s with cond := some uptoSmall }

/-- 'senvylaw01.TasteBooks', WHERE WHAT IT READS IS OF BULK AT MOST 1048576: true; the input reads as it did. -/
def tasteBooksUptoRow : OpenClaim := { program := "ytkbcogaodnmdoaa", sum := "180a4621bd677c7832c802dd5e39f7ca3b6c4a71f84820d7ef58689e608f9d08", func := "senvy/senvylaw01.TasteBooks", spec := "tasteBooks", unfollowed := true, recurses := true, plainKeys := false, apart := false, narrowed := true }
def TasteBooksUptoSaid : Prop := tasteBooksUptoRow.holds Try.pinned (OpenSpec.upto tasteBooksSpec)

/-- 'senvylaw01.TasteTruths', WHERE WHAT IT READS IS OF BULK AT MOST 1048576: true; the input reads as it did. -/
def tasteTruthsUptoRow : OpenClaim := { program := "ytkbcogaodnmdoaa", sum := "180a4621bd677c7832c802dd5e39f7ca3b6c4a71f84820d7ef58689e608f9d08", func := "senvy/senvylaw01.TasteTruths", spec := "tasteTruths", unfollowed := true, recurses := true, plainKeys := false, apart := false, narrowed := true }
def TasteTruthsUptoSaid : Prop := tasteTruthsUptoRow.holds Try.pinned (OpenSpec.upto tasteTruthsSpec)

/-- 'senvylaw01.TasteSpans', WHERE WHAT IT READS IS OF BULK AT MOST 1048576: true; the input reads as it did. -/
def tasteSpansUptoRow : OpenClaim := { program := "ytkbcogaodnmdoaa", sum := "180a4621bd677c7832c802dd5e39f7ca3b6c4a71f84820d7ef58689e608f9d08", func := "senvy/senvylaw01.TasteSpans", spec := "tasteSpans", unfollowed := true, recurses := true, plainKeys := false, apart := false, narrowed := true }
def TasteSpansUptoSaid : Prop := tasteSpansUptoRow.holds Try.pinned (OpenSpec.upto tasteSpansSpec)

/-- 'senvylaw01.TasteRounds', WHERE WHAT IT READS IS OF BULK AT MOST 1048576: true; the input reads as it did. -/
def tasteRoundsUptoRow : OpenClaim := { program := "ytkbcogaodnmdoaa", sum := "180a4621bd677c7832c802dd5e39f7ca3b6c4a71f84820d7ef58689e608f9d08", func := "senvy/senvylaw01.TasteRounds", spec := "tasteRounds", unfollowed := true, recurses := true, plainKeys := false, apart := false, narrowed := true }
def TasteRoundsUptoSaid : Prop := tasteRoundsUptoRow.holds Try.pinned (OpenSpec.upto tasteRoundsSpec)

/-- 'senvylaw01.TasteWrongs', WHERE WHAT IT READS IS OF BULK AT MOST 1048576: true; the input reads as it did. -/
def tasteWrongsUptoRow : OpenClaim := { program := "ytkbcogaodnmdoaa", sum := "180a4621bd677c7832c802dd5e39f7ca3b6c4a71f84820d7ef58689e608f9d08", func := "senvy/senvylaw01.TasteWrongs", spec := "tasteWrongs", unfollowed := true, recurses := true, plainKeys := false, apart := false, narrowed := true }
def TasteWrongsUptoSaid : Prop := tasteWrongsUptoRow.holds Try.pinned (OpenSpec.upto tasteWrongsSpec)

/-- 'senvylaw01.TasteEither', WHERE WHAT IT READS IS OF BULK AT MOST 1048576: true; the input reads as it did. -/
def tasteEitherUptoRow : OpenClaim := { program := "ytkbcogaodnmdoaa", sum := "180a4621bd677c7832c802dd5e39f7ca3b6c4a71f84820d7ef58689e608f9d08", func := "senvy/senvylaw01.TasteEither", spec := "tasteEither", unfollowed := true, recurses := true, plainKeys := false, apart := false, narrowed := true }
def TasteEitherUptoSaid : Prop := tasteEitherUptoRow.holds Try.pinned (OpenSpec.upto tasteEitherSpec)

/-- 'senvylaw01.TasteHeld', WHERE WHAT IT READS IS OF BULK AT MOST 1048576: true; the input reads as it did. -/
def tasteHeldUptoRow : OpenClaim := { program := "ytkbcogaodnmdoaa", sum := "180a4621bd677c7832c802dd5e39f7ca3b6c4a71f84820d7ef58689e608f9d08", func := "senvy/senvylaw01.TasteHeld", spec := "tasteHeld", unfollowed := true, recurses := true, plainKeys := false, apart := false, narrowed := true }
def TasteHeldUptoSaid : Prop := tasteHeldUptoRow.holds Try.pinned (OpenSpec.upto tasteHeldSpec)

/-- 'senvylaw01.TasteReached', WHERE WHAT IT READS IS OF BULK AT MOST 1048576: true; the input reads as it did. -/
def tasteReachedUptoRow : OpenClaim := { program := "ytkbcogaodnmdoaa", sum := "180a4621bd677c7832c802dd5e39f7ca3b6c4a71f84820d7ef58689e608f9d08", func := "senvy/senvylaw01.TasteReached", spec := "tasteReached", unfollowed := true, recurses := true, plainKeys := false, apart := false, narrowed := true }
def TasteReachedUptoSaid : Prop := tasteReachedUptoRow.holds Try.pinned (OpenSpec.upto tasteReachedSpec)

/-- 'senvylaw01.TasteBoth', WHERE WHAT IT READS IS OF BULK AT MOST 1048576: true; the input reads as it did. -/
def tasteBothUptoRow : OpenClaim := { program := "ytkbcogaodnmdoaa", sum := "180a4621bd677c7832c802dd5e39f7ca3b6c4a71f84820d7ef58689e608f9d08", func := "senvy/senvylaw01.TasteBoth", spec := "tasteBoth", unfollowed := true, recurses := true, plainKeys := false, apart := false, narrowed := true }
def TasteBothUptoSaid : Prop := tasteBothUptoRow.holds Try.pinned (OpenSpec.upto tasteBothSpec)

/-- 'senvylaw01.TasteApart', WHERE WHAT IT READS IS OF BULK AT MOST 1048576: true; the input reads as it did. -/
def tasteApartUptoRow : OpenClaim := { program := "ytkbcogaodnmdoaa", sum := "180a4621bd677c7832c802dd5e39f7ca3b6c4a71f84820d7ef58689e608f9d08", func := "senvy/senvylaw01.TasteApart", spec := "tasteApart", unfollowed := true, recurses := true, plainKeys := false, apart := false, narrowed := true }
def TasteApartUptoSaid : Prop := tasteApartUptoRow.holds Try.pinned (OpenSpec.upto tasteApartSpec)

/-- 'senvylaw01.TasteNarrower', WHERE WHAT IT READS IS OF BULK AT MOST 1048576: true; the input reads as it did. -/
def tasteNarrowerUptoRow : OpenClaim := { program := "ytkbcogaodnmdoaa", sum := "180a4621bd677c7832c802dd5e39f7ca3b6c4a71f84820d7ef58689e608f9d08", func := "senvy/senvylaw01.TasteNarrower", spec := "tasteNarrower", unfollowed := true, recurses := true, plainKeys := false, apart := false, narrowed := true }
def TasteNarrowerUptoSaid : Prop := tasteNarrowerUptoRow.holds Try.pinned (OpenSpec.upto tasteNarrowerSpec)

/-- 'senvylaw01.TasteAlone', WHERE WHAT IT READS IS OF BULK AT MOST 1048576: true; the input reads as it did. -/
def tasteAloneUptoRow : OpenClaim := { program := "ytkbcogaodnmdoaa", sum := "180a4621bd677c7832c802dd5e39f7ca3b6c4a71f84820d7ef58689e608f9d08", func := "senvy/senvylaw01.TasteAlone", spec := "tasteAlone", unfollowed := true, recurses := true, plainKeys := false, apart := false, narrowed := true }
def TasteAloneUptoSaid : Prop := tasteAloneUptoRow.holds Try.pinned (OpenSpec.upto tasteAloneSpec)

/-- 'senvylaw01.TasteMoved', WHERE WHAT IT READS IS OF BULK AT MOST 1048576: true; the input reads as it did. -/
def tasteMovedUptoRow : OpenClaim := { program := "ytkbcogaodnmdoaa", sum := "180a4621bd677c7832c802dd5e39f7ca3b6c4a71f84820d7ef58689e608f9d08", func := "senvy/senvylaw01.TasteMoved", spec := "tasteMoved", unfollowed := true, recurses := true, plainKeys := false, apart := false, narrowed := true }
def TasteMovedUptoSaid : Prop := tasteMovedUptoRow.holds Try.pinned (OpenSpec.upto tasteMovedSpec)

/-- 'senvylaw01.TasteOrder', WHERE WHAT IT READS IS OF BULK AT MOST 1048576: true; the input reads as it did. -/
def tasteOrderUptoRow : OpenClaim := { program := "ytkbcogaodnmdoaa", sum := "180a4621bd677c7832c802dd5e39f7ca3b6c4a71f84820d7ef58689e608f9d08", func := "senvy/senvylaw01.TasteOrder", spec := "tasteOrder", unfollowed := true, recurses := true, plainKeys := false, apart := false, narrowed := true }
def TasteOrderUptoSaid : Prop := tasteOrderUptoRow.holds Try.pinned (OpenSpec.upto tasteOrderSpec)

/-- 'senvylaw01.TasteWrong', WHERE WHAT IT READS IS OF BULK AT MOST 1048576: true; the input reads as it did. -/
def tasteWrongUptoRow : OpenClaim := { program := "ytkbcogaodnmdoaa", sum := "180a4621bd677c7832c802dd5e39f7ca3b6c4a71f84820d7ef58689e608f9d08", func := "senvy/senvylaw01.TasteWrong", spec := "tasteWrong", unfollowed := true, recurses := true, plainKeys := false, apart := false, narrowed := true }
def TasteWrongUptoSaid : Prop := tasteWrongUptoRow.holds Try.pinned (OpenSpec.upto tasteWrongSpec)

/-- 'senvylaw01.TasteKnown', WHERE WHAT IT READS IS OF BULK AT MOST 1048576: true; the input reads as it did. -/
def tasteKnownUptoRow : OpenClaim := { program := "ytkbcogaodnmdoaa", sum := "180a4621bd677c7832c802dd5e39f7ca3b6c4a71f84820d7ef58689e608f9d08", func := "senvy/senvylaw01.TasteKnown", spec := "tasteKnown", unfollowed := true, recurses := true, plainKeys := false, apart := false, narrowed := true }
def TasteKnownUptoSaid : Prop := tasteKnownUptoRow.holds Try.pinned (OpenSpec.upto tasteKnownSpec)

end Rows
end Go.Proofs.Ytkbcogaodnmdoaa
