/-
  No cell of these rows narrows 'for every input' (looked for: loops, veiled, ifaces, maps, wideKeys, modest, calm, conditions, laid).
  DERIVED. THE GIVEN ROWS OF THIS SEAT. 13 by the template 'for every input the law returns true; each argument reads behind the call as it read before'; 0 by the template 'total and deterministic' (their statements: YtfjnnegaljfkgaaTotals.lean).
  GIVEN WITH THE SEED: the statements are not yours to turn. If you find one false, say at which input.
  Laid BY PROGRAM, IN A SANDBOX (cutbox-rows.mjs): the forced cells as the released guide's own fill.sh prints them over the translation 52f3686a356560c3… (all of the seat's roots in one cut). By AI agents, Wed Nov 11 2026. No macro, syntax, notation, axiom, sorry.
-/
import Derived.Test.YtfjnnegaljfkgaaChecked
import GoSem.Claim
import GoSem.ClaimJoined
import GoSem.ClaimMapViews
import Derived.JoinedTies
import Derived.KernelRfl
namespace Go.Proofs.Ytfjnnegaljfkgaa
/- THE CELL 'sum', in the pinned program and in every row, IS THE sha256 OF THE DUMP (.gsa) THAT YtfjnnegaljfkgaaProg.lean LOADS. Nothing in Lean hashes anything: it is a label: what it is worth is what the hold of that sum in a sandbox is worth. -/
noncomputable def Try.pinned : Pinned := { name := "ytfjnnegaljfkgaa", sum := "52f3686a356560c30555ed04c91a769bc80daf2598fa6730aaf471fa6ee83196", checked := Try.checked }
namespace Rows
def none {H : Type} : Left H := { results := [], args := [] }

/-- 'senvylaw03.BlendLots': WHATEVER THE INPUT: true; the input reads as it did. -/
def blendLotsSpec : ChangeSpec := { name := "blendLots", fn := fun _ => fun
  | [d1, d2] => { results := [.lit (.bool true)], args := [d1, d2] }
  | _ => none }
def blendLotsRow : OpenClaim := { program := "ytfjnnegaljfkgaa", sum := "52f3686a356560c30555ed04c91a769bc80daf2598fa6730aaf471fa6ee83196", func := "senvy/senvylaw03.BlendLots", spec := "blendLots", unfollowed := true, recurses := true, plainKeys := false, apart := false }
def BlendLotsSaid : Prop := blendLotsRow.holds Try.pinned (OpenSpec.ofChange blendLotsSpec)

/-- ITS FALSE NEIGHBOUR: 'it returns false'. Refute it at one input. -/
def blendLotsWrong : ChangeSpec := { name := "blendLots", fn := fun _ => fun
  | [d1, d2] => { results := [.lit (.bool false)], args := [d1, d2] }
  | _ => none }
def BlendLotsWrongFalsely : Prop := blendLotsRow.holds Try.pinned (OpenSpec.ofChange blendLotsWrong)

/-- 'senvylaw03.BlendPrices': WHATEVER THE INPUT: true; the input reads as it did. -/
def blendPricesSpec : ChangeSpec := { name := "blendPrices", fn := fun _ => fun
  | [d1, d2] => { results := [.lit (.bool true)], args := [d1, d2] }
  | _ => none }
def blendPricesRow : OpenClaim := { program := "ytfjnnegaljfkgaa", sum := "52f3686a356560c30555ed04c91a769bc80daf2598fa6730aaf471fa6ee83196", func := "senvy/senvylaw03.BlendPrices", spec := "blendPrices", unfollowed := true, recurses := true, plainKeys := false, apart := false }
def BlendPricesSaid : Prop := blendPricesRow.holds Try.pinned (OpenSpec.ofChange blendPricesSpec)

/-- ITS FALSE NEIGHBOUR: 'it returns false'. Refute it at one input. -/
def blendPricesWrong : ChangeSpec := { name := "blendPrices", fn := fun _ => fun
  | [d1, d2] => { results := [.lit (.bool false)], args := [d1, d2] }
  | _ => none }
def BlendPricesWrongFalsely : Prop := blendPricesRow.holds Try.pinned (OpenSpec.ofChange blendPricesWrong)

/-- 'senvylaw03.BlendLines': WHATEVER THE INPUT: true; the input reads as it did. -/
def blendLinesSpec : ChangeSpec := { name := "blendLines", fn := fun _ => fun
  | [d1, d2, d3] => { results := [.lit (.bool true)], args := [d1, d2, d3] }
  | _ => none }
def blendLinesRow : OpenClaim := { program := "ytfjnnegaljfkgaa", sum := "52f3686a356560c30555ed04c91a769bc80daf2598fa6730aaf471fa6ee83196", func := "senvy/senvylaw03.BlendLines", spec := "blendLines", unfollowed := true, recurses := true, plainKeys := false, apart := false }
def BlendLinesSaid : Prop := blendLinesRow.holds Try.pinned (OpenSpec.ofChange blendLinesSpec)

/-- ITS FALSE NEIGHBOUR: 'it returns false'. Refute it at one input. -/
def blendLinesWrong : ChangeSpec := { name := "blendLines", fn := fun _ => fun
  | [d1, d2, d3] => { results := [.lit (.bool false)], args := [d1, d2, d3] }
  | _ => none }
def BlendLinesWrongFalsely : Prop := blendLinesRow.holds Try.pinned (OpenSpec.ofChange blendLinesWrong)

/-- 'senvylaw03.BlendCorners': WHATEVER THE INPUT: true; the input reads as it did. -/
def blendCornersSpec : ChangeSpec := { name := "blendCorners", fn := fun _ => fun
  | [d1, d2, d3] => { results := [.lit (.bool true)], args := [d1, d2, d3] }
  | _ => none }
def blendCornersRow : OpenClaim := { program := "ytfjnnegaljfkgaa", sum := "52f3686a356560c30555ed04c91a769bc80daf2598fa6730aaf471fa6ee83196", func := "senvy/senvylaw03.BlendCorners", spec := "blendCorners", unfollowed := true, recurses := true, plainKeys := false, apart := false }
def BlendCornersSaid : Prop := blendCornersRow.holds Try.pinned (OpenSpec.ofChange blendCornersSpec)

/-- ITS FALSE NEIGHBOUR: 'it returns false'. Refute it at one input. -/
def blendCornersWrong : ChangeSpec := { name := "blendCorners", fn := fun _ => fun
  | [d1, d2, d3] => { results := [.lit (.bool false)], args := [d1, d2, d3] }
  | _ => none }
def BlendCornersWrongFalsely : Prop := blendCornersRow.holds Try.pinned (OpenSpec.ofChange blendCornersWrong)

/-- 'senvylaw03.BlendProved': WHATEVER THE INPUT: true; the input reads as it did. -/
def blendProvedSpec : ChangeSpec := { name := "blendProved", fn := fun _ => fun
  | [d1, d2, d3, d4] => { results := [.lit (.bool true)], args := [d1, d2, d3, d4] }
  | _ => none }
def blendProvedRow : OpenClaim := { program := "ytfjnnegaljfkgaa", sum := "52f3686a356560c30555ed04c91a769bc80daf2598fa6730aaf471fa6ee83196", func := "senvy/senvylaw03.BlendProved", spec := "blendProved", unfollowed := true, recurses := true, plainKeys := false, apart := false }
def BlendProvedSaid : Prop := blendProvedRow.holds Try.pinned (OpenSpec.ofChange blendProvedSpec)

/-- ITS FALSE NEIGHBOUR: 'it returns false'. Refute it at one input. -/
def blendProvedWrong : ChangeSpec := { name := "blendProved", fn := fun _ => fun
  | [d1, d2, d3, d4] => { results := [.lit (.bool false)], args := [d1, d2, d3, d4] }
  | _ => none }
def BlendProvedWrongFalsely : Prop := blendProvedRow.holds Try.pinned (OpenSpec.ofChange blendProvedWrong)

/-- 'senvylaw03.BlendMixed': WHATEVER THE INPUT: true; the input reads as it did. -/
def blendMixedSpec : ChangeSpec := { name := "blendMixed", fn := fun _ => fun
  | [d1, d2, d3] => { results := [.lit (.bool true)], args := [d1, d2, d3] }
  | _ => none }
def blendMixedRow : OpenClaim := { program := "ytfjnnegaljfkgaa", sum := "52f3686a356560c30555ed04c91a769bc80daf2598fa6730aaf471fa6ee83196", func := "senvy/senvylaw03.BlendMixed", spec := "blendMixed", unfollowed := true, recurses := true, plainKeys := false, apart := false }
def BlendMixedSaid : Prop := blendMixedRow.holds Try.pinned (OpenSpec.ofChange blendMixedSpec)

/-- ITS FALSE NEIGHBOUR: 'it returns false'. Refute it at one input. -/
def blendMixedWrong : ChangeSpec := { name := "blendMixed", fn := fun _ => fun
  | [d1, d2, d3] => { results := [.lit (.bool false)], args := [d1, d2, d3] }
  | _ => none }
def BlendMixedWrongFalsely : Prop := blendMixedRow.holds Try.pinned (OpenSpec.ofChange blendMixedWrong)

/-- 'senvylaw03.BlendLeast': WHATEVER THE INPUT: true; the input reads as it did. -/
def blendLeastSpec : ChangeSpec := { name := "blendLeast", fn := fun _ => fun
  | [d1, d2, d3, d4] => { results := [.lit (.bool true)], args := [d1, d2, d3, d4] }
  | _ => none }
def blendLeastRow : OpenClaim := { program := "ytfjnnegaljfkgaa", sum := "52f3686a356560c30555ed04c91a769bc80daf2598fa6730aaf471fa6ee83196", func := "senvy/senvylaw03.BlendLeast", spec := "blendLeast", unfollowed := true, recurses := true, plainKeys := false, apart := false }
def BlendLeastSaid : Prop := blendLeastRow.holds Try.pinned (OpenSpec.ofChange blendLeastSpec)

/-- ITS FALSE NEIGHBOUR: 'it returns false'. Refute it at one input. -/
def blendLeastWrong : ChangeSpec := { name := "blendLeast", fn := fun _ => fun
  | [d1, d2, d3, d4] => { results := [.lit (.bool false)], args := [d1, d2, d3, d4] }
  | _ => none }
def BlendLeastWrongFalsely : Prop := blendLeastRow.holds Try.pinned (OpenSpec.ofChange blendLeastWrong)

/-- 'senvylaw03.BlendIdle': WHATEVER THE INPUT: true; the input reads as it did. -/
def blendIdleSpec : ChangeSpec := { name := "blendIdle", fn := fun _ => fun
  | [d1, d2, d3] => { results := [.lit (.bool true)], args := [d1, d2, d3] }
  | _ => none }
def blendIdleRow : OpenClaim := { program := "ytfjnnegaljfkgaa", sum := "52f3686a356560c30555ed04c91a769bc80daf2598fa6730aaf471fa6ee83196", func := "senvy/senvylaw03.BlendIdle", spec := "blendIdle", unfollowed := true, recurses := true, plainKeys := false, apart := false }
def BlendIdleSaid : Prop := blendIdleRow.holds Try.pinned (OpenSpec.ofChange blendIdleSpec)

/-- ITS FALSE NEIGHBOUR: 'it returns false'. Refute it at one input. -/
def blendIdleWrong : ChangeSpec := { name := "blendIdle", fn := fun _ => fun
  | [d1, d2, d3] => { results := [.lit (.bool false)], args := [d1, d2, d3] }
  | _ => none }
def BlendIdleWrongFalsely : Prop := blendIdleRow.holds Try.pinned (OpenSpec.ofChange blendIdleWrong)

/-- 'senvylaw03.BlendMore': WHATEVER THE INPUT: true; the input reads as it did. -/
def blendMoreSpec : ChangeSpec := { name := "blendMore", fn := fun _ => fun
  | [d1, d2, d3, d4, d5] => { results := [.lit (.bool true)], args := [d1, d2, d3, d4, d5] }
  | _ => none }
def blendMoreRow : OpenClaim := { program := "ytfjnnegaljfkgaa", sum := "52f3686a356560c30555ed04c91a769bc80daf2598fa6730aaf471fa6ee83196", func := "senvy/senvylaw03.BlendMore", spec := "blendMore", unfollowed := true, recurses := true, plainKeys := false, apart := false }
def BlendMoreSaid : Prop := blendMoreRow.holds Try.pinned (OpenSpec.ofChange blendMoreSpec)

/-- ITS FALSE NEIGHBOUR: 'it returns false'. Refute it at one input. -/
def blendMoreWrong : ChangeSpec := { name := "blendMore", fn := fun _ => fun
  | [d1, d2, d3, d4, d5] => { results := [.lit (.bool false)], args := [d1, d2, d3, d4, d5] }
  | _ => none }
def BlendMoreWrongFalsely : Prop := blendMoreRow.holds Try.pinned (OpenSpec.ofChange blendMoreWrong)

/-- 'senvylaw03.BlendMoved': WHATEVER THE INPUT: true; the input reads as it did. -/
def blendMovedSpec : ChangeSpec := { name := "blendMoved", fn := fun _ => fun
  | [d1, d2, d3, d4, d5] => { results := [.lit (.bool true)], args := [d1, d2, d3, d4, d5] }
  | _ => none }
def blendMovedRow : OpenClaim := { program := "ytfjnnegaljfkgaa", sum := "52f3686a356560c30555ed04c91a769bc80daf2598fa6730aaf471fa6ee83196", func := "senvy/senvylaw03.BlendMoved", spec := "blendMoved", unfollowed := true, recurses := true, plainKeys := false, apart := false }
def BlendMovedSaid : Prop := blendMovedRow.holds Try.pinned (OpenSpec.ofChange blendMovedSpec)

/-- ITS FALSE NEIGHBOUR: 'it returns false'. Refute it at one input. -/
def blendMovedWrong : ChangeSpec := { name := "blendMoved", fn := fun _ => fun
  | [d1, d2, d3, d4, d5] => { results := [.lit (.bool false)], args := [d1, d2, d3, d4, d5] }
  | _ => none }
def BlendMovedWrongFalsely : Prop := blendMovedRow.holds Try.pinned (OpenSpec.ofChange blendMovedWrong)

/-- 'senvylaw03.BlendTurned': WHATEVER THE INPUT: true; the input reads as it did. -/
def blendTurnedSpec : ChangeSpec := { name := "blendTurned", fn := fun _ => fun
  | [d1, d2, d3] => { results := [.lit (.bool true)], args := [d1, d2, d3] }
  | _ => none }
def blendTurnedRow : OpenClaim := { program := "ytfjnnegaljfkgaa", sum := "52f3686a356560c30555ed04c91a769bc80daf2598fa6730aaf471fa6ee83196", func := "senvy/senvylaw03.BlendTurned", spec := "blendTurned", unfollowed := true, recurses := true, plainKeys := false, apart := false }
def BlendTurnedSaid : Prop := blendTurnedRow.holds Try.pinned (OpenSpec.ofChange blendTurnedSpec)

/-- ITS FALSE NEIGHBOUR: 'it returns false'. Refute it at one input. -/
def blendTurnedWrong : ChangeSpec := { name := "blendTurned", fn := fun _ => fun
  | [d1, d2, d3] => { results := [.lit (.bool false)], args := [d1, d2, d3] }
  | _ => none }
def BlendTurnedWrongFalsely : Prop := blendTurnedRow.holds Try.pinned (OpenSpec.ofChange blendTurnedWrong)

/-- 'senvylaw03.BlendLost': WHATEVER THE INPUT: true; the input reads as it did. -/
def blendLostSpec : ChangeSpec := { name := "blendLost", fn := fun _ => fun
  | [d1, d2, d3] => { results := [.lit (.bool true)], args := [d1, d2, d3] }
  | _ => none }
def blendLostRow : OpenClaim := { program := "ytfjnnegaljfkgaa", sum := "52f3686a356560c30555ed04c91a769bc80daf2598fa6730aaf471fa6ee83196", func := "senvy/senvylaw03.BlendLost", spec := "blendLost", unfollowed := true, recurses := true, plainKeys := false, apart := false }
def BlendLostSaid : Prop := blendLostRow.holds Try.pinned (OpenSpec.ofChange blendLostSpec)

/-- ITS FALSE NEIGHBOUR: 'it returns false'. Refute it at one input. -/
def blendLostWrong : ChangeSpec := { name := "blendLost", fn := fun _ => fun
  | [d1, d2, d3] => { results := [.lit (.bool false)], args := [d1, d2, d3] }
  | _ => none }
def BlendLostWrongFalsely : Prop := blendLostRow.holds Try.pinned (OpenSpec.ofChange blendLostWrong)

/-- 'senvylaw03.BlendKnown': WHATEVER THE INPUT: true; the input reads as it did. -/
def blendKnownSpec : ChangeSpec := { name := "blendKnown", fn := fun _ => fun
  | [] => { results := [.lit (.bool true)], args := [] }
  | _ => none }
def blendKnownRow : OpenClaim := { program := "ytfjnnegaljfkgaa", sum := "52f3686a356560c30555ed04c91a769bc80daf2598fa6730aaf471fa6ee83196", func := "senvy/senvylaw03.BlendKnown", spec := "blendKnown", unfollowed := true, recurses := true, plainKeys := false, apart := false }
def BlendKnownSaid : Prop := blendKnownRow.holds Try.pinned (OpenSpec.ofChange blendKnownSpec)

/-- ITS FALSE NEIGHBOUR: 'it returns false'. Refute it at one input. -/
def blendKnownWrong : ChangeSpec := { name := "blendKnown", fn := fun _ => fun
  | [] => { results := [.lit (.bool false)], args := [] }
  | _ => none }
def BlendKnownWrongFalsely : Prop := blendKnownRow.holds Try.pinned (OpenSpec.ofChange blendKnownWrong)

/- THE SECOND FORM. 'bulk': how many values and letters a reading holds, each counted each time it is reached (what is shared counts as often as it is met; a slice's spare places count too). A statement '..UptoSaid' is the law's where the arguments, and the package variables that the reading takes, are together of bulk at most 1048576: NARROWER than '..Said'. Prove '..Said' where nothing that the law and all that it calls make is longer than what came in: it says more and counts as full. Else prove '..UptoSaid'. A law counts once. -/
mutual
def uptoBulk {H : Type} : DataW H → Nat
  | .lit (.string bytes) => bytes.length + 1
  | .lit _ => 1
  | .nil => 1
  | .ptr d => uptoBulk d + 1
  | .slice elems spare => uptoBulkAll elems + uptoBulkAll spare + 1
  | .agg parts => uptoBulkAll parts + 1
  | .iface _ d => uptoBulk d + 1
  | .map entries => uptoBulkEntries entries + 1
  | .held _ => 1
def uptoBulkAll {H : Type} : List (DataW H) → Nat
  | [] => 0
  | d :: r => uptoBulk d + uptoBulkAll r
def uptoBulkEntries {H : Type} : List (Lit × DataW H) → Nat
  | [] => 0
  | x :: r => uptoBulkEntry x + uptoBulkEntries r
def uptoBulkEntry {H : Type} : Lit × DataW H → Nat
  | (.string bytes, d) => bytes.length + uptoBulk d + 1
  | (_, d) => uptoBulk d + 1
 end
def uptoSmall : (H : Type) → List (DataW H) → Bool := fun _ ds => decide (uptoBulkAll ds ≤ 1048576)
def OpenSpec.upto (s : _root_.Go.ChangeSpec) : _root_.Go.OpenSpec := { _root_.Go.OpenSpec.ofChange s with cond := some uptoSmall }

/-- 'senvylaw03.BlendLots', WHERE WHAT IT READS IS OF BULK AT MOST 1048576: true; the input reads as it did. -/
def blendLotsUptoRow : OpenClaim := { program := "ytfjnnegaljfkgaa", sum := "52f3686a356560c30555ed04c91a769bc80daf2598fa6730aaf471fa6ee83196", func := "senvy/senvylaw03.BlendLots", spec := "blendLots", unfollowed := true, recurses := true, plainKeys := false, apart := false, narrowed := true }
def BlendLotsUptoSaid : Prop := blendLotsUptoRow.holds Try.pinned (OpenSpec.upto blendLotsSpec)

/-- 'senvylaw03.BlendPrices', WHERE WHAT IT READS IS OF BULK AT MOST 1048576: true; the input reads as it did. -/
def blendPricesUptoRow : OpenClaim := { program := "ytfjnnegaljfkgaa", sum := "52f3686a356560c30555ed04c91a769bc80daf2598fa6730aaf471fa6ee83196", func := "senvy/senvylaw03.BlendPrices", spec := "blendPrices", unfollowed := true, recurses := true, plainKeys := false, apart := false, narrowed := true }
def BlendPricesUptoSaid : Prop := blendPricesUptoRow.holds Try.pinned (OpenSpec.upto blendPricesSpec)

/-- 'senvylaw03.BlendLines', WHERE WHAT IT READS IS OF BULK AT MOST 1048576: true; the input reads as it did. -/
def blendLinesUptoRow : OpenClaim := { program := "ytfjnnegaljfkgaa", sum := "52f3686a356560c30555ed04c91a769bc80daf2598fa6730aaf471fa6ee83196", func := "senvy/senvylaw03.BlendLines", spec := "blendLines", unfollowed := true, recurses := true, plainKeys := false, apart := false, narrowed := true }
def BlendLinesUptoSaid : Prop := blendLinesUptoRow.holds Try.pinned (OpenSpec.upto blendLinesSpec)

/-- 'senvylaw03.BlendCorners', WHERE WHAT IT READS IS OF BULK AT MOST 1048576: true; the input reads as it did. -/
def blendCornersUptoRow : OpenClaim := { program := "ytfjnnegaljfkgaa", sum := "52f3686a356560c30555ed04c91a769bc80daf2598fa6730aaf471fa6ee83196", func := "senvy/senvylaw03.BlendCorners", spec := "blendCorners", unfollowed := true, recurses := true, plainKeys := false, apart := false, narrowed := true }
def BlendCornersUptoSaid : Prop := blendCornersUptoRow.holds Try.pinned (OpenSpec.upto blendCornersSpec)

/-- 'senvylaw03.BlendProved', WHERE WHAT IT READS IS OF BULK AT MOST 1048576: true; the input reads as it did. -/
def blendProvedUptoRow : OpenClaim := { program := "ytfjnnegaljfkgaa", sum := "52f3686a356560c30555ed04c91a769bc80daf2598fa6730aaf471fa6ee83196", func := "senvy/senvylaw03.BlendProved", spec := "blendProved", unfollowed := true, recurses := true, plainKeys := false, apart := false, narrowed := true }
def BlendProvedUptoSaid : Prop := blendProvedUptoRow.holds Try.pinned (OpenSpec.upto blendProvedSpec)

/-- 'senvylaw03.BlendMixed', WHERE WHAT IT READS IS OF BULK AT MOST 1048576: true; the input reads as it did. -/
def blendMixedUptoRow : OpenClaim := { program := "ytfjnnegaljfkgaa", sum := "52f3686a356560c30555ed04c91a769bc80daf2598fa6730aaf471fa6ee83196", func := "senvy/senvylaw03.BlendMixed", spec := "blendMixed", unfollowed := true, recurses := true, plainKeys := false, apart := false, narrowed := true }
def BlendMixedUptoSaid : Prop := blendMixedUptoRow.holds Try.pinned (OpenSpec.upto blendMixedSpec)

/-- 'senvylaw03.BlendLeast', WHERE WHAT IT READS IS OF BULK AT MOST 1048576: true; the input reads as it did. -/
def blendLeastUptoRow : OpenClaim := { program := "ytfjnnegaljfkgaa", sum := "52f3686a356560c30555ed04c91a769bc80daf2598fa6730aaf471fa6ee83196", func := "senvy/senvylaw03.BlendLeast", spec := "blendLeast", unfollowed := true, recurses := true, plainKeys := false, apart := false, narrowed := true }
def BlendLeastUptoSaid : Prop := blendLeastUptoRow.holds Try.pinned (OpenSpec.upto blendLeastSpec)

/-- 'senvylaw03.BlendIdle', WHERE WHAT IT READS IS OF BULK AT MOST 1048576: true; the input reads as it did. -/
def blendIdleUptoRow : OpenClaim := { program := "ytfjnnegaljfkgaa", sum := "52f3686a356560c30555ed04c91a769bc80daf2598fa6730aaf471fa6ee83196", func := "senvy/senvylaw03.BlendIdle", spec := "blendIdle", unfollowed := true, recurses := true, plainKeys := false, apart := false, narrowed := true }
def BlendIdleUptoSaid : Prop := blendIdleUptoRow.holds Try.pinned (OpenSpec.upto blendIdleSpec)

/-- 'senvylaw03.BlendMore', WHERE WHAT IT READS IS OF BULK AT MOST 1048576: true; the input reads as it did. -/
def blendMoreUptoRow : OpenClaim := { program := "ytfjnnegaljfkgaa", sum := "52f3686a356560c30555ed04c91a769bc80daf2598fa6730aaf471fa6ee83196", func := "senvy/senvylaw03.BlendMore", spec := "blendMore", unfollowed := true, recurses := true, plainKeys := false, apart := false, narrowed := true }
def BlendMoreUptoSaid : Prop := blendMoreUptoRow.holds Try.pinned (OpenSpec.upto blendMoreSpec)

/-- 'senvylaw03.BlendMoved', WHERE WHAT IT READS IS OF BULK AT MOST 1048576: true; the input reads as it did. -/
def blendMovedUptoRow : OpenClaim := { program := "ytfjnnegaljfkgaa", sum := "52f3686a356560c30555ed04c91a769bc80daf2598fa6730aaf471fa6ee83196", func := "senvy/senvylaw03.BlendMoved", spec := "blendMoved", unfollowed := true, recurses := true, plainKeys := false, apart := false, narrowed := true }
def BlendMovedUptoSaid : Prop := blendMovedUptoRow.holds Try.pinned (OpenSpec.upto blendMovedSpec)

/-- 'senvylaw03.BlendTurned', WHERE WHAT IT READS IS OF BULK AT MOST 1048576: true; the input reads as it did. -/
def blendTurnedUptoRow : OpenClaim := { program := "ytfjnnegaljfkgaa", sum := "52f3686a356560c30555ed04c91a769bc80daf2598fa6730aaf471fa6ee83196", func := "senvy/senvylaw03.BlendTurned", spec := "blendTurned", unfollowed := true, recurses := true, plainKeys := false, apart := false, narrowed := true }
def BlendTurnedUptoSaid : Prop := blendTurnedUptoRow.holds Try.pinned (OpenSpec.upto blendTurnedSpec)

/-- 'senvylaw03.BlendLost', WHERE WHAT IT READS IS OF BULK AT MOST 1048576: true; the input reads as it did. -/
def blendLostUptoRow : OpenClaim := { program := "ytfjnnegaljfkgaa", sum := "52f3686a356560c30555ed04c91a769bc80daf2598fa6730aaf471fa6ee83196", func := "senvy/senvylaw03.BlendLost", spec := "blendLost", unfollowed := true, recurses := true, plainKeys := false, apart := false, narrowed := true }
def BlendLostUptoSaid : Prop := blendLostUptoRow.holds Try.pinned (OpenSpec.upto blendLostSpec)

/-- 'senvylaw03.BlendKnown', WHERE WHAT IT READS IS OF BULK AT MOST 1048576: true; the input reads as it did. -/
def blendKnownUptoRow : OpenClaim := { program := "ytfjnnegaljfkgaa", sum := "52f3686a356560c30555ed04c91a769bc80daf2598fa6730aaf471fa6ee83196", func := "senvy/senvylaw03.BlendKnown", spec := "blendKnown", unfollowed := true, recurses := true, plainKeys := false, apart := false, narrowed := true }
def BlendKnownUptoSaid : Prop := blendKnownUptoRow.holds Try.pinned (OpenSpec.upto blendKnownSpec)

end Rows
end Go.Proofs.Ytfjnnegaljfkgaa
