/-
  No cell of these rows narrows 'for every input' (looked for: loops, veiled, ifaces, maps, wideKeys, modest, calm, conditions, laid).
  DERIVED. THE GIVEN ROWS OF THIS SEAT. 13 by the template 'for every input the law returns true; each argument reads behind the call as it read before'; 0 by the template 'total and deterministic' (their statements: YtalcccgialpjgaaTotals.lean).
  GIVEN WITH THE SEED: the statements are not yours to turn. If you find one false, say at which input.
  Laid BY PROGRAM, IN A SANDBOX (cutbox-rows.mjs): the forced cells as the released guide's own fill.sh prints them over the translation b022da34274dead2… (all of the seat's roots in one cut). By AI agents, Wed Nov 11 2026. No macro, syntax, notation, axiom, sorry.
-/
import Derived.Test.YtalcccgialpjgaaChecked
import GoSem.Claim
import GoSem.ClaimJoined
import GoSem.ClaimMapViews
import Derived.JoinedTies
import Derived.KernelRfl
namespace Go.Proofs.Ytalcccgialpjgaa
/- THE CELL 'sum', in the pinned program and in every row, IS THE sha256 OF THE DUMP (.gsa) THAT YtalcccgialpjgaaProg.lean LOADS. Nothing in Lean hashes anything: it is a label: what it is worth is what the hold of that sum in a sandbox is worth. -/
noncomputable def Try.pinned : Pinned := { name := "ytalcccgialpjgaa", sum := "b022da34274dead217ff47a1462dba47105cea7db25978cceab4a74106bca6e1", checked := Try.checked }
namespace Rows
def none {H : Type} : Left H := { results := [], args := [] }

/-- 'senvylaw04.SieveTables': WHATEVER THE INPUT: true; the input reads as it did. -/
def sieveTablesSpec : ChangeSpec := { name := "sieveTables", fn := fun _ => fun
  | [d1, d2] => { results := [.lit (.bool true)], args := [d1, d2] }
  | _ => none }
def sieveTablesRow : OpenClaim := { program := "ytalcccgialpjgaa", sum := "b022da34274dead217ff47a1462dba47105cea7db25978cceab4a74106bca6e1", func := "senvy/senvylaw04.SieveTables", spec := "sieveTables", unfollowed := true, recurses := true, plainKeys := false, apart := false }
def SieveTablesSaid : Prop := sieveTablesRow.holds Try.pinned (OpenSpec.ofChange sieveTablesSpec)

/-- ITS FALSE NEIGHBOUR: 'it returns false'. Refute it at one input. -/
def sieveTablesWrong : ChangeSpec := { name := "sieveTables", fn := fun _ => fun
  | [d1, d2] => { results := [.lit (.bool false)], args := [d1, d2] }
  | _ => none }
def SieveTablesWrongFalsely : Prop := sieveTablesRow.holds Try.pinned (OpenSpec.ofChange sieveTablesWrong)

/-- 'senvylaw04.SieveTruths': WHATEVER THE INPUT: true; the input reads as it did. -/
def sieveTruthsSpec : ChangeSpec := { name := "sieveTruths", fn := fun _ => fun
  | [d1, d2, d3] => { results := [.lit (.bool true)], args := [d1, d2, d3] }
  | _ => none }
def sieveTruthsRow : OpenClaim := { program := "ytalcccgialpjgaa", sum := "b022da34274dead217ff47a1462dba47105cea7db25978cceab4a74106bca6e1", func := "senvy/senvylaw04.SieveTruths", spec := "sieveTruths", unfollowed := true, recurses := true, plainKeys := false, apart := false }
def SieveTruthsSaid : Prop := sieveTruthsRow.holds Try.pinned (OpenSpec.ofChange sieveTruthsSpec)

/-- ITS FALSE NEIGHBOUR: 'it returns false'. Refute it at one input. -/
def sieveTruthsWrong : ChangeSpec := { name := "sieveTruths", fn := fun _ => fun
  | [d1, d2, d3] => { results := [.lit (.bool false)], args := [d1, d2, d3] }
  | _ => none }
def SieveTruthsWrongFalsely : Prop := sieveTruthsRow.holds Try.pinned (OpenSpec.ofChange sieveTruthsWrong)

/-- 'senvylaw04.SieveProofs': WHATEVER THE INPUT: true; the input reads as it did. -/
def sieveProofsSpec : ChangeSpec := { name := "sieveProofs", fn := fun _ => fun
  | [d1, d2] => { results := [.lit (.bool true)], args := [d1, d2] }
  | _ => none }
def sieveProofsRow : OpenClaim := { program := "ytalcccgialpjgaa", sum := "b022da34274dead217ff47a1462dba47105cea7db25978cceab4a74106bca6e1", func := "senvy/senvylaw04.SieveProofs", spec := "sieveProofs", unfollowed := true, recurses := true, plainKeys := false, apart := false }
def SieveProofsSaid : Prop := sieveProofsRow.holds Try.pinned (OpenSpec.ofChange sieveProofsSpec)

/-- ITS FALSE NEIGHBOUR: 'it returns false'. Refute it at one input. -/
def sieveProofsWrong : ChangeSpec := { name := "sieveProofs", fn := fun _ => fun
  | [d1, d2] => { results := [.lit (.bool false)], args := [d1, d2] }
  | _ => none }
def SieveProofsWrongFalsely : Prop := sieveProofsRow.holds Try.pinned (OpenSpec.ofChange sieveProofsWrong)

/-- 'senvylaw04.SieveSums': WHATEVER THE INPUT: true; the input reads as it did. -/
def sieveSumsSpec : ChangeSpec := { name := "sieveSums", fn := fun _ => fun
  | [d1, d2, d3] => { results := [.lit (.bool true)], args := [d1, d2, d3] }
  | _ => none }
def sieveSumsRow : OpenClaim := { program := "ytalcccgialpjgaa", sum := "b022da34274dead217ff47a1462dba47105cea7db25978cceab4a74106bca6e1", func := "senvy/senvylaw04.SieveSums", spec := "sieveSums", unfollowed := true, recurses := true, plainKeys := false, apart := false }
def SieveSumsSaid : Prop := sieveSumsRow.holds Try.pinned (OpenSpec.ofChange sieveSumsSpec)

/-- ITS FALSE NEIGHBOUR: 'it returns false'. Refute it at one input. -/
def sieveSumsWrong : ChangeSpec := { name := "sieveSums", fn := fun _ => fun
  | [d1, d2, d3] => { results := [.lit (.bool false)], args := [d1, d2, d3] }
  | _ => none }
def SieveSumsWrongFalsely : Prop := sieveSumsRow.holds Try.pinned (OpenSpec.ofChange sieveSumsWrong)

/-- 'senvylaw04.SieveNarrows': WHATEVER THE INPUT: true; the input reads as it did. -/
def sieveNarrowsSpec : ChangeSpec := { name := "sieveNarrows", fn := fun _ => fun
  | [d] => { results := [.lit (.bool true)], args := [d] }
  | _ => none }
def sieveNarrowsRow : OpenClaim := { program := "ytalcccgialpjgaa", sum := "b022da34274dead217ff47a1462dba47105cea7db25978cceab4a74106bca6e1", func := "senvy/senvylaw04.SieveNarrows", spec := "sieveNarrows", unfollowed := true, recurses := true, plainKeys := false, apart := false }
def SieveNarrowsSaid : Prop := sieveNarrowsRow.holds Try.pinned (OpenSpec.ofChange sieveNarrowsSpec)

/-- ITS FALSE NEIGHBOUR: 'it returns false'. Refute it at one input. -/
def sieveNarrowsWrong : ChangeSpec := { name := "sieveNarrows", fn := fun _ => fun
  | [d] => { results := [.lit (.bool false)], args := [d] }
  | _ => none }
def SieveNarrowsWrongFalsely : Prop := sieveNarrowsRow.holds Try.pinned (OpenSpec.ofChange sieveNarrowsWrong)

/-- 'senvylaw04.SieveProved': WHATEVER THE INPUT: true; the input reads as it did. -/
def sieveProvedSpec : ChangeSpec := { name := "sieveProved", fn := fun _ => fun
  | [d1, d2, d3, d4, d5] => { results := [.lit (.bool true)], args := [d1, d2, d3, d4, d5] }
  | _ => none }
def sieveProvedRow : OpenClaim := { program := "ytalcccgialpjgaa", sum := "b022da34274dead217ff47a1462dba47105cea7db25978cceab4a74106bca6e1", func := "senvy/senvylaw04.SieveProved", spec := "sieveProved", unfollowed := true, recurses := true, plainKeys := false, apart := false }
def SieveProvedSaid : Prop := sieveProvedRow.holds Try.pinned (OpenSpec.ofChange sieveProvedSpec)

/-- ITS FALSE NEIGHBOUR: 'it returns false'. Refute it at one input. -/
def sieveProvedWrong : ChangeSpec := { name := "sieveProved", fn := fun _ => fun
  | [d1, d2, d3, d4, d5] => { results := [.lit (.bool false)], args := [d1, d2, d3, d4, d5] }
  | _ => none }
def SieveProvedWrongFalsely : Prop := sieveProvedRow.holds Try.pinned (OpenSpec.ofChange sieveProvedWrong)

/-- 'senvylaw04.SieveCells': WHATEVER THE INPUT: true; the input reads as it did. -/
def sieveCellsSpec : ChangeSpec := { name := "sieveCells", fn := fun _ => fun
  | [d1, d2, d3, d4, d5] => { results := [.lit (.bool true)], args := [d1, d2, d3, d4, d5] }
  | _ => none }
def sieveCellsRow : OpenClaim := { program := "ytalcccgialpjgaa", sum := "b022da34274dead217ff47a1462dba47105cea7db25978cceab4a74106bca6e1", func := "senvy/senvylaw04.SieveCells", spec := "sieveCells", unfollowed := true, recurses := true, plainKeys := false, apart := false }
def SieveCellsSaid : Prop := sieveCellsRow.holds Try.pinned (OpenSpec.ofChange sieveCellsSpec)

/-- ITS FALSE NEIGHBOUR: 'it returns false'. Refute it at one input. -/
def sieveCellsWrong : ChangeSpec := { name := "sieveCells", fn := fun _ => fun
  | [d1, d2, d3, d4, d5] => { results := [.lit (.bool false)], args := [d1, d2, d3, d4, d5] }
  | _ => none }
def SieveCellsWrongFalsely : Prop := sieveCellsRow.holds Try.pinned (OpenSpec.ofChange sieveCellsWrong)

/-- 'senvylaw04.SieveNarrow': WHATEVER THE INPUT: true; the input reads as it did. -/
def sieveNarrowSpec : ChangeSpec := { name := "sieveNarrow", fn := fun _ => fun
  | [d1, d2, d3, d4, d5] => { results := [.lit (.bool true)], args := [d1, d2, d3, d4, d5] }
  | _ => none }
def sieveNarrowRow : OpenClaim := { program := "ytalcccgialpjgaa", sum := "b022da34274dead217ff47a1462dba47105cea7db25978cceab4a74106bca6e1", func := "senvy/senvylaw04.SieveNarrow", spec := "sieveNarrow", unfollowed := true, recurses := true, plainKeys := false, apart := false }
def SieveNarrowSaid : Prop := sieveNarrowRow.holds Try.pinned (OpenSpec.ofChange sieveNarrowSpec)

/-- ITS FALSE NEIGHBOUR: 'it returns false'. Refute it at one input. -/
def sieveNarrowWrong : ChangeSpec := { name := "sieveNarrow", fn := fun _ => fun
  | [d1, d2, d3, d4, d5] => { results := [.lit (.bool false)], args := [d1, d2, d3, d4, d5] }
  | _ => none }
def SieveNarrowWrongFalsely : Prop := sieveNarrowRow.holds Try.pinned (OpenSpec.ofChange sieveNarrowWrong)

/-- 'senvylaw04.SieveTurned': WHATEVER THE INPUT: true; the input reads as it did. -/
def sieveTurnedSpec : ChangeSpec := { name := "sieveTurned", fn := fun _ => fun
  | [d1, d2, d3, d4, d5] => { results := [.lit (.bool true)], args := [d1, d2, d3, d4, d5] }
  | _ => none }
def sieveTurnedRow : OpenClaim := { program := "ytalcccgialpjgaa", sum := "b022da34274dead217ff47a1462dba47105cea7db25978cceab4a74106bca6e1", func := "senvy/senvylaw04.SieveTurned", spec := "sieveTurned", unfollowed := true, recurses := true, plainKeys := false, apart := false }
def SieveTurnedSaid : Prop := sieveTurnedRow.holds Try.pinned (OpenSpec.ofChange sieveTurnedSpec)

/-- ITS FALSE NEIGHBOUR: 'it returns false'. Refute it at one input. -/
def sieveTurnedWrong : ChangeSpec := { name := "sieveTurned", fn := fun _ => fun
  | [d1, d2, d3, d4, d5] => { results := [.lit (.bool false)], args := [d1, d2, d3, d4, d5] }
  | _ => none }
def SieveTurnedWrongFalsely : Prop := sieveTurnedRow.holds Try.pinned (OpenSpec.ofChange sieveTurnedWrong)

/-- 'senvylaw04.SieveMoved': WHATEVER THE INPUT: true; the input reads as it did. -/
def sieveMovedSpec : ChangeSpec := { name := "sieveMoved", fn := fun _ => fun
  | [d1, d2, d3, d4, d5] => { results := [.lit (.bool true)], args := [d1, d2, d3, d4, d5] }
  | _ => none }
def sieveMovedRow : OpenClaim := { program := "ytalcccgialpjgaa", sum := "b022da34274dead217ff47a1462dba47105cea7db25978cceab4a74106bca6e1", func := "senvy/senvylaw04.SieveMoved", spec := "sieveMoved", unfollowed := true, recurses := true, plainKeys := false, apart := false }
def SieveMovedSaid : Prop := sieveMovedRow.holds Try.pinned (OpenSpec.ofChange sieveMovedSpec)

/-- ITS FALSE NEIGHBOUR: 'it returns false'. Refute it at one input. -/
def sieveMovedWrong : ChangeSpec := { name := "sieveMoved", fn := fun _ => fun
  | [d1, d2, d3, d4, d5] => { results := [.lit (.bool false)], args := [d1, d2, d3, d4, d5] }
  | _ => none }
def SieveMovedWrongFalsely : Prop := sieveMovedRow.holds Try.pinned (OpenSpec.ofChange sieveMovedWrong)

/-- 'senvylaw04.SieveWider': WHATEVER THE INPUT: true; the input reads as it did. -/
def sieveWiderSpec : ChangeSpec := { name := "sieveWider", fn := fun _ => fun
  | [d1, d2, d3, d4, d5, d6] => { results := [.lit (.bool true)], args := [d1, d2, d3, d4, d5, d6] }
  | _ => none }
def sieveWiderRow : OpenClaim := { program := "ytalcccgialpjgaa", sum := "b022da34274dead217ff47a1462dba47105cea7db25978cceab4a74106bca6e1", func := "senvy/senvylaw04.SieveWider", spec := "sieveWider", unfollowed := true, recurses := true, plainKeys := false, apart := false }
def SieveWiderSaid : Prop := sieveWiderRow.holds Try.pinned (OpenSpec.ofChange sieveWiderSpec)

/-- ITS FALSE NEIGHBOUR: 'it returns false'. Refute it at one input. -/
def sieveWiderWrong : ChangeSpec := { name := "sieveWider", fn := fun _ => fun
  | [d1, d2, d3, d4, d5, d6] => { results := [.lit (.bool false)], args := [d1, d2, d3, d4, d5, d6] }
  | _ => none }
def SieveWiderWrongFalsely : Prop := sieveWiderRow.holds Try.pinned (OpenSpec.ofChange sieveWiderWrong)

/-- 'senvylaw04.SieveSum': WHATEVER THE INPUT: true; the input reads as it did. -/
def sieveSumSpec : ChangeSpec := { name := "sieveSum", fn := fun _ => fun
  | [d1, d2] => { results := [.lit (.bool true)], args := [d1, d2] }
  | _ => none }
def sieveSumRow : OpenClaim := { program := "ytalcccgialpjgaa", sum := "b022da34274dead217ff47a1462dba47105cea7db25978cceab4a74106bca6e1", func := "senvy/senvylaw04.SieveSum", spec := "sieveSum", unfollowed := true, recurses := true, plainKeys := false, apart := false }
def SieveSumSaid : Prop := sieveSumRow.holds Try.pinned (OpenSpec.ofChange sieveSumSpec)

/-- ITS FALSE NEIGHBOUR: 'it returns false'. Refute it at one input. -/
def sieveSumWrong : ChangeSpec := { name := "sieveSum", fn := fun _ => fun
  | [d1, d2] => { results := [.lit (.bool false)], args := [d1, d2] }
  | _ => none }
def SieveSumWrongFalsely : Prop := sieveSumRow.holds Try.pinned (OpenSpec.ofChange sieveSumWrong)

/-- 'senvylaw04.SieveKnown': WHATEVER THE INPUT: true; the input reads as it did. -/
def sieveKnownSpec : ChangeSpec := { name := "sieveKnown", fn := fun _ => fun
  | [] => { results := [.lit (.bool true)], args := [] }
  | _ => none }
def sieveKnownRow : OpenClaim := { program := "ytalcccgialpjgaa", sum := "b022da34274dead217ff47a1462dba47105cea7db25978cceab4a74106bca6e1", func := "senvy/senvylaw04.SieveKnown", spec := "sieveKnown", unfollowed := true, recurses := true, plainKeys := false, apart := false }
def SieveKnownSaid : Prop := sieveKnownRow.holds Try.pinned (OpenSpec.ofChange sieveKnownSpec)

/-- ITS FALSE NEIGHBOUR: 'it returns false'. Refute it at one input. -/
def sieveKnownWrong : ChangeSpec := { name := "sieveKnown", fn := fun _ => fun
  | [] => { results := [.lit (.bool false)], args := [] }
  | _ => none }
def SieveKnownWrongFalsely : Prop := sieveKnownRow.holds Try.pinned (OpenSpec.ofChange sieveKnownWrong)

/- THE SECOND FORM. 'bulk': how many values and letters a reading holds, each counted each time it is reached (what is shared counts as often as it is met; a slice's spare places count too). A statement '..UptoSaid' is the law's where the arguments, and the package variables that the reading takes, are together of bulk at most 1048576: NARROWER than '..Said'. Prove '..Said' where nothing that the law and all that it calls make is longer than what came in: it says more and counts as full. Else prove '..UptoSaid'. A law counts once. -/
mutual
def uptoBulk {H : Type} : DataW H → Nat
  | .lit (.string bytes) => bytes.length + 1
  | .lit _ => 1
  | .nil => 1
  | .ptr d => uptoBulk d + 1
  | .slice elems spare => uptoBulkAll elems + uptoBulkAll spare + 1
  | .agg parts => uptoBulkAll parts + 1
  | .iface _ d => uptoBulk d + 1
  | .map entries => uptoBulkEntries entries + 1
  | .held _ => 1
def uptoBulkAll {H : Type} : List (DataW H) → Nat
  | [] => 0
  | d :: r => uptoBulk d + uptoBulkAll r
def uptoBulkEntries {H : Type} : List (Lit × DataW H) → Nat
  | [] => 0
  | x :: r => uptoBulkEntry x + uptoBulkEntries r
def uptoBulkEntry {H : Type} : Lit × DataW H → Nat
  | (.string bytes, d) => bytes.length + uptoBulk d + 1
  | (_, d) => uptoBulk d + 1
 end
def uptoSmall : (H : Type) → List (DataW H) → Bool := fun _ ds => decide (uptoBulkAll ds ≤ 1048576)
def OpenSpec.upto (s : _root_.Go.ChangeSpec) : _root_.Go.OpenSpec := { _root_.Go.OpenSpec.ofChange s with cond := some uptoSmall }

/-- 'senvylaw04.SieveTables', WHERE WHAT IT READS IS OF BULK AT MOST 1048576: true; the input reads as it did. -/
def sieveTablesUptoRow : OpenClaim := { program := "ytalcccgialpjgaa", sum := "b022da34274dead217ff47a1462dba47105cea7db25978cceab4a74106bca6e1", func := "senvy/senvylaw04.SieveTables", spec := "sieveTables", unfollowed := true, recurses := true, plainKeys := false, apart := false, narrowed := true }
def SieveTablesUptoSaid : Prop := sieveTablesUptoRow.holds Try.pinned (OpenSpec.upto sieveTablesSpec)

/-- 'senvylaw04.SieveTruths', WHERE WHAT IT READS IS OF BULK AT MOST 1048576: true; the input reads as it did. -/
def sieveTruthsUptoRow : OpenClaim := { program := "ytalcccgialpjgaa", sum := "b022da34274dead217ff47a1462dba47105cea7db25978cceab4a74106bca6e1", func := "senvy/senvylaw04.SieveTruths", spec := "sieveTruths", unfollowed := true, recurses := true, plainKeys := false, apart := false, narrowed := true }
def SieveTruthsUptoSaid : Prop := sieveTruthsUptoRow.holds Try.pinned (OpenSpec.upto sieveTruthsSpec)

/-- 'senvylaw04.SieveProofs', WHERE WHAT IT READS IS OF BULK AT MOST 1048576: true; the input reads as it did. -/
def sieveProofsUptoRow : OpenClaim := { program := "ytalcccgialpjgaa", sum := "b022da34274dead217ff47a1462dba47105cea7db25978cceab4a74106bca6e1", func := "senvy/senvylaw04.SieveProofs", spec := "sieveProofs", unfollowed := true, recurses := true, plainKeys := false, apart := false, narrowed := true }
def SieveProofsUptoSaid : Prop := sieveProofsUptoRow.holds Try.pinned (OpenSpec.upto sieveProofsSpec)

/-- 'senvylaw04.SieveSums', WHERE WHAT IT READS IS OF BULK AT MOST 1048576: true; the input reads as it did. -/
def sieveSumsUptoRow : OpenClaim := { program := "ytalcccgialpjgaa", sum := "b022da34274dead217ff47a1462dba47105cea7db25978cceab4a74106bca6e1", func := "senvy/senvylaw04.SieveSums", spec := "sieveSums", unfollowed := true, recurses := true, plainKeys := false, apart := false, narrowed := true }
def SieveSumsUptoSaid : Prop := sieveSumsUptoRow.holds Try.pinned (OpenSpec.upto sieveSumsSpec)

/-- 'senvylaw04.SieveNarrows', WHERE WHAT IT READS IS OF BULK AT MOST 1048576: true; the input reads as it did. -/
def sieveNarrowsUptoRow : OpenClaim := { program := "ytalcccgialpjgaa", sum := "b022da34274dead217ff47a1462dba47105cea7db25978cceab4a74106bca6e1", func := "senvy/senvylaw04.SieveNarrows", spec := "sieveNarrows", unfollowed := true, recurses := true, plainKeys := false, apart := false, narrowed := true }
def SieveNarrowsUptoSaid : Prop := sieveNarrowsUptoRow.holds Try.pinned (OpenSpec.upto sieveNarrowsSpec)

/-- 'senvylaw04.SieveProved', WHERE WHAT IT READS IS OF BULK AT MOST 1048576: true; the input reads as it did. -/
def sieveProvedUptoRow : OpenClaim := { program := "ytalcccgialpjgaa", sum := "b022da34274dead217ff47a1462dba47105cea7db25978cceab4a74106bca6e1", func := "senvy/senvylaw04.SieveProved", spec := "sieveProved", unfollowed := true, recurses := true, plainKeys := false, apart := false, narrowed := true }
def SieveProvedUptoSaid : Prop := sieveProvedUptoRow.holds Try.pinned (OpenSpec.upto sieveProvedSpec)

/-- 'senvylaw04.SieveCells', WHERE WHAT IT READS IS OF BULK AT MOST 1048576: true; the input reads as it did. -/
def sieveCellsUptoRow : OpenClaim := { program := "ytalcccgialpjgaa", sum := "b022da34274dead217ff47a1462dba47105cea7db25978cceab4a74106bca6e1", func := "senvy/senvylaw04.SieveCells", spec := "sieveCells", unfollowed := true, recurses := true, plainKeys := false, apart := false, narrowed := true }
def SieveCellsUptoSaid : Prop := sieveCellsUptoRow.holds Try.pinned (OpenSpec.upto sieveCellsSpec)

/-- 'senvylaw04.SieveNarrow', WHERE WHAT IT READS IS OF BULK AT MOST 1048576: true; the input reads as it did. -/
def sieveNarrowUptoRow : OpenClaim := { program := "ytalcccgialpjgaa", sum := "b022da34274dead217ff47a1462dba47105cea7db25978cceab4a74106bca6e1", func := "senvy/senvylaw04.SieveNarrow", spec := "sieveNarrow", unfollowed := true, recurses := true, plainKeys := false, apart := false, narrowed := true }
def SieveNarrowUptoSaid : Prop := sieveNarrowUptoRow.holds Try.pinned (OpenSpec.upto sieveNarrowSpec)

/-- 'senvylaw04.SieveTurned', WHERE WHAT IT READS IS OF BULK AT MOST 1048576: true; the input reads as it did. -/
def sieveTurnedUptoRow : OpenClaim := { program := "ytalcccgialpjgaa", sum := "b022da34274dead217ff47a1462dba47105cea7db25978cceab4a74106bca6e1", func := "senvy/senvylaw04.SieveTurned", spec := "sieveTurned", unfollowed := true, recurses := true, plainKeys := false, apart := false, narrowed := true }
def SieveTurnedUptoSaid : Prop := sieveTurnedUptoRow.holds Try.pinned (OpenSpec.upto sieveTurnedSpec)

/-- 'senvylaw04.SieveMoved', WHERE WHAT IT READS IS OF BULK AT MOST 1048576: true; the input reads as it did. -/
def sieveMovedUptoRow : OpenClaim := { program := "ytalcccgialpjgaa", sum := "b022da34274dead217ff47a1462dba47105cea7db25978cceab4a74106bca6e1", func := "senvy/senvylaw04.SieveMoved", spec := "sieveMoved", unfollowed := true, recurses := true, plainKeys := false, apart := false, narrowed := true }
def SieveMovedUptoSaid : Prop := sieveMovedUptoRow.holds Try.pinned (OpenSpec.upto sieveMovedSpec)

/-- 'senvylaw04.SieveWider', WHERE WHAT IT READS IS OF BULK AT MOST 1048576: true; the input reads as it did. -/
def sieveWiderUptoRow : OpenClaim := { program := "ytalcccgialpjgaa", sum := "b022da34274dead217ff47a1462dba47105cea7db25978cceab4a74106bca6e1", func := "senvy/senvylaw04.SieveWider", spec := "sieveWider", unfollowed := true, recurses := true, plainKeys := false, apart := false, narrowed := true }
def SieveWiderUptoSaid : Prop := sieveWiderUptoRow.holds Try.pinned (OpenSpec.upto sieveWiderSpec)

/-- 'senvylaw04.SieveSum', WHERE WHAT IT READS IS OF BULK AT MOST 1048576: true; the input reads as it did. -/
def sieveSumUptoRow : OpenClaim := { program := "ytalcccgialpjgaa", sum := "b022da34274dead217ff47a1462dba47105cea7db25978cceab4a74106bca6e1", func := "senvy/senvylaw04.SieveSum", spec := "sieveSum", unfollowed := true, recurses := true, plainKeys := false, apart := false, narrowed := true }
def SieveSumUptoSaid : Prop := sieveSumUptoRow.holds Try.pinned (OpenSpec.upto sieveSumSpec)

/-- 'senvylaw04.SieveKnown', WHERE WHAT IT READS IS OF BULK AT MOST 1048576: true; the input reads as it did. -/
def sieveKnownUptoRow : OpenClaim := { program := "ytalcccgialpjgaa", sum := "b022da34274dead217ff47a1462dba47105cea7db25978cceab4a74106bca6e1", func := "senvy/senvylaw04.SieveKnown", spec := "sieveKnown", unfollowed := true, recurses := true, plainKeys := false, apart := false, narrowed := true }
def SieveKnownUptoSaid : Prop := sieveKnownUptoRow.holds Try.pinned (OpenSpec.upto sieveKnownSpec)

end Rows
end Go.Proofs.Ytalcccgialpjgaa
