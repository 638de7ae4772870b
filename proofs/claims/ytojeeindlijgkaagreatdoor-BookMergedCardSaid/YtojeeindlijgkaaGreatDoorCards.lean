/-
  DERIVED. GIVEN WITH THE SEED: THE CARDS: each row of YtojeeindlijgkaaGreatDoorRows.lean that lists a variable, with what it lists TIED to the program's text (the seventh form; the later family's looks); each row that meets fmt, with fmt's text TOLD by the authors' own Lean function (tested against real Go, not proved from fmt's source: count such statements apart). THE CARD IS WHAT COUNTS. Prove the row's statement (the work); the ties are given (YtojeeindlijgkaaGreatDoorTie.lean); close each card by the builder's one call (the guide's Derived/Test/ToyasCard.lean, 'card_holds'). Laid BY PROGRAM, IN A SANDBOX (cutbox-door.mjs). By AI agents, Wed Nov 11 2026. No macro, syntax, notation, axiom, sorry.
-/
import Derived.Test.YtojeeindlijgkaaGreatDoorRows
import GoSem.ClaimSeven
namespace Go.Proofs.YtojeeindlijgkaaGreatDoor
namespace Rows

/-- THE TIED CARD OF 'senvylaw12.BookBooks'. -/
def bookBooksCard : Claim7 := { stood := { row := bookBooksRow, standIns := [], harness := (true, "066dbba9b204677d37cdcfd04352d9775fa1ec62d717b4473e5aaae6bd045017"), looks := true }, kinds := [], alts := [], laidByText := true, laidKinds := [.data, .data, .data, .data, .sentinel, .sentinel, .pinned], laidTests := true, laidLooks := .later }
def BookBooksCardSaid : Prop := Claim7.holds Tryz.pinned (.plain (OpenSpec.ofChange bookBooksSpec)) bookBooksCard

/-- THE TIED CARD OF 'senvylaw12.BookMerges'. -/
def bookMergesCard : Claim7 := { stood := { row := bookMergesRow, standIns := [], harness := (true, "066dbba9b204677d37cdcfd04352d9775fa1ec62d717b4473e5aaae6bd045017"), looks := true }, kinds := [], alts := [], laidByText := true, laidKinds := [.data, .data, .data, .data, .sentinel, .sentinel, .pinned], laidTests := true, laidLooks := .later }
def BookMergesCardSaid : Prop := Claim7.holds Tryz.pinned (.plain (OpenSpec.ofChange bookMergesSpec)) bookMergesCard

/-- THE TIED CARD OF 'senvylaw12.BookParts'. -/
def bookPartsCard : Claim7 := { stood := { row := bookPartsRow, standIns := [], harness := (true, "066dbba9b204677d37cdcfd04352d9775fa1ec62d717b4473e5aaae6bd045017"), looks := true }, kinds := [], alts := [], laidByText := true, laidKinds := [.data, .data, .data, .data, .sentinel, .sentinel, .pinned], laidTests := true, laidLooks := .later }
def BookPartsCardSaid : Prop := Claim7.holds Tryz.pinned (.plain (OpenSpec.ofChange bookPartsSpec)) bookPartsCard

/-- THE TIED CARD OF 'senvylaw12.BookFiles'. -/
def bookFilesCard : Claim7 := { stood := { row := bookFilesRow, standIns := [], harness := (true, "066dbba9b204677d37cdcfd04352d9775fa1ec62d717b4473e5aaae6bd045017"), looks := true }, kinds := [], alts := [], laidByText := true, laidKinds := [.data, .data, .data, .data, .sentinel, .sentinel, .pinned], laidTests := true, laidLooks := .later }
def BookFilesCardSaid : Prop := Claim7.holds Tryz.pinned (.plain (OpenSpec.ofChange bookFilesSpec)) bookFilesCard

/-- THE TIED CARD OF 'senvylaw12.BookMerged'. -/
def bookMergedCard : Claim7 := { stood := { row := bookMergedRow, standIns := [], harness := (true, "066dbba9b204677d37cdcfd04352d9775fa1ec62d717b4473e5aaae6bd045017"), looks := true }, kinds := [], alts := [], laidByText := true, laidKinds := [.data, .data, .data, .data, .sentinel, .sentinel, .pinned], laidTests := true, laidLooks := .later }
def BookMergedCardSaid : Prop := Claim7.holds Tryz.pinned (.plain (OpenSpec.ofChange bookMergedSpec)) bookMergedCard

/-- THE TIED CARD OF 'senvylaw12.BookJoined'. -/
def bookJoinedCard : Claim7 := { stood := { row := bookJoinedRow, standIns := [], harness := (true, "066dbba9b204677d37cdcfd04352d9775fa1ec62d717b4473e5aaae6bd045017"), looks := true }, kinds := [], alts := [], laidByText := true, laidKinds := [.data, .data, .data, .data, .sentinel, .sentinel, .pinned], laidTests := true, laidLooks := .later }
def BookJoinedCardSaid : Prop := Claim7.holds Tryz.pinned (.plain (OpenSpec.ofChange bookJoinedSpec)) bookJoinedCard

/-- THE TIED CARD OF 'senvylaw12.BookSplit'. -/
def bookSplitCard : Claim7 := { stood := { row := bookSplitRow, standIns := [], harness := (true, "066dbba9b204677d37cdcfd04352d9775fa1ec62d717b4473e5aaae6bd045017"), looks := true }, kinds := [], alts := [], laidByText := true, laidKinds := [.data, .data, .data, .data, .sentinel, .sentinel, .pinned], laidTests := true, laidLooks := .later }
def BookSplitCardSaid : Prop := Claim7.holds Tryz.pinned (.plain (OpenSpec.ofChange bookSplitSpec)) bookSplitCard

/-- THE TIED CARD OF 'senvylaw12.BookStocks'. -/
def bookStocksCard : Claim7 := { stood := { row := bookStocksRow, standIns := [], harness := (true, "066dbba9b204677d37cdcfd04352d9775fa1ec62d717b4473e5aaae6bd045017"), looks := true }, kinds := [], alts := [], laidByText := true, laidKinds := [.data, .data, .data, .data, .sentinel, .sentinel, .pinned], laidTests := true, laidLooks := .later }
def BookStocksCardSaid : Prop := Claim7.holds Tryz.pinned (.plain (OpenSpec.ofChange bookStocksSpec)) bookStocksCard

/-- THE TIED CARD OF 'senvylaw12.BookFiled'. -/
def bookFiledCard : Claim7 := { stood := { row := bookFiledRow, standIns := [], harness := (true, "066dbba9b204677d37cdcfd04352d9775fa1ec62d717b4473e5aaae6bd045017"), looks := true }, kinds := [], alts := [], laidByText := true, laidKinds := [.data, .data, .data, .data, .sentinel, .sentinel, .pinned], laidTests := true, laidLooks := .later }
def BookFiledCardSaid : Prop := Claim7.holds Tryz.pinned (.plain (OpenSpec.ofChange bookFiledSpec)) bookFiledCard

/-- THE TIED CARD OF 'senvylaw12.BookChanged'. -/
def bookChangedCard : Claim7 := { stood := { row := bookChangedRow, standIns := [], harness := (true, "066dbba9b204677d37cdcfd04352d9775fa1ec62d717b4473e5aaae6bd045017"), looks := true }, kinds := [], alts := [], laidByText := true, laidKinds := [.data, .data, .data, .data, .sentinel, .sentinel, .pinned], laidTests := true, laidLooks := .later }
def BookChangedCardSaid : Prop := Claim7.holds Tryz.pinned (.plain (OpenSpec.ofChange bookChangedSpec)) bookChangedCard

/-- THE TIED CARD OF 'senvylaw12.BookClash'. -/
def bookClashCard : Claim7 := { stood := { row := bookClashRow, standIns := [], harness := (true, "066dbba9b204677d37cdcfd04352d9775fa1ec62d717b4473e5aaae6bd045017"), looks := true }, kinds := [], alts := [], laidByText := true, laidKinds := [.data, .data, .data, .data, .sentinel, .sentinel, .pinned], laidTests := true, laidLooks := .later }
def BookClashCardSaid : Prop := Claim7.holds Tryz.pinned (.plain (OpenSpec.ofChange bookClashSpec)) bookClashCard

/-- THE TIED CARD OF 'senvylaw12.BookKnown'. -/
def bookKnownCard : Claim7 := { stood := { row := bookKnownRow, standIns := [], harness := (true, "066dbba9b204677d37cdcfd04352d9775fa1ec62d717b4473e5aaae6bd045017"), looks := true }, kinds := [], alts := [], laidByText := true, laidKinds := [.data, .data, .data, .data, .sentinel, .sentinel, .pinned], laidTests := true, laidLooks := .later }
def BookKnownCardSaid : Prop := Claim7.holds Tryz.pinned (.plain (OpenSpec.ofChange bookKnownSpec)) bookKnownCard

/-- THE SECOND FORM's CARD OF 'senvylaw12.BookBooks'. -/
def bookBooksUptoCard : Claim7 := { stood := { row := bookBooksUptoRow, standIns := [], harness := (true, "066dbba9b204677d37cdcfd04352d9775fa1ec62d717b4473e5aaae6bd045017"), looks := true }, kinds := [], alts := [], laidByText := true, laidKinds := [.data, .data, .data, .data, .sentinel, .sentinel, .pinned], laidTests := true, laidLooks := .later }
def BookBooksUptoCardSaid : Prop := Claim7.holds Tryz.pinned (.plain (OpenSpec.upto bookBooksSpec)) bookBooksUptoCard

/-- THE SECOND FORM's CARD OF 'senvylaw12.BookMerges'. -/
def bookMergesUptoCard : Claim7 := { stood := { row := bookMergesUptoRow, standIns := [], harness := (true, "066dbba9b204677d37cdcfd04352d9775fa1ec62d717b4473e5aaae6bd045017"), looks := true }, kinds := [], alts := [], laidByText := true, laidKinds := [.data, .data, .data, .data, .sentinel, .sentinel, .pinned], laidTests := true, laidLooks := .later }
def BookMergesUptoCardSaid : Prop := Claim7.holds Tryz.pinned (.plain (OpenSpec.upto bookMergesSpec)) bookMergesUptoCard

/-- THE SECOND FORM's CARD OF 'senvylaw12.BookParts'. -/
def bookPartsUptoCard : Claim7 := { stood := { row := bookPartsUptoRow, standIns := [], harness := (true, "066dbba9b204677d37cdcfd04352d9775fa1ec62d717b4473e5aaae6bd045017"), looks := true }, kinds := [], alts := [], laidByText := true, laidKinds := [.data, .data, .data, .data, .sentinel, .sentinel, .pinned], laidTests := true, laidLooks := .later }
def BookPartsUptoCardSaid : Prop := Claim7.holds Tryz.pinned (.plain (OpenSpec.upto bookPartsSpec)) bookPartsUptoCard

/-- THE SECOND FORM's CARD OF 'senvylaw12.BookFiles'. -/
def bookFilesUptoCard : Claim7 := { stood := { row := bookFilesUptoRow, standIns := [], harness := (true, "066dbba9b204677d37cdcfd04352d9775fa1ec62d717b4473e5aaae6bd045017"), looks := true }, kinds := [], alts := [], laidByText := true, laidKinds := [.data, .data, .data, .data, .sentinel, .sentinel, .pinned], laidTests := true, laidLooks := .later }
def BookFilesUptoCardSaid : Prop := Claim7.holds Tryz.pinned (.plain (OpenSpec.upto bookFilesSpec)) bookFilesUptoCard

/-- THE SECOND FORM's CARD OF 'senvylaw12.BookMerged'. -/
def bookMergedUptoCard : Claim7 := { stood := { row := bookMergedUptoRow, standIns := [], harness := (true, "066dbba9b204677d37cdcfd04352d9775fa1ec62d717b4473e5aaae6bd045017"), looks := true }, kinds := [], alts := [], laidByText := true, laidKinds := [.data, .data, .data, .data, .sentinel, .sentinel, .pinned], laidTests := true, laidLooks := .later }
def BookMergedUptoCardSaid : Prop := Claim7.holds Tryz.pinned (.plain (OpenSpec.upto bookMergedSpec)) bookMergedUptoCard

/-- THE SECOND FORM's CARD OF 'senvylaw12.BookJoined'. -/
def bookJoinedUptoCard : Claim7 := { stood := { row := bookJoinedUptoRow, standIns := [], harness := (true, "066dbba9b204677d37cdcfd04352d9775fa1ec62d717b4473e5aaae6bd045017"), looks := true }, kinds := [], alts := [], laidByText := true, laidKinds := [.data, .data, .data, .data, .sentinel, .sentinel, .pinned], laidTests := true, laidLooks := .later }
def BookJoinedUptoCardSaid : Prop := Claim7.holds Tryz.pinned (.plain (OpenSpec.upto bookJoinedSpec)) bookJoinedUptoCard

/-- THE SECOND FORM's CARD OF 'senvylaw12.BookSplit'. -/
def bookSplitUptoCard : Claim7 := { stood := { row := bookSplitUptoRow, standIns := [], harness := (true, "066dbba9b204677d37cdcfd04352d9775fa1ec62d717b4473e5aaae6bd045017"), looks := true }, kinds := [], alts := [], laidByText := true, laidKinds := [.data, .data, .data, .data, .sentinel, .sentinel, .pinned], laidTests := true, laidLooks := .later }
def BookSplitUptoCardSaid : Prop := Claim7.holds Tryz.pinned (.plain (OpenSpec.upto bookSplitSpec)) bookSplitUptoCard

/-- THE SECOND FORM's CARD OF 'senvylaw12.BookStocks'. -/
def bookStocksUptoCard : Claim7 := { stood := { row := bookStocksUptoRow, standIns := [], harness := (true, "066dbba9b204677d37cdcfd04352d9775fa1ec62d717b4473e5aaae6bd045017"), looks := true }, kinds := [], alts := [], laidByText := true, laidKinds := [.data, .data, .data, .data, .sentinel, .sentinel, .pinned], laidTests := true, laidLooks := .later }
def BookStocksUptoCardSaid : Prop := Claim7.holds Tryz.pinned (.plain (OpenSpec.upto bookStocksSpec)) bookStocksUptoCard

/-- THE SECOND FORM's CARD OF 'senvylaw12.BookFiled'. -/
def bookFiledUptoCard : Claim7 := { stood := { row := bookFiledUptoRow, standIns := [], harness := (true, "066dbba9b204677d37cdcfd04352d9775fa1ec62d717b4473e5aaae6bd045017"), looks := true }, kinds := [], alts := [], laidByText := true, laidKinds := [.data, .data, .data, .data, .sentinel, .sentinel, .pinned], laidTests := true, laidLooks := .later }
def BookFiledUptoCardSaid : Prop := Claim7.holds Tryz.pinned (.plain (OpenSpec.upto bookFiledSpec)) bookFiledUptoCard

/-- THE SECOND FORM's CARD OF 'senvylaw12.BookChanged'. -/
def bookChangedUptoCard : Claim7 := { stood := { row := bookChangedUptoRow, standIns := [], harness := (true, "066dbba9b204677d37cdcfd04352d9775fa1ec62d717b4473e5aaae6bd045017"), looks := true }, kinds := [], alts := [], laidByText := true, laidKinds := [.data, .data, .data, .data, .sentinel, .sentinel, .pinned], laidTests := true, laidLooks := .later }
def BookChangedUptoCardSaid : Prop := Claim7.holds Tryz.pinned (.plain (OpenSpec.upto bookChangedSpec)) bookChangedUptoCard

/-- THE SECOND FORM's CARD OF 'senvylaw12.BookClash'. -/
def bookClashUptoCard : Claim7 := { stood := { row := bookClashUptoRow, standIns := [], harness := (true, "066dbba9b204677d37cdcfd04352d9775fa1ec62d717b4473e5aaae6bd045017"), looks := true }, kinds := [], alts := [], laidByText := true, laidKinds := [.data, .data, .data, .data, .sentinel, .sentinel, .pinned], laidTests := true, laidLooks := .later }
def BookClashUptoCardSaid : Prop := Claim7.holds Tryz.pinned (.plain (OpenSpec.upto bookClashSpec)) bookClashUptoCard

/-- THE SECOND FORM's CARD OF 'senvylaw12.BookKnown'. -/
def bookKnownUptoCard : Claim7 := { stood := { row := bookKnownUptoRow, standIns := [], harness := (true, "066dbba9b204677d37cdcfd04352d9775fa1ec62d717b4473e5aaae6bd045017"), looks := true }, kinds := [], alts := [], laidByText := true, laidKinds := [.data, .data, .data, .data, .sentinel, .sentinel, .pinned], laidTests := true, laidLooks := .later }
def BookKnownUptoCardSaid : Prop := Claim7.holds Tryz.pinned (.plain (OpenSpec.upto bookKnownSpec)) bookKnownUptoCard
end Rows
end Go.Proofs.YtojeeindlijgkaaGreatDoor
