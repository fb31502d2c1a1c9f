/-
  DERIVED. GIVEN WITH THE SEED: THE CARDS: each row of YtjpfnbihopoeeaaGreatDoorRows.lean that lists a variable, with what it lists TIED to the program's text (the seventh form; the later family's looks); each row that meets fmt, with fmt's text TOLD by the authors' own Lean function (tested against real Go, not proved from fmt's source: count such statements apart). THE CARD IS WHAT COUNTS. Prove the row's statement (the work); the ties are given (YtjpfnbihopoeeaaGreatDoorTie.lean); close each card by the builder's one call (the guide's Derived/Test/ToyasCard.lean, 'card_holds'). Laid BY PROGRAM, IN A SANDBOX (cutbox-door.mjs). By AI agents, Wed Nov 11 2026. No macro, syntax, notation, axiom, sorry.
-/
import Derived.Test.YtjpfnbihopoeeaaGreatDoorRows
import GoSem.ClaimSeven
namespace Go.Proofs.YtjpfnbihopoeeaaGreatDoor
namespace Rows

/-- THE TIED CARD OF 'frescolaw14.TableReads'. -/
def tableReadsCard : Claim7 := { stood := { row := tableReadsRow, standIns := [], harness := (true, "94b6084aceee19128daf6120a59b64399d844e33429a995a47ea4cad2d545337"), looks := true }, kinds := [], alts := [], laidByText := true, laidKinds := [.data, .data, .data, .data, .sentinel, .sentinel, .pinned], laidTests := true, laidLooks := .later }
def TableReadsCardSaid : Prop := Claim7.holds Tryz.pinned (.plain (OpenSpec.ofChange tableReadsSpec)) tableReadsCard

/-- THE TIED CARD OF 'frescolaw14.TableWidths'. -/
def tableWidthsCard : Claim7 := { stood := { row := tableWidthsRow, standIns := [], harness := (true, "94b6084aceee19128daf6120a59b64399d844e33429a995a47ea4cad2d545337"), looks := true }, kinds := [], alts := [], laidByText := true, laidKinds := [.data, .data, .data, .data, .sentinel, .sentinel, .pinned], laidTests := true, laidLooks := .later }
def TableWidthsCardSaid : Prop := Claim7.holds Tryz.pinned (.plain (OpenSpec.ofChange tableWidthsSpec)) tableWidthsCard

/-- THE TIED CARD OF 'frescolaw14.TableLines'. -/
def tableLinesCard : Claim7 := { stood := { row := tableLinesRow, standIns := [], harness := (true, "94b6084aceee19128daf6120a59b64399d844e33429a995a47ea4cad2d545337"), looks := true }, kinds := [], alts := [], laidByText := true, laidKinds := [.data, .data, .data, .data, .sentinel, .sentinel, .pinned], laidTests := true, laidLooks := .later }
def TableLinesCardSaid : Prop := Claim7.holds Tryz.pinned (.plain (OpenSpec.ofChange tableLinesSpec)) tableLinesCard

/-- THE TIED CARD OF 'frescolaw14.TableOrders'. -/
def tableOrdersCard : Claim7 := { stood := { row := tableOrdersRow, standIns := [], harness := (true, "94b6084aceee19128daf6120a59b64399d844e33429a995a47ea4cad2d545337"), looks := true }, kinds := [], alts := [], laidByText := true, laidKinds := [.data, .data, .data, .data, .sentinel, .sentinel, .pinned], laidTests := true, laidLooks := .later }
def TableOrdersCardSaid : Prop := Claim7.holds Tryz.pinned (.plain (OpenSpec.ofChange tableOrdersSpec)) tableOrdersCard

/-- THE TIED CARD OF 'frescolaw14.TableSorts'. -/
def tableSortsCard : Claim7 := { stood := { row := tableSortsRow, standIns := [], harness := (true, "94b6084aceee19128daf6120a59b64399d844e33429a995a47ea4cad2d545337"), looks := true }, kinds := [], alts := [], laidByText := true, laidKinds := [.data, .data, .data, .data, .sentinel, .sentinel, .pinned], laidTests := true, laidLooks := .later }
def TableSortsCardSaid : Prop := Claim7.holds Tryz.pinned (.plain (OpenSpec.ofChange tableSortsSpec)) tableSortsCard

/-- THE TIED CARD OF 'frescolaw14.TableFits'. -/
def tableFitsCard : Claim7 := { stood := { row := tableFitsRow, standIns := [], harness := (true, "94b6084aceee19128daf6120a59b64399d844e33429a995a47ea4cad2d545337"), looks := true }, kinds := [], alts := [], laidByText := true, laidKinds := [.data, .data, .data, .data, .sentinel, .sentinel, .pinned], laidTests := true, laidLooks := .later }
def TableFitsCardSaid : Prop := Claim7.holds Tryz.pinned (.plain (OpenSpec.ofChange tableFitsSpec)) tableFitsCard

/-- THE TIED CARD OF 'frescolaw14.TableSorted'. -/
def tableSortedCard : Claim7 := { stood := { row := tableSortedRow, standIns := [], harness := (true, "94b6084aceee19128daf6120a59b64399d844e33429a995a47ea4cad2d545337"), looks := true }, kinds := [], alts := [], laidByText := true, laidKinds := [.data, .data, .data, .data, .sentinel, .sentinel, .pinned], laidTests := true, laidLooks := .later }
def TableSortedCardSaid : Prop := Claim7.holds Tryz.pinned (.plain (OpenSpec.ofChange tableSortedSpec)) tableSortedCard

/-- THE TIED CARD OF 'frescolaw14.TableKnown'. -/
def tableKnownCard : Claim7 := { stood := { row := tableKnownRow, standIns := [], harness := (true, "94b6084aceee19128daf6120a59b64399d844e33429a995a47ea4cad2d545337"), looks := true }, kinds := [], alts := [], laidByText := true, laidKinds := [.data, .data, .data, .data, .sentinel, .sentinel, .pinned], laidTests := true, laidLooks := .later }
def TableKnownCardSaid : Prop := Claim7.holds Tryz.pinned (.plain (OpenSpec.ofChange tableKnownSpec)) tableKnownCard

/-- THE TIED CARD OF 'frescolaw14.TableEven'. -/
def tableEvenCard : Claim7 := { stood := { row := tableEvenRow, standIns := [], harness := (true, "94b6084aceee19128daf6120a59b64399d844e33429a995a47ea4cad2d545337"), looks := true }, kinds := [], alts := [], laidByText := true, laidKinds := [.data, .data, .data, .data, .sentinel, .sentinel, .pinned], laidTests := true, laidLooks := .later }
def TableEvenCardSaid : Prop := Claim7.holds Tryz.pinned (.plain (OpenSpec.ofChange tableEvenSpec)) tableEvenCard

/-- THE TIED CARD OF 'frescolaw14.TableWrites'. -/
def tableWritesCard : Claim7 := { stood := { row := tableWritesRow, standIns := [], harness := (true, "94b6084aceee19128daf6120a59b64399d844e33429a995a47ea4cad2d545337"), looks := true }, kinds := [], alts := [], laidByText := true, laidKinds := [.data, .data, .data, .data, .sentinel, .sentinel, .pinned], laidTests := true, laidLooks := .later }
def TableWritesCardSaid : Prop := Claim7.holds Tryz.pinned (.plain (OpenSpec.ofChange tableWritesSpec)) tableWritesCard

/-- THE TIED CARD OF 'frescolaw14.TableBack'. -/
def tableBackCard : Claim7 := { stood := { row := tableBackRow, standIns := [], harness := (true, "94b6084aceee19128daf6120a59b64399d844e33429a995a47ea4cad2d545337"), looks := true }, kinds := [], alts := [], laidByText := true, laidKinds := [.data, .data, .data, .data, .sentinel, .sentinel, .pinned], laidTests := true, laidLooks := .later }
def TableBackCardSaid : Prop := Claim7.holds Tryz.pinned (.plain (OpenSpec.ofChange tableBackSpec)) tableBackCard

/-- THE SECOND FORM's CARD OF 'frescolaw14.TableReads'. -/
def tableReadsUptoCard : Claim7 := { stood := { row := tableReadsUptoRow, standIns := [], harness := (true, "94b6084aceee19128daf6120a59b64399d844e33429a995a47ea4cad2d545337"), looks := true }, kinds := [], alts := [], laidByText := true, laidKinds := [.data, .data, .data, .data, .sentinel, .sentinel, .pinned], laidTests := true, laidLooks := .later }
def TableReadsUptoCardSaid : Prop := Claim7.holds Tryz.pinned (.plain (OpenSpec.upto tableReadsSpec)) tableReadsUptoCard

/-- THE SECOND FORM's CARD OF 'frescolaw14.TableWidths'. -/
def tableWidthsUptoCard : Claim7 := { stood := { row := tableWidthsUptoRow, standIns := [], harness := (true, "94b6084aceee19128daf6120a59b64399d844e33429a995a47ea4cad2d545337"), looks := true }, kinds := [], alts := [], laidByText := true, laidKinds := [.data, .data, .data, .data, .sentinel, .sentinel, .pinned], laidTests := true, laidLooks := .later }
def TableWidthsUptoCardSaid : Prop := Claim7.holds Tryz.pinned (.plain (OpenSpec.upto tableWidthsSpec)) tableWidthsUptoCard

/-- THE SECOND FORM's CARD OF 'frescolaw14.TableLines'. -/
def tableLinesUptoCard : Claim7 := { stood := { row := tableLinesUptoRow, standIns := [], harness := (true, "94b6084aceee19128daf6120a59b64399d844e33429a995a47ea4cad2d545337"), looks := true }, kinds := [], alts := [], laidByText := true, laidKinds := [.data, .data, .data, .data, .sentinel, .sentinel, .pinned], laidTests := true, laidLooks := .later }
def TableLinesUptoCardSaid : Prop := Claim7.holds Tryz.pinned (.plain (OpenSpec.upto tableLinesSpec)) tableLinesUptoCard

/-- THE SECOND FORM's CARD OF 'frescolaw14.TableOrders'. -/
def tableOrdersUptoCard : Claim7 := { stood := { row := tableOrdersUptoRow, standIns := [], harness := (true, "94b6084aceee19128daf6120a59b64399d844e33429a995a47ea4cad2d545337"), looks := true }, kinds := [], alts := [], laidByText := true, laidKinds := [.data, .data, .data, .data, .sentinel, .sentinel, .pinned], laidTests := true, laidLooks := .later }
def TableOrdersUptoCardSaid : Prop := Claim7.holds Tryz.pinned (.plain (OpenSpec.upto tableOrdersSpec)) tableOrdersUptoCard

/-- THE SECOND FORM's CARD OF 'frescolaw14.TableSorts'. -/
def tableSortsUptoCard : Claim7 := { stood := { row := tableSortsUptoRow, standIns := [], harness := (true, "94b6084aceee19128daf6120a59b64399d844e33429a995a47ea4cad2d545337"), looks := true }, kinds := [], alts := [], laidByText := true, laidKinds := [.data, .data, .data, .data, .sentinel, .sentinel, .pinned], laidTests := true, laidLooks := .later }
def TableSortsUptoCardSaid : Prop := Claim7.holds Tryz.pinned (.plain (OpenSpec.upto tableSortsSpec)) tableSortsUptoCard

/-- THE SECOND FORM's CARD OF 'frescolaw14.TableFits'. -/
def tableFitsUptoCard : Claim7 := { stood := { row := tableFitsUptoRow, standIns := [], harness := (true, "94b6084aceee19128daf6120a59b64399d844e33429a995a47ea4cad2d545337"), looks := true }, kinds := [], alts := [], laidByText := true, laidKinds := [.data, .data, .data, .data, .sentinel, .sentinel, .pinned], laidTests := true, laidLooks := .later }
def TableFitsUptoCardSaid : Prop := Claim7.holds Tryz.pinned (.plain (OpenSpec.upto tableFitsSpec)) tableFitsUptoCard

/-- THE SECOND FORM's CARD OF 'frescolaw14.TableSorted'. -/
def tableSortedUptoCard : Claim7 := { stood := { row := tableSortedUptoRow, standIns := [], harness := (true, "94b6084aceee19128daf6120a59b64399d844e33429a995a47ea4cad2d545337"), looks := true }, kinds := [], alts := [], laidByText := true, laidKinds := [.data, .data, .data, .data, .sentinel, .sentinel, .pinned], laidTests := true, laidLooks := .later }
def TableSortedUptoCardSaid : Prop := Claim7.holds Tryz.pinned (.plain (OpenSpec.upto tableSortedSpec)) tableSortedUptoCard

/-- THE SECOND FORM's CARD OF 'frescolaw14.TableKnown'. -/
def tableKnownUptoCard : Claim7 := { stood := { row := tableKnownUptoRow, standIns := [], harness := (true, "94b6084aceee19128daf6120a59b64399d844e33429a995a47ea4cad2d545337"), looks := true }, kinds := [], alts := [], laidByText := true, laidKinds := [.data, .data, .data, .data, .sentinel, .sentinel, .pinned], laidTests := true, laidLooks := .later }
def TableKnownUptoCardSaid : Prop := Claim7.holds Tryz.pinned (.plain (OpenSpec.upto tableKnownSpec)) tableKnownUptoCard

/-- THE SECOND FORM's CARD OF 'frescolaw14.TableEven'. -/
def tableEvenUptoCard : Claim7 := { stood := { row := tableEvenUptoRow, standIns := [], harness := (true, "94b6084aceee19128daf6120a59b64399d844e33429a995a47ea4cad2d545337"), looks := true }, kinds := [], alts := [], laidByText := true, laidKinds := [.data, .data, .data, .data, .sentinel, .sentinel, .pinned], laidTests := true, laidLooks := .later }
def TableEvenUptoCardSaid : Prop := Claim7.holds Tryz.pinned (.plain (OpenSpec.upto tableEvenSpec)) tableEvenUptoCard

/-- THE SECOND FORM's CARD OF 'frescolaw14.TableWrites'. -/
def tableWritesUptoCard : Claim7 := { stood := { row := tableWritesUptoRow, standIns := [], harness := (true, "94b6084aceee19128daf6120a59b64399d844e33429a995a47ea4cad2d545337"), looks := true }, kinds := [], alts := [], laidByText := true, laidKinds := [.data, .data, .data, .data, .sentinel, .sentinel, .pinned], laidTests := true, laidLooks := .later }
def TableWritesUptoCardSaid : Prop := Claim7.holds Tryz.pinned (.plain (OpenSpec.upto tableWritesSpec)) tableWritesUptoCard

/-- THE SECOND FORM's CARD OF 'frescolaw14.TableBack'. -/
def tableBackUptoCard : Claim7 := { stood := { row := tableBackUptoRow, standIns := [], harness := (true, "94b6084aceee19128daf6120a59b64399d844e33429a995a47ea4cad2d545337"), looks := true }, kinds := [], alts := [], laidByText := true, laidKinds := [.data, .data, .data, .data, .sentinel, .sentinel, .pinned], laidTests := true, laidLooks := .later }
def TableBackUptoCardSaid : Prop := Claim7.holds Tryz.pinned (.plain (OpenSpec.upto tableBackSpec)) tableBackUptoCard
end Rows
end Go.Proofs.YtjpfnbihopoeeaaGreatDoor
