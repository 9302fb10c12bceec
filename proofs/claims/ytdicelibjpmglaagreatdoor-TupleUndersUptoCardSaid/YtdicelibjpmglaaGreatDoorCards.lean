/-
  DERIVED. GIVEN WITH THE SEED: THE CARDS: each row of YtdicelibjpmglaaGreatDoorRows.lean that lists a variable, with what it lists TIED to the program's text (the seventh form; the later family's looks); each row that meets fmt, with fmt's text TOLD by the authors' own Lean function (tested against real Go, not proved from fmt's source: count such statements apart). THE CARD IS WHAT COUNTS. Prove the row's statement (the work); the ties are given (YtdicelibjpmglaaGreatDoorTie.lean); close each card by the builder's one call (the guide's Derived/Test/ToyasCard.lean, 'card_holds'). Laid BY PROGRAM, IN A SANDBOX (cutbox-door.mjs). By AI agents, Wed Nov 11 2026. No macro, syntax, notation, axiom, sorry.
-/
import Derived.Test.YtdicelibjpmglaaGreatDoorRows
import GoSem.ClaimSeven
namespace Go.Proofs.YtdicelibjpmglaaGreatDoor
namespace Rows

/-- THE TIED CARD OF 'heartwoodlaw03.TupleUnpacks'. -/
def tupleUnpacksCard : Claim7 := { stood := { row := tupleUnpacksRow, standIns := [], harness := (true, "1c1b8dc34cdaa42e4e827e033fb5b8418e721462db7c0f17c73825791614f9df"), looks := true }, kinds := [], alts := [], laidByText := true, laidKinds := [.data, .data, .data, .data, .pinned], laidTests := true, laidLooks := .later }
def TupleUnpacksCardSaid : Prop := Claim7.holds Tryz.pinned (.plain (OpenSpec.ofChange tupleUnpacksSpec)) tupleUnpacksCard

/-- THE TIED CARD OF 'heartwoodlaw03.TuplePrints'. -/
def tuplePrintsCard : Claim7 := { stood := { row := tuplePrintsRow, standIns := [], harness := (true, "1c1b8dc34cdaa42e4e827e033fb5b8418e721462db7c0f17c73825791614f9df"), looks := true }, kinds := [], alts := [], laidByText := true, laidKinds := [.data, .data, .data, .data, .pinned], laidTests := true, laidLooks := .later }
def TuplePrintsCardSaid : Prop := Claim7.holds Tryz.pinned (.plain (OpenSpec.ofChange tuplePrintsSpec)) tuplePrintsCard

/-- THE TIED CARD OF 'heartwoodlaw03.TupleUnders'. -/
def tupleUndersCard : Claim7 := { stood := { row := tupleUndersRow, standIns := [], harness := (true, "1c1b8dc34cdaa42e4e827e033fb5b8418e721462db7c0f17c73825791614f9df"), looks := true }, kinds := [], alts := [], laidByText := true, laidKinds := [.data, .data, .data, .data, .pinned], laidTests := true, laidLooks := .later }
def TupleUndersCardSaid : Prop := Claim7.holds Tryz.pinned (.plain (OpenSpec.ofChange tupleUndersSpec)) tupleUndersCard

/-- THE TIED CARD OF 'heartwoodlaw03.TupleCompares'. -/
def tupleComparesCard : Claim7 := { stood := { row := tupleComparesRow, standIns := [], harness := (true, "1c1b8dc34cdaa42e4e827e033fb5b8418e721462db7c0f17c73825791614f9df"), looks := true }, kinds := [], alts := [], laidByText := true, laidKinds := [.data, .data, .data, .data, .pinned], laidTests := true, laidLooks := .later }
def TupleComparesCardSaid : Prop := Claim7.holds Tryz.pinned (.plain (OpenSpec.ofChange tupleComparesSpec)) tupleComparesCard

/-- THE TIED CARD OF 'heartwoodlaw03.TupleOrders'. -/
def tupleOrdersCard : Claim7 := { stood := { row := tupleOrdersRow, standIns := [], harness := (true, "1c1b8dc34cdaa42e4e827e033fb5b8418e721462db7c0f17c73825791614f9df"), looks := true }, kinds := [], alts := [], laidByText := true, laidKinds := [.data, .data, .data, .data, .pinned], laidTests := true, laidLooks := .later }
def TupleOrdersCardSaid : Prop := Claim7.holds Tryz.pinned (.plain (OpenSpec.ofChange tupleOrdersSpec)) tupleOrdersCard

/-- THE TIED CARD OF 'heartwoodlaw03.TupleParses'. -/
def tupleParsesCard : Claim7 := { stood := { row := tupleParsesRow, standIns := [], harness := (true, "1c1b8dc34cdaa42e4e827e033fb5b8418e721462db7c0f17c73825791614f9df"), looks := true }, kinds := [], alts := [], laidByText := true, laidKinds := [.data, .data, .data, .data, .sentinel, .sentinel, .pinned], laidTests := true, laidLooks := .later }
def TupleParsesCardSaid : Prop := Claim7.holds Tryz.pinned (.plain (OpenSpec.ofChange tupleParsesSpec)) tupleParsesCard

/-- THE TIED CARD OF 'heartwoodlaw03.TupleBack'. -/
def tupleBackCard : Claim7 := { stood := { row := tupleBackRow, standIns := [], harness := (true, "1c1b8dc34cdaa42e4e827e033fb5b8418e721462db7c0f17c73825791614f9df"), looks := true }, kinds := [], alts := [], laidByText := true, laidKinds := [.data, .data, .data, .data, .sentinel, .sentinel, .pinned], laidTests := true, laidLooks := .later }
def TupleBackCardSaid : Prop := Claim7.holds Tryz.pinned (.plain (OpenSpec.ofChange tupleBackSpec)) tupleBackCard

/-- THE TIED CARD OF 'heartwoodlaw03.TupleAgain'. -/
def tupleAgainCard : Claim7 := { stood := { row := tupleAgainRow, standIns := [], harness := (true, "1c1b8dc34cdaa42e4e827e033fb5b8418e721462db7c0f17c73825791614f9df"), looks := true }, kinds := [], alts := [], laidByText := true, laidKinds := [.data, .data, .data, .data, .sentinel, .sentinel, .pinned], laidTests := true, laidLooks := .later }
def TupleAgainCardSaid : Prop := Claim7.holds Tryz.pinned (.plain (OpenSpec.ofChange tupleAgainSpec)) tupleAgainCard

/-- THE SECOND FORM's CARD OF 'heartwoodlaw03.TupleUnpacks'. -/
def tupleUnpacksUptoCard : Claim7 := { stood := { row := tupleUnpacksUptoRow, standIns := [], harness := (true, "1c1b8dc34cdaa42e4e827e033fb5b8418e721462db7c0f17c73825791614f9df"), looks := true }, kinds := [], alts := [], laidByText := true, laidKinds := [.data, .data, .data, .data, .pinned], laidTests := true, laidLooks := .later }
def TupleUnpacksUptoCardSaid : Prop := Claim7.holds Tryz.pinned (.plain (OpenSpec.upto tupleUnpacksSpec)) tupleUnpacksUptoCard

/-- THE SECOND FORM's CARD OF 'heartwoodlaw03.TuplePrints'. -/
def tuplePrintsUptoCard : Claim7 := { stood := { row := tuplePrintsUptoRow, standIns := [], harness := (true, "1c1b8dc34cdaa42e4e827e033fb5b8418e721462db7c0f17c73825791614f9df"), looks := true }, kinds := [], alts := [], laidByText := true, laidKinds := [.data, .data, .data, .data, .pinned], laidTests := true, laidLooks := .later }
def TuplePrintsUptoCardSaid : Prop := Claim7.holds Tryz.pinned (.plain (OpenSpec.upto tuplePrintsSpec)) tuplePrintsUptoCard

/-- THE SECOND FORM's CARD OF 'heartwoodlaw03.TupleUnders'. -/
def tupleUndersUptoCard : Claim7 := { stood := { row := tupleUndersUptoRow, standIns := [], harness := (true, "1c1b8dc34cdaa42e4e827e033fb5b8418e721462db7c0f17c73825791614f9df"), looks := true }, kinds := [], alts := [], laidByText := true, laidKinds := [.data, .data, .data, .data, .pinned], laidTests := true, laidLooks := .later }
def TupleUndersUptoCardSaid : Prop := Claim7.holds Tryz.pinned (.plain (OpenSpec.upto tupleUndersSpec)) tupleUndersUptoCard

/-- THE SECOND FORM's CARD OF 'heartwoodlaw03.TupleCompares'. -/
def tupleComparesUptoCard : Claim7 := { stood := { row := tupleComparesUptoRow, standIns := [], harness := (true, "1c1b8dc34cdaa42e4e827e033fb5b8418e721462db7c0f17c73825791614f9df"), looks := true }, kinds := [], alts := [], laidByText := true, laidKinds := [.data, .data, .data, .data, .pinned], laidTests := true, laidLooks := .later }
def TupleComparesUptoCardSaid : Prop := Claim7.holds Tryz.pinned (.plain (OpenSpec.upto tupleComparesSpec)) tupleComparesUptoCard

/-- THE SECOND FORM's CARD OF 'heartwoodlaw03.TupleOrders'. -/
def tupleOrdersUptoCard : Claim7 := { stood := { row := tupleOrdersUptoRow, standIns := [], harness := (true, "1c1b8dc34cdaa42e4e827e033fb5b8418e721462db7c0f17c73825791614f9df"), looks := true }, kinds := [], alts := [], laidByText := true, laidKinds := [.data, .data, .data, .data, .pinned], laidTests := true, laidLooks := .later }
def TupleOrdersUptoCardSaid : Prop := Claim7.holds Tryz.pinned (.plain (OpenSpec.upto tupleOrdersSpec)) tupleOrdersUptoCard

/-- THE SECOND FORM's CARD OF 'heartwoodlaw03.TupleParses'. -/
def tupleParsesUptoCard : Claim7 := { stood := { row := tupleParsesUptoRow, standIns := [], harness := (true, "1c1b8dc34cdaa42e4e827e033fb5b8418e721462db7c0f17c73825791614f9df"), looks := true }, kinds := [], alts := [], laidByText := true, laidKinds := [.data, .data, .data, .data, .sentinel, .sentinel, .pinned], laidTests := true, laidLooks := .later }
def TupleParsesUptoCardSaid : Prop := Claim7.holds Tryz.pinned (.plain (OpenSpec.upto tupleParsesSpec)) tupleParsesUptoCard

/-- THE SECOND FORM's CARD OF 'heartwoodlaw03.TupleBack'. -/
def tupleBackUptoCard : Claim7 := { stood := { row := tupleBackUptoRow, standIns := [], harness := (true, "1c1b8dc34cdaa42e4e827e033fb5b8418e721462db7c0f17c73825791614f9df"), looks := true }, kinds := [], alts := [], laidByText := true, laidKinds := [.data, .data, .data, .data, .sentinel, .sentinel, .pinned], laidTests := true, laidLooks := .later }
def TupleBackUptoCardSaid : Prop := Claim7.holds Tryz.pinned (.plain (OpenSpec.upto tupleBackSpec)) tupleBackUptoCard

/-- THE SECOND FORM's CARD OF 'heartwoodlaw03.TupleAgain'. -/
def tupleAgainUptoCard : Claim7 := { stood := { row := tupleAgainUptoRow, standIns := [], harness := (true, "1c1b8dc34cdaa42e4e827e033fb5b8418e721462db7c0f17c73825791614f9df"), looks := true }, kinds := [], alts := [], laidByText := true, laidKinds := [.data, .data, .data, .data, .sentinel, .sentinel, .pinned], laidTests := true, laidLooks := .later }
def TupleAgainUptoCardSaid : Prop := Claim7.holds Tryz.pinned (.plain (OpenSpec.upto tupleAgainSpec)) tupleAgainUptoCard
end Rows
end Go.Proofs.YtdicelibjpmglaaGreatDoor
