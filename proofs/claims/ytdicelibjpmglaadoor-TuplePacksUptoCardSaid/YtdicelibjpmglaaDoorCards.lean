/-
  DERIVED. GIVEN WITH THE SEED: THE CARDS: each row of YtdicelibjpmglaaDoorRows.lean that lists a variable, with what it lists TIED to the program's text (the seventh form; the later family's looks); each row that meets fmt, with fmt's text TOLD by the authors' own Lean function (tested against real Go, not proved from fmt's source: count such statements apart). THE CARD IS WHAT COUNTS. Prove the row's statement (the work); the ties are given (YtdicelibjpmglaaDoorTie.lean); close each card by the builder's one call (the guide's Derived/Test/ToyasCard.lean, 'card_holds'). Laid BY PROGRAM, IN A SANDBOX (cutbox-door.mjs). By AI agents, Wed Nov 11 2026. No macro, syntax, notation, axiom, sorry.
-/
import Derived.Test.YtdicelibjpmglaaDoorRows
import GoSem.ClaimSeven
namespace Go.Proofs.YtdicelibjpmglaaDoor
namespace Rows

/-- THE TIED CARD OF 'heartwoodlaw03.TupleChecks'. -/
def tupleChecksCard : Claim7 := { stood := { row := tupleChecksRow, standIns := [], harness := (true, "ad361bfb5a5ef163dde2374d1b0794355d50f7b57b43813f0ea29f2103217975"), looks := false }, kinds := [], alts := [], laidByText := true, laidKinds := [.data, .data, .data, .data, .pinned], laidTests := true, laidLooks := .later }
def TupleChecksCardSaid : Prop := Claim7.holds Tryd.pinned (.plain (OpenSpec.ofChange tupleChecksSpec)) tupleChecksCard

/-- THE TIED CARD OF 'heartwoodlaw03.TuplePacks'. -/
def tuplePacksCard : Claim7 := { stood := { row := tuplePacksRow, standIns := [], harness := (true, "ad361bfb5a5ef163dde2374d1b0794355d50f7b57b43813f0ea29f2103217975"), looks := false }, kinds := [], alts := [], laidByText := true, laidKinds := [.data, .data, .data, .data, .pinned], laidTests := true, laidLooks := .later }
def TuplePacksCardSaid : Prop := Claim7.holds Tryd.pinned (.plain (OpenSpec.ofChange tuplePacksSpec)) tuplePacksCard

/-- THE TIED CARD OF 'heartwoodlaw03.TupleDeep'. -/
def tupleDeepCard : Claim7 := { stood := { row := tupleDeepRow, standIns := [], harness := (true, "ad361bfb5a5ef163dde2374d1b0794355d50f7b57b43813f0ea29f2103217975"), looks := false }, kinds := [], alts := [], laidByText := true, laidKinds := [.data, .data, .data, .data, .pinned], laidTests := true, laidLooks := .later }
def TupleDeepCardSaid : Prop := Claim7.holds Tryd.pinned (.plain (OpenSpec.ofChange tupleDeepSpec)) tupleDeepCard

/-- THE TIED CARD OF 'heartwoodlaw03.TupleNames'. -/
def tupleNamesCard : Claim7 := { stood := { row := tupleNamesRow, standIns := [], harness := (true, "ad361bfb5a5ef163dde2374d1b0794355d50f7b57b43813f0ea29f2103217975"), looks := false }, kinds := [], alts := [], laidByText := true, laidKinds := [.data, .data, .data, .data, .pinned], laidTests := true, laidLooks := .later }
def TupleNamesCardSaid : Prop := Claim7.holds Tryd.pinned (.plain (OpenSpec.ofChange tupleNamesSpec)) tupleNamesCard

/-- THE TIED CARD OF 'heartwoodlaw03.TupleBegins'. -/
def tupleBeginsCard : Claim7 := { stood := { row := tupleBeginsRow, standIns := [], harness := (true, "ad361bfb5a5ef163dde2374d1b0794355d50f7b57b43813f0ea29f2103217975"), looks := false }, kinds := [], alts := [], laidByText := true, laidKinds := [.data, .data, .data, .data, .pinned], laidTests := true, laidLooks := .later }
def TupleBeginsCardSaid : Prop := Claim7.holds Tryd.pinned (.plain (OpenSpec.ofChange tupleBeginsSpec)) tupleBeginsCard

/-- THE TIED CARD OF 'heartwoodlaw03.TupleSorts'. -/
def tupleSortsCard : Claim7 := { stood := { row := tupleSortsRow, standIns := [], harness := (true, "ad361bfb5a5ef163dde2374d1b0794355d50f7b57b43813f0ea29f2103217975"), looks := false }, kinds := [], alts := [], laidByText := true, laidKinds := [.data, .data, .data, .data, .pinned], laidTests := true, laidLooks := .later }
def TupleSortsCardSaid : Prop := Claim7.holds Tryd.pinned (.plain (OpenSpec.ofChange tupleSortsSpec)) tupleSortsCard

/-- THE TIED CARD OF 'heartwoodlaw03.TupleTotal'. -/
def tupleTotalCard : Claim7 := { stood := { row := tupleTotalRow, standIns := [], harness := (true, "ad361bfb5a5ef163dde2374d1b0794355d50f7b57b43813f0ea29f2103217975"), looks := false }, kinds := [], alts := [], laidByText := true, laidKinds := [.data, .data, .data, .data, .pinned], laidTests := true, laidLooks := .later }
def TupleTotalCardSaid : Prop := Claim7.holds Tryd.pinned (.plain (OpenSpec.ofChange tupleTotalSpec)) tupleTotalCard

/-- THE SECOND FORM's CARD OF 'heartwoodlaw03.TupleChecks'. -/
def tupleChecksUptoCard : Claim7 := { stood := { row := tupleChecksUptoRow, standIns := [], harness := (true, "ad361bfb5a5ef163dde2374d1b0794355d50f7b57b43813f0ea29f2103217975"), looks := false }, kinds := [], alts := [], laidByText := true, laidKinds := [.data, .data, .data, .data, .pinned], laidTests := true, laidLooks := .later }
def TupleChecksUptoCardSaid : Prop := Claim7.holds Tryd.pinned (.plain (OpenSpec.upto tupleChecksSpec)) tupleChecksUptoCard

/-- THE SECOND FORM's CARD OF 'heartwoodlaw03.TuplePacks'. -/
def tuplePacksUptoCard : Claim7 := { stood := { row := tuplePacksUptoRow, standIns := [], harness := (true, "ad361bfb5a5ef163dde2374d1b0794355d50f7b57b43813f0ea29f2103217975"), looks := false }, kinds := [], alts := [], laidByText := true, laidKinds := [.data, .data, .data, .data, .pinned], laidTests := true, laidLooks := .later }
def TuplePacksUptoCardSaid : Prop := Claim7.holds Tryd.pinned (.plain (OpenSpec.upto tuplePacksSpec)) tuplePacksUptoCard

/-- THE SECOND FORM's CARD OF 'heartwoodlaw03.TupleDeep'. -/
def tupleDeepUptoCard : Claim7 := { stood := { row := tupleDeepUptoRow, standIns := [], harness := (true, "ad361bfb5a5ef163dde2374d1b0794355d50f7b57b43813f0ea29f2103217975"), looks := false }, kinds := [], alts := [], laidByText := true, laidKinds := [.data, .data, .data, .data, .pinned], laidTests := true, laidLooks := .later }
def TupleDeepUptoCardSaid : Prop := Claim7.holds Tryd.pinned (.plain (OpenSpec.upto tupleDeepSpec)) tupleDeepUptoCard

/-- THE SECOND FORM's CARD OF 'heartwoodlaw03.TupleNames'. -/
def tupleNamesUptoCard : Claim7 := { stood := { row := tupleNamesUptoRow, standIns := [], harness := (true, "ad361bfb5a5ef163dde2374d1b0794355d50f7b57b43813f0ea29f2103217975"), looks := false }, kinds := [], alts := [], laidByText := true, laidKinds := [.data, .data, .data, .data, .pinned], laidTests := true, laidLooks := .later }
def TupleNamesUptoCardSaid : Prop := Claim7.holds Tryd.pinned (.plain (OpenSpec.upto tupleNamesSpec)) tupleNamesUptoCard

/-- THE SECOND FORM's CARD OF 'heartwoodlaw03.TupleBegins'. -/
def tupleBeginsUptoCard : Claim7 := { stood := { row := tupleBeginsUptoRow, standIns := [], harness := (true, "ad361bfb5a5ef163dde2374d1b0794355d50f7b57b43813f0ea29f2103217975"), looks := false }, kinds := [], alts := [], laidByText := true, laidKinds := [.data, .data, .data, .data, .pinned], laidTests := true, laidLooks := .later }
def TupleBeginsUptoCardSaid : Prop := Claim7.holds Tryd.pinned (.plain (OpenSpec.upto tupleBeginsSpec)) tupleBeginsUptoCard

/-- THE SECOND FORM's CARD OF 'heartwoodlaw03.TupleSorts'. -/
def tupleSortsUptoCard : Claim7 := { stood := { row := tupleSortsUptoRow, standIns := [], harness := (true, "ad361bfb5a5ef163dde2374d1b0794355d50f7b57b43813f0ea29f2103217975"), looks := false }, kinds := [], alts := [], laidByText := true, laidKinds := [.data, .data, .data, .data, .pinned], laidTests := true, laidLooks := .later }
def TupleSortsUptoCardSaid : Prop := Claim7.holds Tryd.pinned (.plain (OpenSpec.upto tupleSortsSpec)) tupleSortsUptoCard

/-- THE SECOND FORM's CARD OF 'heartwoodlaw03.TupleTotal'. -/
def tupleTotalUptoCard : Claim7 := { stood := { row := tupleTotalUptoRow, standIns := [], harness := (true, "ad361bfb5a5ef163dde2374d1b0794355d50f7b57b43813f0ea29f2103217975"), looks := false }, kinds := [], alts := [], laidByText := true, laidKinds := [.data, .data, .data, .data, .pinned], laidTests := true, laidLooks := .later }
def TupleTotalUptoCardSaid : Prop := Claim7.holds Tryd.pinned (.plain (OpenSpec.upto tupleTotalSpec)) tupleTotalUptoCard
end Rows
end Go.Proofs.YtdicelibjpmglaaDoor
