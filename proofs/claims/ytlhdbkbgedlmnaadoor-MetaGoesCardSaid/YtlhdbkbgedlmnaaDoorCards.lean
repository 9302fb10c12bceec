/-
  DERIVED. GIVEN WITH THE SEED: THE CARDS: each row of YtlhdbkbgedlmnaaDoorRows.lean that lists a variable, with what it lists TIED to the program's text (the seventh form; the later family's looks); each row that meets fmt, with fmt's text TOLD by the authors' own Lean function (tested against real Go, not proved from fmt's source: count such statements apart). THE CARD IS WHAT COUNTS. Prove the row's statement (the work); the ties are given (YtlhdbkbgedlmnaaDoorTie.lean); close each card by the builder's one call (the guide's Derived/Test/ToyasCard.lean, 'card_holds'). Laid BY PROGRAM, IN A SANDBOX (cutbox-door.mjs). By AI agents, Wed Nov 11 2026. No macro, syntax, notation, axiom, sorry.
-/
import Derived.Test.YtlhdbkbgedlmnaaDoorRows
import GoSem.ClaimSeven
namespace Go.Proofs.YtlhdbkbgedlmnaaDoor
namespace Rows

/-- THE TIED CARD OF 'heartwoodlaw06.MetaChecks'. -/
def metaChecksCard : Claim7 := { stood := { row := metaChecksRow, standIns := [], harness := (true, "29501b9e533288e2b939321cec702e60226a45c8168acda999f3a5927428dbc5"), looks := false }, kinds := [], alts := [], laidByText := true, laidKinds := [.data, .pinned], laidTests := true, laidLooks := .later }
def MetaChecksCardSaid : Prop := Claim7.holds Tryd.pinned (.plain (OpenSpec.ofChange metaChecksSpec)) metaChecksCard

/-- THE TIED CARD OF 'heartwoodlaw06.MetaEncodes'. -/
def metaEncodesCard : Claim7 := { stood := { row := metaEncodesRow, standIns := [], harness := (true, "29501b9e533288e2b939321cec702e60226a45c8168acda999f3a5927428dbc5"), looks := false }, kinds := [], alts := [], laidByText := true, laidKinds := [.data, .pinned], laidTests := true, laidLooks := .later }
def MetaEncodesCardSaid : Prop := Claim7.holds Tryd.pinned (.plain (OpenSpec.ofChange metaEncodesSpec)) metaEncodesCard

/-- THE TIED CARD OF 'heartwoodlaw06.MetaDecodes'. -/
def metaDecodesCard : Claim7 := { stood := { row := metaDecodesRow, standIns := [], harness := (true, "29501b9e533288e2b939321cec702e60226a45c8168acda999f3a5927428dbc5"), looks := false }, kinds := [], alts := [], laidByText := true, laidKinds := [.data, .pinned], laidTests := true, laidLooks := .later }
def MetaDecodesCardSaid : Prop := Claim7.holds Tryd.pinned (.plain (OpenSpec.ofChange metaDecodesSpec)) metaDecodesCard

/-- THE TIED CARD OF 'heartwoodlaw06.MetaPicks'. -/
def metaPicksCard : Claim7 := { stood := { row := metaPicksRow, standIns := [], harness := (true, "29501b9e533288e2b939321cec702e60226a45c8168acda999f3a5927428dbc5"), looks := false }, kinds := [], alts := [], laidByText := true, laidKinds := [.data, .pinned], laidTests := true, laidLooks := .later }
def MetaPicksCardSaid : Prop := Claim7.holds Tryd.pinned (.plain (OpenSpec.ofChange metaPicksSpec)) metaPicksCard

/-- THE TIED CARD OF 'heartwoodlaw06.MetaBack'. -/
def metaBackCard : Claim7 := { stood := { row := metaBackRow, standIns := [], harness := (true, "29501b9e533288e2b939321cec702e60226a45c8168acda999f3a5927428dbc5"), looks := false }, kinds := [], alts := [], laidByText := true, laidKinds := [.data, .pinned], laidTests := true, laidLooks := .later }
def MetaBackCardSaid : Prop := Claim7.holds Tryd.pinned (.plain (OpenSpec.ofChange metaBackSpec)) metaBackCard

/-- THE TIED CARD OF 'heartwoodlaw06.MetaTurned'. -/
def metaTurnedCard : Claim7 := { stood := { row := metaTurnedRow, standIns := [], harness := (true, "29501b9e533288e2b939321cec702e60226a45c8168acda999f3a5927428dbc5"), looks := false }, kinds := [], alts := [], laidByText := true, laidKinds := [.data, .pinned], laidTests := true, laidLooks := .later }
def MetaTurnedCardSaid : Prop := Claim7.holds Tryd.pinned (.plain (OpenSpec.ofChange metaTurnedSpec)) metaTurnedCard

/-- THE TIED CARD OF 'heartwoodlaw06.MetaWhole'. -/
def metaWholeCard : Claim7 := { stood := { row := metaWholeRow, standIns := [], harness := (true, "29501b9e533288e2b939321cec702e60226a45c8168acda999f3a5927428dbc5"), looks := false }, kinds := [], alts := [], laidByText := true, laidKinds := [.data, .pinned], laidTests := true, laidLooks := .later }
def MetaWholeCardSaid : Prop := Claim7.holds Tryd.pinned (.plain (OpenSpec.ofChange metaWholeSpec)) metaWholeCard

/-- THE TIED CARD OF 'heartwoodlaw06.MetaGoes'. -/
def metaGoesCard : Claim7 := { stood := { row := metaGoesRow, standIns := [], harness := (true, "29501b9e533288e2b939321cec702e60226a45c8168acda999f3a5927428dbc5"), looks := false }, kinds := [], alts := [], laidByText := true, laidKinds := [.data, .pinned], laidTests := true, laidLooks := .later }
def MetaGoesCardSaid : Prop := Claim7.holds Tryd.pinned (.plain (OpenSpec.ofChange metaGoesSpec)) metaGoesCard

/-- THE TIED CARD OF 'heartwoodlaw06.MetaNames'. -/
def metaNamesCard : Claim7 := { stood := { row := metaNamesRow, standIns := [], harness := (true, "29501b9e533288e2b939321cec702e60226a45c8168acda999f3a5927428dbc5"), looks := false }, kinds := [], alts := [], laidByText := true, laidKinds := [.data, .pinned], laidTests := true, laidLooks := .later }
def MetaNamesCardSaid : Prop := Claim7.holds Tryd.pinned (.plain (OpenSpec.ofChange metaNamesSpec)) metaNamesCard

/-- THE SECOND FORM's CARD OF 'heartwoodlaw06.MetaChecks'. -/
def metaChecksUptoCard : Claim7 := { stood := { row := metaChecksUptoRow, standIns := [], harness := (true, "29501b9e533288e2b939321cec702e60226a45c8168acda999f3a5927428dbc5"), looks := false }, kinds := [], alts := [], laidByText := true, laidKinds := [.data, .pinned], laidTests := true, laidLooks := .later }
def MetaChecksUptoCardSaid : Prop := Claim7.holds Tryd.pinned (.plain (OpenSpec.upto metaChecksSpec)) metaChecksUptoCard

/-- THE SECOND FORM's CARD OF 'heartwoodlaw06.MetaEncodes'. -/
def metaEncodesUptoCard : Claim7 := { stood := { row := metaEncodesUptoRow, standIns := [], harness := (true, "29501b9e533288e2b939321cec702e60226a45c8168acda999f3a5927428dbc5"), looks := false }, kinds := [], alts := [], laidByText := true, laidKinds := [.data, .pinned], laidTests := true, laidLooks := .later }
def MetaEncodesUptoCardSaid : Prop := Claim7.holds Tryd.pinned (.plain (OpenSpec.upto metaEncodesSpec)) metaEncodesUptoCard

/-- THE SECOND FORM's CARD OF 'heartwoodlaw06.MetaDecodes'. -/
def metaDecodesUptoCard : Claim7 := { stood := { row := metaDecodesUptoRow, standIns := [], harness := (true, "29501b9e533288e2b939321cec702e60226a45c8168acda999f3a5927428dbc5"), looks := false }, kinds := [], alts := [], laidByText := true, laidKinds := [.data, .pinned], laidTests := true, laidLooks := .later }
def MetaDecodesUptoCardSaid : Prop := Claim7.holds Tryd.pinned (.plain (OpenSpec.upto metaDecodesSpec)) metaDecodesUptoCard

/-- THE SECOND FORM's CARD OF 'heartwoodlaw06.MetaPicks'. -/
def metaPicksUptoCard : Claim7 := { stood := { row := metaPicksUptoRow, standIns := [], harness := (true, "29501b9e533288e2b939321cec702e60226a45c8168acda999f3a5927428dbc5"), looks := false }, kinds := [], alts := [], laidByText := true, laidKinds := [.data, .pinned], laidTests := true, laidLooks := .later }
def MetaPicksUptoCardSaid : Prop := Claim7.holds Tryd.pinned (.plain (OpenSpec.upto metaPicksSpec)) metaPicksUptoCard

/-- THE SECOND FORM's CARD OF 'heartwoodlaw06.MetaBack'. -/
def metaBackUptoCard : Claim7 := { stood := { row := metaBackUptoRow, standIns := [], harness := (true, "29501b9e533288e2b939321cec702e60226a45c8168acda999f3a5927428dbc5"), looks := false }, kinds := [], alts := [], laidByText := true, laidKinds := [.data, .pinned], laidTests := true, laidLooks := .later }
def MetaBackUptoCardSaid : Prop := Claim7.holds Tryd.pinned (.plain (OpenSpec.upto metaBackSpec)) metaBackUptoCard

/-- THE SECOND FORM's CARD OF 'heartwoodlaw06.MetaTurned'. -/
def metaTurnedUptoCard : Claim7 := { stood := { row := metaTurnedUptoRow, standIns := [], harness := (true, "29501b9e533288e2b939321cec702e60226a45c8168acda999f3a5927428dbc5"), looks := false }, kinds := [], alts := [], laidByText := true, laidKinds := [.data, .pinned], laidTests := true, laidLooks := .later }
def MetaTurnedUptoCardSaid : Prop := Claim7.holds Tryd.pinned (.plain (OpenSpec.upto metaTurnedSpec)) metaTurnedUptoCard

/-- THE SECOND FORM's CARD OF 'heartwoodlaw06.MetaWhole'. -/
def metaWholeUptoCard : Claim7 := { stood := { row := metaWholeUptoRow, standIns := [], harness := (true, "29501b9e533288e2b939321cec702e60226a45c8168acda999f3a5927428dbc5"), looks := false }, kinds := [], alts := [], laidByText := true, laidKinds := [.data, .pinned], laidTests := true, laidLooks := .later }
def MetaWholeUptoCardSaid : Prop := Claim7.holds Tryd.pinned (.plain (OpenSpec.upto metaWholeSpec)) metaWholeUptoCard

/-- THE SECOND FORM's CARD OF 'heartwoodlaw06.MetaGoes'. -/
def metaGoesUptoCard : Claim7 := { stood := { row := metaGoesUptoRow, standIns := [], harness := (true, "29501b9e533288e2b939321cec702e60226a45c8168acda999f3a5927428dbc5"), looks := false }, kinds := [], alts := [], laidByText := true, laidKinds := [.data, .pinned], laidTests := true, laidLooks := .later }
def MetaGoesUptoCardSaid : Prop := Claim7.holds Tryd.pinned (.plain (OpenSpec.upto metaGoesSpec)) metaGoesUptoCard

/-- THE SECOND FORM's CARD OF 'heartwoodlaw06.MetaNames'. -/
def metaNamesUptoCard : Claim7 := { stood := { row := metaNamesUptoRow, standIns := [], harness := (true, "29501b9e533288e2b939321cec702e60226a45c8168acda999f3a5927428dbc5"), looks := false }, kinds := [], alts := [], laidByText := true, laidKinds := [.data, .pinned], laidTests := true, laidLooks := .later }
def MetaNamesUptoCardSaid : Prop := Claim7.holds Tryd.pinned (.plain (OpenSpec.upto metaNamesSpec)) metaNamesUptoCard
end Rows
end Go.Proofs.YtlhdbkbgedlmnaaDoor
