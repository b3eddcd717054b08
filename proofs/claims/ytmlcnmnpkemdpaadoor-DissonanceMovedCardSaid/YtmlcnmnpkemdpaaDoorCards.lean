/-
  DERIVED. GIVEN WITH THE SEED: THE CARDS: each row of YtmlcnmnpkemdpaaDoorRows.lean that lists a variable, with what it lists TIED to the program's text (the seventh form; the later family's looks); each row that meets fmt, with fmt's text TOLD by the authors' own Lean function (tested against real Go, not proved from fmt's source: count such statements apart). THE CARD IS WHAT COUNTS. Prove the row's statement (the work); the ties are given (YtmlcnmnpkemdpaaDoorTie.lean); close each card by the builder's one call (the guide's Derived/Test/ToyasCard.lean, 'card_holds'). Laid BY PROGRAM, IN A SANDBOX (cutbox-door.mjs). By AI agents, Wed Nov 11 2026. No macro, syntax, notation, axiom, sorry.
-/
import Derived.Test.YtmlcnmnpkemdpaaDoorRows
import GoSem.ClaimSeven
namespace Go.Proofs.YtmlcnmnpkemdpaaDoor
namespace Rows

/-- THE TIED CARD OF 'tactuslaw32.DissonanceTreats'. -/
def dissonanceTreatsCard : Claim7 := { stood := { row := dissonanceTreatsRow, standIns := [], harness := (true, "fb4a9f307cc256b25e1b00c694e571d3547f9ef9f966cc431947262b51f4b6f9"), looks := false }, kinds := [], alts := [], laidByText := true, laidKinds := [.data, .data], laidTests := true, laidLooks := .later }
def DissonanceTreatsCardSaid : Prop := Claim7.holds Tryd.pinned (.plain (OpenSpec.ofChange dissonanceTreatsSpec)) dissonanceTreatsCard

/-- THE TIED CARD OF 'tactuslaw32.DissonanceKnown'. -/
def dissonanceKnownCard : Claim7 := { stood := { row := dissonanceKnownRow, standIns := [], harness := (true, "fb4a9f307cc256b25e1b00c694e571d3547f9ef9f966cc431947262b51f4b6f9"), looks := false }, kinds := [], alts := [], laidByText := true, laidKinds := [.data, .data], laidTests := true, laidLooks := .later }
def DissonanceKnownCardSaid : Prop := Claim7.holds Tryd.pinned (.plain (OpenSpec.ofChange dissonanceKnownSpec)) dissonanceKnownCard

/-- THE TIED CARD OF 'tactuslaw32.DissonanceOrder'. -/
def dissonanceOrderCard : Claim7 := { stood := { row := dissonanceOrderRow, standIns := [], harness := (true, "fb4a9f307cc256b25e1b00c694e571d3547f9ef9f966cc431947262b51f4b6f9"), looks := false }, kinds := [], alts := [], laidByText := true, laidKinds := [.data, .data], laidTests := true, laidLooks := .later }
def DissonanceOrderCardSaid : Prop := Claim7.holds Tryd.pinned (.plain (OpenSpec.ofChange dissonanceOrderSpec)) dissonanceOrderCard

/-- THE TIED CARD OF 'tactuslaw32.DissonanceMoved'. -/
def dissonanceMovedCard : Claim7 := { stood := { row := dissonanceMovedRow, standIns := [], harness := (true, "fb4a9f307cc256b25e1b00c694e571d3547f9ef9f966cc431947262b51f4b6f9"), looks := false }, kinds := [], alts := [], laidByText := true, laidKinds := [.data, .data], laidTests := true, laidLooks := .later }
def DissonanceMovedCardSaid : Prop := Claim7.holds Tryd.pinned (.plain (OpenSpec.ofChange dissonanceMovedSpec)) dissonanceMovedCard

/-- THE TIED CARD OF 'tactuslaw32.DissonanceRest'. -/
def dissonanceRestCard : Claim7 := { stood := { row := dissonanceRestRow, standIns := [], harness := (true, "fb4a9f307cc256b25e1b00c694e571d3547f9ef9f966cc431947262b51f4b6f9"), looks := false }, kinds := [], alts := [], laidByText := true, laidKinds := [.data, .data], laidTests := true, laidLooks := .later }
def DissonanceRestCardSaid : Prop := Claim7.holds Tryd.pinned (.plain (OpenSpec.ofChange dissonanceRestSpec)) dissonanceRestCard

/-- THE TIED CARD OF 'tactuslaw32.DissonanceCounts'. -/
def dissonanceCountsCard : Claim7 := { stood := { row := dissonanceCountsRow, standIns := [], harness := (true, "fb4a9f307cc256b25e1b00c694e571d3547f9ef9f966cc431947262b51f4b6f9"), looks := false }, kinds := [], alts := [], laidByText := true, laidKinds := [.data, .data], laidTests := true, laidLooks := .later }
def DissonanceCountsCardSaid : Prop := Claim7.holds Tryd.pinned (.plain (OpenSpec.ofChange dissonanceCountsSpec)) dissonanceCountsCard

/-- THE SECOND FORM's CARD OF 'tactuslaw32.DissonanceTreats'. -/
def dissonanceTreatsUptoCard : Claim7 := { stood := { row := dissonanceTreatsUptoRow, standIns := [], harness := (true, "fb4a9f307cc256b25e1b00c694e571d3547f9ef9f966cc431947262b51f4b6f9"), looks := false }, kinds := [], alts := [], laidByText := true, laidKinds := [.data, .data], laidTests := true, laidLooks := .later }
def DissonanceTreatsUptoCardSaid : Prop := Claim7.holds Tryd.pinned (.plain (OpenSpec.upto dissonanceTreatsSpec)) dissonanceTreatsUptoCard

/-- THE SECOND FORM's CARD OF 'tactuslaw32.DissonanceKnown'. -/
def dissonanceKnownUptoCard : Claim7 := { stood := { row := dissonanceKnownUptoRow, standIns := [], harness := (true, "fb4a9f307cc256b25e1b00c694e571d3547f9ef9f966cc431947262b51f4b6f9"), looks := false }, kinds := [], alts := [], laidByText := true, laidKinds := [.data, .data], laidTests := true, laidLooks := .later }
def DissonanceKnownUptoCardSaid : Prop := Claim7.holds Tryd.pinned (.plain (OpenSpec.upto dissonanceKnownSpec)) dissonanceKnownUptoCard

/-- THE SECOND FORM's CARD OF 'tactuslaw32.DissonanceOrder'. -/
def dissonanceOrderUptoCard : Claim7 := { stood := { row := dissonanceOrderUptoRow, standIns := [], harness := (true, "fb4a9f307cc256b25e1b00c694e571d3547f9ef9f966cc431947262b51f4b6f9"), looks := false }, kinds := [], alts := [], laidByText := true, laidKinds := [.data, .data], laidTests := true, laidLooks := .later }
def DissonanceOrderUptoCardSaid : Prop := Claim7.holds Tryd.pinned (.plain (OpenSpec.upto dissonanceOrderSpec)) dissonanceOrderUptoCard

/-- THE SECOND FORM's CARD OF 'tactuslaw32.DissonanceMoved'. -/
def dissonanceMovedUptoCard : Claim7 := { stood := { row := dissonanceMovedUptoRow, standIns := [], harness := (true, "fb4a9f307cc256b25e1b00c694e571d3547f9ef9f966cc431947262b51f4b6f9"), looks := false }, kinds := [], alts := [], laidByText := true, laidKinds := [.data, .data], laidTests := true, laidLooks := .later }
def DissonanceMovedUptoCardSaid : Prop := Claim7.holds Tryd.pinned (.plain (OpenSpec.upto dissonanceMovedSpec)) dissonanceMovedUptoCard

/-- THE SECOND FORM's CARD OF 'tactuslaw32.DissonanceRest'. -/
def dissonanceRestUptoCard : Claim7 := { stood := { row := dissonanceRestUptoRow, standIns := [], harness := (true, "fb4a9f307cc256b25e1b00c694e571d3547f9ef9f966cc431947262b51f4b6f9"), looks := false }, kinds := [], alts := [], laidByText := true, laidKinds := [.data, .data], laidTests := true, laidLooks := .later }
def DissonanceRestUptoCardSaid : Prop := Claim7.holds Tryd.pinned (.plain (OpenSpec.upto dissonanceRestSpec)) dissonanceRestUptoCard

/-- THE SECOND FORM's CARD OF 'tactuslaw32.DissonanceCounts'. -/
def dissonanceCountsUptoCard : Claim7 := { stood := { row := dissonanceCountsUptoRow, standIns := [], harness := (true, "fb4a9f307cc256b25e1b00c694e571d3547f9ef9f966cc431947262b51f4b6f9"), looks := false }, kinds := [], alts := [], laidByText := true, laidKinds := [.data, .data], laidTests := true, laidLooks := .later }
def DissonanceCountsUptoCardSaid : Prop := Claim7.holds Tryd.pinned (.plain (OpenSpec.upto dissonanceCountsSpec)) dissonanceCountsUptoCard
end Rows
end Go.Proofs.YtmlcnmnpkemdpaaDoor
