/-
  DERIVED. GIVEN WITH THE SEED: THE CARDS: each row of YtmbnpblejhlefaaDoorRows.lean that lists a variable, with what it lists TIED to the program's text (the seventh form; the later family's looks); each row that meets fmt, with fmt's text TOLD by the authors' own Lean function (tested against real Go, not proved from fmt's source: count such statements apart). THE CARD IS WHAT COUNTS. Prove the row's statement (the work); the ties are given (YtmbnpblejhlefaaDoorTie.lean); close each card by the builder's one call (the guide's Derived/Test/ToyasCard.lean, 'card_holds'). Laid BY PROGRAM, IN A SANDBOX (cutbox-door.mjs). By AI agents, Wed Nov 11 2026. No macro, syntax, notation, axiom, sorry.
-/
import Derived.Test.YtmbnpblejhlefaaDoorRows
import GoSem.ClaimSeven
namespace Go.Proofs.YtmbnpblejhlefaaDoor
namespace Rows

/-- THE TIED CARD OF 'tactuslaw28.IntervalChords'. -/
def intervalChordsCard : Claim7 := { stood := { row := intervalChordsRow, standIns := [], harness := (true, "9671b2bafd50c631f9b68f376101d0babb532f424922e8a648505409e47ac6ed"), looks := true }, kinds := [], alts := [], laidByText := true, laidKinds := [.data, .data, .data, .data, .data, .data], laidTests := true, laidLooks := .later }
def IntervalChordsCardSaid : Prop := Claim7.holds Tryd.pinned (.plain (OpenSpec.ofChange intervalChordsSpec)) intervalChordsCard

/-- THE TIED CARD OF 'tactuslaw28.IntervalKinds'. -/
def intervalKindsCard : Claim7 := { stood := { row := intervalKindsRow, standIns := [], harness := (true, "9671b2bafd50c631f9b68f376101d0babb532f424922e8a648505409e47ac6ed"), looks := true }, kinds := [], alts := [], laidByText := true, laidKinds := [.data, .data, .data, .sentinel, .sentinel, .data, .data, .data], laidTests := true, laidLooks := .later }
def IntervalKindsCardSaid : Prop := Claim7.holds Tryd.pinned (.plain (OpenSpec.ofChange intervalKindsSpec)) intervalKindsCard

/-- THE TIED CARD OF 'tactuslaw28.IntervalKnown'. -/
def intervalKnownCard : Claim7 := { stood := { row := intervalKnownRow, standIns := [], harness := (true, "9671b2bafd50c631f9b68f376101d0babb532f424922e8a648505409e47ac6ed"), looks := true }, kinds := [], alts := [], laidByText := true, laidKinds := [.data, .data, .data, .sentinel, .sentinel, .data, .data, .data], laidTests := true, laidLooks := .later }
def IntervalKnownCardSaid : Prop := Claim7.holds Tryd.pinned (.plain (OpenSpec.ofChange intervalKnownSpec)) intervalKnownCard

/-- THE TIED CARD OF 'tactuslaw28.IntervalOctaves'. -/
def intervalOctavesCard : Claim7 := { stood := { row := intervalOctavesRow, standIns := [], harness := (true, "9671b2bafd50c631f9b68f376101d0babb532f424922e8a648505409e47ac6ed"), looks := true }, kinds := [], alts := [], laidByText := true, laidKinds := [.data, .data, .data, .sentinel, .sentinel, .data, .data, .data], laidTests := true, laidLooks := .later }
def IntervalOctavesCardSaid : Prop := Claim7.holds Tryd.pinned (.plain (OpenSpec.ofChange intervalOctavesSpec)) intervalOctavesCard

/-- THE TIED CARD OF 'tactuslaw28.IntervalNames'. -/
def intervalNamesCard : Claim7 := { stood := { row := intervalNamesRow, standIns := [], harness := (true, "9671b2bafd50c631f9b68f376101d0babb532f424922e8a648505409e47ac6ed"), looks := true }, kinds := [], alts := [], laidByText := true, laidKinds := [.data, .data, .data, .sentinel, .sentinel, .data, .data, .data], laidTests := true, laidLooks := .later }
def IntervalNamesCardSaid : Prop := Claim7.holds Tryd.pinned (.plain (OpenSpec.ofChange intervalNamesSpec)) intervalNamesCard

/-- THE TIED CARD OF 'tactuslaw28.IntervalTaken'. -/
def intervalTakenCard : Claim7 := { stood := { row := intervalTakenRow, standIns := [], harness := (true, "9671b2bafd50c631f9b68f376101d0babb532f424922e8a648505409e47ac6ed"), looks := true }, kinds := [], alts := [], laidByText := true, laidKinds := [.data, .data, .data, .sentinel, .sentinel, .data, .data, .data], laidTests := true, laidLooks := .later }
def IntervalTakenCardSaid : Prop := Claim7.holds Tryd.pinned (.plain (OpenSpec.ofChange intervalTakenSpec)) intervalTakenCard

/-- THE TIED CARD OF 'tactuslaw28.IntervalOrder'. -/
def intervalOrderCard : Claim7 := { stood := { row := intervalOrderRow, standIns := [], harness := (true, "9671b2bafd50c631f9b68f376101d0babb532f424922e8a648505409e47ac6ed"), looks := true }, kinds := [], alts := [], laidByText := true, laidKinds := [.data, .data, .data, .sentinel, .sentinel, .data, .data, .data], laidTests := true, laidLooks := .later }
def IntervalOrderCardSaid : Prop := Claim7.holds Tryd.pinned (.plain (OpenSpec.ofChange intervalOrderSpec)) intervalOrderCard

/-- THE SECOND FORM's CARD OF 'tactuslaw28.IntervalChords'. -/
def intervalChordsUptoCard : Claim7 := { stood := { row := intervalChordsUptoRow, standIns := [], harness := (true, "9671b2bafd50c631f9b68f376101d0babb532f424922e8a648505409e47ac6ed"), looks := true }, kinds := [], alts := [], laidByText := true, laidKinds := [.data, .data, .data, .data, .data, .data], laidTests := true, laidLooks := .later }
def IntervalChordsUptoCardSaid : Prop := Claim7.holds Tryd.pinned (.plain (OpenSpec.upto intervalChordsSpec)) intervalChordsUptoCard

/-- THE SECOND FORM's CARD OF 'tactuslaw28.IntervalKinds'. -/
def intervalKindsUptoCard : Claim7 := { stood := { row := intervalKindsUptoRow, standIns := [], harness := (true, "9671b2bafd50c631f9b68f376101d0babb532f424922e8a648505409e47ac6ed"), looks := true }, kinds := [], alts := [], laidByText := true, laidKinds := [.data, .data, .data, .sentinel, .sentinel, .data, .data, .data], laidTests := true, laidLooks := .later }
def IntervalKindsUptoCardSaid : Prop := Claim7.holds Tryd.pinned (.plain (OpenSpec.upto intervalKindsSpec)) intervalKindsUptoCard

/-- THE SECOND FORM's CARD OF 'tactuslaw28.IntervalKnown'. -/
def intervalKnownUptoCard : Claim7 := { stood := { row := intervalKnownUptoRow, standIns := [], harness := (true, "9671b2bafd50c631f9b68f376101d0babb532f424922e8a648505409e47ac6ed"), looks := true }, kinds := [], alts := [], laidByText := true, laidKinds := [.data, .data, .data, .sentinel, .sentinel, .data, .data, .data], laidTests := true, laidLooks := .later }
def IntervalKnownUptoCardSaid : Prop := Claim7.holds Tryd.pinned (.plain (OpenSpec.upto intervalKnownSpec)) intervalKnownUptoCard

/-- THE SECOND FORM's CARD OF 'tactuslaw28.IntervalOctaves'. -/
def intervalOctavesUptoCard : Claim7 := { stood := { row := intervalOctavesUptoRow, standIns := [], harness := (true, "9671b2bafd50c631f9b68f376101d0babb532f424922e8a648505409e47ac6ed"), looks := true }, kinds := [], alts := [], laidByText := true, laidKinds := [.data, .data, .data, .sentinel, .sentinel, .data, .data, .data], laidTests := true, laidLooks := .later }
def IntervalOctavesUptoCardSaid : Prop := Claim7.holds Tryd.pinned (.plain (OpenSpec.upto intervalOctavesSpec)) intervalOctavesUptoCard

/-- THE SECOND FORM's CARD OF 'tactuslaw28.IntervalNames'. -/
def intervalNamesUptoCard : Claim7 := { stood := { row := intervalNamesUptoRow, standIns := [], harness := (true, "9671b2bafd50c631f9b68f376101d0babb532f424922e8a648505409e47ac6ed"), looks := true }, kinds := [], alts := [], laidByText := true, laidKinds := [.data, .data, .data, .sentinel, .sentinel, .data, .data, .data], laidTests := true, laidLooks := .later }
def IntervalNamesUptoCardSaid : Prop := Claim7.holds Tryd.pinned (.plain (OpenSpec.upto intervalNamesSpec)) intervalNamesUptoCard

/-- THE SECOND FORM's CARD OF 'tactuslaw28.IntervalTaken'. -/
def intervalTakenUptoCard : Claim7 := { stood := { row := intervalTakenUptoRow, standIns := [], harness := (true, "9671b2bafd50c631f9b68f376101d0babb532f424922e8a648505409e47ac6ed"), looks := true }, kinds := [], alts := [], laidByText := true, laidKinds := [.data, .data, .data, .sentinel, .sentinel, .data, .data, .data], laidTests := true, laidLooks := .later }
def IntervalTakenUptoCardSaid : Prop := Claim7.holds Tryd.pinned (.plain (OpenSpec.upto intervalTakenSpec)) intervalTakenUptoCard

/-- THE SECOND FORM's CARD OF 'tactuslaw28.IntervalOrder'. -/
def intervalOrderUptoCard : Claim7 := { stood := { row := intervalOrderUptoRow, standIns := [], harness := (true, "9671b2bafd50c631f9b68f376101d0babb532f424922e8a648505409e47ac6ed"), looks := true }, kinds := [], alts := [], laidByText := true, laidKinds := [.data, .data, .data, .sentinel, .sentinel, .data, .data, .data], laidTests := true, laidLooks := .later }
def IntervalOrderUptoCardSaid : Prop := Claim7.holds Tryd.pinned (.plain (OpenSpec.upto intervalOrderSpec)) intervalOrderUptoCard
end Rows
end Go.Proofs.YtmbnpblejhlefaaDoor
