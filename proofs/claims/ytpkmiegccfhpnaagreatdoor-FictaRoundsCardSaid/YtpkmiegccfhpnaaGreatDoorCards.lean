/-
  DERIVED. GIVEN WITH THE SEED: THE CARDS: each row of YtpkmiegccfhpnaaGreatDoorRows.lean that lists a variable, with what it lists TIED to the program's text (the seventh form; the later family's looks); each row that meets fmt, with fmt's text TOLD by the authors' own Lean function (tested against real Go, not proved from fmt's source: count such statements apart). THE CARD IS WHAT COUNTS. Prove the row's statement (the work); the ties are given (YtpkmiegccfhpnaaGreatDoorTie.lean); close each card by the builder's one call (the guide's Derived/Test/ToyasCard.lean, 'card_holds'). Laid BY PROGRAM, IN A SANDBOX (cutbox-door.mjs). By AI agents, Wed Nov 11 2026. No macro, syntax, notation, axiom, sorry.
-/
import Derived.Test.YtpkmiegccfhpnaaGreatDoorRows
import GoSem.ClaimSeven
namespace Go.Proofs.YtpkmiegccfhpnaaGreatDoor
namespace Rows

/-- THE TIED CARD OF 'tactuslaw31.FictaChecks'. -/
def fictaChecksCard : Claim7 := { stood := { row := fictaChecksRow, standIns := [], harness := (true, "6a8cb97c1dca1e20e07518079a4afa20dc7cd2878c96325ae1845d5fbc42f058"), looks := false }, kinds := [], alts := [], laidByText := true, laidKinds := [.data, .data], laidTests := true, laidLooks := .later }
def FictaChecksCardSaid : Prop := Claim7.holds Tryz.pinned (.plain (OpenSpec.ofChange fictaChecksSpec)) fictaChecksCard

/-- THE TIED CARD OF 'tactuslaw31.FictaKnown'. -/
def fictaKnownCard : Claim7 := { stood := { row := fictaKnownRow, standIns := [], harness := (true, "6a8cb97c1dca1e20e07518079a4afa20dc7cd2878c96325ae1845d5fbc42f058"), looks := false }, kinds := [], alts := [], laidByText := true, laidKinds := [.data, .data], laidTests := true, laidLooks := .later }
def FictaKnownCardSaid : Prop := Claim7.holds Tryz.pinned (.plain (OpenSpec.ofChange fictaKnownSpec)) fictaKnownCard

/-- THE TIED CARD OF 'tactuslaw31.FictaKeeps'. -/
def fictaKeepsCard : Claim7 := { stood := { row := fictaKeepsRow, standIns := [], harness := (true, "6a8cb97c1dca1e20e07518079a4afa20dc7cd2878c96325ae1845d5fbc42f058"), looks := false }, kinds := [], alts := [], laidByText := true, laidKinds := [.data, .data], laidTests := true, laidLooks := .later }
def FictaKeepsCardSaid : Prop := Claim7.holds Tryz.pinned (.plain (OpenSpec.ofChange fictaKeepsSpec)) fictaKeepsCard

/-- THE TIED CARD OF 'tactuslaw31.FictaAlone'. -/
def fictaAloneCard : Claim7 := { stood := { row := fictaAloneRow, standIns := [], harness := (true, "6a8cb97c1dca1e20e07518079a4afa20dc7cd2878c96325ae1845d5fbc42f058"), looks := false }, kinds := [], alts := [], laidByText := true, laidKinds := [.data, .data], laidTests := true, laidLooks := .later }
def FictaAloneCardSaid : Prop := Claim7.holds Tryz.pinned (.plain (OpenSpec.ofChange fictaAloneSpec)) fictaAloneCard

/-- THE TIED CARD OF 'tactuslaw31.FictaLetters'. -/
def fictaLettersCard : Claim7 := { stood := { row := fictaLettersRow, standIns := [], harness := (true, "6a8cb97c1dca1e20e07518079a4afa20dc7cd2878c96325ae1845d5fbc42f058"), looks := false }, kinds := [], alts := [], laidByText := true, laidKinds := [.data, .data], laidTests := true, laidLooks := .later }
def FictaLettersCardSaid : Prop := Claim7.holds Tryz.pinned (.plain (OpenSpec.ofChange fictaLettersSpec)) fictaLettersCard

/-- THE TIED CARD OF 'tactuslaw31.FictaRounds'. -/
def fictaRoundsCard : Claim7 := { stood := { row := fictaRoundsRow, standIns := [], harness := (true, "6a8cb97c1dca1e20e07518079a4afa20dc7cd2878c96325ae1845d5fbc42f058"), looks := false }, kinds := [], alts := [], laidByText := true, laidKinds := [.data, .data], laidTests := true, laidLooks := .later }
def FictaRoundsCardSaid : Prop := Claim7.holds Tryz.pinned (.plain (OpenSpec.ofChange fictaRoundsSpec)) fictaRoundsCard

/-- THE TIED CARD OF 'tactuslaw31.FictaEnds'. -/
def fictaEndsCard : Claim7 := { stood := { row := fictaEndsRow, standIns := [], harness := (true, "6a8cb97c1dca1e20e07518079a4afa20dc7cd2878c96325ae1845d5fbc42f058"), looks := false }, kinds := [], alts := [], laidByText := true, laidKinds := [.data, .data], laidTests := true, laidLooks := .later }
def FictaEndsCardSaid : Prop := Claim7.holds Tryz.pinned (.plain (OpenSpec.ofChange fictaEndsSpec)) fictaEndsCard

/-- THE SECOND FORM's CARD OF 'tactuslaw31.FictaChecks'. -/
def fictaChecksUptoCard : Claim7 := { stood := { row := fictaChecksUptoRow, standIns := [], harness := (true, "6a8cb97c1dca1e20e07518079a4afa20dc7cd2878c96325ae1845d5fbc42f058"), looks := false }, kinds := [], alts := [], laidByText := true, laidKinds := [.data, .data], laidTests := true, laidLooks := .later }
def FictaChecksUptoCardSaid : Prop := Claim7.holds Tryz.pinned (.plain (OpenSpec.upto fictaChecksSpec)) fictaChecksUptoCard

/-- THE SECOND FORM's CARD OF 'tactuslaw31.FictaKnown'. -/
def fictaKnownUptoCard : Claim7 := { stood := { row := fictaKnownUptoRow, standIns := [], harness := (true, "6a8cb97c1dca1e20e07518079a4afa20dc7cd2878c96325ae1845d5fbc42f058"), looks := false }, kinds := [], alts := [], laidByText := true, laidKinds := [.data, .data], laidTests := true, laidLooks := .later }
def FictaKnownUptoCardSaid : Prop := Claim7.holds Tryz.pinned (.plain (OpenSpec.upto fictaKnownSpec)) fictaKnownUptoCard

/-- THE SECOND FORM's CARD OF 'tactuslaw31.FictaKeeps'. -/
def fictaKeepsUptoCard : Claim7 := { stood := { row := fictaKeepsUptoRow, standIns := [], harness := (true, "6a8cb97c1dca1e20e07518079a4afa20dc7cd2878c96325ae1845d5fbc42f058"), looks := false }, kinds := [], alts := [], laidByText := true, laidKinds := [.data, .data], laidTests := true, laidLooks := .later }
def FictaKeepsUptoCardSaid : Prop := Claim7.holds Tryz.pinned (.plain (OpenSpec.upto fictaKeepsSpec)) fictaKeepsUptoCard

/-- THE SECOND FORM's CARD OF 'tactuslaw31.FictaAlone'. -/
def fictaAloneUptoCard : Claim7 := { stood := { row := fictaAloneUptoRow, standIns := [], harness := (true, "6a8cb97c1dca1e20e07518079a4afa20dc7cd2878c96325ae1845d5fbc42f058"), looks := false }, kinds := [], alts := [], laidByText := true, laidKinds := [.data, .data], laidTests := true, laidLooks := .later }
def FictaAloneUptoCardSaid : Prop := Claim7.holds Tryz.pinned (.plain (OpenSpec.upto fictaAloneSpec)) fictaAloneUptoCard

/-- THE SECOND FORM's CARD OF 'tactuslaw31.FictaLetters'. -/
def fictaLettersUptoCard : Claim7 := { stood := { row := fictaLettersUptoRow, standIns := [], harness := (true, "6a8cb97c1dca1e20e07518079a4afa20dc7cd2878c96325ae1845d5fbc42f058"), looks := false }, kinds := [], alts := [], laidByText := true, laidKinds := [.data, .data], laidTests := true, laidLooks := .later }
def FictaLettersUptoCardSaid : Prop := Claim7.holds Tryz.pinned (.plain (OpenSpec.upto fictaLettersSpec)) fictaLettersUptoCard

/-- THE SECOND FORM's CARD OF 'tactuslaw31.FictaRounds'. -/
def fictaRoundsUptoCard : Claim7 := { stood := { row := fictaRoundsUptoRow, standIns := [], harness := (true, "6a8cb97c1dca1e20e07518079a4afa20dc7cd2878c96325ae1845d5fbc42f058"), looks := false }, kinds := [], alts := [], laidByText := true, laidKinds := [.data, .data], laidTests := true, laidLooks := .later }
def FictaRoundsUptoCardSaid : Prop := Claim7.holds Tryz.pinned (.plain (OpenSpec.upto fictaRoundsSpec)) fictaRoundsUptoCard

/-- THE SECOND FORM's CARD OF 'tactuslaw31.FictaEnds'. -/
def fictaEndsUptoCard : Claim7 := { stood := { row := fictaEndsUptoRow, standIns := [], harness := (true, "6a8cb97c1dca1e20e07518079a4afa20dc7cd2878c96325ae1845d5fbc42f058"), looks := false }, kinds := [], alts := [], laidByText := true, laidKinds := [.data, .data], laidTests := true, laidLooks := .later }
def FictaEndsUptoCardSaid : Prop := Claim7.holds Tryz.pinned (.plain (OpenSpec.upto fictaEndsSpec)) fictaEndsUptoCard
end Rows
end Go.Proofs.YtpkmiegccfhpnaaGreatDoor
