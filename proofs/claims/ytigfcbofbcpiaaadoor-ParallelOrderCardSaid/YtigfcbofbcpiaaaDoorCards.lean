/-
  DERIVED. GIVEN WITH THE SEED: THE CARDS: each row of YtigfcbofbcpiaaaDoorRows.lean that lists a variable, with what it lists TIED to the program's text (the seventh form; the later family's looks); each row that meets fmt, with fmt's text TOLD by the authors' own Lean function (tested against real Go, not proved from fmt's source: count such statements apart). THE CARD IS WHAT COUNTS. Prove the row's statement (the work); the ties are given (YtigfcbofbcpiaaaDoorTie.lean); close each card by the builder's one call (the guide's Derived/Test/ToyasCard.lean, 'card_holds'). Laid BY PROGRAM, IN A SANDBOX (cutbox-door.mjs). By AI agents, Wed Nov 11 2026. No macro, syntax, notation, axiom, sorry.
-/
import Derived.Test.YtigfcbofbcpiaaaDoorRows
import GoSem.ClaimSeven
namespace Go.Proofs.YtigfcbofbcpiaaaDoor
namespace Rows

/-- THE TIED CARD OF 'tactuslaw29.ParallelMade'. -/
def parallelMadeCard : Claim7 := { stood := { row := parallelMadeRow, standIns := [], harness := (true, "5b67a7bd92573f4b7781e8ed01e25ce9a3299c4a1aeaac849cc858320814f5bc"), looks := false }, kinds := [], alts := [], laidByText := true, laidKinds := [.data, .data], laidTests := true, laidLooks := .later }
def ParallelMadeCardSaid : Prop := Claim7.holds Tryd.pinned (.plain (OpenSpec.ofChange parallelMadeSpec)) parallelMadeCard

/-- THE TIED CARD OF 'tactuslaw29.ParallelMoves'. -/
def parallelMovesCard : Claim7 := { stood := { row := parallelMovesRow, standIns := [], harness := (true, "5b67a7bd92573f4b7781e8ed01e25ce9a3299c4a1aeaac849cc858320814f5bc"), looks := false }, kinds := [], alts := [], laidByText := true, laidKinds := [.data, .data], laidTests := true, laidLooks := .later }
def ParallelMovesCardSaid : Prop := Claim7.holds Tryd.pinned (.plain (OpenSpec.ofChange parallelMovesSpec)) parallelMovesCard

/-- THE TIED CARD OF 'tactuslaw29.ParallelKnown'. -/
def parallelKnownCard : Claim7 := { stood := { row := parallelKnownRow, standIns := [], harness := (true, "5b67a7bd92573f4b7781e8ed01e25ce9a3299c4a1aeaac849cc858320814f5bc"), looks := false }, kinds := [], alts := [], laidByText := true, laidKinds := [.data, .data], laidTests := true, laidLooks := .later }
def ParallelKnownCardSaid : Prop := Claim7.holds Tryd.pinned (.plain (OpenSpec.ofChange parallelKnownSpec)) parallelKnownCard

/-- THE TIED CARD OF 'tactuslaw29.ParallelFinds'. -/
def parallelFindsCard : Claim7 := { stood := { row := parallelFindsRow, standIns := [], harness := (true, "5b67a7bd92573f4b7781e8ed01e25ce9a3299c4a1aeaac849cc858320814f5bc"), looks := false }, kinds := [], alts := [], laidByText := true, laidKinds := [.data, .data], laidTests := true, laidLooks := .later }
def ParallelFindsCardSaid : Prop := Claim7.holds Tryd.pinned (.plain (OpenSpec.ofChange parallelFindsSpec)) parallelFindsCard

/-- THE TIED CARD OF 'tactuslaw29.ParallelTurns'. -/
def parallelTurnsCard : Claim7 := { stood := { row := parallelTurnsRow, standIns := [], harness := (true, "5b67a7bd92573f4b7781e8ed01e25ce9a3299c4a1aeaac849cc858320814f5bc"), looks := false }, kinds := [], alts := [], laidByText := true, laidKinds := [.data, .data], laidTests := true, laidLooks := .later }
def ParallelTurnsCardSaid : Prop := Claim7.holds Tryd.pinned (.plain (OpenSpec.ofChange parallelTurnsSpec)) parallelTurnsCard

/-- THE TIED CARD OF 'tactuslaw29.ParallelOrder'. -/
def parallelOrderCard : Claim7 := { stood := { row := parallelOrderRow, standIns := [], harness := (true, "5b67a7bd92573f4b7781e8ed01e25ce9a3299c4a1aeaac849cc858320814f5bc"), looks := false }, kinds := [], alts := [], laidByText := true, laidKinds := [.data, .data], laidTests := true, laidLooks := .later }
def ParallelOrderCardSaid : Prop := Claim7.holds Tryd.pinned (.plain (OpenSpec.ofChange parallelOrderSpec)) parallelOrderCard

/-- THE SECOND FORM's CARD OF 'tactuslaw29.ParallelMade'. -/
def parallelMadeUptoCard : Claim7 := { stood := { row := parallelMadeUptoRow, standIns := [], harness := (true, "5b67a7bd92573f4b7781e8ed01e25ce9a3299c4a1aeaac849cc858320814f5bc"), looks := false }, kinds := [], alts := [], laidByText := true, laidKinds := [.data, .data], laidTests := true, laidLooks := .later }
def ParallelMadeUptoCardSaid : Prop := Claim7.holds Tryd.pinned (.plain (OpenSpec.upto parallelMadeSpec)) parallelMadeUptoCard

/-- THE SECOND FORM's CARD OF 'tactuslaw29.ParallelMoves'. -/
def parallelMovesUptoCard : Claim7 := { stood := { row := parallelMovesUptoRow, standIns := [], harness := (true, "5b67a7bd92573f4b7781e8ed01e25ce9a3299c4a1aeaac849cc858320814f5bc"), looks := false }, kinds := [], alts := [], laidByText := true, laidKinds := [.data, .data], laidTests := true, laidLooks := .later }
def ParallelMovesUptoCardSaid : Prop := Claim7.holds Tryd.pinned (.plain (OpenSpec.upto parallelMovesSpec)) parallelMovesUptoCard

/-- THE SECOND FORM's CARD OF 'tactuslaw29.ParallelKnown'. -/
def parallelKnownUptoCard : Claim7 := { stood := { row := parallelKnownUptoRow, standIns := [], harness := (true, "5b67a7bd92573f4b7781e8ed01e25ce9a3299c4a1aeaac849cc858320814f5bc"), looks := false }, kinds := [], alts := [], laidByText := true, laidKinds := [.data, .data], laidTests := true, laidLooks := .later }
def ParallelKnownUptoCardSaid : Prop := Claim7.holds Tryd.pinned (.plain (OpenSpec.upto parallelKnownSpec)) parallelKnownUptoCard

/-- THE SECOND FORM's CARD OF 'tactuslaw29.ParallelFinds'. -/
def parallelFindsUptoCard : Claim7 := { stood := { row := parallelFindsUptoRow, standIns := [], harness := (true, "5b67a7bd92573f4b7781e8ed01e25ce9a3299c4a1aeaac849cc858320814f5bc"), looks := false }, kinds := [], alts := [], laidByText := true, laidKinds := [.data, .data], laidTests := true, laidLooks := .later }
def ParallelFindsUptoCardSaid : Prop := Claim7.holds Tryd.pinned (.plain (OpenSpec.upto parallelFindsSpec)) parallelFindsUptoCard

/-- THE SECOND FORM's CARD OF 'tactuslaw29.ParallelTurns'. -/
def parallelTurnsUptoCard : Claim7 := { stood := { row := parallelTurnsUptoRow, standIns := [], harness := (true, "5b67a7bd92573f4b7781e8ed01e25ce9a3299c4a1aeaac849cc858320814f5bc"), looks := false }, kinds := [], alts := [], laidByText := true, laidKinds := [.data, .data], laidTests := true, laidLooks := .later }
def ParallelTurnsUptoCardSaid : Prop := Claim7.holds Tryd.pinned (.plain (OpenSpec.upto parallelTurnsSpec)) parallelTurnsUptoCard

/-- THE SECOND FORM's CARD OF 'tactuslaw29.ParallelOrder'. -/
def parallelOrderUptoCard : Claim7 := { stood := { row := parallelOrderUptoRow, standIns := [], harness := (true, "5b67a7bd92573f4b7781e8ed01e25ce9a3299c4a1aeaac849cc858320814f5bc"), looks := false }, kinds := [], alts := [], laidByText := true, laidKinds := [.data, .data], laidTests := true, laidLooks := .later }
def ParallelOrderUptoCardSaid : Prop := Claim7.holds Tryd.pinned (.plain (OpenSpec.upto parallelOrderSpec)) parallelOrderUptoCard
end Rows
end Go.Proofs.YtigfcbofbcpiaaaDoor
