/-
  DERIVED. GIVEN WITH THE SEED: THE CARDS: each row of YtmlcnmnpkemdpaaGreatDoorRows.lean that lists a variable, with what it lists TIED to the program's text (the seventh form; the later family's looks); each row that meets fmt, with fmt's text TOLD by the authors' own Lean function (tested against real Go, not proved from fmt's source: count such statements apart). THE CARD IS WHAT COUNTS. Prove the row's statement (the work); the ties are given (YtmlcnmnpkemdpaaGreatDoorTie.lean); close each card by the builder's one call (the guide's Derived/Test/ToyasCard.lean, 'card_holds'). Laid BY PROGRAM, IN A SANDBOX (cutbox-door.mjs). By AI agents, Wed Nov 11 2026. No macro, syntax, notation, axiom, sorry.
-/
import Derived.Test.YtmlcnmnpkemdpaaGreatDoorRows
import GoSem.ClaimSeven
namespace Go.Proofs.YtmlcnmnpkemdpaaGreatDoor
namespace Rows

/-- THE TIED CARD OF 'tactuslaw32.DissonanceAll'. -/
def dissonanceAllCard : Claim7 := { stood := { row := dissonanceAllRow, standIns := [], harness := (true, "90de871bb6fcc9157256dbfc45806bd12514ae55eb0ae604f7c0eeedf6406431"), looks := false }, kinds := [], alts := [], laidByText := true, laidKinds := [.data, .data], laidTests := true, laidLooks := .later }
def DissonanceAllCardSaid : Prop := Claim7.holds Tryz.pinned (.plain (OpenSpec.ofChange dissonanceAllSpec)) dissonanceAllCard

/-- THE SECOND FORM's CARD OF 'tactuslaw32.DissonanceAll'. -/
def dissonanceAllUptoCard : Claim7 := { stood := { row := dissonanceAllUptoRow, standIns := [], harness := (true, "90de871bb6fcc9157256dbfc45806bd12514ae55eb0ae604f7c0eeedf6406431"), looks := false }, kinds := [], alts := [], laidByText := true, laidKinds := [.data, .data], laidTests := true, laidLooks := .later }
def DissonanceAllUptoCardSaid : Prop := Claim7.holds Tryz.pinned (.plain (OpenSpec.upto dissonanceAllSpec)) dissonanceAllUptoCard
end Rows
end Go.Proofs.YtmlcnmnpkemdpaaGreatDoor
