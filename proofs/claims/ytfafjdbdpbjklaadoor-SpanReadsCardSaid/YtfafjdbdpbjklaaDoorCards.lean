/-
  DERIVED. GIVEN WITH THE SEED: THE CARDS: each row of YtfafjdbdpbjklaaDoorRows.lean that lists a variable, with what it lists TIED to the program's text (the seventh form; the later family's looks); each row that meets fmt, with fmt's text TOLD by the authors' own Lean function (tested against real Go, not proved from fmt's source: count such statements apart). THE CARD IS WHAT COUNTS. Prove the row's statement (the work); the ties are given (YtfafjdbdpbjklaaDoorTie.lean); close each card by the builder's one call (the guide's Derived/Test/ToyasCard.lean, 'card_holds'). Laid BY PROGRAM, IN A SANDBOX (cutbox-door.mjs). By AI agents, Wed Nov 11 2026. No macro, syntax, notation, axiom, sorry.
-/
import Derived.Test.YtfafjdbdpbjklaaDoorRows
import GoSem.ClaimSeven
namespace Go.Proofs.YtfafjdbdpbjklaaDoor
namespace Rows

/-- THE TIED CARD OF 'tactuslaw01.SpanMakes'. -/
def spanMakesCard : Claim7 := { stood := { row := spanMakesRow, standIns := [], harness := (true, "3c0c1442bfdd8462aff4a5026795931b645361c874d4b06674925434249835af"), looks := false }, kinds := [], alts := [], laidByText := true, laidKinds := [.data, .data, .data], laidTests := true, laidLooks := .later }
def SpanMakesCardSaid : Prop := Claim7.holds Tryd.pinned (.plain (OpenSpec.ofChange spanMakesSpec)) spanMakesCard

/-- THE TIED CARD OF 'tactuslaw01.SpanLists'. -/
def spanListsCard : Claim7 := { stood := { row := spanListsRow, standIns := [], harness := (true, "3c0c1442bfdd8462aff4a5026795931b645361c874d4b06674925434249835af"), looks := false }, kinds := [], alts := [], laidByText := true, laidKinds := [.data, .data, .data], laidTests := true, laidLooks := .later }
def SpanListsCardSaid : Prop := Claim7.holds Tryd.pinned (.plain (OpenSpec.ofChange spanListsSpec)) spanListsCard

/-- THE TIED CARD OF 'tactuslaw01.SpanWholes'. -/
def spanWholesCard : Claim7 := { stood := { row := spanWholesRow, standIns := [], harness := (true, "3c0c1442bfdd8462aff4a5026795931b645361c874d4b06674925434249835af"), looks := false }, kinds := [], alts := [], laidByText := true, laidKinds := [.data, .data, .data], laidTests := true, laidLooks := .later }
def SpanWholesCardSaid : Prop := Claim7.holds Tryd.pinned (.plain (OpenSpec.ofChange spanWholesSpec)) spanWholesCard

/-- THE TIED CARD OF 'tactuslaw01.SpanSums'. -/
def spanSumsCard : Claim7 := { stood := { row := spanSumsRow, standIns := [], harness := (true, "3c0c1442bfdd8462aff4a5026795931b645361c874d4b06674925434249835af"), looks := false }, kinds := [], alts := [], laidByText := true, laidKinds := [.data, .data, .data], laidTests := true, laidLooks := .later }
def SpanSumsCardSaid : Prop := Claim7.holds Tryd.pinned (.plain (OpenSpec.ofChange spanSumsSpec)) spanSumsCard

/-- THE TIED CARD OF 'tactuslaw01.SpanTexts'. -/
def spanTextsCard : Claim7 := { stood := { row := spanTextsRow, standIns := [], harness := (true, "3c0c1442bfdd8462aff4a5026795931b645361c874d4b06674925434249835af"), looks := false }, kinds := [], alts := [], laidByText := true, laidKinds := [.data, .data, .data], laidTests := true, laidLooks := .later }
def SpanTextsCardSaid : Prop := Claim7.holds Tryd.pinned (.plain (OpenSpec.ofChange spanTextsSpec)) spanTextsCard

/-- THE TIED CARD OF 'tactuslaw01.SpanKnown'. -/
def spanKnownCard : Claim7 := { stood := { row := spanKnownRow, standIns := [], harness := (true, "3c0c1442bfdd8462aff4a5026795931b645361c874d4b06674925434249835af"), looks := false }, kinds := [], alts := [], laidByText := true, laidKinds := [.data, .data, .data], laidTests := true, laidLooks := .later }
def SpanKnownCardSaid : Prop := Claim7.holds Tryd.pinned (.plain (OpenSpec.ofChange spanKnownSpec)) spanKnownCard

/-- THE TIED CARD OF 'tactuslaw01.SpanBack'. -/
def spanBackCard : Claim7 := { stood := { row := spanBackRow, standIns := [], harness := (true, "3c0c1442bfdd8462aff4a5026795931b645361c874d4b06674925434249835af"), looks := false }, kinds := [], alts := [], laidByText := true, laidKinds := [.data, .data, .data], laidTests := true, laidLooks := .later }
def SpanBackCardSaid : Prop := Claim7.holds Tryd.pinned (.plain (OpenSpec.ofChange spanBackSpec)) spanBackCard

/-- THE TIED CARD OF 'tactuslaw01.SpanOrder'. -/
def spanOrderCard : Claim7 := { stood := { row := spanOrderRow, standIns := [], harness := (true, "3c0c1442bfdd8462aff4a5026795931b645361c874d4b06674925434249835af"), looks := false }, kinds := [], alts := [], laidByText := true, laidKinds := [.data, .data, .data], laidTests := true, laidLooks := .later }
def SpanOrderCardSaid : Prop := Claim7.holds Tryd.pinned (.plain (OpenSpec.ofChange spanOrderSpec)) spanOrderCard

/-- THE TIED CARD OF 'tactuslaw01.SpanReads'. -/
def spanReadsCard : Claim7 := { stood := { row := spanReadsRow, standIns := [], harness := (true, "3c0c1442bfdd8462aff4a5026795931b645361c874d4b06674925434249835af"), looks := false }, kinds := [], alts := [], laidByText := true, laidKinds := [.data, .data, .data], laidTests := true, laidLooks := .later }
def SpanReadsCardSaid : Prop := Claim7.holds Tryd.pinned (.plain (OpenSpec.ofChange spanReadsSpec)) spanReadsCard

/-- THE TIED CARD OF 'tactuslaw01.SpanRests'. -/
def spanRestsCard : Claim7 := { stood := { row := spanRestsRow, standIns := [], harness := (true, "3c0c1442bfdd8462aff4a5026795931b645361c874d4b06674925434249835af"), looks := false }, kinds := [], alts := [], laidByText := true, laidKinds := [.data, .data, .data], laidTests := true, laidLooks := .later }
def SpanRestsCardSaid : Prop := Claim7.holds Tryd.pinned (.plain (OpenSpec.ofChange spanRestsSpec)) spanRestsCard

/-- THE SECOND FORM's CARD OF 'tactuslaw01.SpanMakes'. -/
def spanMakesUptoCard : Claim7 := { stood := { row := spanMakesUptoRow, standIns := [], harness := (true, "3c0c1442bfdd8462aff4a5026795931b645361c874d4b06674925434249835af"), looks := false }, kinds := [], alts := [], laidByText := true, laidKinds := [.data, .data, .data], laidTests := true, laidLooks := .later }
def SpanMakesUptoCardSaid : Prop := Claim7.holds Tryd.pinned (.plain (OpenSpec.upto spanMakesSpec)) spanMakesUptoCard

/-- THE SECOND FORM's CARD OF 'tactuslaw01.SpanLists'. -/
def spanListsUptoCard : Claim7 := { stood := { row := spanListsUptoRow, standIns := [], harness := (true, "3c0c1442bfdd8462aff4a5026795931b645361c874d4b06674925434249835af"), looks := false }, kinds := [], alts := [], laidByText := true, laidKinds := [.data, .data, .data], laidTests := true, laidLooks := .later }
def SpanListsUptoCardSaid : Prop := Claim7.holds Tryd.pinned (.plain (OpenSpec.upto spanListsSpec)) spanListsUptoCard

/-- THE SECOND FORM's CARD OF 'tactuslaw01.SpanWholes'. -/
def spanWholesUptoCard : Claim7 := { stood := { row := spanWholesUptoRow, standIns := [], harness := (true, "3c0c1442bfdd8462aff4a5026795931b645361c874d4b06674925434249835af"), looks := false }, kinds := [], alts := [], laidByText := true, laidKinds := [.data, .data, .data], laidTests := true, laidLooks := .later }
def SpanWholesUptoCardSaid : Prop := Claim7.holds Tryd.pinned (.plain (OpenSpec.upto spanWholesSpec)) spanWholesUptoCard

/-- THE SECOND FORM's CARD OF 'tactuslaw01.SpanSums'. -/
def spanSumsUptoCard : Claim7 := { stood := { row := spanSumsUptoRow, standIns := [], harness := (true, "3c0c1442bfdd8462aff4a5026795931b645361c874d4b06674925434249835af"), looks := false }, kinds := [], alts := [], laidByText := true, laidKinds := [.data, .data, .data], laidTests := true, laidLooks := .later }
def SpanSumsUptoCardSaid : Prop := Claim7.holds Tryd.pinned (.plain (OpenSpec.upto spanSumsSpec)) spanSumsUptoCard

/-- THE SECOND FORM's CARD OF 'tactuslaw01.SpanTexts'. -/
def spanTextsUptoCard : Claim7 := { stood := { row := spanTextsUptoRow, standIns := [], harness := (true, "3c0c1442bfdd8462aff4a5026795931b645361c874d4b06674925434249835af"), looks := false }, kinds := [], alts := [], laidByText := true, laidKinds := [.data, .data, .data], laidTests := true, laidLooks := .later }
def SpanTextsUptoCardSaid : Prop := Claim7.holds Tryd.pinned (.plain (OpenSpec.upto spanTextsSpec)) spanTextsUptoCard

/-- THE SECOND FORM's CARD OF 'tactuslaw01.SpanKnown'. -/
def spanKnownUptoCard : Claim7 := { stood := { row := spanKnownUptoRow, standIns := [], harness := (true, "3c0c1442bfdd8462aff4a5026795931b645361c874d4b06674925434249835af"), looks := false }, kinds := [], alts := [], laidByText := true, laidKinds := [.data, .data, .data], laidTests := true, laidLooks := .later }
def SpanKnownUptoCardSaid : Prop := Claim7.holds Tryd.pinned (.plain (OpenSpec.upto spanKnownSpec)) spanKnownUptoCard

/-- THE SECOND FORM's CARD OF 'tactuslaw01.SpanBack'. -/
def spanBackUptoCard : Claim7 := { stood := { row := spanBackUptoRow, standIns := [], harness := (true, "3c0c1442bfdd8462aff4a5026795931b645361c874d4b06674925434249835af"), looks := false }, kinds := [], alts := [], laidByText := true, laidKinds := [.data, .data, .data], laidTests := true, laidLooks := .later }
def SpanBackUptoCardSaid : Prop := Claim7.holds Tryd.pinned (.plain (OpenSpec.upto spanBackSpec)) spanBackUptoCard

/-- THE SECOND FORM's CARD OF 'tactuslaw01.SpanOrder'. -/
def spanOrderUptoCard : Claim7 := { stood := { row := spanOrderUptoRow, standIns := [], harness := (true, "3c0c1442bfdd8462aff4a5026795931b645361c874d4b06674925434249835af"), looks := false }, kinds := [], alts := [], laidByText := true, laidKinds := [.data, .data, .data], laidTests := true, laidLooks := .later }
def SpanOrderUptoCardSaid : Prop := Claim7.holds Tryd.pinned (.plain (OpenSpec.upto spanOrderSpec)) spanOrderUptoCard

/-- THE SECOND FORM's CARD OF 'tactuslaw01.SpanReads'. -/
def spanReadsUptoCard : Claim7 := { stood := { row := spanReadsUptoRow, standIns := [], harness := (true, "3c0c1442bfdd8462aff4a5026795931b645361c874d4b06674925434249835af"), looks := false }, kinds := [], alts := [], laidByText := true, laidKinds := [.data, .data, .data], laidTests := true, laidLooks := .later }
def SpanReadsUptoCardSaid : Prop := Claim7.holds Tryd.pinned (.plain (OpenSpec.upto spanReadsSpec)) spanReadsUptoCard

/-- THE SECOND FORM's CARD OF 'tactuslaw01.SpanRests'. -/
def spanRestsUptoCard : Claim7 := { stood := { row := spanRestsUptoRow, standIns := [], harness := (true, "3c0c1442bfdd8462aff4a5026795931b645361c874d4b06674925434249835af"), looks := false }, kinds := [], alts := [], laidByText := true, laidKinds := [.data, .data, .data], laidTests := true, laidLooks := .later }
def SpanRestsUptoCardSaid : Prop := Claim7.holds Tryd.pinned (.plain (OpenSpec.upto spanRestsSpec)) spanRestsUptoCard
end Rows
end Go.Proofs.YtfafjdbdpbjklaaDoor
