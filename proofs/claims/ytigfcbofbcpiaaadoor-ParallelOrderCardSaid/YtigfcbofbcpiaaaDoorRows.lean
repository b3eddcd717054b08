/-
  NARROWER THAN 'FOR EVERY INPUT', by the rows' own cells (each row's printed sentence says how): ParallelMade: laid · ParallelMoves: laid · ParallelKnown: laid · ParallelFinds: laid · ParallelTurns: laid · ParallelOrder: laid.
  DERIVED. THE GIVEN ROWS OF THIS SEAT. 6 by the template 'for every input the law returns true; each argument reads behind the call as it read before'; 0 by the template 'total and deterministic' (their statements: YtigfcbofbcpiaaaDoorTotals.lean).
  GIVEN WITH THE SEED: the statements are not yours to turn. If you find one false, say at which input.
  Laid BY PROGRAM, IN A SANDBOX (cutbox-rows.mjs): the forced cells as the released guide's own fill.sh prints them over the translation f26fec9ba777d5fc… (all of the seat's roots in one cut). By AI agents, Wed Nov 11 2026. No macro, syntax, notation, axiom, sorry.
-/
import Derived.Test.YtigfcbofbcpiaaaDoorChecked
import GoSem.Claim
import GoSem.ClaimJoined
import GoSem.ClaimMapViews
import Derived.JoinedTies
import Derived.KernelRfl
namespace Go.Proofs.YtigfcbofbcpiaaaDoor
/- THE CELL 'sum', in the pinned program and in every row, IS THE sha256 OF THE DUMP (.gsa) THAT YtigfcbofbcpiaaaDoorProg.lean LOADS. Nothing in Lean hashes anything: it is a label: what it is worth is what the hold of that sum in a sandbox is worth. -/
noncomputable def Tryd.pinned : Pinned := { name := "ytigfcbofbcpiaaadoor", sum := "f26fec9ba777d5fc6e5b917d9b39e5e396215b20ed7fc0cc3784269e821041ad", checked := Tryd.checked }
namespace Rows
def none {H : Type} : Left H := { results := [], args := [] }

/- WHAT THE LISTED PACKAGE-LEVEL VARIABLES READ AS WHEN THE CALL BEGINS. Each datum BY PROGRAM (the guide's laid-datum.mjs) off the statement by which the dump's own 'gosem.cut.vars' lays the variable. In a bare row this is a premise. The card (YtigfcbofbcpiaaaDoorCards.lean) ties it to the program's text. -/
def laid_tactus_pitch_halves {H : Type} : DataW H := .agg [.lit (.int .i64 0), .lit (.int .i64 2), .lit (.int .i64 4), .lit (.int .i64 5), .lit (.int .i64 7), .lit (.int .i64 9), .lit (.int .i64 11)]
def laid_tactus_interval_kinds {H : Type} : DataW H := .agg [.agg [.lit (.int .i64 1), .lit (.int .i64 0), .lit (.int .i64 0), .lit (.int .i64 0), .lit (.int .i64 0), .lit (.int .i64 0), .lit (.int .i64 0), .lit (.int .i64 0), .lit (.int .i64 0), .lit (.int .i64 0), .lit (.int .i64 0), .lit (.int .i64 0), .lit (.int .i64 0)], .agg [.lit (.int .i64 0), .lit (.int .i64 0), .lit (.int .i64 0), .lit (.int .i64 0), .lit (.int .i64 0), .lit (.int .i64 0), .lit (.int .i64 0), .lit (.int .i64 0), .lit (.int .i64 0), .lit (.int .i64 0), .lit (.int .i64 0), .lit (.int .i64 0), .lit (.int .i64 0)], .agg [.lit (.int .i64 0), .lit (.int .i64 0), .lit (.int .i64 0), .lit (.int .i64 2), .lit (.int .i64 2), .lit (.int .i64 0), .lit (.int .i64 0), .lit (.int .i64 0), .lit (.int .i64 0), .lit (.int .i64 0), .lit (.int .i64 0), .lit (.int .i64 0), .lit (.int .i64 0)], .agg [.lit (.int .i64 0), .lit (.int .i64 0), .lit (.int .i64 0), .lit (.int .i64 0), .lit (.int .i64 0), .lit (.int .i64 3), .lit (.int .i64 4), .lit (.int .i64 0), .lit (.int .i64 0), .lit (.int .i64 0), .lit (.int .i64 0), .lit (.int .i64 0), .lit (.int .i64 0)], .agg [.lit (.int .i64 0), .lit (.int .i64 0), .lit (.int .i64 0), .lit (.int .i64 0), .lit (.int .i64 0), .lit (.int .i64 0), .lit (.int .i64 4), .lit (.int .i64 1), .lit (.int .i64 0), .lit (.int .i64 0), .lit (.int .i64 0), .lit (.int .i64 0), .lit (.int .i64 0)], .agg [.lit (.int .i64 0), .lit (.int .i64 0), .lit (.int .i64 0), .lit (.int .i64 0), .lit (.int .i64 0), .lit (.int .i64 0), .lit (.int .i64 0), .lit (.int .i64 0), .lit (.int .i64 2), .lit (.int .i64 2), .lit (.int .i64 0), .lit (.int .i64 0), .lit (.int .i64 0)], .agg [.lit (.int .i64 0), .lit (.int .i64 0), .lit (.int .i64 0), .lit (.int .i64 0), .lit (.int .i64 0), .lit (.int .i64 0), .lit (.int .i64 0), .lit (.int .i64 0), .lit (.int .i64 0), .lit (.int .i64 0), .lit (.int .i64 0), .lit (.int .i64 0), .lit (.int .i64 0)]]

/-- 'tactuslaw29.ParallelMade': WHATEVER THE INPUT: true; the input reads as it did. -/
def parallelMadeSpec : ChangeSpec := { name := "parallelMade", fn := fun _ => fun
  | [d1, d2, d3] => { results := [.lit (.bool true)], args := [d1, d2, d3] }
  | _ => none }
def parallelMadeRow : OpenClaim := { program := "ytigfcbofbcpiaaadoor", sum := "f26fec9ba777d5fc6e5b917d9b39e5e396215b20ed7fc0cc3784269e821041ad", func := "tactus/tactuslaw29.ParallelMade", spec := "parallelMade", unfollowed := true, recurses := true, named := ["tactus/interval.kinds", "tactus/pitch.halves"], apart := false, laid := [("tactus/pitch.halves", laid_tactus_pitch_halves), ("tactus/interval.kinds", laid_tactus_interval_kinds)] }
def ParallelMadeSaid : Prop := parallelMadeRow.holds Tryd.pinned (OpenSpec.ofChange parallelMadeSpec)

/-- ITS FALSE NEIGHBOUR: 'it returns false'. Refute it at one input. -/
def parallelMadeWrong : ChangeSpec := { name := "parallelMade", fn := fun _ => fun
  | [d1, d2, d3] => { results := [.lit (.bool false)], args := [d1, d2, d3] }
  | _ => none }
def ParallelMadeWrongFalsely : Prop := parallelMadeRow.holds Tryd.pinned (OpenSpec.ofChange parallelMadeWrong)

/-- 'tactuslaw29.ParallelMoves': WHATEVER THE INPUT: true; the input reads as it did. -/
def parallelMovesSpec : ChangeSpec := { name := "parallelMoves", fn := fun _ => fun
  | [d1, d2, d3] => { results := [.lit (.bool true)], args := [d1, d2, d3] }
  | _ => none }
def parallelMovesRow : OpenClaim := { program := "ytigfcbofbcpiaaadoor", sum := "f26fec9ba777d5fc6e5b917d9b39e5e396215b20ed7fc0cc3784269e821041ad", func := "tactus/tactuslaw29.ParallelMoves", spec := "parallelMoves", unfollowed := true, recurses := true, named := ["tactus/interval.kinds", "tactus/pitch.halves"], apart := false, laid := [("tactus/pitch.halves", laid_tactus_pitch_halves), ("tactus/interval.kinds", laid_tactus_interval_kinds)] }
def ParallelMovesSaid : Prop := parallelMovesRow.holds Tryd.pinned (OpenSpec.ofChange parallelMovesSpec)

/-- ITS FALSE NEIGHBOUR: 'it returns false'. Refute it at one input. -/
def parallelMovesWrong : ChangeSpec := { name := "parallelMoves", fn := fun _ => fun
  | [d1, d2, d3] => { results := [.lit (.bool false)], args := [d1, d2, d3] }
  | _ => none }
def ParallelMovesWrongFalsely : Prop := parallelMovesRow.holds Tryd.pinned (OpenSpec.ofChange parallelMovesWrong)

/-- 'tactuslaw29.ParallelKnown': WHATEVER THE INPUT: true; the input reads as it did. -/
def parallelKnownSpec : ChangeSpec := { name := "parallelKnown", fn := fun _ => fun
  | [] => { results := [.lit (.bool true)], args := [] }
  | _ => none }
def parallelKnownRow : OpenClaim := { program := "ytigfcbofbcpiaaadoor", sum := "f26fec9ba777d5fc6e5b917d9b39e5e396215b20ed7fc0cc3784269e821041ad", func := "tactus/tactuslaw29.ParallelKnown", spec := "parallelKnown", unfollowed := true, recurses := true, named := ["tactus/interval.kinds", "tactus/pitch.halves"], apart := false, laid := [("tactus/pitch.halves", laid_tactus_pitch_halves), ("tactus/interval.kinds", laid_tactus_interval_kinds)] }
def ParallelKnownSaid : Prop := parallelKnownRow.holds Tryd.pinned (OpenSpec.ofChange parallelKnownSpec)

/-- ITS FALSE NEIGHBOUR: 'it returns false'. Refute it at one input. -/
def parallelKnownWrong : ChangeSpec := { name := "parallelKnown", fn := fun _ => fun
  | [] => { results := [.lit (.bool false)], args := [] }
  | _ => none }
def ParallelKnownWrongFalsely : Prop := parallelKnownRow.holds Tryd.pinned (OpenSpec.ofChange parallelKnownWrong)

/-- 'tactuslaw29.ParallelFinds': WHATEVER THE INPUT: true; the input reads as it did. -/
def parallelFindsSpec : ChangeSpec := { name := "parallelFinds", fn := fun _ => fun
  | [d1, d2, d3] => { results := [.lit (.bool true)], args := [d1, d2, d3] }
  | _ => none }
def parallelFindsRow : OpenClaim := { program := "ytigfcbofbcpiaaadoor", sum := "f26fec9ba777d5fc6e5b917d9b39e5e396215b20ed7fc0cc3784269e821041ad", func := "tactus/tactuslaw29.ParallelFinds", spec := "parallelFinds", unfollowed := true, recurses := true, named := ["tactus/interval.kinds", "tactus/pitch.halves"], apart := false, laid := [("tactus/pitch.halves", laid_tactus_pitch_halves), ("tactus/interval.kinds", laid_tactus_interval_kinds)] }
def ParallelFindsSaid : Prop := parallelFindsRow.holds Tryd.pinned (OpenSpec.ofChange parallelFindsSpec)

/-- ITS FALSE NEIGHBOUR: 'it returns false'. Refute it at one input. -/
def parallelFindsWrong : ChangeSpec := { name := "parallelFinds", fn := fun _ => fun
  | [d1, d2, d3] => { results := [.lit (.bool false)], args := [d1, d2, d3] }
  | _ => none }
def ParallelFindsWrongFalsely : Prop := parallelFindsRow.holds Tryd.pinned (OpenSpec.ofChange parallelFindsWrong)

/-- 'tactuslaw29.ParallelTurns': WHATEVER THE INPUT: true; the input reads as it did. -/
def parallelTurnsSpec : ChangeSpec := { name := "parallelTurns", fn := fun _ => fun
  | [d1, d2, d3] => { results := [.lit (.bool true)], args := [d1, d2, d3] }
  | _ => none }
def parallelTurnsRow : OpenClaim := { program := "ytigfcbofbcpiaaadoor", sum := "f26fec9ba777d5fc6e5b917d9b39e5e396215b20ed7fc0cc3784269e821041ad", func := "tactus/tactuslaw29.ParallelTurns", spec := "parallelTurns", unfollowed := true, recurses := true, named := ["tactus/interval.kinds", "tactus/pitch.halves"], apart := false, laid := [("tactus/pitch.halves", laid_tactus_pitch_halves), ("tactus/interval.kinds", laid_tactus_interval_kinds)] }
def ParallelTurnsSaid : Prop := parallelTurnsRow.holds Tryd.pinned (OpenSpec.ofChange parallelTurnsSpec)

/-- ITS FALSE NEIGHBOUR: 'it returns false'. Refute it at one input. -/
def parallelTurnsWrong : ChangeSpec := { name := "parallelTurns", fn := fun _ => fun
  | [d1, d2, d3] => { results := [.lit (.bool false)], args := [d1, d2, d3] }
  | _ => none }
def ParallelTurnsWrongFalsely : Prop := parallelTurnsRow.holds Tryd.pinned (OpenSpec.ofChange parallelTurnsWrong)

/-- 'tactuslaw29.ParallelOrder': WHATEVER THE INPUT: true; the input reads as it did. -/
def parallelOrderSpec : ChangeSpec := { name := "parallelOrder", fn := fun _ => fun
  | [d1, d2] => { results := [.lit (.bool true)], args := [d1, d2] }
  | _ => none }
def parallelOrderRow : OpenClaim := { program := "ytigfcbofbcpiaaadoor", sum := "f26fec9ba777d5fc6e5b917d9b39e5e396215b20ed7fc0cc3784269e821041ad", func := "tactus/tactuslaw29.ParallelOrder", spec := "parallelOrder", unfollowed := true, recurses := true, named := ["tactus/interval.kinds", "tactus/pitch.halves"], apart := false, laid := [("tactus/pitch.halves", laid_tactus_pitch_halves), ("tactus/interval.kinds", laid_tactus_interval_kinds)] }
def ParallelOrderSaid : Prop := parallelOrderRow.holds Tryd.pinned (OpenSpec.ofChange parallelOrderSpec)

/-- ITS FALSE NEIGHBOUR: 'it returns false'. Refute it at one input. -/
def parallelOrderWrong : ChangeSpec := { name := "parallelOrder", fn := fun _ => fun
  | [d1, d2] => { results := [.lit (.bool false)], args := [d1, d2] }
  | _ => none }
def ParallelOrderWrongFalsely : Prop := parallelOrderRow.holds Tryd.pinned (OpenSpec.ofChange parallelOrderWrong)

/- THE SECOND FORM. 'bulk': how many values and letters a reading holds, each counted each time it is reached (what is shared counts as often as it is met; a slice's spare places count too). A statement '..UptoSaid' is the law's where the arguments, and the package variables that the reading takes, are together of bulk at most 1048576: NARROWER than '..Said'. Prove '..Said' where nothing that the law and all that it calls make is longer than what came in: it says more and counts as full. Else prove '..UptoSaid'. A law counts once. -/
mutual
def uptoBulk {H : Type} : DataW H → Nat
  | .lit (.string bytes) => bytes.length + 1
  | .lit _ => 1
  | .nil => 1
  | .ptr d => uptoBulk d + 1
  | .slice elems spare => uptoBulkAll elems + uptoBulkAll spare + 1
  | .agg parts => uptoBulkAll parts + 1
  | .iface _ d => uptoBulk d + 1
  | .map entries => uptoBulkEntries entries + 1
  | .held _ => 1
def uptoBulkAll {H : Type} : List (DataW H) → Nat
  | [] => 0
  | d :: r => uptoBulk d + uptoBulkAll r
def uptoBulkEntries {H : Type} : List (Lit × DataW H) → Nat
  | [] => 0
  | x :: r => uptoBulkEntry x + uptoBulkEntries r
def uptoBulkEntry {H : Type} : Lit × DataW H → Nat
  | (.string bytes, d) => bytes.length + uptoBulk d + 1
  | (_, d) => uptoBulk d + 1
 end
def uptoSmall : (H : Type) → List (DataW H) → Bool := fun _ ds => decide (uptoBulkAll ds ≤ 1048576)
def OpenSpec.upto (s : _root_.Go.ChangeSpec) : _root_.Go.OpenSpec := { _root_.Go.OpenSpec.ofChange s with cond := some uptoSmall }

/-- 'tactuslaw29.ParallelMade', WHERE WHAT IT READS IS OF BULK AT MOST 1048576: true; the input reads as it did. -/
def parallelMadeUptoRow : OpenClaim := { program := "ytigfcbofbcpiaaadoor", sum := "f26fec9ba777d5fc6e5b917d9b39e5e396215b20ed7fc0cc3784269e821041ad", func := "tactus/tactuslaw29.ParallelMade", spec := "parallelMade", unfollowed := true, recurses := true, named := ["tactus/interval.kinds", "tactus/pitch.halves"], apart := false, laid := [("tactus/pitch.halves", laid_tactus_pitch_halves), ("tactus/interval.kinds", laid_tactus_interval_kinds)], narrowed := true }
def ParallelMadeUptoSaid : Prop := parallelMadeUptoRow.holds Tryd.pinned (OpenSpec.upto parallelMadeSpec)

/-- 'tactuslaw29.ParallelMoves', WHERE WHAT IT READS IS OF BULK AT MOST 1048576: true; the input reads as it did. -/
def parallelMovesUptoRow : OpenClaim := { program := "ytigfcbofbcpiaaadoor", sum := "f26fec9ba777d5fc6e5b917d9b39e5e396215b20ed7fc0cc3784269e821041ad", func := "tactus/tactuslaw29.ParallelMoves", spec := "parallelMoves", unfollowed := true, recurses := true, named := ["tactus/interval.kinds", "tactus/pitch.halves"], apart := false, laid := [("tactus/pitch.halves", laid_tactus_pitch_halves), ("tactus/interval.kinds", laid_tactus_interval_kinds)], narrowed := true }
def ParallelMovesUptoSaid : Prop := parallelMovesUptoRow.holds Tryd.pinned (OpenSpec.upto parallelMovesSpec)

/-- 'tactuslaw29.ParallelKnown', WHERE WHAT IT READS IS OF BULK AT MOST 1048576: true; the input reads as it did. -/
def parallelKnownUptoRow : OpenClaim := { program := "ytigfcbofbcpiaaadoor", sum := "f26fec9ba777d5fc6e5b917d9b39e5e396215b20ed7fc0cc3784269e821041ad", func := "tactus/tactuslaw29.ParallelKnown", spec := "parallelKnown", unfollowed := true, recurses := true, named := ["tactus/interval.kinds", "tactus/pitch.halves"], apart := false, laid := [("tactus/pitch.halves", laid_tactus_pitch_halves), ("tactus/interval.kinds", laid_tactus_interval_kinds)], narrowed := true }
def ParallelKnownUptoSaid : Prop := parallelKnownUptoRow.holds Tryd.pinned (OpenSpec.upto parallelKnownSpec)

/-- 'tactuslaw29.ParallelFinds', WHERE WHAT IT READS IS OF BULK AT MOST 1048576: true; the input reads as it did. -/
def parallelFindsUptoRow : OpenClaim := { program := "ytigfcbofbcpiaaadoor", sum := "f26fec9ba777d5fc6e5b917d9b39e5e396215b20ed7fc0cc3784269e821041ad", func := "tactus/tactuslaw29.ParallelFinds", spec := "parallelFinds", unfollowed := true, recurses := true, named := ["tactus/interval.kinds", "tactus/pitch.halves"], apart := false, laid := [("tactus/pitch.halves", laid_tactus_pitch_halves), ("tactus/interval.kinds", laid_tactus_interval_kinds)], narrowed := true }
def ParallelFindsUptoSaid : Prop := parallelFindsUptoRow.holds Tryd.pinned (OpenSpec.upto parallelFindsSpec)

/-- 'tactuslaw29.ParallelTurns', WHERE WHAT IT READS IS OF BULK AT MOST 1048576: true; the input reads as it did. -/
def parallelTurnsUptoRow : OpenClaim := { program := "ytigfcbofbcpiaaadoor", sum := "f26fec9ba777d5fc6e5b917d9b39e5e396215b20ed7fc0cc3784269e821041ad", func := "tactus/tactuslaw29.ParallelTurns", spec := "parallelTurns", unfollowed := true, recurses := true, named := ["tactus/interval.kinds", "tactus/pitch.halves"], apart := false, laid := [("tactus/pitch.halves", laid_tactus_pitch_halves), ("tactus/interval.kinds", laid_tactus_interval_kinds)], narrowed := true }
def ParallelTurnsUptoSaid : Prop := parallelTurnsUptoRow.holds Tryd.pinned (OpenSpec.upto parallelTurnsSpec)

/-- 'tactuslaw29.ParallelOrder', WHERE WHAT IT READS IS OF BULK AT MOST 1048576: true; the input reads as it did. -/
def parallelOrderUptoRow : OpenClaim := { program := "ytigfcbofbcpiaaadoor", sum := "f26fec9ba777d5fc6e5b917d9b39e5e396215b20ed7fc0cc3784269e821041ad", func := "tactus/tactuslaw29.ParallelOrder", spec := "parallelOrder", unfollowed := true, recurses := true, named := ["tactus/interval.kinds", "tactus/pitch.halves"], apart := false, laid := [("tactus/pitch.halves", laid_tactus_pitch_halves), ("tactus/interval.kinds", laid_tactus_interval_kinds)], narrowed := true }
def ParallelOrderUptoSaid : Prop := parallelOrderUptoRow.holds Tryd.pinned (OpenSpec.upto parallelOrderSpec)

end Rows
end Go.Proofs.YtigfcbofbcpiaaaDoor
