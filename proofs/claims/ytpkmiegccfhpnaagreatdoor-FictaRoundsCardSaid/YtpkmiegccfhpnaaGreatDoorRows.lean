/-
  NARROWER THAN 'FOR EVERY INPUT', by the rows' own cells (each row's printed sentence says how): FictaChecks: laid · FictaKnown: laid · FictaKeeps: laid · FictaAlone: laid · FictaLetters: laid · FictaRounds: laid · FictaEnds: laid.
  DERIVED. THE GIVEN ROWS OF THIS SEAT. 7 by the template 'for every input the law returns true; each argument reads behind the call as it read before'; 0 by the template 'total and deterministic' (their statements: YtpkmiegccfhpnaaGreatDoorTotals.lean).
  GIVEN WITH THE SEED: the statements are not yours to turn. If you find one false, say at which input.
  Laid BY PROGRAM, IN A SANDBOX (cutbox-rows.mjs): the forced cells as the released guide's own fill.sh prints them over the translation 87f2fbf7801142ab… (all of the seat's roots in one cut). By AI agents, Wed Nov 11 2026. No macro, syntax, notation, axiom, sorry.
-/
import Derived.Test.YtpkmiegccfhpnaaGreatDoorChecked
import GoSem.Claim
import GoSem.ClaimJoined
import GoSem.ClaimMapViews
import Derived.JoinedTies
import Derived.KernelRfl
namespace Go.Proofs.YtpkmiegccfhpnaaGreatDoor
/- THE CELL 'sum', in the pinned program and in every row, IS THE sha256 OF THE DUMP (.gsa) THAT YtpkmiegccfhpnaaGreatDoorProg.lean LOADS. Nothing in Lean hashes anything: it is a label: what it is worth is what the hold of that sum in a sandbox is worth. -/
noncomputable def Tryz.pinned : Pinned := { name := "ytpkmiegccfhpnaagreatdoor", sum := "87f2fbf7801142ab173bf993ee6caf2f1be9c8f1a275d0e9f98d378221f11339", checked := Tryz.checked }
namespace Rows
def none {H : Type} : Left H := { results := [], args := [] }

/- WHAT THE LISTED PACKAGE-LEVEL VARIABLES READ AS WHEN THE CALL BEGINS. Each datum BY PROGRAM (the guide's laid-datum.mjs) off the statement by which the dump's own 'gosem.cut.vars' lays the variable. In a bare row this is a premise. The card (YtpkmiegccfhpnaaGreatDoorCards.lean) ties it to the program's text. -/
def laid_tactus_pitch_halves {H : Type} : DataW H := .agg [.lit (.int .i64 0), .lit (.int .i64 2), .lit (.int .i64 4), .lit (.int .i64 5), .lit (.int .i64 7), .lit (.int .i64 9), .lit (.int .i64 11)]
def laid_tactus_interval_kinds {H : Type} : DataW H := .agg [.agg [.lit (.int .i64 1), .lit (.int .i64 0), .lit (.int .i64 0), .lit (.int .i64 0), .lit (.int .i64 0), .lit (.int .i64 0), .lit (.int .i64 0), .lit (.int .i64 0), .lit (.int .i64 0), .lit (.int .i64 0), .lit (.int .i64 0), .lit (.int .i64 0), .lit (.int .i64 0)], .agg [.lit (.int .i64 0), .lit (.int .i64 0), .lit (.int .i64 0), .lit (.int .i64 0), .lit (.int .i64 0), .lit (.int .i64 0), .lit (.int .i64 0), .lit (.int .i64 0), .lit (.int .i64 0), .lit (.int .i64 0), .lit (.int .i64 0), .lit (.int .i64 0), .lit (.int .i64 0)], .agg [.lit (.int .i64 0), .lit (.int .i64 0), .lit (.int .i64 0), .lit (.int .i64 2), .lit (.int .i64 2), .lit (.int .i64 0), .lit (.int .i64 0), .lit (.int .i64 0), .lit (.int .i64 0), .lit (.int .i64 0), .lit (.int .i64 0), .lit (.int .i64 0), .lit (.int .i64 0)], .agg [.lit (.int .i64 0), .lit (.int .i64 0), .lit (.int .i64 0), .lit (.int .i64 0), .lit (.int .i64 0), .lit (.int .i64 3), .lit (.int .i64 4), .lit (.int .i64 0), .lit (.int .i64 0), .lit (.int .i64 0), .lit (.int .i64 0), .lit (.int .i64 0), .lit (.int .i64 0)], .agg [.lit (.int .i64 0), .lit (.int .i64 0), .lit (.int .i64 0), .lit (.int .i64 0), .lit (.int .i64 0), .lit (.int .i64 0), .lit (.int .i64 4), .lit (.int .i64 1), .lit (.int .i64 0), .lit (.int .i64 0), .lit (.int .i64 0), .lit (.int .i64 0), .lit (.int .i64 0)], .agg [.lit (.int .i64 0), .lit (.int .i64 0), .lit (.int .i64 0), .lit (.int .i64 0), .lit (.int .i64 0), .lit (.int .i64 0), .lit (.int .i64 0), .lit (.int .i64 0), .lit (.int .i64 2), .lit (.int .i64 2), .lit (.int .i64 0), .lit (.int .i64 0), .lit (.int .i64 0)], .agg [.lit (.int .i64 0), .lit (.int .i64 0), .lit (.int .i64 0), .lit (.int .i64 0), .lit (.int .i64 0), .lit (.int .i64 0), .lit (.int .i64 0), .lit (.int .i64 0), .lit (.int .i64 0), .lit (.int .i64 0), .lit (.int .i64 0), .lit (.int .i64 0), .lit (.int .i64 0)]]

/-- 'tactuslaw31.FictaChecks': WHATEVER THE INPUT: true; the input reads as it did. -/
def fictaChecksSpec : ChangeSpec := { name := "fictaChecks", fn := fun _ => fun
  | [d1, d2] => { results := [.lit (.bool true)], args := [d1, d2] }
  | _ => none }
def fictaChecksRow : OpenClaim := { program := "ytpkmiegccfhpnaagreatdoor", sum := "87f2fbf7801142ab173bf993ee6caf2f1be9c8f1a275d0e9f98d378221f11339", func := "tactus/tactuslaw31.FictaChecks", spec := "fictaChecks", unfollowed := true, recurses := true, named := ["tactus/pitch.halves", "tactus/interval.kinds"], plainKeys := false, apart := false, laid := [("tactus/pitch.halves", laid_tactus_pitch_halves), ("tactus/interval.kinds", laid_tactus_interval_kinds)] }
def FictaChecksSaid : Prop := fictaChecksRow.holds Tryz.pinned (OpenSpec.ofChange fictaChecksSpec)

/-- ITS FALSE NEIGHBOUR: 'it returns false'. Refute it at one input. -/
def fictaChecksWrong : ChangeSpec := { name := "fictaChecks", fn := fun _ => fun
  | [d1, d2] => { results := [.lit (.bool false)], args := [d1, d2] }
  | _ => none }
def FictaChecksWrongFalsely : Prop := fictaChecksRow.holds Tryz.pinned (OpenSpec.ofChange fictaChecksWrong)

/-- 'tactuslaw31.FictaKnown': WHATEVER THE INPUT: true; the input reads as it did. -/
def fictaKnownSpec : ChangeSpec := { name := "fictaKnown", fn := fun _ => fun
  | [] => { results := [.lit (.bool true)], args := [] }
  | _ => none }
def fictaKnownRow : OpenClaim := { program := "ytpkmiegccfhpnaagreatdoor", sum := "87f2fbf7801142ab173bf993ee6caf2f1be9c8f1a275d0e9f98d378221f11339", func := "tactus/tactuslaw31.FictaKnown", spec := "fictaKnown", unfollowed := true, recurses := true, named := ["tactus/pitch.halves", "tactus/interval.kinds"], plainKeys := false, apart := false, laid := [("tactus/pitch.halves", laid_tactus_pitch_halves), ("tactus/interval.kinds", laid_tactus_interval_kinds)] }
def FictaKnownSaid : Prop := fictaKnownRow.holds Tryz.pinned (OpenSpec.ofChange fictaKnownSpec)

/-- ITS FALSE NEIGHBOUR: 'it returns false'. Refute it at one input. -/
def fictaKnownWrong : ChangeSpec := { name := "fictaKnown", fn := fun _ => fun
  | [] => { results := [.lit (.bool false)], args := [] }
  | _ => none }
def FictaKnownWrongFalsely : Prop := fictaKnownRow.holds Tryz.pinned (OpenSpec.ofChange fictaKnownWrong)

/-- 'tactuslaw31.FictaKeeps': WHATEVER THE INPUT: true; the input reads as it did. -/
def fictaKeepsSpec : ChangeSpec := { name := "fictaKeeps", fn := fun _ => fun
  | [d1, d2, d3] => { results := [.lit (.bool true)], args := [d1, d2, d3] }
  | _ => none }
def fictaKeepsRow : OpenClaim := { program := "ytpkmiegccfhpnaagreatdoor", sum := "87f2fbf7801142ab173bf993ee6caf2f1be9c8f1a275d0e9f98d378221f11339", func := "tactus/tactuslaw31.FictaKeeps", spec := "fictaKeeps", unfollowed := true, recurses := true, named := ["tactus/pitch.halves", "tactus/interval.kinds"], plainKeys := false, apart := false, laid := [("tactus/pitch.halves", laid_tactus_pitch_halves), ("tactus/interval.kinds", laid_tactus_interval_kinds)] }
def FictaKeepsSaid : Prop := fictaKeepsRow.holds Tryz.pinned (OpenSpec.ofChange fictaKeepsSpec)

/-- ITS FALSE NEIGHBOUR: 'it returns false'. Refute it at one input. -/
def fictaKeepsWrong : ChangeSpec := { name := "fictaKeeps", fn := fun _ => fun
  | [d1, d2, d3] => { results := [.lit (.bool false)], args := [d1, d2, d3] }
  | _ => none }
def FictaKeepsWrongFalsely : Prop := fictaKeepsRow.holds Tryz.pinned (OpenSpec.ofChange fictaKeepsWrong)

/-- 'tactuslaw31.FictaAlone': WHATEVER THE INPUT: true; the input reads as it did. -/
def fictaAloneSpec : ChangeSpec := { name := "fictaAlone", fn := fun _ => fun
  | [d] => { results := [.lit (.bool true)], args := [d] }
  | _ => none }
def fictaAloneRow : OpenClaim := { program := "ytpkmiegccfhpnaagreatdoor", sum := "87f2fbf7801142ab173bf993ee6caf2f1be9c8f1a275d0e9f98d378221f11339", func := "tactus/tactuslaw31.FictaAlone", spec := "fictaAlone", unfollowed := true, recurses := true, named := ["tactus/pitch.halves", "tactus/interval.kinds"], plainKeys := false, apart := false, laid := [("tactus/pitch.halves", laid_tactus_pitch_halves), ("tactus/interval.kinds", laid_tactus_interval_kinds)] }
def FictaAloneSaid : Prop := fictaAloneRow.holds Tryz.pinned (OpenSpec.ofChange fictaAloneSpec)

/-- ITS FALSE NEIGHBOUR: 'it returns false'. Refute it at one input. -/
def fictaAloneWrong : ChangeSpec := { name := "fictaAlone", fn := fun _ => fun
  | [d] => { results := [.lit (.bool false)], args := [d] }
  | _ => none }
def FictaAloneWrongFalsely : Prop := fictaAloneRow.holds Tryz.pinned (OpenSpec.ofChange fictaAloneWrong)

/-- 'tactuslaw31.FictaLetters': WHATEVER THE INPUT: true; the input reads as it did. -/
def fictaLettersSpec : ChangeSpec := { name := "fictaLetters", fn := fun _ => fun
  | [d1, d2, d3] => { results := [.lit (.bool true)], args := [d1, d2, d3] }
  | _ => none }
def fictaLettersRow : OpenClaim := { program := "ytpkmiegccfhpnaagreatdoor", sum := "87f2fbf7801142ab173bf993ee6caf2f1be9c8f1a275d0e9f98d378221f11339", func := "tactus/tactuslaw31.FictaLetters", spec := "fictaLetters", unfollowed := true, recurses := true, named := ["tactus/pitch.halves", "tactus/interval.kinds"], plainKeys := false, apart := false, laid := [("tactus/pitch.halves", laid_tactus_pitch_halves), ("tactus/interval.kinds", laid_tactus_interval_kinds)] }
def FictaLettersSaid : Prop := fictaLettersRow.holds Tryz.pinned (OpenSpec.ofChange fictaLettersSpec)

/-- ITS FALSE NEIGHBOUR: 'it returns false'. Refute it at one input. -/
def fictaLettersWrong : ChangeSpec := { name := "fictaLetters", fn := fun _ => fun
  | [d1, d2, d3] => { results := [.lit (.bool false)], args := [d1, d2, d3] }
  | _ => none }
def FictaLettersWrongFalsely : Prop := fictaLettersRow.holds Tryz.pinned (OpenSpec.ofChange fictaLettersWrong)

/-- 'tactuslaw31.FictaRounds': WHATEVER THE INPUT: true; the input reads as it did. -/
def fictaRoundsSpec : ChangeSpec := { name := "fictaRounds", fn := fun _ => fun
  | [d] => { results := [.lit (.bool true)], args := [d] }
  | _ => none }
def fictaRoundsRow : OpenClaim := { program := "ytpkmiegccfhpnaagreatdoor", sum := "87f2fbf7801142ab173bf993ee6caf2f1be9c8f1a275d0e9f98d378221f11339", func := "tactus/tactuslaw31.FictaRounds", spec := "fictaRounds", unfollowed := true, recurses := true, named := ["tactus/pitch.halves", "tactus/interval.kinds"], plainKeys := false, apart := false, laid := [("tactus/pitch.halves", laid_tactus_pitch_halves), ("tactus/interval.kinds", laid_tactus_interval_kinds)] }
def FictaRoundsSaid : Prop := fictaRoundsRow.holds Tryz.pinned (OpenSpec.ofChange fictaRoundsSpec)

/-- ITS FALSE NEIGHBOUR: 'it returns false'. Refute it at one input. -/
def fictaRoundsWrong : ChangeSpec := { name := "fictaRounds", fn := fun _ => fun
  | [d] => { results := [.lit (.bool false)], args := [d] }
  | _ => none }
def FictaRoundsWrongFalsely : Prop := fictaRoundsRow.holds Tryz.pinned (OpenSpec.ofChange fictaRoundsWrong)

/-- 'tactuslaw31.FictaEnds': WHATEVER THE INPUT: true; the input reads as it did. -/
def fictaEndsSpec : ChangeSpec := { name := "fictaEnds", fn := fun _ => fun
  | [d1, d2, d3] => { results := [.lit (.bool true)], args := [d1, d2, d3] }
  | _ => none }
def fictaEndsRow : OpenClaim := { program := "ytpkmiegccfhpnaagreatdoor", sum := "87f2fbf7801142ab173bf993ee6caf2f1be9c8f1a275d0e9f98d378221f11339", func := "tactus/tactuslaw31.FictaEnds", spec := "fictaEnds", unfollowed := true, recurses := true, named := ["tactus/pitch.halves", "tactus/interval.kinds"], plainKeys := false, apart := false, laid := [("tactus/pitch.halves", laid_tactus_pitch_halves), ("tactus/interval.kinds", laid_tactus_interval_kinds)] }
def FictaEndsSaid : Prop := fictaEndsRow.holds Tryz.pinned (OpenSpec.ofChange fictaEndsSpec)

/-- ITS FALSE NEIGHBOUR: 'it returns false'. Refute it at one input. -/
def fictaEndsWrong : ChangeSpec := { name := "fictaEnds", fn := fun _ => fun
  | [d1, d2, d3] => { results := [.lit (.bool false)], args := [d1, d2, d3] }
  | _ => none }
def FictaEndsWrongFalsely : Prop := fictaEndsRow.holds Tryz.pinned (OpenSpec.ofChange fictaEndsWrong)

/- THE SECOND FORM. 'bulk': how many values and letters a reading holds, each counted each time it is reached (what is shared counts as often as it is met; a slice's spare places count too). A statement '..UptoSaid' is the law's where the arguments, and the package variables that the reading takes, are together of bulk at most 1048576: NARROWER than '..Said'. Prove '..Said' where nothing that the law and all that it calls make is longer than what came in: it says more and counts as full. Else prove '..UptoSaid'. A law counts once. -/
mutual
def uptoBulk {H : Type} : DataW H → Nat
  | .lit (.string bytes) => bytes.length + 1
  | .lit _ => 1
  | .nil => 1
  | .ptr d => uptoBulk d + 1
  | .slice elems spare => uptoBulkAll elems + uptoBulkAll spare + 1
  | .agg parts => uptoBulkAll parts + 1
  | .iface _ d => uptoBulk d + 1
  | .map entries => uptoBulkEntries entries + 1
  | .held _ => 1
def uptoBulkAll {H : Type} : List (DataW H) → Nat
  | [] => 0
  | d :: r => uptoBulk d + uptoBulkAll r
def uptoBulkEntries {H : Type} : List (Lit × DataW H) → Nat
  | [] => 0
  | x :: r => uptoBulkEntry x + uptoBulkEntries r
def uptoBulkEntry {H : Type} : Lit × DataW H → Nat
  | (.string bytes, d) => bytes.length + uptoBulk d + 1
  | (_, d) => uptoBulk d + 1
 end
def uptoSmall : (H : Type) → List (DataW H) → Bool := fun _ ds => decide (uptoBulkAll ds ≤ 1048576)
def OpenSpec.upto (s : _root_.Go.ChangeSpec) : _root_.Go.OpenSpec := { _root_.Go.OpenSpec.ofChange s with cond := some uptoSmall }

/-- 'tactuslaw31.FictaChecks', WHERE WHAT IT READS IS OF BULK AT MOST 1048576: true; the input reads as it did. -/
def fictaChecksUptoRow : OpenClaim := { program := "ytpkmiegccfhpnaagreatdoor", sum := "87f2fbf7801142ab173bf993ee6caf2f1be9c8f1a275d0e9f98d378221f11339", func := "tactus/tactuslaw31.FictaChecks", spec := "fictaChecks", unfollowed := true, recurses := true, named := ["tactus/pitch.halves", "tactus/interval.kinds"], plainKeys := false, apart := false, laid := [("tactus/pitch.halves", laid_tactus_pitch_halves), ("tactus/interval.kinds", laid_tactus_interval_kinds)], narrowed := true }
def FictaChecksUptoSaid : Prop := fictaChecksUptoRow.holds Tryz.pinned (OpenSpec.upto fictaChecksSpec)

/-- 'tactuslaw31.FictaKnown', WHERE WHAT IT READS IS OF BULK AT MOST 1048576: true; the input reads as it did. -/
def fictaKnownUptoRow : OpenClaim := { program := "ytpkmiegccfhpnaagreatdoor", sum := "87f2fbf7801142ab173bf993ee6caf2f1be9c8f1a275d0e9f98d378221f11339", func := "tactus/tactuslaw31.FictaKnown", spec := "fictaKnown", unfollowed := true, recurses := true, named := ["tactus/pitch.halves", "tactus/interval.kinds"], plainKeys := false, apart := false, laid := [("tactus/pitch.halves", laid_tactus_pitch_halves), ("tactus/interval.kinds", laid_tactus_interval_kinds)], narrowed := true }
def FictaKnownUptoSaid : Prop := fictaKnownUptoRow.holds Tryz.pinned (OpenSpec.upto fictaKnownSpec)

/-- 'tactuslaw31.FictaKeeps', WHERE WHAT IT READS IS OF BULK AT MOST 1048576: true; the input reads as it did. -/
def fictaKeepsUptoRow : OpenClaim := { program := "ytpkmiegccfhpnaagreatdoor", sum := "87f2fbf7801142ab173bf993ee6caf2f1be9c8f1a275d0e9f98d378221f11339", func := "tactus/tactuslaw31.FictaKeeps", spec := "fictaKeeps", unfollowed := true, recurses := true, named := ["tactus/pitch.halves", "tactus/interval.kinds"], plainKeys := false, apart := false, laid := [("tactus/pitch.halves", laid_tactus_pitch_halves), ("tactus/interval.kinds", laid_tactus_interval_kinds)], narrowed := true }
def FictaKeepsUptoSaid : Prop := fictaKeepsUptoRow.holds Tryz.pinned (OpenSpec.upto fictaKeepsSpec)

/-- 'tactuslaw31.FictaAlone', WHERE WHAT IT READS IS OF BULK AT MOST 1048576: true; the input reads as it did. -/
def fictaAloneUptoRow : OpenClaim := { program := "ytpkmiegccfhpnaagreatdoor", sum := "87f2fbf7801142ab173bf993ee6caf2f1be9c8f1a275d0e9f98d378221f11339", func := "tactus/tactuslaw31.FictaAlone", spec := "fictaAlone", unfollowed := true, recurses := true, named := ["tactus/pitch.halves", "tactus/interval.kinds"], plainKeys := false, apart := false, laid := [("tactus/pitch.halves", laid_tactus_pitch_halves), ("tactus/interval.kinds", laid_tactus_interval_kinds)], narrowed := true }
def FictaAloneUptoSaid : Prop := fictaAloneUptoRow.holds Tryz.pinned (OpenSpec.upto fictaAloneSpec)

/-- 'tactuslaw31.FictaLetters', WHERE WHAT IT READS IS OF BULK AT MOST 1048576: true; the input reads as it did. -/
def fictaLettersUptoRow : OpenClaim := { program := "ytpkmiegccfhpnaagreatdoor", sum := "87f2fbf7801142ab173bf993ee6caf2f1be9c8f1a275d0e9f98d378221f11339", func := "tactus/tactuslaw31.FictaLetters", spec := "fictaLetters", unfollowed := true, recurses := true, named := ["tactus/pitch.halves", "tactus/interval.kinds"], plainKeys := false, apart := false, laid := [("tactus/pitch.halves", laid_tactus_pitch_halves), ("tactus/interval.kinds", laid_tactus_interval_kinds)], narrowed := true }
def FictaLettersUptoSaid : Prop := fictaLettersUptoRow.holds Tryz.pinned (OpenSpec.upto fictaLettersSpec)

/-- 'tactuslaw31.FictaRounds', WHERE WHAT IT READS IS OF BULK AT MOST 1048576: true; the input reads as it did. -/
def fictaRoundsUptoRow : OpenClaim := { program := "ytpkmiegccfhpnaagreatdoor", sum := "87f2fbf7801142ab173bf993ee6caf2f1be9c8f1a275d0e9f98d378221f11339", func := "tactus/tactuslaw31.FictaRounds", spec := "fictaRounds", unfollowed := true, recurses := true, named := ["tactus/pitch.halves", "tactus/interval.kinds"], plainKeys := false, apart := false, laid := [("tactus/pitch.halves", laid_tactus_pitch_halves), ("tactus/interval.kinds", laid_tactus_interval_kinds)], narrowed := true }
def FictaRoundsUptoSaid : Prop := fictaRoundsUptoRow.holds Tryz.pinned (OpenSpec.upto fictaRoundsSpec)

/-- 'tactuslaw31.FictaEnds', WHERE WHAT IT READS IS OF BULK AT MOST 1048576: true; the input reads as it did. -/
def fictaEndsUptoRow : OpenClaim := { program := "ytpkmiegccfhpnaagreatdoor", sum := "87f2fbf7801142ab173bf993ee6caf2f1be9c8f1a275d0e9f98d378221f11339", func := "tactus/tactuslaw31.FictaEnds", spec := "fictaEnds", unfollowed := true, recurses := true, named := ["tactus/pitch.halves", "tactus/interval.kinds"], plainKeys := false, apart := false, laid := [("tactus/pitch.halves", laid_tactus_pitch_halves), ("tactus/interval.kinds", laid_tactus_interval_kinds)], narrowed := true }
def FictaEndsUptoSaid : Prop := fictaEndsUptoRow.holds Tryz.pinned (OpenSpec.upto fictaEndsSpec)

end Rows
end Go.Proofs.YtpkmiegccfhpnaaGreatDoor
