/-
  NARROWER THAN 'FOR EVERY INPUT', by the rows' own cells (each row's printed sentence says how): DissonanceTreats: laid · DissonanceKnown: laid · DissonanceOrder: laid · DissonanceMoved: laid · DissonanceRest: laid · DissonanceCounts: laid.
  DERIVED. THE GIVEN ROWS OF THIS SEAT. 6 by the template 'for every input the law returns true; each argument reads behind the call as it read before'; 0 by the template 'total and deterministic' (their statements: YtmlcnmnpkemdpaaDoorTotals.lean).
  GIVEN WITH THE SEED: the statements are not yours to turn. If you find one false, say at which input.
  Laid BY PROGRAM, IN A SANDBOX (cutbox-rows.mjs): the forced cells as the released guide's own fill.sh prints them over the translation 1bdeee38dcc65860… (all of the seat's roots in one cut). By AI agents, Wed Nov 11 2026. No macro, syntax, notation, axiom, sorry.
-/
import Derived.Test.YtmlcnmnpkemdpaaDoorChecked
import GoSem.Claim
import GoSem.ClaimJoined
import GoSem.ClaimMapViews
import Derived.JoinedTies
import Derived.KernelRfl
namespace Go.Proofs.YtmlcnmnpkemdpaaDoor
/- THE CELL 'sum', in the pinned program and in every row, IS THE sha256 OF THE DUMP (.gsa) THAT YtmlcnmnpkemdpaaDoorProg.lean LOADS. Nothing in Lean hashes anything: it is a label: what it is worth is what the hold of that sum in a sandbox is worth. -/
noncomputable def Tryd.pinned : Pinned := { name := "ytmlcnmnpkemdpaadoor", sum := "1bdeee38dcc6586013b93219e8f015723f760fb575fb77883b762a98b3ebcbd2", checked := Tryd.checked }
namespace Rows
def none {H : Type} : Left H := { results := [], args := [] }

/- WHAT THE LISTED PACKAGE-LEVEL VARIABLES READ AS WHEN THE CALL BEGINS. Each datum BY PROGRAM (the guide's laid-datum.mjs) off the statement by which the dump's own 'gosem.cut.vars' lays the variable. In a bare row this is a premise. The card (YtmlcnmnpkemdpaaDoorCards.lean) ties it to the program's text. -/
def laid_tactus_pitch_halves {H : Type} : DataW H := .agg [.lit (.int .i64 0), .lit (.int .i64 2), .lit (.int .i64 4), .lit (.int .i64 5), .lit (.int .i64 7), .lit (.int .i64 9), .lit (.int .i64 11)]
def laid_tactus_interval_kinds {H : Type} : DataW H := .agg [.agg [.lit (.int .i64 1), .lit (.int .i64 0), .lit (.int .i64 0), .lit (.int .i64 0), .lit (.int .i64 0), .lit (.int .i64 0), .lit (.int .i64 0), .lit (.int .i64 0), .lit (.int .i64 0), .lit (.int .i64 0), .lit (.int .i64 0), .lit (.int .i64 0), .lit (.int .i64 0)], .agg [.lit (.int .i64 0), .lit (.int .i64 0), .lit (.int .i64 0), .lit (.int .i64 0), .lit (.int .i64 0), .lit (.int .i64 0), .lit (.int .i64 0), .lit (.int .i64 0), .lit (.int .i64 0), .lit (.int .i64 0), .lit (.int .i64 0), .lit (.int .i64 0), .lit (.int .i64 0)], .agg [.lit (.int .i64 0), .lit (.int .i64 0), .lit (.int .i64 0), .lit (.int .i64 2), .lit (.int .i64 2), .lit (.int .i64 0), .lit (.int .i64 0), .lit (.int .i64 0), .lit (.int .i64 0), .lit (.int .i64 0), .lit (.int .i64 0), .lit (.int .i64 0), .lit (.int .i64 0)], .agg [.lit (.int .i64 0), .lit (.int .i64 0), .lit (.int .i64 0), .lit (.int .i64 0), .lit (.int .i64 0), .lit (.int .i64 3), .lit (.int .i64 4), .lit (.int .i64 0), .lit (.int .i64 0), .lit (.int .i64 0), .lit (.int .i64 0), .lit (.int .i64 0), .lit (.int .i64 0)], .agg [.lit (.int .i64 0), .lit (.int .i64 0), .lit (.int .i64 0), .lit (.int .i64 0), .lit (.int .i64 0), .lit (.int .i64 0), .lit (.int .i64 4), .lit (.int .i64 1), .lit (.int .i64 0), .lit (.int .i64 0), .lit (.int .i64 0), .lit (.int .i64 0), .lit (.int .i64 0)], .agg [.lit (.int .i64 0), .lit (.int .i64 0), .lit (.int .i64 0), .lit (.int .i64 0), .lit (.int .i64 0), .lit (.int .i64 0), .lit (.int .i64 0), .lit (.int .i64 0), .lit (.int .i64 2), .lit (.int .i64 2), .lit (.int .i64 0), .lit (.int .i64 0), .lit (.int .i64 0)], .agg [.lit (.int .i64 0), .lit (.int .i64 0), .lit (.int .i64 0), .lit (.int .i64 0), .lit (.int .i64 0), .lit (.int .i64 0), .lit (.int .i64 0), .lit (.int .i64 0), .lit (.int .i64 0), .lit (.int .i64 0), .lit (.int .i64 0), .lit (.int .i64 0), .lit (.int .i64 0)]]

/-- 'tactuslaw32.DissonanceTreats': WHATEVER THE INPUT: true; the input reads as it did. -/
def dissonanceTreatsSpec : ChangeSpec := { name := "dissonanceTreats", fn := fun _ => fun
  | [d1, d2, d3, d4] => { results := [.lit (.bool true)], args := [d1, d2, d3, d4] }
  | _ => none }
def dissonanceTreatsRow : OpenClaim := { program := "ytmlcnmnpkemdpaadoor", sum := "1bdeee38dcc6586013b93219e8f015723f760fb575fb77883b762a98b3ebcbd2", func := "tactus/tactuslaw32.DissonanceTreats", spec := "dissonanceTreats", unfollowed := true, recurses := true, named := ["tactus/pitch.halves", "tactus/interval.kinds"], plainKeys := false, apart := false, laid := [("tactus/pitch.halves", laid_tactus_pitch_halves), ("tactus/interval.kinds", laid_tactus_interval_kinds)] }
def DissonanceTreatsSaid : Prop := dissonanceTreatsRow.holds Tryd.pinned (OpenSpec.ofChange dissonanceTreatsSpec)

/-- ITS FALSE NEIGHBOUR: 'it returns false'. Refute it at one input. -/
def dissonanceTreatsWrong : ChangeSpec := { name := "dissonanceTreats", fn := fun _ => fun
  | [d1, d2, d3, d4] => { results := [.lit (.bool false)], args := [d1, d2, d3, d4] }
  | _ => none }
def DissonanceTreatsWrongFalsely : Prop := dissonanceTreatsRow.holds Tryd.pinned (OpenSpec.ofChange dissonanceTreatsWrong)

/-- 'tactuslaw32.DissonanceKnown': WHATEVER THE INPUT: true; the input reads as it did. -/
def dissonanceKnownSpec : ChangeSpec := { name := "dissonanceKnown", fn := fun _ => fun
  | [] => { results := [.lit (.bool true)], args := [] }
  | _ => none }
def dissonanceKnownRow : OpenClaim := { program := "ytmlcnmnpkemdpaadoor", sum := "1bdeee38dcc6586013b93219e8f015723f760fb575fb77883b762a98b3ebcbd2", func := "tactus/tactuslaw32.DissonanceKnown", spec := "dissonanceKnown", unfollowed := true, recurses := true, named := ["tactus/pitch.halves", "tactus/interval.kinds"], plainKeys := false, apart := false, laid := [("tactus/pitch.halves", laid_tactus_pitch_halves), ("tactus/interval.kinds", laid_tactus_interval_kinds)] }
def DissonanceKnownSaid : Prop := dissonanceKnownRow.holds Tryd.pinned (OpenSpec.ofChange dissonanceKnownSpec)

/-- ITS FALSE NEIGHBOUR: 'it returns false'. Refute it at one input. -/
def dissonanceKnownWrong : ChangeSpec := { name := "dissonanceKnown", fn := fun _ => fun
  | [] => { results := [.lit (.bool false)], args := [] }
  | _ => none }
def DissonanceKnownWrongFalsely : Prop := dissonanceKnownRow.holds Tryd.pinned (OpenSpec.ofChange dissonanceKnownWrong)

/-- 'tactuslaw32.DissonanceOrder': WHATEVER THE INPUT: true; the input reads as it did. -/
def dissonanceOrderSpec : ChangeSpec := { name := "dissonanceOrder", fn := fun _ => fun
  | [d1, d2] => { results := [.lit (.bool true)], args := [d1, d2] }
  | _ => none }
def dissonanceOrderRow : OpenClaim := { program := "ytmlcnmnpkemdpaadoor", sum := "1bdeee38dcc6586013b93219e8f015723f760fb575fb77883b762a98b3ebcbd2", func := "tactus/tactuslaw32.DissonanceOrder", spec := "dissonanceOrder", unfollowed := true, recurses := true, named := ["tactus/pitch.halves", "tactus/interval.kinds"], plainKeys := false, apart := false, laid := [("tactus/pitch.halves", laid_tactus_pitch_halves), ("tactus/interval.kinds", laid_tactus_interval_kinds)] }
def DissonanceOrderSaid : Prop := dissonanceOrderRow.holds Tryd.pinned (OpenSpec.ofChange dissonanceOrderSpec)

/-- ITS FALSE NEIGHBOUR: 'it returns false'. Refute it at one input. -/
def dissonanceOrderWrong : ChangeSpec := { name := "dissonanceOrder", fn := fun _ => fun
  | [d1, d2] => { results := [.lit (.bool false)], args := [d1, d2] }
  | _ => none }
def DissonanceOrderWrongFalsely : Prop := dissonanceOrderRow.holds Tryd.pinned (OpenSpec.ofChange dissonanceOrderWrong)

/-- 'tactuslaw32.DissonanceMoved': WHATEVER THE INPUT: true; the input reads as it did. -/
def dissonanceMovedSpec : ChangeSpec := { name := "dissonanceMoved", fn := fun _ => fun
  | [d] => { results := [.lit (.bool true)], args := [d] }
  | _ => none }
def dissonanceMovedRow : OpenClaim := { program := "ytmlcnmnpkemdpaadoor", sum := "1bdeee38dcc6586013b93219e8f015723f760fb575fb77883b762a98b3ebcbd2", func := "tactus/tactuslaw32.DissonanceMoved", spec := "dissonanceMoved", unfollowed := true, recurses := true, named := ["tactus/pitch.halves", "tactus/interval.kinds"], plainKeys := false, apart := false, laid := [("tactus/pitch.halves", laid_tactus_pitch_halves), ("tactus/interval.kinds", laid_tactus_interval_kinds)] }
def DissonanceMovedSaid : Prop := dissonanceMovedRow.holds Tryd.pinned (OpenSpec.ofChange dissonanceMovedSpec)

/-- ITS FALSE NEIGHBOUR: 'it returns false'. Refute it at one input. -/
def dissonanceMovedWrong : ChangeSpec := { name := "dissonanceMoved", fn := fun _ => fun
  | [d] => { results := [.lit (.bool false)], args := [d] }
  | _ => none }
def DissonanceMovedWrongFalsely : Prop := dissonanceMovedRow.holds Tryd.pinned (OpenSpec.ofChange dissonanceMovedWrong)

/-- 'tactuslaw32.DissonanceRest': WHATEVER THE INPUT: true; the input reads as it did. -/
def dissonanceRestSpec : ChangeSpec := { name := "dissonanceRest", fn := fun _ => fun
  | [d] => { results := [.lit (.bool true)], args := [d] }
  | _ => none }
def dissonanceRestRow : OpenClaim := { program := "ytmlcnmnpkemdpaadoor", sum := "1bdeee38dcc6586013b93219e8f015723f760fb575fb77883b762a98b3ebcbd2", func := "tactus/tactuslaw32.DissonanceRest", spec := "dissonanceRest", unfollowed := true, recurses := true, named := ["tactus/pitch.halves", "tactus/interval.kinds"], plainKeys := false, apart := false, laid := [("tactus/pitch.halves", laid_tactus_pitch_halves), ("tactus/interval.kinds", laid_tactus_interval_kinds)] }
def DissonanceRestSaid : Prop := dissonanceRestRow.holds Tryd.pinned (OpenSpec.ofChange dissonanceRestSpec)

/-- ITS FALSE NEIGHBOUR: 'it returns false'. Refute it at one input. -/
def dissonanceRestWrong : ChangeSpec := { name := "dissonanceRest", fn := fun _ => fun
  | [d] => { results := [.lit (.bool false)], args := [d] }
  | _ => none }
def DissonanceRestWrongFalsely : Prop := dissonanceRestRow.holds Tryd.pinned (OpenSpec.ofChange dissonanceRestWrong)

/-- 'tactuslaw32.DissonanceCounts': WHATEVER THE INPUT: true; the input reads as it did. -/
def dissonanceCountsSpec : ChangeSpec := { name := "dissonanceCounts", fn := fun _ => fun
  | [d] => { results := [.lit (.bool true)], args := [d] }
  | _ => none }
def dissonanceCountsRow : OpenClaim := { program := "ytmlcnmnpkemdpaadoor", sum := "1bdeee38dcc6586013b93219e8f015723f760fb575fb77883b762a98b3ebcbd2", func := "tactus/tactuslaw32.DissonanceCounts", spec := "dissonanceCounts", unfollowed := true, recurses := true, named := ["tactus/pitch.halves", "tactus/interval.kinds"], plainKeys := false, apart := false, laid := [("tactus/pitch.halves", laid_tactus_pitch_halves), ("tactus/interval.kinds", laid_tactus_interval_kinds)] }
def DissonanceCountsSaid : Prop := dissonanceCountsRow.holds Tryd.pinned (OpenSpec.ofChange dissonanceCountsSpec)

/-- ITS FALSE NEIGHBOUR: 'it returns false'. Refute it at one input. -/
def dissonanceCountsWrong : ChangeSpec := { name := "dissonanceCounts", fn := fun _ => fun
  | [d] => { results := [.lit (.bool false)], args := [d] }
  | _ => none }
def DissonanceCountsWrongFalsely : Prop := dissonanceCountsRow.holds Tryd.pinned (OpenSpec.ofChange dissonanceCountsWrong)

/- THE SECOND FORM. 'bulk': how many values and letters a reading holds, each counted each time it is reached (what is shared counts as often as it is met; a slice's spare places count too). A statement '..UptoSaid' is the law's where the arguments, and the package variables that the reading takes, are together of bulk at most 1048576: NARROWER than '..Said'. Prove '..Said' where nothing that the law and all that it calls make is longer than what came in: it says more and counts as full. Else prove '..UptoSaid'. A law counts once. -/
mutual
def uptoBulk {H : Type} : DataW H → Nat
  | .lit (.string bytes) => bytes.length + 1
  | .lit _ => 1
  | .nil => 1
  | .ptr d => uptoBulk d + 1
  | .slice elems spare => uptoBulkAll elems + uptoBulkAll spare + 1
  | .agg parts => uptoBulkAll parts + 1
  | .iface _ d => uptoBulk d + 1
  | .map entries => uptoBulkEntries entries + 1
  | .held _ => 1
def uptoBulkAll {H : Type} : List (DataW H) → Nat
  | [] => 0
  | d :: r => uptoBulk d + uptoBulkAll r
def uptoBulkEntries {H : Type} : List (Lit × DataW H) → Nat
  | [] => 0
  | x :: r => uptoBulkEntry x + uptoBulkEntries r
def uptoBulkEntry {H : Type} : Lit × DataW H → Nat
  | (.string bytes, d) => bytes.length + uptoBulk d + 1
  | (_, d) => uptoBulk d + 1
 end
def uptoSmall : (H : Type) → List (DataW H) → Bool := fun _ ds => decide (uptoBulkAll ds ≤ 1048576)
def OpenSpec.upto (s : _root_.Go.ChangeSpec) : _root_.Go.OpenSpec := { _root_.Go.OpenSpec.ofChange s with cond := some uptoSmall }

/-- 'tactuslaw32.DissonanceTreats', WHERE WHAT IT READS IS OF BULK AT MOST 1048576: true; the input reads as it did. -/
def dissonanceTreatsUptoRow : OpenClaim := { program := "ytmlcnmnpkemdpaadoor", sum := "1bdeee38dcc6586013b93219e8f015723f760fb575fb77883b762a98b3ebcbd2", func := "tactus/tactuslaw32.DissonanceTreats", spec := "dissonanceTreats", unfollowed := true, recurses := true, named := ["tactus/pitch.halves", "tactus/interval.kinds"], plainKeys := false, apart := false, laid := [("tactus/pitch.halves", laid_tactus_pitch_halves), ("tactus/interval.kinds", laid_tactus_interval_kinds)], narrowed := true }
def DissonanceTreatsUptoSaid : Prop := dissonanceTreatsUptoRow.holds Tryd.pinned (OpenSpec.upto dissonanceTreatsSpec)

/-- 'tactuslaw32.DissonanceKnown', WHERE WHAT IT READS IS OF BULK AT MOST 1048576: true; the input reads as it did. -/
def dissonanceKnownUptoRow : OpenClaim := { program := "ytmlcnmnpkemdpaadoor", sum := "1bdeee38dcc6586013b93219e8f015723f760fb575fb77883b762a98b3ebcbd2", func := "tactus/tactuslaw32.DissonanceKnown", spec := "dissonanceKnown", unfollowed := true, recurses := true, named := ["tactus/pitch.halves", "tactus/interval.kinds"], plainKeys := false, apart := false, laid := [("tactus/pitch.halves", laid_tactus_pitch_halves), ("tactus/interval.kinds", laid_tactus_interval_kinds)], narrowed := true }
def DissonanceKnownUptoSaid : Prop := dissonanceKnownUptoRow.holds Tryd.pinned (OpenSpec.upto dissonanceKnownSpec)

/-- 'tactuslaw32.DissonanceOrder', WHERE WHAT IT READS IS OF BULK AT MOST 1048576: true; the input reads as it did. -/
def dissonanceOrderUptoRow : OpenClaim := { program := "ytmlcnmnpkemdpaadoor", sum := "1bdeee38dcc6586013b93219e8f015723f760fb575fb77883b762a98b3ebcbd2", func := "tactus/tactuslaw32.DissonanceOrder", spec := "dissonanceOrder", unfollowed := true, recurses := true, named := ["tactus/pitch.halves", "tactus/interval.kinds"], plainKeys := false, apart := false, laid := [("tactus/pitch.halves", laid_tactus_pitch_halves), ("tactus/interval.kinds", laid_tactus_interval_kinds)], narrowed := true }
def DissonanceOrderUptoSaid : Prop := dissonanceOrderUptoRow.holds Tryd.pinned (OpenSpec.upto dissonanceOrderSpec)

/-- 'tactuslaw32.DissonanceMoved', WHERE WHAT IT READS IS OF BULK AT MOST 1048576: true; the input reads as it did. -/
def dissonanceMovedUptoRow : OpenClaim := { program := "ytmlcnmnpkemdpaadoor", sum := "1bdeee38dcc6586013b93219e8f015723f760fb575fb77883b762a98b3ebcbd2", func := "tactus/tactuslaw32.DissonanceMoved", spec := "dissonanceMoved", unfollowed := true, recurses := true, named := ["tactus/pitch.halves", "tactus/interval.kinds"], plainKeys := false, apart := false, laid := [("tactus/pitch.halves", laid_tactus_pitch_halves), ("tactus/interval.kinds", laid_tactus_interval_kinds)], narrowed := true }
def DissonanceMovedUptoSaid : Prop := dissonanceMovedUptoRow.holds Tryd.pinned (OpenSpec.upto dissonanceMovedSpec)

/-- 'tactuslaw32.DissonanceRest', WHERE WHAT IT READS IS OF BULK AT MOST 1048576: true; the input reads as it did. -/
def dissonanceRestUptoRow : OpenClaim := { program := "ytmlcnmnpkemdpaadoor", sum := "1bdeee38dcc6586013b93219e8f015723f760fb575fb77883b762a98b3ebcbd2", func := "tactus/tactuslaw32.DissonanceRest", spec := "dissonanceRest", unfollowed := true, recurses := true, named := ["tactus/pitch.halves", "tactus/interval.kinds"], plainKeys := false, apart := false, laid := [("tactus/pitch.halves", laid_tactus_pitch_halves), ("tactus/interval.kinds", laid_tactus_interval_kinds)], narrowed := true }
def DissonanceRestUptoSaid : Prop := dissonanceRestUptoRow.holds Tryd.pinned (OpenSpec.upto dissonanceRestSpec)

/-- 'tactuslaw32.DissonanceCounts', WHERE WHAT IT READS IS OF BULK AT MOST 1048576: true; the input reads as it did. -/
def dissonanceCountsUptoRow : OpenClaim := { program := "ytmlcnmnpkemdpaadoor", sum := "1bdeee38dcc6586013b93219e8f015723f760fb575fb77883b762a98b3ebcbd2", func := "tactus/tactuslaw32.DissonanceCounts", spec := "dissonanceCounts", unfollowed := true, recurses := true, named := ["tactus/pitch.halves", "tactus/interval.kinds"], plainKeys := false, apart := false, laid := [("tactus/pitch.halves", laid_tactus_pitch_halves), ("tactus/interval.kinds", laid_tactus_interval_kinds)], narrowed := true }
def DissonanceCountsUptoSaid : Prop := dissonanceCountsUptoRow.holds Tryd.pinned (OpenSpec.upto dissonanceCountsSpec)

end Rows
end Go.Proofs.YtmlcnmnpkemdpaaDoor
