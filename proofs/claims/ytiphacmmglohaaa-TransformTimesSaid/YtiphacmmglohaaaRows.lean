/-
  No cell of these rows narrows 'for every input' (looked for: loops, veiled, ifaces, maps, wideKeys, modest, calm, conditions, laid).
  DERIVED. THE GIVEN ROWS OF THIS SEAT. 7 by the template 'for every input the law returns true; each argument reads behind the call as it read before'; 0 by the template 'total and deterministic' (their statements: YtiphacmmglohaaaTotals.lean).
  GIVEN WITH THE SEED: the statements are not yours to turn. If you find one false, say at which input.
  Laid BY PROGRAM, IN A SANDBOX (cutbox-rows.mjs): the forced cells as the released guide's own fill.sh prints them over the translation c76533de6fd89f0e… (all of the seat's roots in one cut). By AI agents, Wed Nov 11 2026. No macro, syntax, notation, axiom, sorry.
-/
import Derived.Test.YtiphacmmglohaaaChecked
import GoSem.Claim
import GoSem.ClaimJoined
import GoSem.ClaimMapViews
import Derived.JoinedTies
import Derived.KernelRfl
namespace Go.Proofs.Ytiphacmmglohaaa
/- THE CELL 'sum', in the pinned program and in every row, IS THE sha256 OF THE DUMP (.gsa) THAT YtiphacmmglohaaaProg.lean LOADS. Nothing in Lean hashes anything: it is a label: what it is worth is what the hold of that sum in a sandbox is worth. -/
noncomputable def Try.pinned : Pinned := { name := "ytiphacmmglohaaa", sum := "c76533de6fd89f0ef07f41b534af0ab5aacb194baba6aa7b5a5f7fbe5530cd56", checked := Try.checked }
namespace Rows
def none {H : Type} : Left H := { results := [], args := [] }

/-- 'tactuslaw25.TransformTimes': WHATEVER THE INPUT: true; the input reads as it did. -/
def transformTimesSpec : ChangeSpec := { name := "transformTimes", fn := fun _ => fun
  | [d1, d2, d3] => { results := [.lit (.bool true)], args := [d1, d2, d3] }
  | _ => none }
def transformTimesRow : OpenClaim := { program := "ytiphacmmglohaaa", sum := "c76533de6fd89f0ef07f41b534af0ab5aacb194baba6aa7b5a5f7fbe5530cd56", func := "tactus/tactuslaw25.TransformTimes", spec := "transformTimes", unfollowed := true, recurses := true, apart := false }
def TransformTimesSaid : Prop := transformTimesRow.holds Try.pinned (OpenSpec.ofChange transformTimesSpec)

/-- ITS FALSE NEIGHBOUR: 'it returns false'. Refute it at one input. -/
def transformTimesWrong : ChangeSpec := { name := "transformTimes", fn := fun _ => fun
  | [d1, d2, d3] => { results := [.lit (.bool false)], args := [d1, d2, d3] }
  | _ => none }
def TransformTimesWrongFalsely : Prop := transformTimesRow.holds Try.pinned (OpenSpec.ofChange transformTimesWrong)

/-- 'tactuslaw25.TransformJoins': WHATEVER THE INPUT: true; the input reads as it did. -/
def transformJoinsSpec : ChangeSpec := { name := "transformJoins", fn := fun _ => fun
  | [d1, d2] => { results := [.lit (.bool true)], args := [d1, d2] }
  | _ => none }
def transformJoinsRow : OpenClaim := { program := "ytiphacmmglohaaa", sum := "c76533de6fd89f0ef07f41b534af0ab5aacb194baba6aa7b5a5f7fbe5530cd56", func := "tactus/tactuslaw25.TransformJoins", spec := "transformJoins", unfollowed := true, recurses := true, apart := false }
def TransformJoinsSaid : Prop := transformJoinsRow.holds Try.pinned (OpenSpec.ofChange transformJoinsSpec)

/-- ITS FALSE NEIGHBOUR: 'it returns false'. Refute it at one input. -/
def transformJoinsWrong : ChangeSpec := { name := "transformJoins", fn := fun _ => fun
  | [d1, d2] => { results := [.lit (.bool false)], args := [d1, d2] }
  | _ => none }
def TransformJoinsWrongFalsely : Prop := transformJoinsRow.holds Try.pinned (OpenSpec.ofChange transformJoinsWrong)

/-- 'tactuslaw25.TransformTurns': WHATEVER THE INPUT: true; the input reads as it did. -/
def transformTurnsSpec : ChangeSpec := { name := "transformTurns", fn := fun _ => fun
  | [d1, d2, d3] => { results := [.lit (.bool true)], args := [d1, d2, d3] }
  | _ => none }
def transformTurnsRow : OpenClaim := { program := "ytiphacmmglohaaa", sum := "c76533de6fd89f0ef07f41b534af0ab5aacb194baba6aa7b5a5f7fbe5530cd56", func := "tactus/tactuslaw25.TransformTurns", spec := "transformTurns", unfollowed := true, recurses := true, apart := false }
def TransformTurnsSaid : Prop := transformTurnsRow.holds Try.pinned (OpenSpec.ofChange transformTurnsSpec)

/-- ITS FALSE NEIGHBOUR: 'it returns false'. Refute it at one input. -/
def transformTurnsWrong : ChangeSpec := { name := "transformTurns", fn := fun _ => fun
  | [d1, d2, d3] => { results := [.lit (.bool false)], args := [d1, d2, d3] }
  | _ => none }
def TransformTurnsWrongFalsely : Prop := transformTurnsRow.holds Try.pinned (OpenSpec.ofChange transformTurnsWrong)

/-- 'tactuslaw25.TransformKnown': WHATEVER THE INPUT: true; the input reads as it did. -/
def transformKnownSpec : ChangeSpec := { name := "transformKnown", fn := fun _ => fun
  | [] => { results := [.lit (.bool true)], args := [] }
  | _ => none }
def transformKnownRow : OpenClaim := { program := "ytiphacmmglohaaa", sum := "c76533de6fd89f0ef07f41b534af0ab5aacb194baba6aa7b5a5f7fbe5530cd56", func := "tactus/tactuslaw25.TransformKnown", spec := "transformKnown", unfollowed := true, recurses := true, apart := false }
def TransformKnownSaid : Prop := transformKnownRow.holds Try.pinned (OpenSpec.ofChange transformKnownSpec)

/-- ITS FALSE NEIGHBOUR: 'it returns false'. Refute it at one input. -/
def transformKnownWrong : ChangeSpec := { name := "transformKnown", fn := fun _ => fun
  | [] => { results := [.lit (.bool false)], args := [] }
  | _ => none }
def TransformKnownWrongFalsely : Prop := transformKnownRow.holds Try.pinned (OpenSpec.ofChange transformKnownWrong)

/-- 'tactuslaw25.TransformBack': WHATEVER THE INPUT: true; the input reads as it did. -/
def transformBackSpec : ChangeSpec := { name := "transformBack", fn := fun _ => fun
  | [d1, d2, d3, d4] => { results := [.lit (.bool true)], args := [d1, d2, d3, d4] }
  | _ => none }
def transformBackRow : OpenClaim := { program := "ytiphacmmglohaaa", sum := "c76533de6fd89f0ef07f41b534af0ab5aacb194baba6aa7b5a5f7fbe5530cd56", func := "tactus/tactuslaw25.TransformBack", spec := "transformBack", unfollowed := true, recurses := true, apart := false }
def TransformBackSaid : Prop := transformBackRow.holds Try.pinned (OpenSpec.ofChange transformBackSpec)

/-- ITS FALSE NEIGHBOUR: 'it returns false'. Refute it at one input. -/
def transformBackWrong : ChangeSpec := { name := "transformBack", fn := fun _ => fun
  | [d1, d2, d3, d4] => { results := [.lit (.bool false)], args := [d1, d2, d3, d4] }
  | _ => none }
def TransformBackWrongFalsely : Prop := transformBackRow.holds Try.pinned (OpenSpec.ofChange transformBackWrong)

/-- 'tactuslaw25.TransformOrder': WHATEVER THE INPUT: true; the input reads as it did. -/
def transformOrderSpec : ChangeSpec := { name := "transformOrder", fn := fun _ => fun
  | [d1, d2, d3, d4] => { results := [.lit (.bool true)], args := [d1, d2, d3, d4] }
  | _ => none }
def transformOrderRow : OpenClaim := { program := "ytiphacmmglohaaa", sum := "c76533de6fd89f0ef07f41b534af0ab5aacb194baba6aa7b5a5f7fbe5530cd56", func := "tactus/tactuslaw25.TransformOrder", spec := "transformOrder", unfollowed := true, recurses := true, apart := false }
def TransformOrderSaid : Prop := transformOrderRow.holds Try.pinned (OpenSpec.ofChange transformOrderSpec)

/-- ITS FALSE NEIGHBOUR: 'it returns false'. Refute it at one input. -/
def transformOrderWrong : ChangeSpec := { name := "transformOrder", fn := fun _ => fun
  | [d1, d2, d3, d4] => { results := [.lit (.bool false)], args := [d1, d2, d3, d4] }
  | _ => none }
def TransformOrderWrongFalsely : Prop := transformOrderRow.holds Try.pinned (OpenSpec.ofChange transformOrderWrong)

/-- 'tactuslaw25.TransformParts': WHATEVER THE INPUT: true; the input reads as it did. -/
def transformPartsSpec : ChangeSpec := { name := "transformParts", fn := fun _ => fun
  | [d1, d2, d3] => { results := [.lit (.bool true)], args := [d1, d2, d3] }
  | _ => none }
def transformPartsRow : OpenClaim := { program := "ytiphacmmglohaaa", sum := "c76533de6fd89f0ef07f41b534af0ab5aacb194baba6aa7b5a5f7fbe5530cd56", func := "tactus/tactuslaw25.TransformParts", spec := "transformParts", unfollowed := true, recurses := true, apart := false }
def TransformPartsSaid : Prop := transformPartsRow.holds Try.pinned (OpenSpec.ofChange transformPartsSpec)

/-- ITS FALSE NEIGHBOUR: 'it returns false'. Refute it at one input. -/
def transformPartsWrong : ChangeSpec := { name := "transformParts", fn := fun _ => fun
  | [d1, d2, d3] => { results := [.lit (.bool false)], args := [d1, d2, d3] }
  | _ => none }
def TransformPartsWrongFalsely : Prop := transformPartsRow.holds Try.pinned (OpenSpec.ofChange transformPartsWrong)

/- THE SECOND FORM. 'bulk': how many values and letters a reading holds, each counted each time it is reached (what is shared counts as often as it is met; a slice's spare places count too). A statement '..UptoSaid' is the law's where the arguments, and the package variables that the reading takes, are together of bulk at most 1048576: NARROWER than '..Said'. Prove '..Said' where nothing that the law and all that it calls make is longer than what came in: it says more and counts as full. Else prove '..UptoSaid'. A law counts once. -/
mutual
def uptoBulk {H : Type} : DataW H → Nat
  | .lit (.string bytes) => bytes.length + 1
  | .lit _ => 1
  | .nil => 1
  | .ptr d => uptoBulk d + 1
  | .slice elems spare => uptoBulkAll elems + uptoBulkAll spare + 1
  | .agg parts => uptoBulkAll parts + 1
  | .iface _ d => uptoBulk d + 1
  | .map entries => uptoBulkEntries entries + 1
  | .held _ => 1
def uptoBulkAll {H : Type} : List (DataW H) → Nat
  | [] => 0
  | d :: r => uptoBulk d + uptoBulkAll r
def uptoBulkEntries {H : Type} : List (Lit × DataW H) → Nat
  | [] => 0
  | x :: r => uptoBulkEntry x + uptoBulkEntries r
def uptoBulkEntry {H : Type} : Lit × DataW H → Nat
  | (.string bytes, d) => bytes.length + uptoBulk d + 1
  | (_, d) => uptoBulk d + 1
 end
def uptoSmall : (H : Type) → List (DataW H) → Bool := fun _ ds => decide (uptoBulkAll ds ≤ 1048576)
def OpenSpec.upto (s : _root_.Go.ChangeSpec) : _root_.Go.OpenSpec := { _root_.Go.OpenSpec.ofChange s with cond := some uptoSmall }

/-- 'tactuslaw25.TransformTimes', WHERE WHAT IT READS IS OF BULK AT MOST 1048576: true; the input reads as it did. -/
def transformTimesUptoRow : OpenClaim := { program := "ytiphacmmglohaaa", sum := "c76533de6fd89f0ef07f41b534af0ab5aacb194baba6aa7b5a5f7fbe5530cd56", func := "tactus/tactuslaw25.TransformTimes", spec := "transformTimes", unfollowed := true, recurses := true, apart := false, narrowed := true }
def TransformTimesUptoSaid : Prop := transformTimesUptoRow.holds Try.pinned (OpenSpec.upto transformTimesSpec)

/-- 'tactuslaw25.TransformJoins', WHERE WHAT IT READS IS OF BULK AT MOST 1048576: true; the input reads as it did. -/
def transformJoinsUptoRow : OpenClaim := { program := "ytiphacmmglohaaa", sum := "c76533de6fd89f0ef07f41b534af0ab5aacb194baba6aa7b5a5f7fbe5530cd56", func := "tactus/tactuslaw25.TransformJoins", spec := "transformJoins", unfollowed := true, recurses := true, apart := false, narrowed := true }
def TransformJoinsUptoSaid : Prop := transformJoinsUptoRow.holds Try.pinned (OpenSpec.upto transformJoinsSpec)

/-- 'tactuslaw25.TransformTurns', WHERE WHAT IT READS IS OF BULK AT MOST 1048576: true; the input reads as it did. -/
def transformTurnsUptoRow : OpenClaim := { program := "ytiphacmmglohaaa", sum := "c76533de6fd89f0ef07f41b534af0ab5aacb194baba6aa7b5a5f7fbe5530cd56", func := "tactus/tactuslaw25.TransformTurns", spec := "transformTurns", unfollowed := true, recurses := true, apart := false, narrowed := true }
def TransformTurnsUptoSaid : Prop := transformTurnsUptoRow.holds Try.pinned (OpenSpec.upto transformTurnsSpec)

/-- 'tactuslaw25.TransformKnown', WHERE WHAT IT READS IS OF BULK AT MOST 1048576: true; the input reads as it did. -/
def transformKnownUptoRow : OpenClaim := { program := "ytiphacmmglohaaa", sum := "c76533de6fd89f0ef07f41b534af0ab5aacb194baba6aa7b5a5f7fbe5530cd56", func := "tactus/tactuslaw25.TransformKnown", spec := "transformKnown", unfollowed := true, recurses := true, apart := false, narrowed := true }
def TransformKnownUptoSaid : Prop := transformKnownUptoRow.holds Try.pinned (OpenSpec.upto transformKnownSpec)

/-- 'tactuslaw25.TransformBack', WHERE WHAT IT READS IS OF BULK AT MOST 1048576: true; the input reads as it did. -/
def transformBackUptoRow : OpenClaim := { program := "ytiphacmmglohaaa", sum := "c76533de6fd89f0ef07f41b534af0ab5aacb194baba6aa7b5a5f7fbe5530cd56", func := "tactus/tactuslaw25.TransformBack", spec := "transformBack", unfollowed := true, recurses := true, apart := false, narrowed := true }
def TransformBackUptoSaid : Prop := transformBackUptoRow.holds Try.pinned (OpenSpec.upto transformBackSpec)

/-- 'tactuslaw25.TransformOrder', WHERE WHAT IT READS IS OF BULK AT MOST 1048576: true; the input reads as it did. -/
def transformOrderUptoRow : OpenClaim := { program := "ytiphacmmglohaaa", sum := "c76533de6fd89f0ef07f41b534af0ab5aacb194baba6aa7b5a5f7fbe5530cd56", func := "tactus/tactuslaw25.TransformOrder", spec := "transformOrder", unfollowed := true, recurses := true, apart := false, narrowed := true }
def TransformOrderUptoSaid : Prop := transformOrderUptoRow.holds Try.pinned (OpenSpec.upto transformOrderSpec)

/-- 'tactuslaw25.TransformParts', WHERE WHAT IT READS IS OF BULK AT MOST 1048576: true; the input reads as it did. -/
def transformPartsUptoRow : OpenClaim := { program := "ytiphacmmglohaaa", sum := "c76533de6fd89f0ef07f41b534af0ab5aacb194baba6aa7b5a5f7fbe5530cd56", func := "tactus/tactuslaw25.TransformParts", spec := "transformParts", unfollowed := true, recurses := true, apart := false, narrowed := true }
def TransformPartsUptoSaid : Prop := transformPartsUptoRow.holds Try.pinned (OpenSpec.upto transformPartsSpec)

end Rows
end Go.Proofs.Ytiphacmmglohaaa
