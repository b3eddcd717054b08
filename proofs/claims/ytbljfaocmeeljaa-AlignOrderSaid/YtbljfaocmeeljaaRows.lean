/-
  No cell of these rows narrows 'for every input' (looked for: loops, veiled, ifaces, maps, wideKeys, modest, calm, conditions, laid).
  DERIVED. THE GIVEN ROWS OF THIS SEAT. 7 by the template 'for every input the law returns true; each argument reads behind the call as it read before'; 0 by the template 'total and deterministic' (their statements: YtbljfaocmeeljaaTotals.lean).
  GIVEN WITH THE SEED: the statements are not yours to turn. If you find one false, say at which input.
  Laid BY PROGRAM, IN A SANDBOX (cutbox-rows.mjs): the forced cells as the released guide's own fill.sh prints them over the translation ac55873e64204464… (all of the seat's roots in one cut). By AI agents, Wed Nov 11 2026. No macro, syntax, notation, axiom, sorry.
-/
import Derived.Test.YtbljfaocmeeljaaChecked
import GoSem.Claim
import GoSem.ClaimJoined
import GoSem.ClaimMapViews
import Derived.JoinedTies
import Derived.KernelRfl
namespace Go.Proofs.Ytbljfaocmeeljaa
/- THE CELL 'sum', in the pinned program and in every row, IS THE sha256 OF THE DUMP (.gsa) THAT YtbljfaocmeeljaaProg.lean LOADS. Nothing in Lean hashes anything: it is a label: what it is worth is what the hold of that sum in a sandbox is worth. -/
noncomputable def Try.pinned : Pinned := { name := "ytbljfaocmeeljaa", sum := "ac55873e64204464d55e11d3475a855c50add008d3e8e86dcf4c9f1f81f7278c", checked := Try.checked }
namespace Rows
def none {H : Type} : Left H := { results := [], args := [] }

/-- 'tactuslaw27.AlignSlices': WHATEVER THE INPUT: true; the input reads as it did. -/
def alignSlicesSpec : ChangeSpec := { name := "alignSlices", fn := fun _ => fun
  | [d] => { results := [.lit (.bool true)], args := [d] }
  | _ => none }
def alignSlicesRow : OpenClaim := { program := "ytbljfaocmeeljaa", sum := "ac55873e64204464d55e11d3475a855c50add008d3e8e86dcf4c9f1f81f7278c", func := "tactus/tactuslaw27.AlignSlices", spec := "alignSlices", unfollowed := true, recurses := true, apart := false }
def AlignSlicesSaid : Prop := alignSlicesRow.holds Try.pinned (OpenSpec.ofChange alignSlicesSpec)

/-- ITS FALSE NEIGHBOUR: 'it returns false'. Refute it at one input. -/
def alignSlicesWrong : ChangeSpec := { name := "alignSlices", fn := fun _ => fun
  | [d] => { results := [.lit (.bool false)], args := [d] }
  | _ => none }
def AlignSlicesWrongFalsely : Prop := alignSlicesRow.holds Try.pinned (OpenSpec.ofChange alignSlicesWrong)

/-- 'tactuslaw27.AlignSounds': WHATEVER THE INPUT: true; the input reads as it did. -/
def alignSoundsSpec : ChangeSpec := { name := "alignSounds", fn := fun _ => fun
  | [d1, d2, d3, d4] => { results := [.lit (.bool true)], args := [d1, d2, d3, d4] }
  | _ => none }
def alignSoundsRow : OpenClaim := { program := "ytbljfaocmeeljaa", sum := "ac55873e64204464d55e11d3475a855c50add008d3e8e86dcf4c9f1f81f7278c", func := "tactus/tactuslaw27.AlignSounds", spec := "alignSounds", unfollowed := true, recurses := true, apart := false }
def AlignSoundsSaid : Prop := alignSoundsRow.holds Try.pinned (OpenSpec.ofChange alignSoundsSpec)

/-- ITS FALSE NEIGHBOUR: 'it returns false'. Refute it at one input. -/
def alignSoundsWrong : ChangeSpec := { name := "alignSounds", fn := fun _ => fun
  | [d1, d2, d3, d4] => { results := [.lit (.bool false)], args := [d1, d2, d3, d4] }
  | _ => none }
def AlignSoundsWrongFalsely : Prop := alignSoundsRow.holds Try.pinned (OpenSpec.ofChange alignSoundsWrong)

/-- 'tactuslaw27.AlignKnown': WHATEVER THE INPUT: true; the input reads as it did. -/
def alignKnownSpec : ChangeSpec := { name := "alignKnown", fn := fun _ => fun
  | [] => { results := [.lit (.bool true)], args := [] }
  | _ => none }
def alignKnownRow : OpenClaim := { program := "ytbljfaocmeeljaa", sum := "ac55873e64204464d55e11d3475a855c50add008d3e8e86dcf4c9f1f81f7278c", func := "tactus/tactuslaw27.AlignKnown", spec := "alignKnown", unfollowed := true, recurses := true, apart := false }
def AlignKnownSaid : Prop := alignKnownRow.holds Try.pinned (OpenSpec.ofChange alignKnownSpec)

/-- ITS FALSE NEIGHBOUR: 'it returns false'. Refute it at one input. -/
def alignKnownWrong : ChangeSpec := { name := "alignKnown", fn := fun _ => fun
  | [] => { results := [.lit (.bool false)], args := [] }
  | _ => none }
def AlignKnownWrongFalsely : Prop := alignKnownRow.holds Try.pinned (OpenSpec.ofChange alignKnownWrong)

/-- 'tactuslaw27.AlignWhole': WHATEVER THE INPUT: true; the input reads as it did. -/
def alignWholeSpec : ChangeSpec := { name := "alignWhole", fn := fun _ => fun
  | [d1, d2, d3, d4] => { results := [.lit (.bool true)], args := [d1, d2, d3, d4] }
  | _ => none }
def alignWholeRow : OpenClaim := { program := "ytbljfaocmeeljaa", sum := "ac55873e64204464d55e11d3475a855c50add008d3e8e86dcf4c9f1f81f7278c", func := "tactus/tactuslaw27.AlignWhole", spec := "alignWhole", unfollowed := true, recurses := true, apart := false }
def AlignWholeSaid : Prop := alignWholeRow.holds Try.pinned (OpenSpec.ofChange alignWholeSpec)

/-- ITS FALSE NEIGHBOUR: 'it returns false'. Refute it at one input. -/
def alignWholeWrong : ChangeSpec := { name := "alignWhole", fn := fun _ => fun
  | [d1, d2, d3, d4] => { results := [.lit (.bool false)], args := [d1, d2, d3, d4] }
  | _ => none }
def AlignWholeWrongFalsely : Prop := alignWholeRow.holds Try.pinned (OpenSpec.ofChange alignWholeWrong)

/-- 'tactuslaw27.AlignBack': WHATEVER THE INPUT: true; the input reads as it did. -/
def alignBackSpec : ChangeSpec := { name := "alignBack", fn := fun _ => fun
  | [d1, d2, d3, d4] => { results := [.lit (.bool true)], args := [d1, d2, d3, d4] }
  | _ => none }
def alignBackRow : OpenClaim := { program := "ytbljfaocmeeljaa", sum := "ac55873e64204464d55e11d3475a855c50add008d3e8e86dcf4c9f1f81f7278c", func := "tactus/tactuslaw27.AlignBack", spec := "alignBack", unfollowed := true, recurses := true, apart := false }
def AlignBackSaid : Prop := alignBackRow.holds Try.pinned (OpenSpec.ofChange alignBackSpec)

/-- ITS FALSE NEIGHBOUR: 'it returns false'. Refute it at one input. -/
def alignBackWrong : ChangeSpec := { name := "alignBack", fn := fun _ => fun
  | [d1, d2, d3, d4] => { results := [.lit (.bool false)], args := [d1, d2, d3, d4] }
  | _ => none }
def AlignBackWrongFalsely : Prop := alignBackRow.holds Try.pinned (OpenSpec.ofChange alignBackWrong)

/-- 'tactuslaw27.AlignChanges': WHATEVER THE INPUT: true; the input reads as it did. -/
def alignChangesSpec : ChangeSpec := { name := "alignChanges", fn := fun _ => fun
  | [d1, d2, d3, d4] => { results := [.lit (.bool true)], args := [d1, d2, d3, d4] }
  | _ => none }
def alignChangesRow : OpenClaim := { program := "ytbljfaocmeeljaa", sum := "ac55873e64204464d55e11d3475a855c50add008d3e8e86dcf4c9f1f81f7278c", func := "tactus/tactuslaw27.AlignChanges", spec := "alignChanges", unfollowed := true, recurses := true, apart := false }
def AlignChangesSaid : Prop := alignChangesRow.holds Try.pinned (OpenSpec.ofChange alignChangesSpec)

/-- ITS FALSE NEIGHBOUR: 'it returns false'. Refute it at one input. -/
def alignChangesWrong : ChangeSpec := { name := "alignChanges", fn := fun _ => fun
  | [d1, d2, d3, d4] => { results := [.lit (.bool false)], args := [d1, d2, d3, d4] }
  | _ => none }
def AlignChangesWrongFalsely : Prop := alignChangesRow.holds Try.pinned (OpenSpec.ofChange alignChangesWrong)

/-- 'tactuslaw27.AlignOrder': WHATEVER THE INPUT: true; the input reads as it did. -/
def alignOrderSpec : ChangeSpec := { name := "alignOrder", fn := fun _ => fun
  | [d1, d2, d3, d4, d5] => { results := [.lit (.bool true)], args := [d1, d2, d3, d4, d5] }
  | _ => none }
def alignOrderRow : OpenClaim := { program := "ytbljfaocmeeljaa", sum := "ac55873e64204464d55e11d3475a855c50add008d3e8e86dcf4c9f1f81f7278c", func := "tactus/tactuslaw27.AlignOrder", spec := "alignOrder", unfollowed := true, recurses := true, apart := false }
def AlignOrderSaid : Prop := alignOrderRow.holds Try.pinned (OpenSpec.ofChange alignOrderSpec)

/-- ITS FALSE NEIGHBOUR: 'it returns false'. Refute it at one input. -/
def alignOrderWrong : ChangeSpec := { name := "alignOrder", fn := fun _ => fun
  | [d1, d2, d3, d4, d5] => { results := [.lit (.bool false)], args := [d1, d2, d3, d4, d5] }
  | _ => none }
def AlignOrderWrongFalsely : Prop := alignOrderRow.holds Try.pinned (OpenSpec.ofChange alignOrderWrong)

/- THE SECOND FORM. 'bulk': how many values and letters a reading holds, each counted each time it is reached (what is shared counts as often as it is met; a slice's spare places count too). A statement '..UptoSaid' is the law's where the arguments, and the package variables that the reading takes, are together of bulk at most 1048576: NARROWER than '..Said'. Prove '..Said' where nothing that the law and all that it calls make is longer than what came in: it says more and counts as full. Else prove '..UptoSaid'. A law counts once. -/
mutual
def uptoBulk {H : Type} : DataW H → Nat
  | .lit (.string bytes) => bytes.length + 1
  | .lit _ => 1
  | .nil => 1
  | .ptr d => uptoBulk d + 1
  | .slice elems spare => uptoBulkAll elems + uptoBulkAll spare + 1
  | .agg parts => uptoBulkAll parts + 1
  | .iface _ d => uptoBulk d + 1
  | .map entries => uptoBulkEntries entries + 1
  | .held _ => 1
def uptoBulkAll {H : Type} : List (DataW H) → Nat
  | [] => 0
  | d :: r => uptoBulk d + uptoBulkAll r
def uptoBulkEntries {H : Type} : List (Lit × DataW H) → Nat
  | [] => 0
  | x :: r => uptoBulkEntry x + uptoBulkEntries r
def uptoBulkEntry {H : Type} : Lit × DataW H → Nat
  | (.string bytes, d) => bytes.length + uptoBulk d + 1
  | (_, d) => uptoBulk d + 1
 end
def uptoSmall : (H : Type) → List (DataW H) → Bool := fun _ ds => decide (uptoBulkAll ds ≤ 1048576)
def OpenSpec.upto (s : _root_.Go.ChangeSpec) : _root_.Go.OpenSpec := { _root_.Go.OpenSpec.ofChange s with cond := some uptoSmall }

/-- 'tactuslaw27.AlignSlices', WHERE WHAT IT READS IS OF BULK AT MOST 1048576: true; the input reads as it did. -/
def alignSlicesUptoRow : OpenClaim := { program := "ytbljfaocmeeljaa", sum := "ac55873e64204464d55e11d3475a855c50add008d3e8e86dcf4c9f1f81f7278c", func := "tactus/tactuslaw27.AlignSlices", spec := "alignSlices", unfollowed := true, recurses := true, apart := false, narrowed := true }
def AlignSlicesUptoSaid : Prop := alignSlicesUptoRow.holds Try.pinned (OpenSpec.upto alignSlicesSpec)

/-- 'tactuslaw27.AlignSounds', WHERE WHAT IT READS IS OF BULK AT MOST 1048576: true; the input reads as it did. -/
def alignSoundsUptoRow : OpenClaim := { program := "ytbljfaocmeeljaa", sum := "ac55873e64204464d55e11d3475a855c50add008d3e8e86dcf4c9f1f81f7278c", func := "tactus/tactuslaw27.AlignSounds", spec := "alignSounds", unfollowed := true, recurses := true, apart := false, narrowed := true }
def AlignSoundsUptoSaid : Prop := alignSoundsUptoRow.holds Try.pinned (OpenSpec.upto alignSoundsSpec)

/-- 'tactuslaw27.AlignKnown', WHERE WHAT IT READS IS OF BULK AT MOST 1048576: true; the input reads as it did. -/
def alignKnownUptoRow : OpenClaim := { program := "ytbljfaocmeeljaa", sum := "ac55873e64204464d55e11d3475a855c50add008d3e8e86dcf4c9f1f81f7278c", func := "tactus/tactuslaw27.AlignKnown", spec := "alignKnown", unfollowed := true, recurses := true, apart := false, narrowed := true }
def AlignKnownUptoSaid : Prop := alignKnownUptoRow.holds Try.pinned (OpenSpec.upto alignKnownSpec)

/-- 'tactuslaw27.AlignWhole', WHERE WHAT IT READS IS OF BULK AT MOST 1048576: true; the input reads as it did. -/
def alignWholeUptoRow : OpenClaim := { program := "ytbljfaocmeeljaa", sum := "ac55873e64204464d55e11d3475a855c50add008d3e8e86dcf4c9f1f81f7278c", func := "tactus/tactuslaw27.AlignWhole", spec := "alignWhole", unfollowed := true, recurses := true, apart := false, narrowed := true }
def AlignWholeUptoSaid : Prop := alignWholeUptoRow.holds Try.pinned (OpenSpec.upto alignWholeSpec)

/-- 'tactuslaw27.AlignBack', WHERE WHAT IT READS IS OF BULK AT MOST 1048576: true; the input reads as it did. -/
def alignBackUptoRow : OpenClaim := { program := "ytbljfaocmeeljaa", sum := "ac55873e64204464d55e11d3475a855c50add008d3e8e86dcf4c9f1f81f7278c", func := "tactus/tactuslaw27.AlignBack", spec := "alignBack", unfollowed := true, recurses := true, apart := false, narrowed := true }
def AlignBackUptoSaid : Prop := alignBackUptoRow.holds Try.pinned (OpenSpec.upto alignBackSpec)

/-- 'tactuslaw27.AlignChanges', WHERE WHAT IT READS IS OF BULK AT MOST 1048576: true; the input reads as it did. -/
def alignChangesUptoRow : OpenClaim := { program := "ytbljfaocmeeljaa", sum := "ac55873e64204464d55e11d3475a855c50add008d3e8e86dcf4c9f1f81f7278c", func := "tactus/tactuslaw27.AlignChanges", spec := "alignChanges", unfollowed := true, recurses := true, apart := false, narrowed := true }
def AlignChangesUptoSaid : Prop := alignChangesUptoRow.holds Try.pinned (OpenSpec.upto alignChangesSpec)

/-- 'tactuslaw27.AlignOrder', WHERE WHAT IT READS IS OF BULK AT MOST 1048576: true; the input reads as it did. -/
def alignOrderUptoRow : OpenClaim := { program := "ytbljfaocmeeljaa", sum := "ac55873e64204464d55e11d3475a855c50add008d3e8e86dcf4c9f1f81f7278c", func := "tactus/tactuslaw27.AlignOrder", spec := "alignOrder", unfollowed := true, recurses := true, apart := false, narrowed := true }
def AlignOrderUptoSaid : Prop := alignOrderUptoRow.holds Try.pinned (OpenSpec.upto alignOrderSpec)

end Rows
end Go.Proofs.Ytbljfaocmeeljaa
