/-
  NARROWER THAN 'FOR EVERY INPUT', by the rows' own cells (each row's printed sentence says how): IntervalChords: laid · IntervalKinds: laid · IntervalKnown: laid · IntervalOctaves: laid · IntervalNames: laid · IntervalTaken: laid · IntervalOrder: laid.
  DERIVED. THE GIVEN ROWS OF THIS SEAT. 7 by the template 'for every input the law returns true; each argument reads behind the call as it read before'; 0 by the template 'total and deterministic' (their statements: YtmbnpblejhlefaaDoorTotals.lean).
  GIVEN WITH THE SEED: the statements are not yours to turn. If you find one false, say at which input.
  Laid BY PROGRAM, IN A SANDBOX (cutbox-rows.mjs): the forced cells as the released guide's own fill.sh prints them over the translation 9c7145354e200b03… (all of the seat's roots in one cut). By AI agents, Wed Nov 11 2026. No macro, syntax, notation, axiom, sorry.
-/
import Derived.Test.YtmbnpblejhlefaaDoorChecked
import GoSem.Claim
import GoSem.ClaimJoined
import GoSem.ClaimMapViews
import Derived.JoinedTies
import Derived.KernelRfl
namespace Go.Proofs.YtmbnpblejhlefaaDoor
/- THE CELL 'sum', in the pinned program and in every row, IS THE sha256 OF THE DUMP (.gsa) THAT YtmbnpblejhlefaaDoorProg.lean LOADS. Nothing in Lean hashes anything: it is a label: what it is worth is what the hold of that sum in a sandbox is worth. -/
noncomputable def Tryd.pinned : Pinned := { name := "ytmbnpblejhlefaadoor", sum := "9c7145354e200b031277100057c29aad29675d6782706b3df99c66d9046cd36e", checked := Tryd.checked }
namespace Rows
def none {H : Type} : Left H := { results := [], args := [] }

/- WHAT THE LISTED PACKAGE-LEVEL VARIABLES READ AS WHEN THE CALL BEGINS. Each datum BY PROGRAM (the guide's laid-datum.mjs) off the statement by which the dump's own 'gosem.cut.vars' lays the variable. In a bare row this is a premise. The card (YtmbnpblejhlefaaDoorCards.lean) ties it to the program's text. -/
def laid_math_bits_deBruijn32tab {H : Type} : DataW H := .agg [.lit (.int .u8 0), .lit (.int .u8 1), .lit (.int .u8 28), .lit (.int .u8 2), .lit (.int .u8 29), .lit (.int .u8 14), .lit (.int .u8 24), .lit (.int .u8 3), .lit (.int .u8 30), .lit (.int .u8 22), .lit (.int .u8 20), .lit (.int .u8 15), .lit (.int .u8 25), .lit (.int .u8 17), .lit (.int .u8 4), .lit (.int .u8 8), .lit (.int .u8 31), .lit (.int .u8 27), .lit (.int .u8 13), .lit (.int .u8 23), .lit (.int .u8 21), .lit (.int .u8 19), .lit (.int .u8 16), .lit (.int .u8 7), .lit (.int .u8 26), .lit (.int .u8 12), .lit (.int .u8 18), .lit (.int .u8 6), .lit (.int .u8 11), .lit (.int .u8 5), .lit (.int .u8 10), .lit (.int .u8 9)]
def laid_math_bits_deBruijn64tab {H : Type} : DataW H := .agg [.lit (.int .u8 0), .lit (.int .u8 1), .lit (.int .u8 56), .lit (.int .u8 2), .lit (.int .u8 57), .lit (.int .u8 49), .lit (.int .u8 28), .lit (.int .u8 3), .lit (.int .u8 61), .lit (.int .u8 58), .lit (.int .u8 42), .lit (.int .u8 50), .lit (.int .u8 38), .lit (.int .u8 29), .lit (.int .u8 17), .lit (.int .u8 4), .lit (.int .u8 62), .lit (.int .u8 47), .lit (.int .u8 59), .lit (.int .u8 36), .lit (.int .u8 45), .lit (.int .u8 43), .lit (.int .u8 51), .lit (.int .u8 22), .lit (.int .u8 53), .lit (.int .u8 39), .lit (.int .u8 33), .lit (.int .u8 30), .lit (.int .u8 24), .lit (.int .u8 18), .lit (.int .u8 12), .lit (.int .u8 5), .lit (.int .u8 63), .lit (.int .u8 55), .lit (.int .u8 48), .lit (.int .u8 27), .lit (.int .u8 60), .lit (.int .u8 41), .lit (.int .u8 37), .lit (.int .u8 16), .lit (.int .u8 46), .lit (.int .u8 35), .lit (.int .u8 44), .lit (.int .u8 21), .lit (.int .u8 52), .lit (.int .u8 32), .lit (.int .u8 23), .lit (.int .u8 11), .lit (.int .u8 54), .lit (.int .u8 26), .lit (.int .u8 40), .lit (.int .u8 15), .lit (.int .u8 34), .lit (.int .u8 20), .lit (.int .u8 31), .lit (.int .u8 10), .lit (.int .u8 25), .lit (.int .u8 14), .lit (.int .u8 19), .lit (.int .u8 9), .lit (.int .u8 13), .lit (.int .u8 8), .lit (.int .u8 7), .lit (.int .u8 6)]
def laid_internal_strconv_uint64pow10 {H : Type} : DataW H := .agg [.lit (.int .u64 1), .lit (.int .u64 10), .lit (.int .u64 100), .lit (.int .u64 1000), .lit (.int .u64 10000), .lit (.int .u64 100000), .lit (.int .u64 1000000), .lit (.int .u64 10000000), .lit (.int .u64 100000000), .lit (.int .u64 1000000000), .lit (.int .u64 10000000000), .lit (.int .u64 100000000000), .lit (.int .u64 1000000000000), .lit (.int .u64 10000000000000), .lit (.int .u64 100000000000000), .lit (.int .u64 1000000000000000), .lit (.int .u64 10000000000000000), .lit (.int .u64 100000000000000000), .lit (.int .u64 1000000000000000000), .lit (.int .u64 10000000000000000000)]
def laid_tactus_pitch_halves {H : Type} : DataW H := .agg [.lit (.int .i64 0), .lit (.int .i64 2), .lit (.int .i64 4), .lit (.int .i64 5), .lit (.int .i64 7), .lit (.int .i64 9), .lit (.int .i64 11)]
def laid_tactus_interval_kinds {H : Type} : DataW H := .agg [.agg [.lit (.int .i64 1), .lit (.int .i64 0), .lit (.int .i64 0), .lit (.int .i64 0), .lit (.int .i64 0), .lit (.int .i64 0), .lit (.int .i64 0), .lit (.int .i64 0), .lit (.int .i64 0), .lit (.int .i64 0), .lit (.int .i64 0), .lit (.int .i64 0), .lit (.int .i64 0)], .agg [.lit (.int .i64 0), .lit (.int .i64 0), .lit (.int .i64 0), .lit (.int .i64 0), .lit (.int .i64 0), .lit (.int .i64 0), .lit (.int .i64 0), .lit (.int .i64 0), .lit (.int .i64 0), .lit (.int .i64 0), .lit (.int .i64 0), .lit (.int .i64 0), .lit (.int .i64 0)], .agg [.lit (.int .i64 0), .lit (.int .i64 0), .lit (.int .i64 0), .lit (.int .i64 2), .lit (.int .i64 2), .lit (.int .i64 0), .lit (.int .i64 0), .lit (.int .i64 0), .lit (.int .i64 0), .lit (.int .i64 0), .lit (.int .i64 0), .lit (.int .i64 0), .lit (.int .i64 0)], .agg [.lit (.int .i64 0), .lit (.int .i64 0), .lit (.int .i64 0), .lit (.int .i64 0), .lit (.int .i64 0), .lit (.int .i64 3), .lit (.int .i64 4), .lit (.int .i64 0), .lit (.int .i64 0), .lit (.int .i64 0), .lit (.int .i64 0), .lit (.int .i64 0), .lit (.int .i64 0)], .agg [.lit (.int .i64 0), .lit (.int .i64 0), .lit (.int .i64 0), .lit (.int .i64 0), .lit (.int .i64 0), .lit (.int .i64 0), .lit (.int .i64 4), .lit (.int .i64 1), .lit (.int .i64 0), .lit (.int .i64 0), .lit (.int .i64 0), .lit (.int .i64 0), .lit (.int .i64 0)], .agg [.lit (.int .i64 0), .lit (.int .i64 0), .lit (.int .i64 0), .lit (.int .i64 0), .lit (.int .i64 0), .lit (.int .i64 0), .lit (.int .i64 0), .lit (.int .i64 0), .lit (.int .i64 2), .lit (.int .i64 2), .lit (.int .i64 0), .lit (.int .i64 0), .lit (.int .i64 0)], .agg [.lit (.int .i64 0), .lit (.int .i64 0), .lit (.int .i64 0), .lit (.int .i64 0), .lit (.int .i64 0), .lit (.int .i64 0), .lit (.int .i64 0), .lit (.int .i64 0), .lit (.int .i64 0), .lit (.int .i64 0), .lit (.int .i64 0), .lit (.int .i64 0), .lit (.int .i64 0)]]
def laid_tactus_interval_sizes {H : Type} : DataW H := .agg [.lit (.int .i64 0), .lit (.int .i64 2), .lit (.int .i64 4), .lit (.int .i64 5), .lit (.int .i64 7), .lit (.int .i64 9), .lit (.int .i64 11)]
def laid_strconv_ErrRange {H : Type} : DataW H := .iface "*errors.errorString" (.ptr (.agg [.lit (.string [118, 97, 108, 117, 101, 32, 111, 117, 116, 32, 111, 102, 32, 114, 97, 110, 103, 101])]))
def laid_strconv_ErrSyntax {H : Type} : DataW H := .iface "*errors.errorString" (.ptr (.agg [.lit (.string [105, 110, 118, 97, 108, 105, 100, 32, 115, 121, 110, 116, 97, 120])]))

/-- 'tactuslaw28.IntervalChords': WHATEVER THE INPUT: true; the input reads as it did. -/
def intervalChordsSpec : ChangeSpec := { name := "intervalChords", fn := fun _ => fun
  | [d1, d2, d3] => { results := [.lit (.bool true)], args := [d1, d2, d3] }
  | _ => none }
def intervalChordsRow : OpenClaim := { program := "ytmbnpblejhlefaadoor", sum := "9c7145354e200b031277100057c29aad29675d6782706b3df99c66d9046cd36e", func := "tactus/tactuslaw28.IntervalChords", spec := "intervalChords", named := ["tactus/interval.kinds", "tactus/pitch.halves", "tactus/interval.sizes", "internal/strconv.uint64pow10", "math/bits.deBruijn32tab", "math/bits.deBruijn64tab"], apart := false, laid := [("math/bits.deBruijn32tab", laid_math_bits_deBruijn32tab), ("math/bits.deBruijn64tab", laid_math_bits_deBruijn64tab), ("internal/strconv.uint64pow10", laid_internal_strconv_uint64pow10), ("tactus/pitch.halves", laid_tactus_pitch_halves), ("tactus/interval.kinds", laid_tactus_interval_kinds), ("tactus/interval.sizes", laid_tactus_interval_sizes)] }
def IntervalChordsSaid : Prop := intervalChordsRow.holds Tryd.pinned (OpenSpec.ofChange intervalChordsSpec)

/-- ITS FALSE NEIGHBOUR: 'it returns false'. Refute it at one input. -/
def intervalChordsWrong : ChangeSpec := { name := "intervalChords", fn := fun _ => fun
  | [d1, d2, d3] => { results := [.lit (.bool false)], args := [d1, d2, d3] }
  | _ => none }
def IntervalChordsWrongFalsely : Prop := intervalChordsRow.holds Tryd.pinned (OpenSpec.ofChange intervalChordsWrong)

/-- 'tactuslaw28.IntervalKinds': WHATEVER THE INPUT: true; the input reads as it did. -/
def intervalKindsSpec : ChangeSpec := { name := "intervalKinds", fn := fun _ => fun
  | [d1, d2, d3] => { results := [.lit (.bool true)], args := [d1, d2, d3] }
  | _ => none }
def intervalKindsRow : OpenClaim := { program := "ytmbnpblejhlefaadoor", sum := "9c7145354e200b031277100057c29aad29675d6782706b3df99c66d9046cd36e", func := "tactus/tactuslaw28.IntervalKinds", spec := "intervalKinds", named := ["tactus/interval.kinds", "tactus/pitch.halves", "tactus/interval.sizes", "internal/strconv.uint64pow10", "math/bits.deBruijn32tab", "math/bits.deBruijn64tab", "strconv.ErrSyntax", "strconv.ErrRange"], apart := false, laid := [("math/bits.deBruijn32tab", laid_math_bits_deBruijn32tab), ("math/bits.deBruijn64tab", laid_math_bits_deBruijn64tab), ("internal/strconv.uint64pow10", laid_internal_strconv_uint64pow10), ("strconv.ErrRange", laid_strconv_ErrRange), ("strconv.ErrSyntax", laid_strconv_ErrSyntax), ("tactus/pitch.halves", laid_tactus_pitch_halves), ("tactus/interval.kinds", laid_tactus_interval_kinds), ("tactus/interval.sizes", laid_tactus_interval_sizes)] }
def IntervalKindsSaid : Prop := intervalKindsRow.holds Tryd.pinned (OpenSpec.ofChange intervalKindsSpec)

/-- ITS FALSE NEIGHBOUR: 'it returns false'. Refute it at one input. -/
def intervalKindsWrong : ChangeSpec := { name := "intervalKinds", fn := fun _ => fun
  | [d1, d2, d3] => { results := [.lit (.bool false)], args := [d1, d2, d3] }
  | _ => none }
def IntervalKindsWrongFalsely : Prop := intervalKindsRow.holds Tryd.pinned (OpenSpec.ofChange intervalKindsWrong)

/-- 'tactuslaw28.IntervalKnown': WHATEVER THE INPUT: true; the input reads as it did. -/
def intervalKnownSpec : ChangeSpec := { name := "intervalKnown", fn := fun _ => fun
  | [] => { results := [.lit (.bool true)], args := [] }
  | _ => none }
def intervalKnownRow : OpenClaim := { program := "ytmbnpblejhlefaadoor", sum := "9c7145354e200b031277100057c29aad29675d6782706b3df99c66d9046cd36e", func := "tactus/tactuslaw28.IntervalKnown", spec := "intervalKnown", named := ["tactus/interval.kinds", "tactus/pitch.halves", "tactus/interval.sizes", "internal/strconv.uint64pow10", "math/bits.deBruijn32tab", "math/bits.deBruijn64tab", "strconv.ErrSyntax", "strconv.ErrRange"], apart := false, laid := [("math/bits.deBruijn32tab", laid_math_bits_deBruijn32tab), ("math/bits.deBruijn64tab", laid_math_bits_deBruijn64tab), ("internal/strconv.uint64pow10", laid_internal_strconv_uint64pow10), ("strconv.ErrRange", laid_strconv_ErrRange), ("strconv.ErrSyntax", laid_strconv_ErrSyntax), ("tactus/pitch.halves", laid_tactus_pitch_halves), ("tactus/interval.kinds", laid_tactus_interval_kinds), ("tactus/interval.sizes", laid_tactus_interval_sizes)] }
def IntervalKnownSaid : Prop := intervalKnownRow.holds Tryd.pinned (OpenSpec.ofChange intervalKnownSpec)

/-- ITS FALSE NEIGHBOUR: 'it returns false'. Refute it at one input. -/
def intervalKnownWrong : ChangeSpec := { name := "intervalKnown", fn := fun _ => fun
  | [] => { results := [.lit (.bool false)], args := [] }
  | _ => none }
def IntervalKnownWrongFalsely : Prop := intervalKnownRow.holds Tryd.pinned (OpenSpec.ofChange intervalKnownWrong)

/-- 'tactuslaw28.IntervalOctaves': WHATEVER THE INPUT: true; the input reads as it did. -/
def intervalOctavesSpec : ChangeSpec := { name := "intervalOctaves", fn := fun _ => fun
  | [d1, d2] => { results := [.lit (.bool true)], args := [d1, d2] }
  | _ => none }
def intervalOctavesRow : OpenClaim := { program := "ytmbnpblejhlefaadoor", sum := "9c7145354e200b031277100057c29aad29675d6782706b3df99c66d9046cd36e", func := "tactus/tactuslaw28.IntervalOctaves", spec := "intervalOctaves", named := ["tactus/interval.kinds", "tactus/pitch.halves", "tactus/interval.sizes", "internal/strconv.uint64pow10", "math/bits.deBruijn32tab", "math/bits.deBruijn64tab", "strconv.ErrSyntax", "strconv.ErrRange"], apart := false, laid := [("math/bits.deBruijn32tab", laid_math_bits_deBruijn32tab), ("math/bits.deBruijn64tab", laid_math_bits_deBruijn64tab), ("internal/strconv.uint64pow10", laid_internal_strconv_uint64pow10), ("strconv.ErrRange", laid_strconv_ErrRange), ("strconv.ErrSyntax", laid_strconv_ErrSyntax), ("tactus/pitch.halves", laid_tactus_pitch_halves), ("tactus/interval.kinds", laid_tactus_interval_kinds), ("tactus/interval.sizes", laid_tactus_interval_sizes)] }
def IntervalOctavesSaid : Prop := intervalOctavesRow.holds Tryd.pinned (OpenSpec.ofChange intervalOctavesSpec)

/-- ITS FALSE NEIGHBOUR: 'it returns false'. Refute it at one input. -/
def intervalOctavesWrong : ChangeSpec := { name := "intervalOctaves", fn := fun _ => fun
  | [d1, d2] => { results := [.lit (.bool false)], args := [d1, d2] }
  | _ => none }
def IntervalOctavesWrongFalsely : Prop := intervalOctavesRow.holds Tryd.pinned (OpenSpec.ofChange intervalOctavesWrong)

/-- 'tactuslaw28.IntervalNames': WHATEVER THE INPUT: true; the input reads as it did. -/
def intervalNamesSpec : ChangeSpec := { name := "intervalNames", fn := fun _ => fun
  | [d1, d2, d3, d4] => { results := [.lit (.bool true)], args := [d1, d2, d3, d4] }
  | _ => none }
def intervalNamesRow : OpenClaim := { program := "ytmbnpblejhlefaadoor", sum := "9c7145354e200b031277100057c29aad29675d6782706b3df99c66d9046cd36e", func := "tactus/tactuslaw28.IntervalNames", spec := "intervalNames", named := ["tactus/interval.kinds", "tactus/pitch.halves", "tactus/interval.sizes", "internal/strconv.uint64pow10", "math/bits.deBruijn32tab", "math/bits.deBruijn64tab", "strconv.ErrSyntax", "strconv.ErrRange"], apart := false, laid := [("math/bits.deBruijn32tab", laid_math_bits_deBruijn32tab), ("math/bits.deBruijn64tab", laid_math_bits_deBruijn64tab), ("internal/strconv.uint64pow10", laid_internal_strconv_uint64pow10), ("strconv.ErrRange", laid_strconv_ErrRange), ("strconv.ErrSyntax", laid_strconv_ErrSyntax), ("tactus/pitch.halves", laid_tactus_pitch_halves), ("tactus/interval.kinds", laid_tactus_interval_kinds), ("tactus/interval.sizes", laid_tactus_interval_sizes)] }
def IntervalNamesSaid : Prop := intervalNamesRow.holds Tryd.pinned (OpenSpec.ofChange intervalNamesSpec)

/-- ITS FALSE NEIGHBOUR: 'it returns false'. Refute it at one input. -/
def intervalNamesWrong : ChangeSpec := { name := "intervalNames", fn := fun _ => fun
  | [d1, d2, d3, d4] => { results := [.lit (.bool false)], args := [d1, d2, d3, d4] }
  | _ => none }
def IntervalNamesWrongFalsely : Prop := intervalNamesRow.holds Tryd.pinned (OpenSpec.ofChange intervalNamesWrong)

/-- 'tactuslaw28.IntervalTaken': WHATEVER THE INPUT: true; the input reads as it did. -/
def intervalTakenSpec : ChangeSpec := { name := "intervalTaken", fn := fun _ => fun
  | [d1, d2] => { results := [.lit (.bool true)], args := [d1, d2] }
  | _ => none }
def intervalTakenRow : OpenClaim := { program := "ytmbnpblejhlefaadoor", sum := "9c7145354e200b031277100057c29aad29675d6782706b3df99c66d9046cd36e", func := "tactus/tactuslaw28.IntervalTaken", spec := "intervalTaken", named := ["tactus/interval.kinds", "tactus/pitch.halves", "tactus/interval.sizes", "internal/strconv.uint64pow10", "math/bits.deBruijn32tab", "math/bits.deBruijn64tab", "strconv.ErrSyntax", "strconv.ErrRange"], apart := false, laid := [("math/bits.deBruijn32tab", laid_math_bits_deBruijn32tab), ("math/bits.deBruijn64tab", laid_math_bits_deBruijn64tab), ("internal/strconv.uint64pow10", laid_internal_strconv_uint64pow10), ("strconv.ErrRange", laid_strconv_ErrRange), ("strconv.ErrSyntax", laid_strconv_ErrSyntax), ("tactus/pitch.halves", laid_tactus_pitch_halves), ("tactus/interval.kinds", laid_tactus_interval_kinds), ("tactus/interval.sizes", laid_tactus_interval_sizes)] }
def IntervalTakenSaid : Prop := intervalTakenRow.holds Tryd.pinned (OpenSpec.ofChange intervalTakenSpec)

/-- ITS FALSE NEIGHBOUR: 'it returns false'. Refute it at one input. -/
def intervalTakenWrong : ChangeSpec := { name := "intervalTaken", fn := fun _ => fun
  | [d1, d2] => { results := [.lit (.bool false)], args := [d1, d2] }
  | _ => none }
def IntervalTakenWrongFalsely : Prop := intervalTakenRow.holds Tryd.pinned (OpenSpec.ofChange intervalTakenWrong)

/-- 'tactuslaw28.IntervalOrder': WHATEVER THE INPUT: true; the input reads as it did. -/
def intervalOrderSpec : ChangeSpec := { name := "intervalOrder", fn := fun _ => fun
  | [d1, d2] => { results := [.lit (.bool true)], args := [d1, d2] }
  | _ => none }
def intervalOrderRow : OpenClaim := { program := "ytmbnpblejhlefaadoor", sum := "9c7145354e200b031277100057c29aad29675d6782706b3df99c66d9046cd36e", func := "tactus/tactuslaw28.IntervalOrder", spec := "intervalOrder", named := ["tactus/interval.kinds", "tactus/pitch.halves", "tactus/interval.sizes", "internal/strconv.uint64pow10", "math/bits.deBruijn32tab", "math/bits.deBruijn64tab", "strconv.ErrSyntax", "strconv.ErrRange"], apart := false, laid := [("math/bits.deBruijn32tab", laid_math_bits_deBruijn32tab), ("math/bits.deBruijn64tab", laid_math_bits_deBruijn64tab), ("internal/strconv.uint64pow10", laid_internal_strconv_uint64pow10), ("strconv.ErrRange", laid_strconv_ErrRange), ("strconv.ErrSyntax", laid_strconv_ErrSyntax), ("tactus/pitch.halves", laid_tactus_pitch_halves), ("tactus/interval.kinds", laid_tactus_interval_kinds), ("tactus/interval.sizes", laid_tactus_interval_sizes)] }
def IntervalOrderSaid : Prop := intervalOrderRow.holds Tryd.pinned (OpenSpec.ofChange intervalOrderSpec)

/-- ITS FALSE NEIGHBOUR: 'it returns false'. Refute it at one input. -/
def intervalOrderWrong : ChangeSpec := { name := "intervalOrder", fn := fun _ => fun
  | [d1, d2] => { results := [.lit (.bool false)], args := [d1, d2] }
  | _ => none }
def IntervalOrderWrongFalsely : Prop := intervalOrderRow.holds Tryd.pinned (OpenSpec.ofChange intervalOrderWrong)

/- THE SECOND FORM. 'bulk': how many values and letters a reading holds, each counted each time it is reached (what is shared counts as often as it is met; a slice's spare places count too). A statement '..UptoSaid' is the law's where the arguments, and the package variables that the reading takes, are together of bulk at most 1048576: NARROWER than '..Said'. Prove '..Said' where nothing that the law and all that it calls make is longer than what came in: it says more and counts as full. Else prove '..UptoSaid'. A law counts once. -/
mutual
def uptoBulk {H : Type} : DataW H → Nat
  | .lit (.string bytes) => bytes.length + 1
  | .lit _ => 1
  | .nil => 1
  | .ptr d => uptoBulk d + 1
  | .slice elems spare => uptoBulkAll elems + uptoBulkAll spare + 1
  | .agg parts => uptoBulkAll parts + 1
  | .iface _ d => uptoBulk d + 1
  | .map entries => uptoBulkEntries entries + 1
  | .held _ => 1
def uptoBulkAll {H : Type} : List (DataW H) → Nat
  | [] => 0
  | d :: r => uptoBulk d + uptoBulkAll r
def uptoBulkEntries {H : Type} : List (Lit × DataW H) → Nat
  | [] => 0
  | x :: r => uptoBulkEntry x + uptoBulkEntries r
def uptoBulkEntry {H : Type} : Lit × DataW H → Nat
  | (.string bytes, d) => bytes.length + uptoBulk d + 1
  | (_, d) => uptoBulk d + 1
 end
def uptoSmall : (H : Type) → List (DataW H) → Bool := fun _ ds => decide (uptoBulkAll ds ≤ 1048576)
def OpenSpec.upto (s : _root_.Go.ChangeSpec) : _root_.Go.OpenSpec := { _root_.Go.OpenSpec.ofChange s with cond := some uptoSmall }

/-- 'tactuslaw28.IntervalChords', WHERE WHAT IT READS IS OF BULK AT MOST 1048576: true; the input reads as it did. -/
def intervalChordsUptoRow : OpenClaim := { program := "ytmbnpblejhlefaadoor", sum := "9c7145354e200b031277100057c29aad29675d6782706b3df99c66d9046cd36e", func := "tactus/tactuslaw28.IntervalChords", spec := "intervalChords", named := ["tactus/interval.kinds", "tactus/pitch.halves", "tactus/interval.sizes", "internal/strconv.uint64pow10", "math/bits.deBruijn32tab", "math/bits.deBruijn64tab"], apart := false, laid := [("math/bits.deBruijn32tab", laid_math_bits_deBruijn32tab), ("math/bits.deBruijn64tab", laid_math_bits_deBruijn64tab), ("internal/strconv.uint64pow10", laid_internal_strconv_uint64pow10), ("tactus/pitch.halves", laid_tactus_pitch_halves), ("tactus/interval.kinds", laid_tactus_interval_kinds), ("tactus/interval.sizes", laid_tactus_interval_sizes)], narrowed := true }
def IntervalChordsUptoSaid : Prop := intervalChordsUptoRow.holds Tryd.pinned (OpenSpec.upto intervalChordsSpec)

/-- 'tactuslaw28.IntervalKinds', WHERE WHAT IT READS IS OF BULK AT MOST 1048576: true; the input reads as it did. -/
def intervalKindsUptoRow : OpenClaim := { program := "ytmbnpblejhlefaadoor", sum := "9c7145354e200b031277100057c29aad29675d6782706b3df99c66d9046cd36e", func := "tactus/tactuslaw28.IntervalKinds", spec := "intervalKinds", named := ["tactus/interval.kinds", "tactus/pitch.halves", "tactus/interval.sizes", "internal/strconv.uint64pow10", "math/bits.deBruijn32tab", "math/bits.deBruijn64tab", "strconv.ErrSyntax", "strconv.ErrRange"], apart := false, laid := [("math/bits.deBruijn32tab", laid_math_bits_deBruijn32tab), ("math/bits.deBruijn64tab", laid_math_bits_deBruijn64tab), ("internal/strconv.uint64pow10", laid_internal_strconv_uint64pow10), ("strconv.ErrRange", laid_strconv_ErrRange), ("strconv.ErrSyntax", laid_strconv_ErrSyntax), ("tactus/pitch.halves", laid_tactus_pitch_halves), ("tactus/interval.kinds", laid_tactus_interval_kinds), ("tactus/interval.sizes", laid_tactus_interval_sizes)], narrowed := true }
def IntervalKindsUptoSaid : Prop := intervalKindsUptoRow.holds Tryd.pinned (OpenSpec.upto intervalKindsSpec)

/-- 'tactuslaw28.IntervalKnown', WHERE WHAT IT READS IS OF BULK AT MOST 1048576: true; the input reads as it did. -/
def intervalKnownUptoRow : OpenClaim := { program := "ytmbnpblejhlefaadoor", sum := "9c7145354e200b031277100057c29aad29675d6782706b3df99c66d9046cd36e", func := "tactus/tactuslaw28.IntervalKnown", spec := "intervalKnown", named := ["tactus/interval.kinds", "tactus/pitch.halves", "tactus/interval.sizes", "internal/strconv.uint64pow10", "math/bits.deBruijn32tab", "math/bits.deBruijn64tab", "strconv.ErrSyntax", "strconv.ErrRange"], apart := false, laid := [("math/bits.deBruijn32tab", laid_math_bits_deBruijn32tab), ("math/bits.deBruijn64tab", laid_math_bits_deBruijn64tab), ("internal/strconv.uint64pow10", laid_internal_strconv_uint64pow10), ("strconv.ErrRange", laid_strconv_ErrRange), ("strconv.ErrSyntax", laid_strconv_ErrSyntax), ("tactus/pitch.halves", laid_tactus_pitch_halves), ("tactus/interval.kinds", laid_tactus_interval_kinds), ("tactus/interval.sizes", laid_tactus_interval_sizes)], narrowed := true }
def IntervalKnownUptoSaid : Prop := intervalKnownUptoRow.holds Tryd.pinned (OpenSpec.upto intervalKnownSpec)

/-- 'tactuslaw28.IntervalOctaves', WHERE WHAT IT READS IS OF BULK AT MOST 1048576: true; the input reads as it did. -/
def intervalOctavesUptoRow : OpenClaim := { program := "ytmbnpblejhlefaadoor", sum := "9c7145354e200b031277100057c29aad29675d6782706b3df99c66d9046cd36e", func := "tactus/tactuslaw28.IntervalOctaves", spec := "intervalOctaves", named := ["tactus/interval.kinds", "tactus/pitch.halves", "tactus/interval.sizes", "internal/strconv.uint64pow10", "math/bits.deBruijn32tab", "math/bits.deBruijn64tab", "strconv.ErrSyntax", "strconv.ErrRange"], apart := false, laid := [("math/bits.deBruijn32tab", laid_math_bits_deBruijn32tab), ("math/bits.deBruijn64tab", laid_math_bits_deBruijn64tab), ("internal/strconv.uint64pow10", laid_internal_strconv_uint64pow10), ("strconv.ErrRange", laid_strconv_ErrRange), ("strconv.ErrSyntax", laid_strconv_ErrSyntax), ("tactus/pitch.halves", laid_tactus_pitch_halves), ("tactus/interval.kinds", laid_tactus_interval_kinds), ("tactus/interval.sizes", laid_tactus_interval_sizes)], narrowed := true }
def IntervalOctavesUptoSaid : Prop := intervalOctavesUptoRow.holds Tryd.pinned (OpenSpec.upto intervalOctavesSpec)

/-- 'tactuslaw28.IntervalNames', WHERE WHAT IT READS IS OF BULK AT MOST 1048576: true; the input reads as it did. -/
def intervalNamesUptoRow : OpenClaim := { program := "ytmbnpblejhlefaadoor", sum := "9c7145354e200b031277100057c29aad29675d6782706b3df99c66d9046cd36e", func := "tactus/tactuslaw28.IntervalNames", spec := "intervalNames", named := ["tactus/interval.kinds", "tactus/pitch.halves", "tactus/interval.sizes", "internal/strconv.uint64pow10", "math/bits.deBruijn32tab", "math/bits.deBruijn64tab", "strconv.ErrSyntax", "strconv.ErrRange"], apart := false, laid := [("math/bits.deBruijn32tab", laid_math_bits_deBruijn32tab), ("math/bits.deBruijn64tab", laid_math_bits_deBruijn64tab), ("internal/strconv.uint64pow10", laid_internal_strconv_uint64pow10), ("strconv.ErrRange", laid_strconv_ErrRange), ("strconv.ErrSyntax", laid_strconv_ErrSyntax), ("tactus/pitch.halves", laid_tactus_pitch_halves), ("tactus/interval.kinds", laid_tactus_interval_kinds), ("tactus/interval.sizes", laid_tactus_interval_sizes)], narrowed := true }
def IntervalNamesUptoSaid : Prop := intervalNamesUptoRow.holds Tryd.pinned (OpenSpec.upto intervalNamesSpec)

/-- 'tactuslaw28.IntervalTaken', WHERE WHAT IT READS IS OF BULK AT MOST 1048576: true; the input reads as it did. -/
def intervalTakenUptoRow : OpenClaim := { program := "ytmbnpblejhlefaadoor", sum := "9c7145354e200b031277100057c29aad29675d6782706b3df99c66d9046cd36e", func := "tactus/tactuslaw28.IntervalTaken", spec := "intervalTaken", named := ["tactus/interval.kinds", "tactus/pitch.halves", "tactus/interval.sizes", "internal/strconv.uint64pow10", "math/bits.deBruijn32tab", "math/bits.deBruijn64tab", "strconv.ErrSyntax", "strconv.ErrRange"], apart := false, laid := [("math/bits.deBruijn32tab", laid_math_bits_deBruijn32tab), ("math/bits.deBruijn64tab", laid_math_bits_deBruijn64tab), ("internal/strconv.uint64pow10", laid_internal_strconv_uint64pow10), ("strconv.ErrRange", laid_strconv_ErrRange), ("strconv.ErrSyntax", laid_strconv_ErrSyntax), ("tactus/pitch.halves", laid_tactus_pitch_halves), ("tactus/interval.kinds", laid_tactus_interval_kinds), ("tactus/interval.sizes", laid_tactus_interval_sizes)], narrowed := true }
def IntervalTakenUptoSaid : Prop := intervalTakenUptoRow.holds Tryd.pinned (OpenSpec.upto intervalTakenSpec)

/-- 'tactuslaw28.IntervalOrder', WHERE WHAT IT READS IS OF BULK AT MOST 1048576: true; the input reads as it did. -/
def intervalOrderUptoRow : OpenClaim := { program := "ytmbnpblejhlefaadoor", sum := "9c7145354e200b031277100057c29aad29675d6782706b3df99c66d9046cd36e", func := "tactus/tactuslaw28.IntervalOrder", spec := "intervalOrder", named := ["tactus/interval.kinds", "tactus/pitch.halves", "tactus/interval.sizes", "internal/strconv.uint64pow10", "math/bits.deBruijn32tab", "math/bits.deBruijn64tab", "strconv.ErrSyntax", "strconv.ErrRange"], apart := false, laid := [("math/bits.deBruijn32tab", laid_math_bits_deBruijn32tab), ("math/bits.deBruijn64tab", laid_math_bits_deBruijn64tab), ("internal/strconv.uint64pow10", laid_internal_strconv_uint64pow10), ("strconv.ErrRange", laid_strconv_ErrRange), ("strconv.ErrSyntax", laid_strconv_ErrSyntax), ("tactus/pitch.halves", laid_tactus_pitch_halves), ("tactus/interval.kinds", laid_tactus_interval_kinds), ("tactus/interval.sizes", laid_tactus_interval_sizes)], narrowed := true }
def IntervalOrderUptoSaid : Prop := intervalOrderUptoRow.holds Tryd.pinned (OpenSpec.upto intervalOrderSpec)

end Rows
end Go.Proofs.YtmbnpblejhlefaaDoor
