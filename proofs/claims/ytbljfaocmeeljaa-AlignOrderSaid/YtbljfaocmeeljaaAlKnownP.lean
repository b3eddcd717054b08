/- The law of the chapter's examples: its walk. -/
import Derived.Test.YtbljfaocmeeljaaAlKnown
import Derived.Test.YtbljfaocmeeljaaAlStarts
namespace Go.Proofs.Ytbljfaocmeeljaa
open Go.RowKit
set_option maxRecDepth 100000 in
set_option maxHeartbeats 16000000 in
theorem known_any (w : World) : Calls Try.prog 5 #[] w fun e w' => e = .returned (.bool true) ∧ Below w.heap.size w w' := by
  have qt3 := t_any 3 1
  have qt6 := t_any 6 1
  rw [tS_one 3] at qt3
  rw [tS_one 6] at qt6
  go_enter Try.func5, Try.ntmps5
  go_wp2_with fail
  refine (two_any _).mono ?_
  rintro e w1 ⟨A1, rfl, r1, k1⟩
  go_wp2_with fail
  refine Calls.mono (end_any A1 2 2 twoL _ w1 r1 (Nat.le_refl _) (by omega)) ?_
  rintro e w2 ⟨rfl, b2⟩
  have k2 := below_call k1 b2
  rw [two_end]
  simp only
  clear r1 b2 k1
  go_wp2_with fail
  have T2 : Blk (w2.alloc (.cells #[.int .i64 6, .int .i64 1] 34)) w2.heap.size 34 #[.int .i64 6, .int .i64 1] := Blk.new _ _ _
  have k2' := below_alloc k2 (.cells #[.int .i64 6, .int .i64 1] 34)
  refine (two_any _).mono ?_
  rintro e w3 ⟨A3, rfl, r3, b3⟩
  have T3 := T2.kept b3
  have k3 := below_call k2' b3
  go_wp2_with fail
  refine (qt3 _ (by omega) (by omega) (by omega) (by omega)).mono ?_
  rintro e w4 ⟨rfl, b4⟩
  have T4 := T3.kept b4
  have k4 := below_call k3 b4
  have r4 := rdV r3 b4
  go_wp2_with fail
  refine Calls.mono (at_any A3 2 2 twoL (3, 1) _ w4 r4 (Nat.le_refl _) (by omega)) ?_
  rintro e w5 ⟨rfl, b5⟩
  have T5 := T4.kept b5
  have k5 := below_call k4 b5
  rw [two_at3]
  simp only
  go_wp2_with fail
  refine (two_any _).mono ?_
  rintro e w6 ⟨A6, rfl, r6, b6⟩
  have T6 := T5.kept b6
  have k6 := below_call k5 b6
  go_wp2_with fail
  refine (qt6 _ (by omega) (by omega) (by omega) (by omega)).mono ?_
  rintro e w7 ⟨rfl, b7⟩
  have T7 := T6.kept b7
  have k7 := below_call k6 b7
  have r7 := rdV r6 b7
  go_wp2_with fail
  refine Calls.mono (at_any A6 2 2 twoL (6, 1) _ w7 r7 (Nat.le_refl _) (by omega)) ?_
  rintro e w8 ⟨rfl, b8⟩
  have T8 := T7.kept b8
  have k8 := below_call k7 b8
  rw [two_at6]
  simp only
  go_wp2_with fail
  refine (two_any _).mono ?_
  rintro e w9 ⟨A9, rfl, r9, b9⟩
  have T9 := T8.kept b9
  have k9 := below_call k8 b9
  go_wp2_with fail
  refine Calls.mono (starts_any A9 2 2 twoL 0 _ w9 r9 (Nat.le_refl _) (by omega)) ?_
  rintro e w10 ⟨v10, rfl, o10, b10⟩
  have T10 := T9.kept b10
  have k10 := below_call k9 b10
  rw [two_starts0] at o10 ⊢
  obtain ⟨B10, c10, rfl, s0, _, _⟩ := own_reads o10
  simp only [List.length_cons, List.length_nil, Nat.zero_add, Nat.reduceAdd] at s0 ⊢
  clear o10
  go_wp2_with fail
  refine (two_any _).mono ?_
  rintro e w11 ⟨A11, rfl, r11, b11⟩
  have T11 := T10.kept b11
  have k11 := below_call k10 b11
  have s0_11 := rd1 s0 b11
  go_wp2_with fail
  refine Calls.mono (starts_any A11 2 2 twoL 2 _ w11 r11 (Nat.le_refl _) (by omega)) ?_
  rintro e w12 ⟨v12, rfl, o12, b12⟩
  have T12 := T11.kept b12
  have k12 := below_call k11 b12
  have s0_12 := rd1 s0_11 b12
  rw [two_starts2] at o12 ⊢
  obtain ⟨B12, c12, rfl, s2, _, _⟩ := own_reads o12
  simp only [List.length_cons, List.length_nil, Nat.zero_add, Nat.reduceAdd] at s2 ⊢
  clear o12
  go_wp2_with fail
  refine (two_any _).mono ?_
  rintro e w13 ⟨A13, rfl, r13, b13⟩
  have T13 := T12.kept b13
  have k13 := below_call k12 b13
  have s0_13 := rd1 s0_12 b13
  have s2_13 := rd1 s2 b13
  go_wp2_with fail
  refine Calls.mono (starts_any A13 2 2 twoL 3 _ w13 r13 (Nat.le_refl _) (by omega)) ?_
  rintro e w14 ⟨v14, rfl, o14, b14⟩
  have T14 := T13.kept b14
  have k14 := below_call k13 b14
  have s0_14 := rd1 s0_13 b14
  have s2_14 := rd1 s2_13 b14
  rw [two_starts3] at o14 ⊢
  obtain ⟨B14, c14, rfl, s3, _, _⟩ := own_reads o14
  simp only [List.length_cons, List.length_nil, Nat.zero_add, Nat.reduceAdd] at s3 ⊢
  clear o14
  go_wp2_with fail
  refine (two_any _).mono ?_
  rintro e w15 ⟨A15, rfl, r15, b15⟩
  have T15 := T14.kept b15
  have k15 := below_call k14 b15
  have s0_15 := rd1 s0_14 b15
  have s2_15 := rd1 s2_14 b15
  have s3_15 := rd1 s3 b15
  go_wp2_with fail
  refine Calls.mono (sounds_any A15 2 2 twoL 0 _ w15 r15 (Nat.le_refl _) (by omega)) ?_
  rintro e w16 ⟨v16, rfl, o16, b16⟩
  have T16 := T15.kept b16
  have k16 := below_call k15 b16
  have s0_16 := rd1 s0_15 b16
  have s2_16 := rd1 s2_15 b16
  have s3_16 := rd1 s3_15 b16
  rw [two_sounds0] at o16 ⊢
  obtain ⟨B16, c16, rfl, p0, _, _⟩ := own_reads o16
  simp only [List.length_cons, List.length_nil, Nat.zero_add] at p0 ⊢
  clear o16
  go_wp2_with fail
  refine (two_any _).mono ?_
  rintro e w17 ⟨A17, rfl, r17, b17⟩
  have T17 := T16.kept b17
  have k17 := below_call k16 b17
  have s0_17 := rd1 s0_16 b17
  have s2_17 := rd1 s2_16 b17
  have s3_17 := rd1 s3_16 b17
  have p0_17 := rd1 p0 b17
  go_wp2_with fail
  refine Calls.mono (sounds_any A17 2 2 twoL 4 _ w17 r17 (Nat.le_refl _) (by omega)) ?_
  rintro e w18 ⟨v18, rfl, o18, b18⟩
  have T18 := T17.kept b18
  have k18 := below_call k17 b18
  have s0_18 := rd1 s0_17 b18
  have s2_18 := rd1 s2_17 b18
  have s3_18 := rd1 s3_17 b18
  have p0_18 := rd1 p0_17 b18
  rw [two_sounds4] at o18 ⊢
  obtain ⟨B18, c18, rfl, p4, _, _⟩ := own_reads o18
  simp only [List.length_nil] at p4 ⊢
  clear o18
  go_wp2_with fail
  refine (two_any _).mono ?_
  rintro e w19 ⟨A19, rfl, r19, b19⟩
  have T19 := T18.kept b19
  have k19 := below_call k18 b19
  have s0_19 := rd1 s0_18 b19
  have s2_19 := rd1 s2_18 b19
  have s3_19 := rd1 s3_18 b19
  have p0_19 := rd1 p0_18 b19
  go_wp2_with fail
  refine Calls.mono (back_any A19 2 2 twoL 2 _ w19 r19 (Nat.le_refl _) (by omega)) ?_
  rintro e w20 ⟨v20, rfl, o20, b20⟩
  have T20 := T19.kept b20
  have k20 := below_call k19 b20
  have s0_20 := rd1 s0_19 b20
  have s2_20 := rd1 s2_19 b20
  have s3_20 := rd1 s3_19 b20
  have p0_20 := rd1 p0_19 b20
  rw [two_back2] at o20 ⊢
  obtain ⟨B20, c20, rfl, q2, _, _⟩ := own_reads o20
  simp only [List.length_nil] at q2 ⊢
  clear o20
  go_wp2_with fail
  have x0 : w20.cell? ⟨w2.heap.size, 0, none⟩ = some (.int .i64 6) := T20.cell 0
  have x1 : w20.cell? ⟨w2.heap.size, 1, none⟩ = some (.int .i64 1) := T20.cell 1
  have lx := T20.lt
  refine wp_region_calm (by kernel_rfl) (by kernel_rfl) ?_
  repeat (go_big_quiet_step ((go_at_call 33; with_reducible exact calm_call (qt6 _ (by omega) (by omega) (by omega) (by omega)))))
  refine wpQuiet_nil ?_
  intro w21 b21
  have T21 := T20.kept b21
  have k21 := below_call k20 b21
  have s0_21 := rd1 s0_20 b21
  have s2_21 := rd1 s2_20 b21
  have s3_21 := rd1 s3_20 b21
  have p0_21 := rd1 p0_20 b21
  go_wp2_with fail
  refine (awake_any _).mono ?_
  rintro e w22 ⟨rfl, b22⟩
  have k22 := below_call k21 b22
  have s0_22 := rd1 s0_21 b22
  have s2_22 := rd1 s2_21 b22
  have s3_22 := rd1 s3_21 b22
  have p0_22 := rd1 p0_21 b22
  go_wp2_with fail
  have L23 : Reads (w22.alloc (.cells #[.bool true, .bool true] 4)) (w22.heap.size + 1) 1 (some ⟨w22.heap.size, 0, none⟩) 2 (csB [true, true]) := Reads.newAt _ _ _ 2 1 _ rfl rfl
  have a23 : Below w22.heap.size w22 (w22.alloc (.cells #[.bool true, .bool true] 4)) := below_alloc (Below.refl _ _) _
  refine (sameBools_any B10 (some ⟨w22.heap.size, 0, none⟩) 2 c10 2 [true, true] _ _ _ (rd1 s0_22 a23) (Nat.le_refl _) L23 (by simp) (by omega)).mono ?_
  rintro e w23 ⟨rfl, b23⟩
  have k23 := below_call (below_call k22 a23) b23
  have s2_23 := rd1 (rd1 s2_22 a23) b23
  have s3_23 := rd1 (rd1 s3_22 a23) b23
  have p0_23 := rd1 (rd1 p0_22 a23) b23
  go_wp2_with fail
  have L24 : Reads (w23.alloc (.cells #[.bool false, .bool true] 4)) (w23.heap.size + 1) 1 (some ⟨w23.heap.size, 0, none⟩) 2 (csB [false, true]) := Reads.newAt _ _ _ 2 1 _ rfl rfl
  have a24 : Below w23.heap.size w23 (w23.alloc (.cells #[.bool false, .bool true] 4)) := below_alloc (Below.refl _ _) _
  refine (sameBools_any B12 (some ⟨w23.heap.size, 0, none⟩) 2 c12 2 [false, true] _ _ _ (rd1 s2_23 a24) (Nat.le_refl _) L24 (by simp) (by omega)).mono ?_
  rintro e w24 ⟨rfl, b24⟩
  have k24 := below_call (below_call k23 a24) b24
  have s3_24 := rd1 (rd1 s3_23 a24) b24
  have p0_24 := rd1 (rd1 p0_23 a24) b24
  go_wp2_with fail
  have L25 : Reads (w24.alloc (.cells #[.bool false, .bool false] 4)) (w24.heap.size + 1) 1 (some ⟨w24.heap.size, 0, none⟩) 2 (csB [false, false]) := Reads.newAt _ _ _ 2 1 _ rfl rfl
  have a25 : Below w24.heap.size w24 (w24.alloc (.cells #[.bool false, .bool false] 4)) := below_alloc (Below.refl _ _) _
  refine (sameBools_any B14 (some ⟨w24.heap.size, 0, none⟩) 2 c14 2 [false, false] _ _ _ (rd1 s3_24 a25) (Nat.le_refl _) L25 (by simp) (by omega)).mono ?_
  rintro e w25 ⟨rfl, b25⟩
  have k25 := below_call (below_call k24 a25) b25
  have p0_25 := rd1 (rd1 p0_24 a25) b25
  go_wp2_with fail
  have L26 : Reads (w25.alloc (.cells #[.int .i64 0] 3)) (w25.heap.size + 1) 1 (some ⟨w25.heap.size, 0, none⟩) 1 (csN [0]) := Reads.newAt _ _ _ 1 1 _ rfl rfl
  have a26 : Below w25.heap.size w25 (w25.alloc (.cells #[.int .i64 0] 3)) := below_alloc (Below.refl _ _) _
  refine (sameInts_any B16 (some ⟨w25.heap.size, 0, none⟩) 1 c16 1 [0] _ _ _ (rd1 p0_25 a26) (Nat.le_refl _) L26 (by simp) (by omega)).mono ?_
  rintro e w26 ⟨rfl, b26⟩
  have k26 := below_call (below_call k25 a26) b26
  go_wp2
  go_ret
  exact ⟨rfl, k26⟩
end Go.Proofs.Ytbljfaocmeeljaa
