
/- The chapter's examples of layer 29 (by wip/mk_ex29.py). -/
import Derived.Test.YtigfcbofbcpiaaaDoorPaLaw
namespace Go.Proofs.YtigfcbofbcpiaaaDoor
open Go.RowKit
set_option maxRecDepth 100000 in
set_option maxHeartbeats 16000000 in
theorem awake_any (w : World) (ht : Tabs w) : Calls Tryd.prog 13 #[] w fun e w' => e = .returned (.bool true) ∧ Below w.heap.size w w' := by
  go_enter Tryd.func13, Tryd.ntmps13
  go_wp2_with fail
  obtain ⟨w1, hw1⟩ : ∃ x, x = w.alloc (.cells #[.int .i64 28, .int .i64 29] 3) := ⟨_, rfl⟩
  have b1 : Below w.heap.size w w1 := by rw [hw1]; exact below_alloc (Below.refl _ _) _
  have g1 : w.heap.size + 1 ≤ w1.heap.size := by rw [hw1]; simp
  have i1 : Reads w1 w1.heap.size 1 (some ⟨w.heap.size, 0, none⟩) 2 (csN [28, 29]) := by rw [hw1]; exact (Reads.newAt _ _ _ 2 1 _ rfl rfl).more (by simp)
  rw [← hw1]
  clear hw1 g1
  have k1 := b1
  clear b1
  refine Calls.mono (vc_any _ 2 2 [28, 29] _ _ i1 (Nat.le_refl _) (by omega) (by decide)) ?_
  rintro e w2 ⟨v2, rfl, o2, b2⟩
  obtain ⟨A2, c2, rfl, r2, _, _⟩ := own_reads o2
  clear o2 i1
  have k2 := below_call k1 b2
  clear b2
  go_wp2_with fail
  obtain ⟨w3, hw3⟩ : ∃ x, x = w2.alloc (.cells #[.int .i64 32, .int .i64 33] 3) := ⟨_, rfl⟩
  have b3 : Below w2.heap.size w2 w3 := by rw [hw3]; exact below_alloc (Below.refl _ _) _
  have g3 : w2.heap.size + 1 ≤ w3.heap.size := by rw [hw3]; simp
  have i3 : Reads w3 w3.heap.size 1 (some ⟨w2.heap.size, 0, none⟩) 2 (csN [32, 33]) := by rw [hw3]; exact (Reads.newAt _ _ _ 2 1 _ rfl rfl).more (by simp)
  rw [← hw3]
  clear hw3 g3
  have k3 := below_call k2 b3
  have R2_3 := rd1 r2 b3
  clear r2
  clear b3
  refine Calls.mono (vc_any _ 2 2 [32, 33] _ _ i3 (Nat.le_refl _) (by omega) (by decide)) ?_
  rintro e w4 ⟨v4, rfl, o4, b4⟩
  obtain ⟨A4, c4, rfl, r4, _, _⟩ := own_reads o4
  clear o4 i3
  have k4 := below_call k3 b4
  have R2_4 := rd1 R2_3 b4
  clear R2_3
  clear b4
  go_wp2_with fail
  obtain ⟨w5, hw5⟩ : ∃ x, x = w4.alloc (.cells #[.slice A2 2 c2, .slice A4 2 c4] 23) := ⟨_, rfl⟩
  have b5 : Below w4.heap.size w4 w5 := by rw [hw5]; exact below_alloc (Below.refl _ _) _
  have g5 : w4.heap.size + 1 ≤ w5.heap.size := by rw [hw5]; simp
  rw [← hw5]
  have q5 : Reads w5 w5.heap.size 1 (some ⟨w4.heap.size, 0, none⟩) 2 (csV [(A2, 2, c2), (A4, 2, c4)]) := by rw [hw5]; exact (Reads.newAt _ _ _ 2 1 _ rfl rfl).more (by simp)
  clear hw5 g5
  have k5 := below_call k4 b5
  have R2_5 := rd1 R2_4 b5
  clear R2_4
  have R4_5 := rd1 r4 b5
  clear r4
  have s5 : ReadsV w5 w5.heap.size (some ⟨w4.heap.size, 0, none⟩) 2 [vcFrom 0 [28, 29], vcFrom 0 [32, 33]] := readsV_row q5 (show AllV _ _ [(A2, 2, c2), (A4, 2, c4)] [vcFrom 0 [28, 29], vcFrom 0 [32, 33]] from ⟨⟨R2_5, show (2 : Nat) ≤ 9223372036854775807 by omega⟩, ⟨⟨R4_5, show (2 : Nat) ≤ 9223372036854775807 by omega⟩, True.intro⟩⟩)
  clear R2_5
  clear R4_5
  clear q5 b5
  refine Calls.mono (onePar_any 0 1 1 4 _) ?_
  rintro e w6 ⟨rfl, b6⟩
  have k6 := below_call k5 b6
  have S5_6 := rdV s5 b6
  clear s5
  clear b6
  go_wp2_with fail
  obtain ⟨w7, hw7⟩ : ∃ x, x = w6.alloc (.cells #[.int .i64 1, .int .i64 0, .int .i64 1, .int .i64 1, .int .i64 4] 41) := ⟨_, rfl⟩
  have b7 : Below w6.heap.size w6 w7 := by rw [hw7]; exact below_alloc (Below.refl _ _) _
  have g7 : w6.heap.size + 1 ≤ w7.heap.size := by rw [hw7]; simp
  rw [← hw7]
  have p7 : Reads w7 w7.heap.size 5 (some ⟨w6.heap.size, 0, none⟩) 1 (csPar [⟨1, 0, 1, 1, 4⟩]) := by rw [hw7]; exact (Reads.newAt _ _ _ 1 5 _ rfl rfl).more (by simp)
  clear hw7 g7
  have k7 := below_call k6 b7
  have S5_7 := rdV S5_6 b7
  clear S5_6
  clear b7
  refine Calls.mono (has_any _ _ 2 2 1 _ _ _ _ S5_7 (by omega) p7 ex_same (ht.kept k7)) ?_
  rintro e w8 ⟨rfl, b8⟩
  clear S5_7 p7
  have k8 := below_call k7 b8
  clear b8
  go_wp2_with fail
  obtain ⟨w9, hw9⟩ : ∃ x, x = w8.alloc (.cells #[.int .i64 28, .int .i64 29] 3) := ⟨_, rfl⟩
  have b9 : Below w8.heap.size w8 w9 := by rw [hw9]; exact below_alloc (Below.refl _ _) _
  have g9 : w8.heap.size + 1 ≤ w9.heap.size := by rw [hw9]; simp
  have i9 : Reads w9 w9.heap.size 1 (some ⟨w8.heap.size, 0, none⟩) 2 (csN [28, 29]) := by rw [hw9]; exact (Reads.newAt _ _ _ 2 1 _ rfl rfl).more (by simp)
  rw [← hw9]
  clear hw9 g9
  have k9 := below_call k8 b9
  clear b9
  refine Calls.mono (vc_any _ 2 2 [28, 29] _ _ i9 (Nat.le_refl _) (by omega) (by decide)) ?_
  rintro e w10 ⟨v10, rfl, o10, b10⟩
  obtain ⟨A10, c10, rfl, r10, _, _⟩ := own_reads o10
  clear o10 i9
  have k10 := below_call k9 b10
  clear b10
  go_wp2_with fail
  obtain ⟨w11, hw11⟩ : ∃ x, x = w10.alloc (.cells #[.int .i64 30, .int .i64 33] 3) := ⟨_, rfl⟩
  have b11 : Below w10.heap.size w10 w11 := by rw [hw11]; exact below_alloc (Below.refl _ _) _
  have g11 : w10.heap.size + 1 ≤ w11.heap.size := by rw [hw11]; simp
  have i11 : Reads w11 w11.heap.size 1 (some ⟨w10.heap.size, 0, none⟩) 2 (csN [30, 33]) := by rw [hw11]; exact (Reads.newAt _ _ _ 2 1 _ rfl rfl).more (by simp)
  rw [← hw11]
  clear hw11 g11
  have k11 := below_call k10 b11
  have R10_11 := rd1 r10 b11
  clear r10
  clear b11
  refine Calls.mono (vc_any _ 2 2 [30, 33] _ _ i11 (Nat.le_refl _) (by omega) (by decide)) ?_
  rintro e w12 ⟨v12, rfl, o12, b12⟩
  obtain ⟨A12, c12, rfl, r12, _, _⟩ := own_reads o12
  clear o12 i11
  have k12 := below_call k11 b12
  have R10_12 := rd1 R10_11 b12
  clear R10_11
  clear b12
  go_wp2_with fail
  obtain ⟨w13, hw13⟩ : ∃ x, x = w12.alloc (.cells #[.slice A10 2 c10, .slice A12 2 c12] 23) := ⟨_, rfl⟩
  have b13 : Below w12.heap.size w12 w13 := by rw [hw13]; exact below_alloc (Below.refl _ _) _
  have g13 : w12.heap.size + 1 ≤ w13.heap.size := by rw [hw13]; simp
  rw [← hw13]
  have q13 : Reads w13 w13.heap.size 1 (some ⟨w12.heap.size, 0, none⟩) 2 (csV [(A10, 2, c10), (A12, 2, c12)]) := by rw [hw13]; exact (Reads.newAt _ _ _ 2 1 _ rfl rfl).more (by simp)
  clear hw13 g13
  have k13 := below_call k12 b13
  have R10_13 := rd1 R10_12 b13
  clear R10_12
  have R12_13 := rd1 r12 b13
  clear r12
  have s13 : ReadsV w13 w13.heap.size (some ⟨w12.heap.size, 0, none⟩) 2 [vcFrom 0 [28, 29], vcFrom 0 [30, 33]] := readsV_row q13 (show AllV _ _ [(A10, 2, c10), (A12, 2, c12)] [vcFrom 0 [28, 29], vcFrom 0 [30, 33]] from ⟨⟨R10_13, show (2 : Nat) ≤ 9223372036854775807 by omega⟩, ⟨⟨R12_13, show (2 : Nat) ≤ 9223372036854775807 by omega⟩, True.intro⟩⟩)
  clear R10_13
  clear R12_13
  clear q13 b13
  refine Calls.mono (onePar_any 0 1 2 4 _) ?_
  rintro e w14 ⟨rfl, b14⟩
  have k14 := below_call k13 b14
  have S13_14 := rdV s13 b14
  clear s13
  clear b14
  go_wp2_with fail
  obtain ⟨w15, hw15⟩ : ∃ x, x = w14.alloc (.cells #[.int .i64 1, .int .i64 0, .int .i64 1, .int .i64 2, .int .i64 4] 41) := ⟨_, rfl⟩
  have b15 : Below w14.heap.size w14 w15 := by rw [hw15]; exact below_alloc (Below.refl _ _) _
  have g15 : w14.heap.size + 1 ≤ w15.heap.size := by rw [hw15]; simp
  rw [← hw15]
  have p15 : Reads w15 w15.heap.size 5 (some ⟨w14.heap.size, 0, none⟩) 1 (csPar [⟨1, 0, 1, 2, 4⟩]) := by rw [hw15]; exact (Reads.newAt _ _ _ 1 5 _ rfl rfl).more (by simp)
  clear hw15 g15
  have k15 := below_call k14 b15
  have S13_15 := rdV S13_14 b15
  clear S13_14
  clear b15
  refine Calls.mono (has_any _ _ 2 2 1 _ _ _ _ S13_15 (by omega) p15 ex_hidden (ht.kept k15)) ?_
  rintro e w16 ⟨rfl, b16⟩
  clear S13_15 p15
  have k16 := below_call k15 b16
  clear b16
  go_wp2_with fail
  obtain ⟨w17, hw17⟩ : ∃ x, x = w16.alloc (.cells #[.int .i64 28, .int .i64 32] 3) := ⟨_, rfl⟩
  have b17 : Below w16.heap.size w16 w17 := by rw [hw17]; exact below_alloc (Below.refl _ _) _
  have g17 : w16.heap.size + 1 ≤ w17.heap.size := by rw [hw17]; simp
  have i17 : Reads w17 w17.heap.size 1 (some ⟨w16.heap.size, 0, none⟩) 2 (csN [28, 32]) := by rw [hw17]; exact (Reads.newAt _ _ _ 2 1 _ rfl rfl).more (by simp)
  rw [← hw17]
  clear hw17 g17
  have k17 := below_call k16 b17
  clear b17
  refine Calls.mono (vc_any _ 2 2 [28, 32] _ _ i17 (Nat.le_refl _) (by omega) (by decide)) ?_
  rintro e w18 ⟨v18, rfl, o18, b18⟩
  obtain ⟨A18, c18, rfl, r18, _, _⟩ := own_reads o18
  clear o18 i17
  have k18 := below_call k17 b18
  clear b18
  go_wp2_with fail
  obtain ⟨w19, hw19⟩ : ∃ x, x = w18.alloc (.cells #[.int .i64 35, .int .i64 25] 3) := ⟨_, rfl⟩
  have b19 : Below w18.heap.size w18 w19 := by rw [hw19]; exact below_alloc (Below.refl _ _) _
  have g19 : w18.heap.size + 1 ≤ w19.heap.size := by rw [hw19]; simp
  have i19 : Reads w19 w19.heap.size 1 (some ⟨w18.heap.size, 0, none⟩) 2 (csN [35, 25]) := by rw [hw19]; exact (Reads.newAt _ _ _ 2 1 _ rfl rfl).more (by simp)
  rw [← hw19]
  clear hw19 g19
  have k19 := below_call k18 b19
  have R18_19 := rd1 r18 b19
  clear r18
  clear b19
  refine Calls.mono (vc_any _ 2 2 [35, 25] _ _ i19 (Nat.le_refl _) (by omega) (by decide)) ?_
  rintro e w20 ⟨v20, rfl, o20, b20⟩
  obtain ⟨A20, c20, rfl, r20, _, _⟩ := own_reads o20
  clear o20 i19
  have k20 := below_call k19 b20
  have R18_20 := rd1 R18_19 b20
  clear R18_19
  clear b20
  go_wp2_with fail
  obtain ⟨w21, hw21⟩ : ∃ x, x = w20.alloc (.cells #[.slice A18 2 c18, .slice A20 2 c20] 23) := ⟨_, rfl⟩
  have b21 : Below w20.heap.size w20 w21 := by rw [hw21]; exact below_alloc (Below.refl _ _) _
  have g21 : w20.heap.size + 1 ≤ w21.heap.size := by rw [hw21]; simp
  rw [← hw21]
  have q21 : Reads w21 w21.heap.size 1 (some ⟨w20.heap.size, 0, none⟩) 2 (csV [(A18, 2, c18), (A20, 2, c20)]) := by rw [hw21]; exact (Reads.newAt _ _ _ 2 1 _ rfl rfl).more (by simp)
  clear hw21 g21
  have k21 := below_call k20 b21
  have R18_21 := rd1 R18_20 b21
  clear R18_20
  have R20_21 := rd1 r20 b21
  clear r20
  have s21 : ReadsV w21 w21.heap.size (some ⟨w20.heap.size, 0, none⟩) 2 [vcFrom 0 [28, 32], vcFrom 0 [35, 25]] := readsV_row q21 (show AllV _ _ [(A18, 2, c18), (A20, 2, c20)] [vcFrom 0 [28, 32], vcFrom 0 [35, 25]] from ⟨⟨R18_21, show (2 : Nat) ≤ 9223372036854775807 by omega⟩, ⟨⟨R20_21, show (2 : Nat) ≤ 9223372036854775807 by omega⟩, True.intro⟩⟩)
  clear R18_21
  clear R20_21
  clear q21 b21
  refine Calls.mono (onePar_any 0 1 3 0 _) ?_
  rintro e w22 ⟨rfl, b22⟩
  have k22 := below_call k21 b22
  have S21_22 := rdV s21 b22
  clear s21
  clear b22
  go_wp2_with fail
  obtain ⟨w23, hw23⟩ : ∃ x, x = w22.alloc (.cells #[.int .i64 1, .int .i64 0, .int .i64 1, .int .i64 3, .int .i64 0] 41) := ⟨_, rfl⟩
  have b23 : Below w22.heap.size w22 w23 := by rw [hw23]; exact below_alloc (Below.refl _ _) _
  have g23 : w22.heap.size + 1 ≤ w23.heap.size := by rw [hw23]; simp
  rw [← hw23]
  have p23 : Reads w23 w23.heap.size 5 (some ⟨w22.heap.size, 0, none⟩) 1 (csPar [⟨1, 0, 1, 3, 0⟩]) := by rw [hw23]; exact (Reads.newAt _ _ _ 1 5 _ rfl rfl).more (by simp)
  clear hw23 g23
  have k23 := below_call k22 b23
  have S21_23 := rdV S21_22 b23
  clear S21_22
  clear b23
  refine Calls.mono (has_any _ _ 2 2 1 _ _ _ _ S21_23 (by omega) p23 ex_contrary (ht.kept k23)) ?_
  rintro e w24 ⟨rfl, b24⟩
  clear S21_23 p23
  have k24 := below_call k23 b24
  clear b24
  go_wp2
  go_ret
  exact ⟨rfl, k24⟩
set_option maxRecDepth 100000 in
set_option maxHeartbeats 16000000 in
theorem known_any (w : World) (ht : Tabs w) : Calls Tryd.prog 5 #[] w fun e w' => e = .returned (.bool true) ∧ Below w.heap.size w w' := by
  go_enter Tryd.func5, Tryd.ntmps5
  go_wp2_with fail
  obtain ⟨w1, hw1⟩ : ∃ x, x = w.alloc (.cells #[.int .i64 28, .int .i64 29] 3) := ⟨_, rfl⟩
  have b1 : Below w.heap.size w w1 := by rw [hw1]; exact below_alloc (Below.refl _ _) _
  have g1 : w.heap.size + 1 ≤ w1.heap.size := by rw [hw1]; simp
  have i1 : Reads w1 w1.heap.size 1 (some ⟨w.heap.size, 0, none⟩) 2 (csN [28, 29]) := by rw [hw1]; exact (Reads.newAt _ _ _ 2 1 _ rfl rfl).more (by simp)
  rw [← hw1]
  clear hw1 g1
  have k1 := b1
  clear b1
  refine Calls.mono (vc_any _ 2 2 [28, 29] _ _ i1 (Nat.le_refl _) (by omega) (by decide)) ?_
  rintro e w2 ⟨v2, rfl, o2, b2⟩
  obtain ⟨A2, c2, rfl, r2, _, _⟩ := own_reads o2
  clear o2 i1
  have k2 := below_call k1 b2
  clear b2
  go_wp2_with fail
  obtain ⟨w3, hw3⟩ : ∃ x, x = w2.alloc (.cells #[.int .i64 32, .int .i64 29] 3) := ⟨_, rfl⟩
  have b3 : Below w2.heap.size w2 w3 := by rw [hw3]; exact below_alloc (Below.refl _ _) _
  have g3 : w2.heap.size + 1 ≤ w3.heap.size := by rw [hw3]; simp
  have i3 : Reads w3 w3.heap.size 1 (some ⟨w2.heap.size, 0, none⟩) 2 (csN [32, 29]) := by rw [hw3]; exact (Reads.newAt _ _ _ 2 1 _ rfl rfl).more (by simp)
  rw [← hw3]
  clear hw3 g3
  have k3 := below_call k2 b3
  have R2_3 := rd1 r2 b3
  clear r2
  clear b3
  refine Calls.mono (vc_any _ 2 2 [32, 29] _ _ i3 (Nat.le_refl _) (by omega) (by decide)) ?_
  rintro e w4 ⟨v4, rfl, o4, b4⟩
  obtain ⟨A4, c4, rfl, r4, _, _⟩ := own_reads o4
  clear o4 i3
  have k4 := below_call k3 b4
  have R2_4 := rd1 R2_3 b4
  clear R2_3
  clear b4
  go_wp2_with fail
  obtain ⟨w5, hw5⟩ : ∃ x, x = w4.alloc (.cells #[.slice A2 2 c2, .slice A4 2 c4] 23) := ⟨_, rfl⟩
  have b5 : Below w4.heap.size w4 w5 := by rw [hw5]; exact below_alloc (Below.refl _ _) _
  have g5 : w4.heap.size + 1 ≤ w5.heap.size := by rw [hw5]; simp
  rw [← hw5]
  have q5 : Reads w5 w5.heap.size 1 (some ⟨w4.heap.size, 0, none⟩) 2 (csV [(A2, 2, c2), (A4, 2, c4)]) := by rw [hw5]; exact (Reads.newAt _ _ _ 2 1 _ rfl rfl).more (by simp)
  clear hw5 g5
  have k5 := below_call k4 b5
  have R2_5 := rd1 R2_4 b5
  clear R2_4
  have R4_5 := rd1 r4 b5
  clear r4
  have s5 : ReadsV w5 w5.heap.size (some ⟨w4.heap.size, 0, none⟩) 2 [vcFrom 0 [28, 29], vcFrom 0 [32, 29]] := readsV_row q5 (show AllV _ _ [(A2, 2, c2), (A4, 2, c4)] [vcFrom 0 [28, 29], vcFrom 0 [32, 29]] from ⟨⟨R2_5, show (2 : Nat) ≤ 9223372036854775807 by omega⟩, ⟨⟨R4_5, show (2 : Nat) ≤ 9223372036854775807 by omega⟩, True.intro⟩⟩)
  clear R2_5
  clear R4_5
  clear q5 b5
  refine Calls.mono (has_any _ none 2 2 0 0 _ [] _ s5 (by omega) Reads.none_ ex_none1 (ht.kept k5)) ?_
  rintro e w6 ⟨rfl, b6⟩
  clear s5 
  have k6 := below_call k5 b6
  clear b6
  go_wp2_with fail
  obtain ⟨w7, hw7⟩ : ∃ x, x = w6.alloc (.cells #[.int .i64 28, .int .i64 28] 3) := ⟨_, rfl⟩
  have b7 : Below w6.heap.size w6 w7 := by rw [hw7]; exact below_alloc (Below.refl _ _) _
  have g7 : w6.heap.size + 1 ≤ w7.heap.size := by rw [hw7]; simp
  have i7 : Reads w7 w7.heap.size 1 (some ⟨w6.heap.size, 0, none⟩) 2 (csN [28, 28]) := by rw [hw7]; exact (Reads.newAt _ _ _ 2 1 _ rfl rfl).more (by simp)
  rw [← hw7]
  clear hw7 g7
  have k7 := below_call k6 b7
  clear b7
  refine Calls.mono (vc_any _ 2 2 [28, 28] _ _ i7 (Nat.le_refl _) (by omega) (by decide)) ?_
  rintro e w8 ⟨v8, rfl, o8, b8⟩
  obtain ⟨A8, c8, rfl, r8, _, _⟩ := own_reads o8
  clear o8 i7
  have k8 := below_call k7 b8
  clear b8
  go_wp2_with fail
  obtain ⟨w9, hw9⟩ : ∃ x, x = w8.alloc (.cells #[.int .i64 32, .int .i64 32] 3) := ⟨_, rfl⟩
  have b9 : Below w8.heap.size w8 w9 := by rw [hw9]; exact below_alloc (Below.refl _ _) _
  have g9 : w8.heap.size + 1 ≤ w9.heap.size := by rw [hw9]; simp
  have i9 : Reads w9 w9.heap.size 1 (some ⟨w8.heap.size, 0, none⟩) 2 (csN [32, 32]) := by rw [hw9]; exact (Reads.newAt _ _ _ 2 1 _ rfl rfl).more (by simp)
  rw [← hw9]
  clear hw9 g9
  have k9 := below_call k8 b9
  have R8_9 := rd1 r8 b9
  clear r8
  clear b9
  refine Calls.mono (vc_any _ 2 2 [32, 32] _ _ i9 (Nat.le_refl _) (by omega) (by decide)) ?_
  rintro e w10 ⟨v10, rfl, o10, b10⟩
  obtain ⟨A10, c10, rfl, r10, _, _⟩ := own_reads o10
  clear o10 i9
  have k10 := below_call k9 b10
  have R8_10 := rd1 R8_9 b10
  clear R8_9
  clear b10
  go_wp2_with fail
  obtain ⟨w11, hw11⟩ : ∃ x, x = w10.alloc (.cells #[.slice A8 2 c8, .slice A10 2 c10] 23) := ⟨_, rfl⟩
  have b11 : Below w10.heap.size w10 w11 := by rw [hw11]; exact below_alloc (Below.refl _ _) _
  have g11 : w10.heap.size + 1 ≤ w11.heap.size := by rw [hw11]; simp
  rw [← hw11]
  have q11 : Reads w11 w11.heap.size 1 (some ⟨w10.heap.size, 0, none⟩) 2 (csV [(A8, 2, c8), (A10, 2, c10)]) := by rw [hw11]; exact (Reads.newAt _ _ _ 2 1 _ rfl rfl).more (by simp)
  clear hw11 g11
  have k11 := below_call k10 b11
  have R8_11 := rd1 R8_10 b11
  clear R8_10
  have R10_11 := rd1 r10 b11
  clear r10
  have s11 : ReadsV w11 w11.heap.size (some ⟨w10.heap.size, 0, none⟩) 2 [vcFrom 0 [28, 28], vcFrom 0 [32, 32]] := readsV_row q11 (show AllV _ _ [(A8, 2, c8), (A10, 2, c10)] [vcFrom 0 [28, 28], vcFrom 0 [32, 32]] from ⟨⟨R8_11, show (2 : Nat) ≤ 9223372036854775807 by omega⟩, ⟨⟨R10_11, show (2 : Nat) ≤ 9223372036854775807 by omega⟩, True.intro⟩⟩)
  clear R8_11
  clear R10_11
  clear q11 b11
  refine Calls.mono (has_any _ none 2 2 0 0 _ [] _ s11 (by omega) Reads.none_ ex_none2 (ht.kept k11)) ?_
  rintro e w12 ⟨rfl, b12⟩
  clear s11 
  have k12 := below_call k11 b12
  clear b12
  go_wp2_with fail
  obtain ⟨w13, hw13⟩ : ∃ x, x = w12.alloc (.cells #[.int .i64 28, .int .i64 (-1), .int .i64 29] 3) := ⟨_, rfl⟩
  have b13 : Below w12.heap.size w12 w13 := by rw [hw13]; exact below_alloc (Below.refl _ _) _
  have g13 : w12.heap.size + 1 ≤ w13.heap.size := by rw [hw13]; simp
  have i13 : Reads w13 w13.heap.size 1 (some ⟨w12.heap.size, 0, none⟩) 3 (csN [28, -1, 29]) := by rw [hw13]; exact (Reads.newAt _ _ _ 3 1 _ rfl rfl).more (by simp)
  rw [← hw13]
  clear hw13 g13
  have k13 := below_call k12 b13
  clear b13
  refine Calls.mono (vc_any _ 3 3 [28, -1, 29] _ _ i13 (Nat.le_refl _) (by omega) (by decide)) ?_
  rintro e w14 ⟨v14, rfl, o14, b14⟩
  obtain ⟨A14, c14, rfl, r14, _, _⟩ := own_reads o14
  clear o14 i13
  have k14 := below_call k13 b14
  clear b14
  go_wp2_with fail
  obtain ⟨w15, hw15⟩ : ∃ x, x = w14.alloc (.cells #[.int .i64 32, .int .i64 (-1), .int .i64 33] 3) := ⟨_, rfl⟩
  have b15 : Below w14.heap.size w14 w15 := by rw [hw15]; exact below_alloc (Below.refl _ _) _
  have g15 : w14.heap.size + 1 ≤ w15.heap.size := by rw [hw15]; simp
  have i15 : Reads w15 w15.heap.size 1 (some ⟨w14.heap.size, 0, none⟩) 3 (csN [32, -1, 33]) := by rw [hw15]; exact (Reads.newAt _ _ _ 3 1 _ rfl rfl).more (by simp)
  rw [← hw15]
  clear hw15 g15
  have k15 := below_call k14 b15
  have R14_15 := rd1 r14 b15
  clear r14
  clear b15
  refine Calls.mono (vc_any _ 3 3 [32, -1, 33] _ _ i15 (Nat.le_refl _) (by omega) (by decide)) ?_
  rintro e w16 ⟨v16, rfl, o16, b16⟩
  obtain ⟨A16, c16, rfl, r16, _, _⟩ := own_reads o16
  clear o16 i15
  have k16 := below_call k15 b16
  have R14_16 := rd1 R14_15 b16
  clear R14_15
  clear b16
  go_wp2_with fail
  obtain ⟨w17, hw17⟩ : ∃ x, x = w16.alloc (.cells #[.slice A14 3 c14, .slice A16 3 c16] 23) := ⟨_, rfl⟩
  have b17 : Below w16.heap.size w16 w17 := by rw [hw17]; exact below_alloc (Below.refl _ _) _
  have g17 : w16.heap.size + 1 ≤ w17.heap.size := by rw [hw17]; simp
  rw [← hw17]
  have q17 : Reads w17 w17.heap.size 1 (some ⟨w16.heap.size, 0, none⟩) 2 (csV [(A14, 3, c14), (A16, 3, c16)]) := by rw [hw17]; exact (Reads.newAt _ _ _ 2 1 _ rfl rfl).more (by simp)
  clear hw17 g17
  have k17 := below_call k16 b17
  have R14_17 := rd1 R14_16 b17
  clear R14_16
  have R16_17 := rd1 r16 b17
  clear r16
  have s17 : ReadsV w17 w17.heap.size (some ⟨w16.heap.size, 0, none⟩) 2 [vcFrom 0 [28, -1, 29], vcFrom 0 [32, -1, 33]] := readsV_row q17 (show AllV _ _ [(A14, 3, c14), (A16, 3, c16)] [vcFrom 0 [28, -1, 29], vcFrom 0 [32, -1, 33]] from ⟨⟨R14_17, show (3 : Nat) ≤ 9223372036854775807 by omega⟩, ⟨⟨R16_17, show (3 : Nat) ≤ 9223372036854775807 by omega⟩, True.intro⟩⟩)
  clear R14_17
  clear R16_17
  clear q17 b17
  refine Calls.mono (has_any _ none 2 2 0 0 _ [] _ s17 (by omega) Reads.none_ ex_none3 (ht.kept k17)) ?_
  rintro e w18 ⟨rfl, b18⟩
  clear s17 
  have k18 := below_call k17 b18
  clear b18
  go_wp2_with fail
  obtain ⟨w19, hw19⟩ : ∃ x, x = w18.alloc (.cells #[.int .i64 28, .int .i64 29] 3) := ⟨_, rfl⟩
  have b19 : Below w18.heap.size w18 w19 := by rw [hw19]; exact below_alloc (Below.refl _ _) _
  have g19 : w18.heap.size + 1 ≤ w19.heap.size := by rw [hw19]; simp
  have i19 : Reads w19 w19.heap.size 1 (some ⟨w18.heap.size, 0, none⟩) 2 (csN [28, 29]) := by rw [hw19]; exact (Reads.newAt _ _ _ 2 1 _ rfl rfl).more (by simp)
  rw [← hw19]
  clear hw19 g19
  have k19 := below_call k18 b19
  clear b19
  refine Calls.mono (vc_any _ 2 2 [28, 29] _ _ i19 (Nat.le_refl _) (by omega) (by decide)) ?_
  rintro e w20 ⟨v20, rfl, o20, b20⟩
  obtain ⟨A20, c20, rfl, r20, _, _⟩ := own_reads o20
  clear o20 i19
  have k20 := below_call k19 b20
  clear b20
  go_wp2_with fail
  obtain ⟨w21, hw21⟩ : ∃ x, x = w20.alloc (.cells #[.int .i64 34, .int .i64 33] 3) := ⟨_, rfl⟩
  have b21 : Below w20.heap.size w20 w21 := by rw [hw21]; exact below_alloc (Below.refl _ _) _
  have g21 : w20.heap.size + 1 ≤ w21.heap.size := by rw [hw21]; simp
  have i21 : Reads w21 w21.heap.size 1 (some ⟨w20.heap.size, 0, none⟩) 2 (csN [34, 33]) := by rw [hw21]; exact (Reads.newAt _ _ _ 2 1 _ rfl rfl).more (by simp)
  rw [← hw21]
  clear hw21 g21
  have k21 := below_call k20 b21
  have R20_21 := rd1 r20 b21
  clear r20
  clear b21
  refine Calls.mono (vc_any _ 2 2 [34, 33] _ _ i21 (Nat.le_refl _) (by omega) (by decide)) ?_
  rintro e w22 ⟨v22, rfl, o22, b22⟩
  obtain ⟨A22, c22, rfl, r22, _, _⟩ := own_reads o22
  clear o22 i21
  have k22 := below_call k21 b22
  have R20_22 := rd1 R20_21 b22
  clear R20_21
  clear b22
  go_wp2_with fail
  obtain ⟨w23, hw23⟩ : ∃ x, x = w22.alloc (.cells #[.slice A20 2 c20, .slice A22 2 c22] 23) := ⟨_, rfl⟩
  have b23 : Below w22.heap.size w22 w23 := by rw [hw23]; exact below_alloc (Below.refl _ _) _
  have g23 : w22.heap.size + 1 ≤ w23.heap.size := by rw [hw23]; simp
  rw [← hw23]
  have q23 : Reads w23 w23.heap.size 1 (some ⟨w22.heap.size, 0, none⟩) 2 (csV [(A20, 2, c20), (A22, 2, c22)]) := by rw [hw23]; exact (Reads.newAt _ _ _ 2 1 _ rfl rfl).more (by simp)
  clear hw23 g23
  have k23 := below_call k22 b23
  have R20_23 := rd1 R20_22 b23
  clear R20_22
  have R22_23 := rd1 r22 b23
  clear r22
  have s23 : ReadsV w23 w23.heap.size (some ⟨w22.heap.size, 0, none⟩) 2 [vcFrom 0 [28, 29], vcFrom 0 [34, 33]] := readsV_row q23 (show AllV _ _ [(A20, 2, c20), (A22, 2, c22)] [vcFrom 0 [28, 29], vcFrom 0 [34, 33]] from ⟨⟨R20_23, show (2 : Nat) ≤ 9223372036854775807 by omega⟩, ⟨⟨R22_23, show (2 : Nat) ≤ 9223372036854775807 by omega⟩, True.intro⟩⟩)
  clear R20_23
  clear R22_23
  clear q23 b23
  refine Calls.mono (has_any _ none 2 2 0 0 _ [] _ s23 (by omega) Reads.none_ ex_none4 (ht.kept k23)) ?_
  rintro e w24 ⟨rfl, b24⟩
  clear s23 
  have k24 := below_call k23 b24
  clear b24
  go_wp2_with fail
  obtain ⟨w25, hw25⟩ : ∃ x, x = w24.alloc (.cells #[.int .i64 28, .int .i64 29] 3) := ⟨_, rfl⟩
  have b25 : Below w24.heap.size w24 w25 := by rw [hw25]; exact below_alloc (Below.refl _ _) _
  have g25 : w24.heap.size + 1 ≤ w25.heap.size := by rw [hw25]; simp
  have i25 : Reads w25 w25.heap.size 1 (some ⟨w24.heap.size, 0, none⟩) 2 (csN [28, 29]) := by rw [hw25]; exact (Reads.newAt _ _ _ 2 1 _ rfl rfl).more (by simp)
  rw [← hw25]
  clear hw25 g25
  have k25 := below_call k24 b25
  clear b25
  refine Calls.mono (vc_any _ 2 2 [28, 29] _ _ i25 (Nat.le_refl _) (by omega) (by decide)) ?_
  rintro e w26 ⟨v26, rfl, o26, b26⟩
  obtain ⟨A26, c26, rfl, r26, _, _⟩ := own_reads o26
  clear o26 i25
  have k26 := below_call k25 b26
  clear b26
  go_wp2_with fail
  obtain ⟨w27, hw27⟩ : ∃ x, x = w26.alloc (.cells #[.int .i64 35, .int .i64 36] 3) := ⟨_, rfl⟩
  have b27 : Below w26.heap.size w26 w27 := by rw [hw27]; exact below_alloc (Below.refl _ _) _
  have g27 : w26.heap.size + 1 ≤ w27.heap.size := by rw [hw27]; simp
  have i27 : Reads w27 w27.heap.size 1 (some ⟨w26.heap.size, 0, none⟩) 2 (csN [35, 36]) := by rw [hw27]; exact (Reads.newAt _ _ _ 2 1 _ rfl rfl).more (by simp)
  rw [← hw27]
  clear hw27 g27
  have k27 := below_call k26 b27
  have R26_27 := rd1 r26 b27
  clear r26
  clear b27
  refine Calls.mono (vc_any _ 2 2 [35, 36] _ _ i27 (Nat.le_refl _) (by omega) (by decide)) ?_
  rintro e w28 ⟨v28, rfl, o28, b28⟩
  obtain ⟨A28, c28, rfl, r28, _, _⟩ := own_reads o28
  clear o28 i27
  have k28 := below_call k27 b28
  have R26_28 := rd1 R26_27 b28
  clear R26_27
  clear b28
  go_wp2_with fail
  obtain ⟨w29, hw29⟩ : ∃ x, x = w28.alloc (.cells #[.slice A26 2 c26, .slice A28 2 c28] 23) := ⟨_, rfl⟩
  have b29 : Below w28.heap.size w28 w29 := by rw [hw29]; exact below_alloc (Below.refl _ _) _
  have g29 : w28.heap.size + 1 ≤ w29.heap.size := by rw [hw29]; simp
  rw [← hw29]
  have q29 : Reads w29 w29.heap.size 1 (some ⟨w28.heap.size, 0, none⟩) 2 (csV [(A26, 2, c26), (A28, 2, c28)]) := by rw [hw29]; exact (Reads.newAt _ _ _ 2 1 _ rfl rfl).more (by simp)
  clear hw29 g29
  have k29 := below_call k28 b29
  have R26_29 := rd1 R26_28 b29
  clear R26_28
  have R28_29 := rd1 r28 b29
  clear r28
  have s29 : ReadsV w29 w29.heap.size (some ⟨w28.heap.size, 0, none⟩) 2 [vcFrom 0 [28, 29], vcFrom 0 [35, 36]] := readsV_row q29 (show AllV _ _ [(A26, 2, c26), (A28, 2, c28)] [vcFrom 0 [28, 29], vcFrom 0 [35, 36]] from ⟨⟨R26_29, show (2 : Nat) ≤ 9223372036854775807 by omega⟩, ⟨⟨R28_29, show (2 : Nat) ≤ 9223372036854775807 by omega⟩, True.intro⟩⟩)
  clear R26_29
  clear R28_29
  clear q29 b29
  refine Calls.mono (onePar_any 0 1 1 0 _) ?_
  rintro e w30 ⟨rfl, b30⟩
  have k30 := below_call k29 b30
  have S29_30 := rdV s29 b30
  clear s29
  clear b30
  go_wp2_with fail
  obtain ⟨w31, hw31⟩ : ∃ x, x = w30.alloc (.cells #[.int .i64 1, .int .i64 0, .int .i64 1, .int .i64 1, .int .i64 0] 41) := ⟨_, rfl⟩
  have b31 : Below w30.heap.size w30 w31 := by rw [hw31]; exact below_alloc (Below.refl _ _) _
  have g31 : w30.heap.size + 1 ≤ w31.heap.size := by rw [hw31]; simp
  rw [← hw31]
  have p31 : Reads w31 w31.heap.size 5 (some ⟨w30.heap.size, 0, none⟩) 1 (csPar [⟨1, 0, 1, 1, 0⟩]) := by rw [hw31]; exact (Reads.newAt _ _ _ 1 5 _ rfl rfl).more (by simp)
  clear hw31 g31
  have k31 := below_call k30 b31
  have S29_31 := rdV S29_30 b31
  clear S29_30
  clear b31
  refine Calls.mono (has_any _ _ 2 2 1 _ _ _ _ S29_31 (by omega) p31 ex_oct (ht.kept k31)) ?_
  rintro e w32 ⟨rfl, b32⟩
  clear S29_31 p31
  have k32 := below_call k31 b32
  clear b32
  go_wp2_with fail
  obtain ⟨w33, hw33⟩ : ∃ x, x = w32.alloc (.cells #[.int .i64 28, .int .i64 31] 3) := ⟨_, rfl⟩
  have b33 : Below w32.heap.size w32 w33 := by rw [hw33]; exact below_alloc (Below.refl _ _) _
  have g33 : w32.heap.size + 1 ≤ w33.heap.size := by rw [hw33]; simp
  have i33 : Reads w33 w33.heap.size 1 (some ⟨w32.heap.size, 0, none⟩) 2 (csN [28, 31]) := by rw [hw33]; exact (Reads.newAt _ _ _ 2 1 _ rfl rfl).more (by simp)
  rw [← hw33]
  clear hw33 g33
  have k33 := below_call k32 b33
  clear b33
  refine Calls.mono (vc_any _ 2 2 [28, 31] _ _ i33 (Nat.le_refl _) (by omega) (by decide)) ?_
  rintro e w34 ⟨v34, rfl, o34, b34⟩
  obtain ⟨A34, c34, rfl, r34, _, _⟩ := own_reads o34
  clear o34 i33
  have k34 := below_call k33 b34
  clear b34
  go_wp2_with fail
  obtain ⟨w35, hw35⟩ : ∃ x, x = w34.alloc (.cells #[.int .i64 30, .int .i64 35] 3) := ⟨_, rfl⟩
  have b35 : Below w34.heap.size w34 w35 := by rw [hw35]; exact below_alloc (Below.refl _ _) _
  have g35 : w34.heap.size + 1 ≤ w35.heap.size := by rw [hw35]; simp
  have i35 : Reads w35 w35.heap.size 1 (some ⟨w34.heap.size, 0, none⟩) 2 (csN [30, 35]) := by rw [hw35]; exact (Reads.newAt _ _ _ 2 1 _ rfl rfl).more (by simp)
  rw [← hw35]
  clear hw35 g35
  have k35 := below_call k34 b35
  have R34_35 := rd1 r34 b35
  clear r34
  clear b35
  refine Calls.mono (vc_any _ 2 2 [30, 35] _ _ i35 (Nat.le_refl _) (by omega) (by decide)) ?_
  rintro e w36 ⟨v36, rfl, o36, b36⟩
  obtain ⟨A36, c36, rfl, r36, _, _⟩ := own_reads o36
  clear o36 i35
  have k36 := below_call k35 b36
  have R34_36 := rd1 R34_35 b36
  clear R34_35
  clear b36
  go_wp2_with fail
  obtain ⟨w37, hw37⟩ : ∃ x, x = w36.alloc (.cells #[.int .i64 35, .int .i64 38] 3) := ⟨_, rfl⟩
  have b37 : Below w36.heap.size w36 w37 := by rw [hw37]; exact below_alloc (Below.refl _ _) _
  have g37 : w36.heap.size + 1 ≤ w37.heap.size := by rw [hw37]; simp
  have i37 : Reads w37 w37.heap.size 1 (some ⟨w36.heap.size, 0, none⟩) 2 (csN [35, 38]) := by rw [hw37]; exact (Reads.newAt _ _ _ 2 1 _ rfl rfl).more (by simp)
  rw [← hw37]
  clear hw37 g37
  have k37 := below_call k36 b37
  have R34_37 := rd1 R34_36 b37
  clear R34_36
  have R36_37 := rd1 r36 b37
  clear r36
  clear b37
  refine Calls.mono (vc_any _ 2 2 [35, 38] _ _ i37 (Nat.le_refl _) (by omega) (by decide)) ?_
  rintro e w38 ⟨v38, rfl, o38, b38⟩
  obtain ⟨A38, c38, rfl, r38, _, _⟩ := own_reads o38
  clear o38 i37
  have k38 := below_call k37 b38
  have R34_38 := rd1 R34_37 b38
  clear R34_37
  have R36_38 := rd1 R36_37 b38
  clear R36_37
  clear b38
  go_wp2_with fail
  obtain ⟨w39, hw39⟩ : ∃ x, x = w38.alloc (.cells #[.slice A34 2 c34, .slice A36 2 c36, .slice A38 2 c38] 23) := ⟨_, rfl⟩
  have b39 : Below w38.heap.size w38 w39 := by rw [hw39]; exact below_alloc (Below.refl _ _) _
  have g39 : w38.heap.size + 1 ≤ w39.heap.size := by rw [hw39]; simp
  rw [← hw39]
  have q39 : Reads w39 w39.heap.size 1 (some ⟨w38.heap.size, 0, none⟩) 3 (csV [(A34, 2, c34), (A36, 2, c36), (A38, 2, c38)]) := by rw [hw39]; exact (Reads.newAt _ _ _ 3 1 _ rfl rfl).more (by simp)
  clear hw39 g39
  have k39 := below_call k38 b39
  have R34_39 := rd1 R34_38 b39
  clear R34_38
  have R36_39 := rd1 R36_38 b39
  clear R36_38
  have R38_39 := rd1 r38 b39
  clear r38
  have s39 : ReadsV w39 w39.heap.size (some ⟨w38.heap.size, 0, none⟩) 3 [vcFrom 0 [28, 31], vcFrom 0 [30, 35], vcFrom 0 [35, 38]] := readsV_row q39 (show AllV _ _ [(A34, 2, c34), (A36, 2, c36), (A38, 2, c38)] [vcFrom 0 [28, 31], vcFrom 0 [30, 35], vcFrom 0 [35, 38]] from ⟨⟨R34_39, show (2 : Nat) ≤ 9223372036854775807 by omega⟩, ⟨⟨R36_39, show (2 : Nat) ≤ 9223372036854775807 by omega⟩, ⟨⟨R38_39, show (2 : Nat) ≤ 9223372036854775807 by omega⟩, True.intro⟩⟩⟩)
  clear R34_39
  clear R36_39
  clear R38_39
  clear q39 b39
  refine Calls.mono (onePar_any 0 1 2 4 _) ?_
  rintro e w40 ⟨rfl, b40⟩
  have k40 := below_call k39 b40
  have S39_40 := rdV s39 b40
  clear s39
  clear b40
  go_wp2_with fail
  refine Calls.mono (onePar_any 0 2 1 0 _) ?_
  rintro e w41 ⟨rfl, b41⟩
  have k41 := below_call k40 b41
  have S39_41 := rdV S39_40 b41
  clear S39_40
  clear b41
  go_wp2_with fail
  obtain ⟨w42, hw42⟩ : ∃ x, x = w41.alloc (.cells #[.int .i64 1, .int .i64 0, .int .i64 1, .int .i64 2, .int .i64 4, .int .i64 1, .int .i64 0, .int .i64 2, .int .i64 1, .int .i64 0] 41) := ⟨_, rfl⟩
  have b42 : Below w41.heap.size w41 w42 := by rw [hw42]; exact below_alloc (Below.refl _ _) _
  have g42 : w41.heap.size + 1 ≤ w42.heap.size := by rw [hw42]; simp
  rw [← hw42]
  have p42 : Reads w42 w42.heap.size 5 (some ⟨w41.heap.size, 0, none⟩) 2 (csPar [⟨1, 0, 1, 2, 4⟩, ⟨1, 0, 2, 1, 0⟩]) := by rw [hw42]; exact (Reads.newAt _ _ _ 2 5 _ rfl rfl).more (by simp)
  clear hw42 g42
  have k42 := below_call k41 b42
  have S39_42 := rdV S39_41 b42
  clear S39_41
  clear b42
  refine Calls.mono (has_any _ _ 3 3 2 _ _ _ _ S39_42 (by omega) p42 ex_three (ht.kept k42)) ?_
  rintro e w43 ⟨rfl, b43⟩
  clear S39_42 p42
  have k43 := below_call k42 b43
  clear b43
  go_wp2_with fail
  obtain ⟨w44, hw44⟩ : ∃ x, x = w43.alloc (.cells #[.int .i64 28, .int .i64 31] 3) := ⟨_, rfl⟩
  have b44 : Below w43.heap.size w43 w44 := by rw [hw44]; exact below_alloc (Below.refl _ _) _
  have g44 : w43.heap.size + 1 ≤ w44.heap.size := by rw [hw44]; simp
  have i44 : Reads w44 w44.heap.size 1 (some ⟨w43.heap.size, 0, none⟩) 2 (csN [28, 31]) := by rw [hw44]; exact (Reads.newAt _ _ _ 2 1 _ rfl rfl).more (by simp)
  rw [← hw44]
  clear hw44 g44
  have k44 := below_call k43 b44
  clear b44
  refine Calls.mono (vc_any _ 2 2 [28, 31] _ _ i44 (Nat.le_refl _) (by omega) (by decide)) ?_
  rintro e w45 ⟨v45, rfl, o45, b45⟩
  obtain ⟨A45, c45, rfl, r45, _, _⟩ := own_reads o45
  clear o45 i44
  have k45 := below_call k44 b45
  clear b45
  go_wp2_with fail
  obtain ⟨w46, hw46⟩ : ∃ x, x = w45.alloc (.cells #[.int .i64 30, .int .i64 35] 3) := ⟨_, rfl⟩
  have b46 : Below w45.heap.size w45 w46 := by rw [hw46]; exact below_alloc (Below.refl _ _) _
  have g46 : w45.heap.size + 1 ≤ w46.heap.size := by rw [hw46]; simp
  have i46 : Reads w46 w46.heap.size 1 (some ⟨w45.heap.size, 0, none⟩) 2 (csN [30, 35]) := by rw [hw46]; exact (Reads.newAt _ _ _ 2 1 _ rfl rfl).more (by simp)
  rw [← hw46]
  clear hw46 g46
  have k46 := below_call k45 b46
  have R45_46 := rd1 r45 b46
  clear r45
  clear b46
  refine Calls.mono (vc_any _ 2 2 [30, 35] _ _ i46 (Nat.le_refl _) (by omega) (by decide)) ?_
  rintro e w47 ⟨v47, rfl, o47, b47⟩
  obtain ⟨A47, c47, rfl, r47, _, _⟩ := own_reads o47
  clear o47 i46
  have k47 := below_call k46 b47
  have R45_47 := rd1 R45_46 b47
  clear R45_46
  clear b47
  go_wp2_with fail
  obtain ⟨w48, hw48⟩ : ∃ x, x = w47.alloc (.cells #[.slice A45 2 c45, .slice A47 2 c47] 23) := ⟨_, rfl⟩
  have b48 : Below w47.heap.size w47 w48 := by rw [hw48]; exact below_alloc (Below.refl _ _) _
  have g48 : w47.heap.size + 1 ≤ w48.heap.size := by rw [hw48]; simp
  rw [← hw48]
  have q48 : Reads w48 w48.heap.size 1 (some ⟨w47.heap.size, 0, none⟩) 2 (csV [(A45, 2, c45), (A47, 2, c47)]) := by rw [hw48]; exact (Reads.newAt _ _ _ 2 1 _ rfl rfl).more (by simp)
  clear hw48 g48
  have k48 := below_call k47 b48
  have R45_48 := rd1 R45_47 b48
  clear R45_47
  have R47_48 := rd1 r47 b48
  clear r47
  have s48 : ReadsV w48 w48.heap.size (some ⟨w47.heap.size, 0, none⟩) 2 [vcFrom 0 [28, 31], vcFrom 0 [30, 35]] := readsV_row q48 (show AllV _ _ [(A45, 2, c45), (A47, 2, c47)] [vcFrom 0 [28, 31], vcFrom 0 [30, 35]] from ⟨⟨R45_48, show (2 : Nat) ≤ 9223372036854775807 by omega⟩, ⟨⟨R47_48, show (2 : Nat) ≤ 9223372036854775807 by omega⟩, True.intro⟩⟩)
  clear R45_48
  clear R47_48
  clear q48 b48
  have m48 := moves_any _ 2 2 _ 1 1 _ _ s48 (Nat.le_refl _) (by omega)
  rw [ex_moves] at m48
  refine Calls.mono (m48) ?_
  rintro e w49 ⟨rfl, b49⟩
  clear s48 m48
  have k49 := below_call k48 b49
  clear b49
  go_wp2_with fail
  obtain ⟨w50, hw50⟩ : ∃ x, x = w49.alloc (.cells #[.int .i64 28, .int .i64 31] 3) := ⟨_, rfl⟩
  have b50 : Below w49.heap.size w49 w50 := by rw [hw50]; exact below_alloc (Below.refl _ _) _
  have g50 : w49.heap.size + 1 ≤ w50.heap.size := by rw [hw50]; simp
  have i50 : Reads w50 w50.heap.size 1 (some ⟨w49.heap.size, 0, none⟩) 2 (csN [28, 31]) := by rw [hw50]; exact (Reads.newAt _ _ _ 2 1 _ rfl rfl).more (by simp)
  rw [← hw50]
  clear hw50 g50
  have k50 := below_call k49 b50
  clear b50
  refine Calls.mono (vc_any _ 2 2 [28, 31] _ _ i50 (Nat.le_refl _) (by omega) (by decide)) ?_
  rintro e w51 ⟨v51, rfl, o51, b51⟩
  obtain ⟨A51, c51, rfl, r51, _, _⟩ := own_reads o51
  clear o51 i50
  have k51 := below_call k50 b51
  clear b51
  go_wp2_with fail
  obtain ⟨w52, hw52⟩ : ∃ x, x = w51.alloc (.cells #[.int .i64 30, .int .i64 35] 3) := ⟨_, rfl⟩
  have b52 : Below w51.heap.size w51 w52 := by rw [hw52]; exact below_alloc (Below.refl _ _) _
  have g52 : w51.heap.size + 1 ≤ w52.heap.size := by rw [hw52]; simp
  have i52 : Reads w52 w52.heap.size 1 (some ⟨w51.heap.size, 0, none⟩) 2 (csN [30, 35]) := by rw [hw52]; exact (Reads.newAt _ _ _ 2 1 _ rfl rfl).more (by simp)
  rw [← hw52]
  clear hw52 g52
  have k52 := below_call k51 b52
  have R51_52 := rd1 r51 b52
  clear r51
  clear b52
  refine Calls.mono (vc_any _ 2 2 [30, 35] _ _ i52 (Nat.le_refl _) (by omega) (by decide)) ?_
  rintro e w53 ⟨v53, rfl, o53, b53⟩
  obtain ⟨A53, c53, rfl, r53, _, _⟩ := own_reads o53
  clear o53 i52
  have k53 := below_call k52 b53
  have R51_53 := rd1 R51_52 b53
  clear R51_52
  clear b53
  go_wp2_with fail
  obtain ⟨w54, hw54⟩ : ∃ x, x = w53.alloc (.cells #[.slice A51 2 c51, .slice A53 2 c53] 23) := ⟨_, rfl⟩
  have b54 : Below w53.heap.size w53 w54 := by rw [hw54]; exact below_alloc (Below.refl _ _) _
  have g54 : w53.heap.size + 1 ≤ w54.heap.size := by rw [hw54]; simp
  rw [← hw54]
  have q54 : Reads w54 w54.heap.size 1 (some ⟨w53.heap.size, 0, none⟩) 2 (csV [(A51, 2, c51), (A53, 2, c53)]) := by rw [hw54]; exact (Reads.newAt _ _ _ 2 1 _ rfl rfl).more (by simp)
  clear hw54 g54
  have k54 := below_call k53 b54
  have R51_54 := rd1 R51_53 b54
  clear R51_53
  have R53_54 := rd1 r53 b54
  clear r53
  have s54 : ReadsV w54 w54.heap.size (some ⟨w53.heap.size, 0, none⟩) 2 [vcFrom 0 [28, 31], vcFrom 0 [30, 35]] := readsV_row q54 (show AllV _ _ [(A51, 2, c51), (A53, 2, c53)] [vcFrom 0 [28, 31], vcFrom 0 [30, 35]] from ⟨⟨R51_54, show (2 : Nat) ≤ 9223372036854775807 by omega⟩, ⟨⟨R53_54, show (2 : Nat) ≤ 9223372036854775807 by omega⟩, True.intro⟩⟩)
  clear R51_54
  clear R53_54
  clear q54 b54
  have m54 := moves_any _ 2 2 _ 1 0 _ _ s54 (Nat.le_refl _) (by omega)
  rw [ex_moves0] at m54
  refine Calls.mono (m54) ?_
  rintro e w55 ⟨rfl, b55⟩
  clear s54 m54
  have k55 := below_call k54 b55
  clear b55
  go_wp2_with fail
  refine Calls.mono (awake_any _ (ht.kept k55)) ?_
  rintro e w56 ⟨rfl, b56⟩
  have k56 := below_call k55 b56
  go_wp2
  go_ret
  exact ⟨rfl, k56⟩
end Go.Proofs.YtigfcbofbcpiaaaDoor
