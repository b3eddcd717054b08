
/- The chapter's examples of layer 32 (by wip/mk_ex32.py). -/
import Derived.Test.YtmlcnmnpkemdpaaDoorDsLaw32
import Derived.Test.YtmlcnmnpkemdpaaDoorDsTreatN
import Derived.Test.YtmlcnmnpkemdpaaDoorKitInts
namespace Go.Proofs.YtmlcnmnpkemdpaaDoor
open Go.RowKit
theorem ex_pass : dissE [vpL 0 0 [(28, 4)], vpL 0 0 [(37, 1), (38, 1), (39, 2)]] = ([⟨1, 0, 1, 3, 1⟩], 0) := by kernel_rfl
theorem ex_susp : dissE [vpL 0 0 [(30, 2), (29, 2)], vpL 0 0 [(35, 3), (34, 1)]] = ([⟨1, 0, 1, 5, 3⟩], 0) := by kernel_rfl
theorem ex_turn : dissE [vpL 0 0 [(28, 4)], vpL 0 0 [(37, 1), (38, 1), (37, 2)]] = ([⟨1, 0, 1, 3, 2⟩], 0) := by kernel_rfl
theorem ex_untr : dissE [vpL 0 0 [(28, 2)], vpL 0 0 [(36, 2)]] = ([⟨0, 0, 1, 5, 4⟩], 0) := by kernel_rfl
theorem ex_long : dissE [vpL 0 0 [(28, 4)], vpL 0 0 [(37, 1), (38, 2), (39, 1)]] = ([⟨1, 0, 1, 3, 4⟩], 0) := by kernel_rfl
theorem ex_count : countD [vpL 0 0 [(28, 4)], vpL 0 0 [(37, 1), (38, 1), (39, 2)]] = ([1, 0, 0, 0], 0) := by kernel_rfl
theorem ex_chord : chordD [vpL 0 0 [(28, 4)], vpL 0 0 [(37, 1), (38, 1), (39, 2)]] 1 = ([0, 1], [(0, 4, 0), (3, 5, 0)], 0) := by kernel_rfl
theorem ex_treat1 : treatsE [vpL 0 0 [(28, 4)], vpL 0 0 [(37, 1), (38, 1), (39, 2)]] 1 0 1 = (1, 0) := by kernel_rfl
theorem ex_treat2 : treatsE [vpL 0 0 [(28, 4)], vpL 0 0 [(37, 1), (38, 1), (39, 2)]] 1 1 0 = (1, 0) := by kernel_rfl
theorem ex_treat3 : treatsE [vpL 0 0 [(28, 4)], vpL 0 0 [(37, 1), (38, 1), (39, 2)]] 0 0 1 = (0, 0) := by kernel_rfl
theorem ex_treat4 : treatsE [vpL 0 0 [(28, 4)], vpL 0 0 [(37, 1), (38, 1), (39, 2)]] 3 0 1 = (0, 2) := by kernel_rfl
set_option maxRecDepth 100000 in
set_option maxHeartbeats 16000000 in
theorem passing_any (w : World) : Calls Tryd.prog 20 #[] w fun e w' => PairRet [vpL 0 0 [(28, 4)], vpL 0 0 [(37, 1), (38, 1), (39, 2)]] 2 w e w' := by
  go_enter Tryd.func20, Tryd.ntmps20
  go_wp2_with fail
  obtain ⟨w1, hw1⟩ : ∃ x, x = w.alloc (.cells #[.int .i64 28, .int .i64 4] 3) := ⟨_, rfl⟩
  have b1 : Below w.heap.size w w1 := by rw [hw1]; exact below_alloc (Below.refl _ _) _
  have i1 : Reads w1 w1.heap.size 1 (some ⟨w.heap.size, 0, none⟩) 2 (csN [28, 4]) := by rw [hw1]; exact (Reads.newAt _ _ _ 2 1 _ rfl rfl).more (by simp)
  rw [← hw1]
  clear hw1
  have k1 := b1
  clear b1
  refine Calls.mono (vp_any _ 2 2 1 [(28, 4)] _ i1 rfl rfl (by omega) (by decide)) ?_
  rintro e w2 ⟨v2, rfl, o2, b2⟩
  obtain ⟨A2, c2, rfl, r2, _, _⟩ := own_reads o2
  clear o2 i1
  have k2 := below_call k1 b2
  clear k1
  clear b2
  go_wp2_with fail
  obtain ⟨w3, hw3⟩ : ∃ x, x = w2.alloc (.cells #[.int .i64 37, .int .i64 1, .int .i64 38, .int .i64 1, .int .i64 39, .int .i64 2] 3) := ⟨_, rfl⟩
  have b3 : Below w2.heap.size w2 w3 := by rw [hw3]; exact below_alloc (Below.refl _ _) _
  have i3 : Reads w3 w3.heap.size 1 (some ⟨w2.heap.size, 0, none⟩) 6 (csN [37, 1, 38, 1, 39, 2]) := by rw [hw3]; exact (Reads.newAt _ _ _ 6 1 _ rfl rfl).more (by simp)
  rw [← hw3]
  clear hw3
  have k3 := below_call k2 b3
  clear k2
  have R2_3 := rd1 r2 b3
  clear r2
  clear b3
  refine Calls.mono (vp_any _ 6 6 3 [(37, 1), (38, 1), (39, 2)] _ i3 rfl rfl (by omega) (by decide)) ?_
  rintro e w4 ⟨v4, rfl, o4, b4⟩
  obtain ⟨A4, c4, rfl, r4, _, _⟩ := own_reads o4
  clear o4 i3
  have k4 := below_call k3 b4
  clear k3
  have R2_4 := rd1 R2_3 b4
  clear R2_3
  clear b4
  go_wp2_with fail
  refine Calls.mono (pair_any _ _ 1 _ 3 _ _ _ _ R2_4 r4 (by omega) (by omega)) ?_
  rintro e w5 ⟨A5, c5, rfl, s5, b5⟩
  clear R2_4 r4
  have k5 := below_call k4 b5
  clear k4
  clear b5
  go_wp2
  refine ret_of (by simp [results, Tryd.results20, go_sem, *]; repeat' (first | rfl | apply And.intro)) rfl ?_
  exact ⟨_, _, rfl, s5, k5⟩
set_option maxRecDepth 100000 in
set_option maxHeartbeats 16000000 in
theorem awake_any (w : World) (ht : Tabs w) : Calls Tryd.prog 10 #[] w fun e w' => e = .returned (.bool true) ∧ Below w.heap.size w w' := by
  go_enter Tryd.func10, Tryd.ntmps10
  go_wp2_with fail
  refine Calls.mono (passing_any _) ?_
  rintro e w1 ⟨A1, c1, rfl, s1, b1⟩
  have k1 := b1
  clear b1
  go_wp2_with fail
  refine Calls.mono (oneDis_any _ 2 _ _ _ s1 (by omega) (ht.kept k1) 1 3 1 ex_pass) ?_
  rintro e w2 ⟨rfl, b2⟩
  clear s1
  have k2 := below_call k1 b2
  clear k1
  clear b2
  go_wp2_with fail
  obtain ⟨w3, hw3⟩ : ∃ x, x = w2.alloc (.cells #[.int .i64 30, .int .i64 2, .int .i64 29, .int .i64 2] 3) := ⟨_, rfl⟩
  have b3 : Below w2.heap.size w2 w3 := by rw [hw3]; exact below_alloc (Below.refl _ _) _
  have i3 : Reads w3 w3.heap.size 1 (some ⟨w2.heap.size, 0, none⟩) 4 (csN [30, 2, 29, 2]) := by rw [hw3]; exact (Reads.newAt _ _ _ 4 1 _ rfl rfl).more (by simp)
  rw [← hw3]
  clear hw3
  have k3 := below_call k2 b3
  clear k2
  clear b3
  refine Calls.mono (vp_any _ 4 4 2 [(30, 2), (29, 2)] _ i3 rfl rfl (by omega) (by decide)) ?_
  rintro e w4 ⟨v4, rfl, o4, b4⟩
  obtain ⟨A4, c4, rfl, r4, _, _⟩ := own_reads o4
  clear o4 i3
  have k4 := below_call k3 b4
  clear k3
  clear b4
  go_wp2_with fail
  obtain ⟨w5, hw5⟩ : ∃ x, x = w4.alloc (.cells #[.int .i64 35, .int .i64 3, .int .i64 34, .int .i64 1] 3) := ⟨_, rfl⟩
  have b5 : Below w4.heap.size w4 w5 := by rw [hw5]; exact below_alloc (Below.refl _ _) _
  have i5 : Reads w5 w5.heap.size 1 (some ⟨w4.heap.size, 0, none⟩) 4 (csN [35, 3, 34, 1]) := by rw [hw5]; exact (Reads.newAt _ _ _ 4 1 _ rfl rfl).more (by simp)
  rw [← hw5]
  clear hw5
  have k5 := below_call k4 b5
  clear k4
  have R4_5 := rd1 r4 b5
  clear r4
  clear b5
  refine Calls.mono (vp_any _ 4 4 2 [(35, 3), (34, 1)] _ i5 rfl rfl (by omega) (by decide)) ?_
  rintro e w6 ⟨v6, rfl, o6, b6⟩
  obtain ⟨A6, c6, rfl, r6, _, _⟩ := own_reads o6
  clear o6 i5
  have k6 := below_call k5 b6
  clear k5
  have R4_6 := rd1 R4_5 b6
  clear R4_5
  clear b6
  go_wp2_with fail
  refine Calls.mono (pair_any _ _ 2 _ 2 _ _ _ _ R4_6 r6 (by omega) (by omega)) ?_
  rintro e w7 ⟨A7, c7, rfl, s7, b7⟩
  clear R4_6 r6
  have k7 := below_call k6 b7
  clear k6
  clear b7
  go_wp2_with fail
  refine Calls.mono (oneDis_any _ 2 _ _ _ s7 (by omega) (ht.kept k7) 1 5 3 ex_susp) ?_
  rintro e w8 ⟨rfl, b8⟩
  clear s7
  have k8 := below_call k7 b8
  clear k7
  clear b8
  go_wp2
  refine ret_of (by simp [results, Tryd.results10, go_sem, *]; repeat' (first | rfl | apply And.intro)) rfl ⟨rfl, k8⟩
set_option maxRecDepth 100000 in
set_option maxHeartbeats 16000000 in
theorem known_any (w : World) (ht : Tabs w) : Calls Tryd.prog 4 #[] w fun e w' => e = .returned (.bool true) ∧ Below w.heap.size w w' := by
  go_enter Tryd.func4, Tryd.ntmps4
  go_wp2_with fail
  obtain ⟨w1, hw1⟩ : ∃ x, x = w.alloc (.cells #[.int .i64 28, .int .i64 4] 3) := ⟨_, rfl⟩
  have b1 : Below w.heap.size w w1 := by rw [hw1]; exact below_alloc (Below.refl _ _) _
  have i1 : Reads w1 w1.heap.size 1 (some ⟨w.heap.size, 0, none⟩) 2 (csN [28, 4]) := by rw [hw1]; exact (Reads.newAt _ _ _ 2 1 _ rfl rfl).more (by simp)
  rw [← hw1]
  clear hw1
  have k1 := b1
  clear b1
  refine Calls.mono (vp_any _ 2 2 1 [(28, 4)] _ i1 rfl rfl (by omega) (by decide)) ?_
  rintro e w2 ⟨v2, rfl, o2, b2⟩
  obtain ⟨A2, c2, rfl, r2, _, _⟩ := own_reads o2
  clear o2 i1
  have k2 := below_call k1 b2
  clear k1
  clear b2
  go_wp2_with fail
  obtain ⟨w3, hw3⟩ : ∃ x, x = w2.alloc (.cells #[.int .i64 37, .int .i64 1, .int .i64 38, .int .i64 1, .int .i64 37, .int .i64 2] 3) := ⟨_, rfl⟩
  have b3 : Below w2.heap.size w2 w3 := by rw [hw3]; exact below_alloc (Below.refl _ _) _
  have i3 : Reads w3 w3.heap.size 1 (some ⟨w2.heap.size, 0, none⟩) 6 (csN [37, 1, 38, 1, 37, 2]) := by rw [hw3]; exact (Reads.newAt _ _ _ 6 1 _ rfl rfl).more (by simp)
  rw [← hw3]
  clear hw3
  have k3 := below_call k2 b3
  clear k2
  have R2_3 := rd1 r2 b3
  clear r2
  clear b3
  refine Calls.mono (vp_any _ 6 6 3 [(37, 1), (38, 1), (37, 2)] _ i3 rfl rfl (by omega) (by decide)) ?_
  rintro e w4 ⟨v4, rfl, o4, b4⟩
  obtain ⟨A4, c4, rfl, r4, _, _⟩ := own_reads o4
  clear o4 i3
  have k4 := below_call k3 b4
  clear k3
  have R2_4 := rd1 R2_3 b4
  clear R2_3
  clear b4
  go_wp2_with fail
  refine Calls.mono (pair_any _ _ 1 _ 3 _ _ _ _ R2_4 r4 (by omega) (by omega)) ?_
  rintro e w5 ⟨A5, c5, rfl, s5, b5⟩
  clear R2_4 r4
  have k5 := below_call k4 b5
  clear k4
  clear b5
  go_wp2_with fail
  refine Calls.mono (oneDis_any _ 2 _ _ _ s5 (by omega) (ht.kept k5) 1 3 2 ex_turn) ?_
  rintro e w6 ⟨rfl, b6⟩
  clear s5
  have k6 := below_call k5 b6
  clear k5
  clear b6
  go_wp2_with fail
  obtain ⟨w7, hw7⟩ : ∃ x, x = w6.alloc (.cells #[.int .i64 28, .int .i64 2] 3) := ⟨_, rfl⟩
  have b7 : Below w6.heap.size w6 w7 := by rw [hw7]; exact below_alloc (Below.refl _ _) _
  have i7 : Reads w7 w7.heap.size 1 (some ⟨w6.heap.size, 0, none⟩) 2 (csN [28, 2]) := by rw [hw7]; exact (Reads.newAt _ _ _ 2 1 _ rfl rfl).more (by simp)
  rw [← hw7]
  clear hw7
  have k7 := below_call k6 b7
  clear k6
  clear b7
  refine Calls.mono (vp_any _ 2 2 1 [(28, 2)] _ i7 rfl rfl (by omega) (by decide)) ?_
  rintro e w8 ⟨v8, rfl, o8, b8⟩
  obtain ⟨A8, c8, rfl, r8, _, _⟩ := own_reads o8
  clear o8 i7
  have k8 := below_call k7 b8
  clear k7
  clear b8
  go_wp2_with fail
  obtain ⟨w9, hw9⟩ : ∃ x, x = w8.alloc (.cells #[.int .i64 36, .int .i64 2] 3) := ⟨_, rfl⟩
  have b9 : Below w8.heap.size w8 w9 := by rw [hw9]; exact below_alloc (Below.refl _ _) _
  have i9 : Reads w9 w9.heap.size 1 (some ⟨w8.heap.size, 0, none⟩) 2 (csN [36, 2]) := by rw [hw9]; exact (Reads.newAt _ _ _ 2 1 _ rfl rfl).more (by simp)
  rw [← hw9]
  clear hw9
  have k9 := below_call k8 b9
  clear k8
  have R8_9 := rd1 r8 b9
  clear r8
  clear b9
  refine Calls.mono (vp_any _ 2 2 1 [(36, 2)] _ i9 rfl rfl (by omega) (by decide)) ?_
  rintro e w10 ⟨v10, rfl, o10, b10⟩
  obtain ⟨A10, c10, rfl, r10, _, _⟩ := own_reads o10
  clear o10 i9
  have k10 := below_call k9 b10
  clear k9
  have R8_10 := rd1 R8_9 b10
  clear R8_9
  clear b10
  go_wp2_with fail
  refine Calls.mono (pair_any _ _ 1 _ 1 _ _ _ _ R8_10 r10 (by omega) (by omega)) ?_
  rintro e w11 ⟨A11, c11, rfl, s11, b11⟩
  clear R8_10 r10
  have k11 := below_call k10 b11
  clear k10
  clear b11
  go_wp2_with fail
  refine Calls.mono (oneDis_any _ 2 _ _ _ s11 (by omega) (ht.kept k11) 0 5 4 ex_untr) ?_
  rintro e w12 ⟨rfl, b12⟩
  clear s11
  have k12 := below_call k11 b12
  clear k11
  clear b12
  go_wp2_with fail
  obtain ⟨w13, hw13⟩ : ∃ x, x = w12.alloc (.cells #[.int .i64 28, .int .i64 4] 3) := ⟨_, rfl⟩
  have b13 : Below w12.heap.size w12 w13 := by rw [hw13]; exact below_alloc (Below.refl _ _) _
  have i13 : Reads w13 w13.heap.size 1 (some ⟨w12.heap.size, 0, none⟩) 2 (csN [28, 4]) := by rw [hw13]; exact (Reads.newAt _ _ _ 2 1 _ rfl rfl).more (by simp)
  rw [← hw13]
  clear hw13
  have k13 := below_call k12 b13
  clear k12
  clear b13
  refine Calls.mono (vp_any _ 2 2 1 [(28, 4)] _ i13 rfl rfl (by omega) (by decide)) ?_
  rintro e w14 ⟨v14, rfl, o14, b14⟩
  obtain ⟨A14, c14, rfl, r14, _, _⟩ := own_reads o14
  clear o14 i13
  have k14 := below_call k13 b14
  clear k13
  clear b14
  go_wp2_with fail
  obtain ⟨w15, hw15⟩ : ∃ x, x = w14.alloc (.cells #[.int .i64 37, .int .i64 1, .int .i64 38, .int .i64 2, .int .i64 39, .int .i64 1] 3) := ⟨_, rfl⟩
  have b15 : Below w14.heap.size w14 w15 := by rw [hw15]; exact below_alloc (Below.refl _ _) _
  have i15 : Reads w15 w15.heap.size 1 (some ⟨w14.heap.size, 0, none⟩) 6 (csN [37, 1, 38, 2, 39, 1]) := by rw [hw15]; exact (Reads.newAt _ _ _ 6 1 _ rfl rfl).more (by simp)
  rw [← hw15]
  clear hw15
  have k15 := below_call k14 b15
  clear k14
  have R14_15 := rd1 r14 b15
  clear r14
  clear b15
  refine Calls.mono (vp_any _ 6 6 3 [(37, 1), (38, 2), (39, 1)] _ i15 rfl rfl (by omega) (by decide)) ?_
  rintro e w16 ⟨v16, rfl, o16, b16⟩
  obtain ⟨A16, c16, rfl, r16, _, _⟩ := own_reads o16
  clear o16 i15
  have k16 := below_call k15 b16
  clear k15
  have R14_16 := rd1 R14_15 b16
  clear R14_15
  clear b16
  go_wp2_with fail
  refine Calls.mono (pair_any _ _ 1 _ 3 _ _ _ _ R14_16 r16 (by omega) (by omega)) ?_
  rintro e w17 ⟨A17, c17, rfl, s17, b17⟩
  clear R14_16 r16
  have k17 := below_call k16 b17
  clear k16
  clear b17
  go_wp2_with fail
  refine Calls.mono (oneDis_any _ 2 _ _ _ s17 (by omega) (ht.kept k17) 1 3 4 ex_long) ?_
  rintro e w18 ⟨rfl, b18⟩
  clear s17
  have k18 := below_call k17 b18
  clear k17
  clear b18
  go_wp2_with fail
  refine Calls.mono (passing_any _) ?_
  rintro e w19 ⟨A19, c19, rfl, s19, b19⟩
  have k19 := below_call k18 b19
  clear k18
  clear b19
  go_wp2_with fail
  have q := count_any _ 2 c19 _ _ s19 (by omega) (ht.kept k19)
  rw [ex_count] at q
  refine Calls.mono (q) ?_
  rintro e w20 ⟨A20, c20, rfl, r20, b20⟩
  clear q s19
  simp only [List.length_cons, List.length_nil] at r20 ⊢
  have k20 := below_call k19 b20
  clear k19
  clear b20
  go_wp2_with fail
  refine Calls.mono (passing_any _) ?_
  rintro e w21 ⟨A21, c21, rfl, s21, b21⟩
  have k21 := below_call k20 b21
  clear k20
  have N_21 := rd1 r20 b21
  clear r20
  clear b21
  go_wp2_with fail
  have q := chordn_any _ 2 c21 _ _ s21 (by omega) (ht.kept k21) 1
  rw [ex_chord] at q
  refine Calls.mono (q) ?_
  rintro e w22 ⟨A22, c22, D22, d22, rfl, r22, t22, b22⟩
  clear q s21
  simp only [List.length_cons, List.length_nil] at r22 t22 ⊢
  have k22 := below_call k21 b22
  clear k21
  have N_22 := rd1 N_21 b22
  clear N_21
  clear b22
  go_wp2_with fail
  refine Calls.mono (passing_any _) ?_
  rintro e w23 ⟨A23, c23, rfl, s23, b23⟩
  have k23 := below_call k22 b23
  clear k22
  have N_23 := rd1 N_22 b23
  clear N_22
  have WH_23 := rd1 r22 b23
  clear r22
  have PI_23 := rd1 t22 b23
  clear t22
  clear b23
  go_wp2_with fail
  have q := treatn_any _ 2 c23 _ _ s23 (by omega) (ht.kept k23) 1 0 1
  rw [ex_treat1] at q
  refine Calls.mono (q) ?_
  rintro e w24 ⟨rfl, b24⟩
  clear q s23
  have k24 := below_call k23 b24
  clear k23
  have N_24 := rd1 N_23 b24
  clear N_23
  have WH_24 := rd1 WH_23 b24
  clear WH_23
  have PI_24 := rd1 PI_23 b24
  clear PI_23
  clear b24
  go_wp2_with fail
  refine Calls.mono (passing_any _) ?_
  rintro e w25 ⟨A25, c25, rfl, s25, b25⟩
  have k25 := below_call k24 b25
  clear k24
  have N_25 := rd1 N_24 b25
  clear N_24
  have WH_25 := rd1 WH_24 b25
  clear WH_24
  have PI_25 := rd1 PI_24 b25
  clear PI_24
  clear b25
  go_wp2_with fail
  have q := treatn_any _ 2 c25 _ _ s25 (by omega) (ht.kept k25) 1 1 0
  rw [ex_treat2] at q
  refine Calls.mono (q) ?_
  rintro e w26 ⟨rfl, b26⟩
  clear q s25
  have k26 := below_call k25 b26
  clear k25
  have N_26 := rd1 N_25 b26
  clear N_25
  have WH_26 := rd1 WH_25 b26
  clear WH_25
  have PI_26 := rd1 PI_25 b26
  clear PI_25
  clear b26
  go_wp2_with fail
  refine Calls.mono (passing_any _) ?_
  rintro e w27 ⟨A27, c27, rfl, s27, b27⟩
  have k27 := below_call k26 b27
  clear k26
  have N_27 := rd1 N_26 b27
  clear N_26
  have WH_27 := rd1 WH_26 b27
  clear WH_26
  have PI_27 := rd1 PI_26 b27
  clear PI_26
  clear b27
  go_wp2_with fail
  have q := treatn_any _ 2 c27 _ _ s27 (by omega) (ht.kept k27) 0 0 1
  rw [ex_treat3] at q
  refine Calls.mono (q) ?_
  rintro e w28 ⟨rfl, b28⟩
  clear q s27
  have k28 := below_call k27 b28
  clear k27
  have N_28 := rd1 N_27 b28
  clear N_27
  have WH_28 := rd1 WH_27 b28
  clear WH_27
  have PI_28 := rd1 PI_27 b28
  clear PI_27
  clear b28
  go_wp2_with fail
  refine Calls.mono (passing_any _) ?_
  rintro e w29 ⟨A29, c29, rfl, s29, b29⟩
  have k29 := below_call k28 b29
  clear k28
  have N_29 := rd1 N_28 b29
  clear N_28
  have WH_29 := rd1 WH_28 b29
  clear WH_28
  have PI_29 := rd1 PI_28 b29
  clear PI_28
  clear b29
  go_wp2_with fail
  have q := treatn_any _ 2 c29 _ _ s29 (by omega) (ht.kept k29) 3 0 1
  rw [ex_treat4] at q
  refine Calls.mono (q) ?_
  rintro e w30 ⟨rfl, b30⟩
  clear q s29
  have k30 := below_call k29 b30
  clear k29
  have N_30 := rd1 N_29 b30
  clear N_29
  have WH_30 := rd1 WH_29 b30
  clear WH_29
  have PI_30 := rd1 PI_29 b30
  clear PI_29
  clear b30
  go_wp2_with fail
  obtain ⟨w31, hw31⟩ : ∃ x, x = w30.alloc (.cells #[.int .i64 1, .int .i64 0, .int .i64 0, .int .i64 0] 3) := ⟨_, rfl⟩
  have b31 : Below w30.heap.size w30 w31 := by rw [hw31]; exact below_alloc (Below.refl _ _) _
  have i31 : Reads w31 w31.heap.size 1 (some ⟨w30.heap.size, 0, none⟩) 4 (csN [1, 0, 0, 0]) := by rw [hw31]; exact (Reads.newAt _ _ _ 4 1 _ rfl rfl).more (by simp)
  rw [← hw31]
  clear hw31
  have k31 := below_call k30 b31
  clear k30
  have N_31 := rd1 N_30 b31
  clear N_30
  have WH_31 := rd1 WH_30 b31
  clear WH_30
  have PI_31 := rd1 PI_30 b31
  clear PI_30
  clear b31
  refine Calls.mono (sameInts_any _ _ 4 _ _ _ _ _ _ N_31 (Nat.le_refl _) i31 (Nat.le_refl _) (by omega)) ?_
  rintro e w32 ⟨rfl, b32⟩
  clear N_31 i31
  have k32 := below_call k31 b32
  clear k31
  have WH_32 := rd1 WH_31 b32
  clear WH_31
  have PI_32 := rd1 PI_31 b32
  clear PI_31
  clear b32
  go_wp2_with fail
  obtain ⟨w33, hw33⟩ : ∃ x, x = w32.alloc (.cells #[.int .i64 0, .int .i64 1] 3) := ⟨_, rfl⟩
  have b33 : Below w32.heap.size w32 w33 := by rw [hw33]; exact below_alloc (Below.refl _ _) _
  have i33 : Reads w33 w33.heap.size 1 (some ⟨w32.heap.size, 0, none⟩) 2 (csN [0, 1]) := by rw [hw33]; exact (Reads.newAt _ _ _ 2 1 _ rfl rfl).more (by simp)
  rw [← hw33]
  clear hw33
  have k33 := below_call k32 b33
  clear k32
  have WH_33 := rd1 WH_32 b33
  clear WH_32
  have PI_33 := rd1 PI_32 b33
  clear PI_32
  clear b33
  refine Calls.mono (sameInts_any _ _ 2 _ _ _ _ _ _ WH_33 (Nat.le_refl _) i33 (Nat.le_refl _) (by omega)) ?_
  rintro e w34 ⟨rfl, b34⟩
  clear WH_33 i33
  have k34 := below_call k33 b34
  clear k33
  have PI_34 := rd1 PI_33 b34
  clear PI_33
  clear b34
  obtain ⟨bp, op, hA, hbp, y0, y1, y2⟩ := PI_34.pt (Nat.le_refl _) (Below.refl _ _) (k := 0) (x := (0, 4, 0)) (by omega) rfl
  obtain ⟨bp2, op2, hA2, _, y3, y4, y5⟩ := PI_34.pt (Nat.le_refl _) (Below.refl _ _) (k := 1) (x := (3, 5, 0)) (by omega) rfl
  subst hA
  cases hA2
  simp only [Nat.zero_mul, Nat.one_mul, Nat.add_zero] at y0 y1 y2 y3 y4 y5
  clear PI_34
  go_wp2_with fail
  refine Calls.mono (awake_any _ (ht.kept k34)) ?_
  rintro e w35 ⟨rfl, b35⟩
  have k35 := below_call k34 b35
  clear k34
  clear b35
  go_wp2
  refine ret_of (by simp [results, Tryd.results4, go_sem, *]; repeat' (first | rfl | apply And.intro)) rfl ⟨rfl, k35⟩
end Go.Proofs.YtmlcnmnpkemdpaaDoor
