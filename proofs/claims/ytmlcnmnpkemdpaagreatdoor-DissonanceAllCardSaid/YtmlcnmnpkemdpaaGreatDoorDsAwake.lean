
/- The chapter's examples of layer 32 (by wip/mk_ex32.py). -/
import Derived.Test.YtmlcnmnpkemdpaaGreatDoorDsLaw32
import Derived.Test.YtmlcnmnpkemdpaaGreatDoorDsTreatN
import Derived.Test.YtmlcnmnpkemdpaaGreatDoorKitInts
namespace Go.Proofs.YtmlcnmnpkemdpaaGreatDoor
open Go.RowKit
theorem ex_pass : dissE [vpL 0 0 [(28, 4)], vpL 0 0 [(37, 1), (38, 1), (39, 2)]] = ([⟨1, 0, 1, 3, 1⟩], 0) := by kernel_rfl
theorem ex_susp : dissE [vpL 0 0 [(30, 2), (29, 2)], vpL 0 0 [(35, 3), (34, 1)]] = ([⟨1, 0, 1, 5, 3⟩], 0) := by kernel_rfl
theorem ex_turn : dissE [vpL 0 0 [(28, 4)], vpL 0 0 [(37, 1), (38, 1), (37, 2)]] = ([⟨1, 0, 1, 3, 2⟩], 0) := by kernel_rfl
theorem ex_untr : dissE [vpL 0 0 [(28, 2)], vpL 0 0 [(36, 2)]] = ([⟨0, 0, 1, 5, 4⟩], 0) := by kernel_rfl
theorem ex_long : dissE [vpL 0 0 [(28, 4)], vpL 0 0 [(37, 1), (38, 2), (39, 1)]] = ([⟨1, 0, 1, 3, 4⟩], 0) := by kernel_rfl
theorem ex_count : countD [vpL 0 0 [(28, 4)], vpL 0 0 [(37, 1), (38, 1), (39, 2)]] = ([1, 0, 0, 0], 0) := by kernel_rfl
theorem ex_chord : chordD [vpL 0 0 [(28, 4)], vpL 0 0 [(37, 1), (38, 1), (39, 2)]] 1 = ([0, 1], [(0, 4, 0), (3, 5, 0)], 0) := by kernel_rfl
theorem ex_treat1 : treatsE [vpL 0 0 [(28, 4)], vpL 0 0 [(37, 1), (38, 1), (39, 2)]] 1 0 1 = (1, 0) := by kernel_rfl
theorem ex_treat2 : treatsE [vpL 0 0 [(28, 4)], vpL 0 0 [(37, 1), (38, 1), (39, 2)]] 1 1 0 = (1, 0) := by kernel_rfl
theorem ex_treat3 : treatsE [vpL 0 0 [(28, 4)], vpL 0 0 [(37, 1), (38, 1), (39, 2)]] 0 0 1 = (0, 0) := by kernel_rfl
theorem ex_treat4 : treatsE [vpL 0 0 [(28, 4)], vpL 0 0 [(37, 1), (38, 1), (39, 2)]] 3 0 1 = (0, 2) := by kernel_rfl
set_option maxRecDepth 100000 in
set_option maxHeartbeats 16000000 in
theorem passing_any (w : World) : Calls Tryz.prog 17 #[] w fun e w' => PairRet [vpL 0 0 [(28, 4)], vpL 0 0 [(37, 1), (38, 1), (39, 2)]] 2 w e w' := by
  go_enter Tryz.func17, Tryz.ntmps17
  go_wp2_with fail
  obtain ⟨w1, hw1⟩ : ∃ x, x = w.alloc (.cells #[.int .i64 28, .int .i64 4] 3) := ⟨_, rfl⟩
  have b1 : Below w.heap.size w w1 := by rw [hw1]; exact below_alloc (Below.refl _ _) _
  have i1 : Reads w1 w1.heap.size 1 (some ⟨w.heap.size, 0, none⟩) 2 (csN [28, 4]) := by rw [hw1]; exact (Reads.newAt _ _ _ 2 1 _ rfl rfl).more (by simp)
  rw [← hw1]
  clear hw1
  have k1 := b1
  clear b1
  refine Calls.mono (vp_any _ 2 2 1 [(28, 4)] _ i1 rfl rfl (by omega) (by decide)) ?_
  rintro e w2 ⟨v2, rfl, o2, b2⟩
  obtain ⟨A2, c2, rfl, r2, _, _⟩ := own_reads o2
  clear o2 i1
  have k2 := below_call k1 b2
  clear k1
  clear b2
  go_wp2_with fail
  obtain ⟨w3, hw3⟩ : ∃ x, x = w2.alloc (.cells #[.int .i64 37, .int .i64 1, .int .i64 38, .int .i64 1, .int .i64 39, .int .i64 2] 3) := ⟨_, rfl⟩
  have b3 : Below w2.heap.size w2 w3 := by rw [hw3]; exact below_alloc (Below.refl _ _) _
  have i3 : Reads w3 w3.heap.size 1 (some ⟨w2.heap.size, 0, none⟩) 6 (csN [37, 1, 38, 1, 39, 2]) := by rw [hw3]; exact (Reads.newAt _ _ _ 6 1 _ rfl rfl).more (by simp)
  rw [← hw3]
  clear hw3
  have k3 := below_call k2 b3
  clear k2
  have R2_3 := rd1 r2 b3
  clear r2
  clear b3
  refine Calls.mono (vp_any _ 6 6 3 [(37, 1), (38, 1), (39, 2)] _ i3 rfl rfl (by omega) (by decide)) ?_
  rintro e w4 ⟨v4, rfl, o4, b4⟩
  obtain ⟨A4, c4, rfl, r4, _, _⟩ := own_reads o4
  clear o4 i3
  have k4 := below_call k3 b4
  clear k3
  have R2_4 := rd1 R2_3 b4
  clear R2_3
  clear b4
  go_wp2_with fail
  refine Calls.mono (pair_any _ _ 1 _ 3 _ _ _ _ R2_4 r4 (by omega) (by omega)) ?_
  rintro e w5 ⟨A5, c5, rfl, s5, b5⟩
  clear R2_4 r4
  have k5 := below_call k4 b5
  clear k4
  clear b5
  go_wp2
  refine ret_of (by simp [results, Tryz.results17, go_sem, *]; repeat' (first | rfl | apply And.intro)) rfl ?_
  exact ⟨_, _, rfl, s5, k5⟩
set_option maxRecDepth 100000 in
set_option maxHeartbeats 16000000 in
theorem awake_any (w : World) (ht : Tabs w) : Calls Tryz.prog 5 #[] w fun e w' => e = .returned (.bool true) ∧ Below w.heap.size w w' := by
  go_enter Tryz.func5, Tryz.ntmps5
  go_wp2_with fail
  refine Calls.mono (passing_any _) ?_
  rintro e w1 ⟨A1, c1, rfl, s1, b1⟩
  have k1 := b1
  clear b1
  go_wp2_with fail
  refine Calls.mono (oneDis_any _ 2 _ _ _ s1 (by omega) (ht.kept k1) 1 3 1 ex_pass) ?_
  rintro e w2 ⟨rfl, b2⟩
  clear s1
  have k2 := below_call k1 b2
  clear k1
  clear b2
  go_wp2_with fail
  obtain ⟨w3, hw3⟩ : ∃ x, x = w2.alloc (.cells #[.int .i64 30, .int .i64 2, .int .i64 29, .int .i64 2] 3) := ⟨_, rfl⟩
  have b3 : Below w2.heap.size w2 w3 := by rw [hw3]; exact below_alloc (Below.refl _ _) _
  have i3 : Reads w3 w3.heap.size 1 (some ⟨w2.heap.size, 0, none⟩) 4 (csN [30, 2, 29, 2]) := by rw [hw3]; exact (Reads.newAt _ _ _ 4 1 _ rfl rfl).more (by simp)
  rw [← hw3]
  clear hw3
  have k3 := below_call k2 b3
  clear k2
  clear b3
  refine Calls.mono (vp_any _ 4 4 2 [(30, 2), (29, 2)] _ i3 rfl rfl (by omega) (by decide)) ?_
  rintro e w4 ⟨v4, rfl, o4, b4⟩
  obtain ⟨A4, c4, rfl, r4, _, _⟩ := own_reads o4
  clear o4 i3
  have k4 := below_call k3 b4
  clear k3
  clear b4
  go_wp2_with fail
  obtain ⟨w5, hw5⟩ : ∃ x, x = w4.alloc (.cells #[.int .i64 35, .int .i64 3, .int .i64 34, .int .i64 1] 3) := ⟨_, rfl⟩
  have b5 : Below w4.heap.size w4 w5 := by rw [hw5]; exact below_alloc (Below.refl _ _) _
  have i5 : Reads w5 w5.heap.size 1 (some ⟨w4.heap.size, 0, none⟩) 4 (csN [35, 3, 34, 1]) := by rw [hw5]; exact (Reads.newAt _ _ _ 4 1 _ rfl rfl).more (by simp)
  rw [← hw5]
  clear hw5
  have k5 := below_call k4 b5
  clear k4
  have R4_5 := rd1 r4 b5
  clear r4
  clear b5
  refine Calls.mono (vp_any _ 4 4 2 [(35, 3), (34, 1)] _ i5 rfl rfl (by omega) (by decide)) ?_
  rintro e w6 ⟨v6, rfl, o6, b6⟩
  obtain ⟨A6, c6, rfl, r6, _, _⟩ := own_reads o6
  clear o6 i5
  have k6 := below_call k5 b6
  clear k5
  have R4_6 := rd1 R4_5 b6
  clear R4_5
  clear b6
  go_wp2_with fail
  refine Calls.mono (pair_any _ _ 2 _ 2 _ _ _ _ R4_6 r6 (by omega) (by omega)) ?_
  rintro e w7 ⟨A7, c7, rfl, s7, b7⟩
  clear R4_6 r6
  have k7 := below_call k6 b7
  clear k6
  clear b7
  go_wp2_with fail
  refine Calls.mono (oneDis_any _ 2 _ _ _ s7 (by omega) (ht.kept k7) 1 5 3 ex_susp) ?_
  rintro e w8 ⟨rfl, b8⟩
  clear s7
  have k8 := below_call k7 b8
  clear k7
  clear b8
  go_wp2
  refine ret_of (by simp [results, Tryz.results5, go_sem, *]; repeat' (first | rfl | apply And.intro)) rfl ⟨rfl, k8⟩
end Go.Proofs.YtmlcnmnpkemdpaaGreatDoor
