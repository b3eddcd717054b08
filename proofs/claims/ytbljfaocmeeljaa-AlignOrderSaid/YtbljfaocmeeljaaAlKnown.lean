/- The chapter's examples have the results given there. -/
import Derived.Test.YtbljfaocmeeljaaAlSl27
import Derived.Test.YtbljfaocmeeljaaAlSounds
import Derived.Test.YtbljfaocmeeljaaAlBack
import Derived.Test.YtbljfaocmeeljaaAlAt
namespace Go.Proofs.Ytbljfaocmeeljaa
open Go.RowKit
def twoS : List Sl := [⟨(0, 1), (2, 1), [0, 0]⟩, ⟨(2, 1), (1, 1), [1, 0]⟩, ⟨(3, 1), (1, 1), [1, 1]⟩, ⟨(4, 1), (2, 1), [1, -1]⟩]
theorem two_slices : slicesE twoL = (twoS, 0) := by kernel_rfl
theorem two_sounds : soundsE twoL 2 = ([0, 1], 0) := by kernel_rfl
theorem two_back : backE twoL 1 = ([(3, 1), (1, 1)], 0) := by kernel_rfl
theorem two_end : endE twoL = ((6, 1), 0) := by kernel_rfl
theorem two_at3 : atE twoL (3, 1) = (2, 0) := by kernel_rfl
theorem two_at6 : atE twoL (6, 1) = (0, 2) := by kernel_rfl
theorem two_starts0 : startsE twoL 0 = ([true, true], 0) := by kernel_rfl
theorem two_starts2 : startsE twoL 2 = ([false, true], 0) := by kernel_rfl
theorem two_starts3 : startsE twoL 3 = ([false, false], 0) := by kernel_rfl
theorem two_sounds0 : soundsE twoL 0 = ([0], 0) := by kernel_rfl
theorem two_sounds4 : soundsE twoL 4 = ([], 2) := by kernel_rfl
theorem two_back2 : backE twoL 2 = ([], 2) := by kernel_rfl
theorem rd1 {w w' : World} {A : Option Addr} {n size : Nat} {xs : List Value} (h : Reads w w.heap.size size A n xs) (hb : Below w.heap.size w w') : Reads w' w'.heap.size size A n xs := (h.below (Nat.le_refl _) hb).more hb.size
theorem ReadsS.kept {w W : World} {n : Nat} {A : Option Addr} {l : List Sl} (h : ReadsS w w.heap.size A n l) (hb : Below w.heap.size w W) : ReadsS W W.heap.size A n l := by
  obtain ⟨ps, h1, h2, h3⟩ := h
  exact ⟨ps, h1, rd1 h2 hb, fun p hp => ⟨(h3 p hp).1, rd1 (h3 p hp).2 hb⟩⟩
theorem rdV {w w' : World} {A : Option Addr} {n : Nat} {l : List (List Ev)} (h : ReadsV w w.heap.size A n l) (hb : Below w.heap.size w w') : ReadsV w' w'.heap.size A n l := (h.below (Nat.le_refl _) hb).more hb.size
set_option maxRecDepth 100000 in
set_option maxHeartbeats 8000000 in
theorem awake_any (w : World) : Calls Try.prog 11 #[] w fun e w' => e = .returned (.bool true) ∧ Below w.heap.size w w' := by
  go_enter Try.func11, Try.ntmps11
  go_wp2_with fail
  refine (two_any _).mono ?_
  rintro e w1 ⟨A1, rfl, r1, k1⟩
  go_wp2_with fail
  refine Calls.mono (slices_any A1 2 2 twoL _ w1 r1 (Nat.le_refl _) (by omega)) ?_
  rintro e w2 ⟨v2, rfl, o2, b2⟩
  have k2 := below_call k1 b2
  obtain ⟨A2, c2, rfl, s2⟩ := o2.reads
  rw [two_slices] at s2 ⊢
  clear o2 b2 r1 k1
  simp only [twoS, List.length_cons, List.length_nil, Nat.zero_add, Nat.reduceAdd] at s2 ⊢
  go_wp2_with fail
  refine (two_any _).mono ?_
  rintro e w3 ⟨A3, rfl, r3, b3⟩
  have k3 := below_call k2 b3
  have s3 := s2.kept b3
  clear s2 b3 k2
  go_wp2_with fail
  refine Calls.mono (sounds_any A3 2 2 twoL 2 _ w3 r3 (Nat.le_refl _) (by omega)) ?_
  rintro e w4 ⟨v4, rfl, o4, b4⟩
  have k4 := below_call k3 b4
  have s4 := s3.kept b4
  rw [two_sounds] at o4 ⊢
  obtain ⟨A4, c4, rfl, i4, _, _⟩ := own_reads o4
  clear o4 b4 r3 k3 s3
  simp only [List.length_cons, List.length_nil, Nat.zero_add, Nat.reduceAdd] at i4 ⊢
  go_wp2_with fail
  refine (two_any _).mono ?_
  rintro e w5 ⟨A5, rfl, r5, b5⟩
  have k5 := below_call k4 b5
  have s5 := s4.kept b5
  have i5 := rd1 i4 b5
  clear s4 b5 k4 i4
  go_wp2_with fail
  refine Calls.mono (back_any A5 2 2 twoL 1 _ w5 r5 (Nat.le_refl _) (by omega)) ?_
  rintro e w6 ⟨v6, rfl, o6, b6⟩
  have k6 := below_call k5 b6
  have s6 := s5.kept b6
  have i6 := rd1 i5 b6
  rw [two_back] at o6 ⊢
  obtain ⟨A6, c6, rfl, t6, _, _⟩ := own_reads o6
  clear o6 b6 r5 k5 s5 i5
  simp only [List.length_cons, List.length_nil, Nat.zero_add, Nat.reduceAdd] at t6 ⊢
  go_wp2_with fail
  refine (slice27_any 0 2 0 0 (by omega) (by omega) (by omega) (by omega) _).mono ?_
  rintro e w7 ⟨ga, rfl, ga7, b7⟩
  have k7 := below_call k6 b7
  have s7 := s6.kept b7
  have i7 := rd1 i6 b7
  have t7 := rd1 t6 b7
  skip
  clear k6 s6 i6 t6 b7
  go_wp2_with fail
  refine (slice27_any 2 1 1 0 (by omega) (by omega) (by omega) (by omega) _).mono ?_
  rintro e w8 ⟨gb, rfl, gb8, b8⟩
  have k8 := below_call k7 b8
  have s8 := s7.kept b8
  have i8 := rd1 i7 b8
  have t8 := rd1 t7 b8
  have ga8 := rd1 ga7 b8
  clear k7 s7 i7 t7 b8
  go_wp2_with fail
  refine (slice27_any 3 1 1 1 (by omega) (by omega) (by omega) (by omega) _).mono ?_
  rintro e w9 ⟨gc, rfl, gc9, b9⟩
  have k9 := below_call k8 b9
  have s9 := s8.kept b9
  have i9 := rd1 i8 b9
  have t9 := rd1 t8 b9
  have ga9 := rd1 ga8 b9; have gb9 := rd1 gb8 b9
  clear k8 s8 i8 t8 b9
  go_wp2_with fail
  refine (slice27_any 4 2 1 (-1) (by omega) (by omega) (by omega) (by omega) _).mono ?_
  rintro e w10 ⟨gd, rfl, gd10, b10⟩
  have k10 := below_call k9 b10
  have s10 := s9.kept b10
  have i10 := rd1 i9 b10
  have t10 := rd1 t9 b10
  have ga10 := rd1 ga9 b10; have gb10 := rd1 gb9 b10; have gc10 := rd1 gc9 b10
  clear k9 s9 i9 t9 b10
  go_wp2_with fail
  have RW : Reads (w10.alloc (.cells #[.int .i64 0, .int .i64 1, .int .i64 2, .int .i64 1, .slice (some ⟨ga, 0, none⟩) 2 2, .int .i64 2, .int .i64 1, .int .i64 1, .int .i64 1, .slice (some ⟨gb, 0, none⟩) 2 2, .int .i64 3, .int .i64 1, .int .i64 1, .int .i64 1, .slice (some ⟨gc, 0, none⟩) 2 2, .int .i64 4, .int .i64 1, .int .i64 2, .int .i64 1, .slice (some ⟨gd, 0, none⟩) 2 2] 59)) (w10.heap.size + 1) 5 (some ⟨w10.heap.size, 0, none⟩) 4 _ := Reads.newAt _ _ _ 4 5 _ rfl rfl
  obtain ⟨wa, hwa⟩ : ∃ wa, wa = w10.alloc (.cells #[.int .i64 0, .int .i64 1, .int .i64 2, .int .i64 1, .slice (some ⟨ga, 0, none⟩) 2 2, .int .i64 2, .int .i64 1, .int .i64 1, .int .i64 1, .slice (some ⟨gb, 0, none⟩) 2 2, .int .i64 3, .int .i64 1, .int .i64 1, .int .i64 1, .slice (some ⟨gc, 0, none⟩) 2 2, .int .i64 4, .int .i64 1, .int .i64 2, .int .i64 1, .slice (some ⟨gd, 0, none⟩) 2 2] 59) := ⟨_, rfl⟩
  have ha : Below w10.heap.size w10 wa := by rw [hwa]; exact below_alloc (Below.refl _ _) _
  rw [← hwa] at RW ⊢
  have za : w10.heap.size + 1 ≤ wa.heap.size := by rw [hwa]; simp
  clear hwa
  have k11 := below_call k10 ha
  have s11 := s10.kept ha
  have i11 := rd1 i10 ha
  have t11 := rd1 t10 ha
  have W11 : ReadsS wa wa.heap.size (some ⟨w10.heap.size, 0, none⟩) 4 twoS := by
    refine ⟨[(⟨(0, 1), (2, 1), [0, 0]⟩, some ⟨ga, 0, none⟩, 2, 2), (⟨(2, 1), (1, 1), [1, 0]⟩, some ⟨gb, 0, none⟩, 2, 2), (⟨(3, 1), (1, 1), [1, 1]⟩, some ⟨gc, 0, none⟩, 2, 2), (⟨(4, 1), (2, 1), [1, -1]⟩, some ⟨gd, 0, none⟩, 2, 2)], rfl, RW.more za, fun p hp => ?_⟩
    simp only [List.mem_cons, List.not_mem_nil, or_false] at hp
    rcases hp with rfl | rfl | rfl | rfl
    · exact ⟨rfl, rd1 ga10 ha⟩
    · exact ⟨rfl, rd1 gb10 ha⟩
    · exact ⟨rfl, rd1 gc10 ha⟩
    · exact ⟨rfl, rd1 gd10 ha⟩
  clear RW za ga10 gb10 gc10 gd10 ha s10 i10 t10 k10
  refine (sameSlices_any A2 (some ⟨w10.heap.size, 0, none⟩) 4 c2 4 twoS wa s11 W11 (by omega) (by decide)).mono ?_
  rintro e w12 ⟨rfl, b12⟩
  have k12 := below_call k11 b12
  have i12 := rd1 i11 b12
  have t12 := rd1 t11 b12
  clear s11 W11 k11 i11 t11 b12
  go_wp2_with fail
  have RI : Reads (w12.alloc (.cells #[.int .i64 0, .int .i64 1] 3)) (w12.heap.size + 1) 1 (some ⟨w12.heap.size, 0, none⟩) 2 (csN [0, 1]) := Reads.newAt _ _ _ 2 1 _ rfl rfl
  have ha : Below w12.heap.size w12 (w12.alloc (.cells #[.int .i64 0, .int .i64 1] 3)) := below_alloc (Below.refl _ _) _
  have k13 := below_call k12 ha
  have t13 := rd1 t12 ha
  refine (sameInts_any A4 (some ⟨w12.heap.size, 0, none⟩) 2 c4 2 [0, 1] _ _ _ (rd1 i12 ha) (Nat.le_refl _) RI (by simp) (by omega)).mono ?_
  rintro e w14 ⟨rfl, b14⟩
  have k14 := below_call k13 b14
  have t14 := rd1 t13 b14
  clear RI ha k13 t13 b14 i12 k12 t12
  have qt3 := t_any 3 1
  have qt1 := t_any 1 1
  rw [tS_one 3] at qt3
  rw [tS_one 1] at qt1
  go_wp2_with fail
  refine (qt3 _ (by omega) (by omega) (by omega) (by omega)).mono ?_
  rintro e w15 ⟨rfl, b15⟩
  have k15 := below_call k14 b15
  have t15 := rd1 t14 b15
  go_wp2_with fail
  refine (qt1 _ (by omega) (by omega) (by omega) (by omega)).mono ?_
  rintro e w16 ⟨rfl, b16⟩
  have k16 := below_call k15 b16
  have t16 := rd1 t15 b16
  clear qt3 qt1 k14 t14 b15 k15 t15 b16
  go_wp2_with fail
  have RT : Reads (w16.alloc (.cells #[.int .i64 3, .int .i64 1, .int .i64 1, .int .i64 1] 34)) (w16.heap.size + 1) 2 (some ⟨w16.heap.size, 0, none⟩) 2 (csT [(3, 1), (1, 1)]) := Reads.newAt _ _ _ 2 2 _ rfl rfl
  have hb : Below w16.heap.size w16 (w16.alloc (.cells #[.int .i64 3, .int .i64 1, .int .i64 1, .int .i64 1] 34)) := below_alloc (Below.refl _ _) _
  refine (sameTimes_any A6 (some ⟨w16.heap.size, 0, none⟩) 2 c6 2 [(3, 1), (1, 1)] _ _ _ (rd1 t16 hb) (Nat.le_refl _) RT (by simp) (by omega)).mono ?_
  rintro e w17 ⟨rfl, b17⟩
  have k17 := below_call (below_call k16 hb) b17
  go_wp2
  go_ret
  exact ⟨rfl, k17⟩
end Go.Proofs.Ytbljfaocmeeljaa
