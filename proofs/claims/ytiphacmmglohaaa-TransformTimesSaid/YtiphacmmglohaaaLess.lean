/- The order of times, the walks of the small functions. -/
import Derived.Test.YtiphacmmglohaaaDelay
import Derived.Test.YtiphacmmglohaaaCutMath
namespace Go.Proofs.Ytiphacmmglohaaa
open Go.RowKit
set_option maxHeartbeats 400000 in
theorem less_any (a b : Int × Int) (w : World) :
    Calls Try.prog 47 #[vTm a, vTm b] w fun e w' => e = .returned (.bool (lessB a b)) ∧ Below w.heap.size w w' := by
  obtain ⟨a, a'⟩ := a
  obtain ⟨b, b'⟩ := b
  have k0 : Below w.heap.size w ((w.alloc (.cells #[.int .i64 a, .int .i64 a'] 24)).alloc (.cells #[.int .i64 b, .int .i64 b'] 24)) := by repeat (first | exact Below.refl _ _ | refine below_drewN ?_ _ | refine Below.drew ?_ | refine below_alloc ?_ _ | (refine below_call ?_ (by assumption)) | (refine Below.setCell ?_ ?_ _; rotate_left; (simp; try omega)))
  go_enter Try.func47, Try.ntmps47
  go_wp2_with (go_at_call 76; refine (cmp_any (_, _) (_, _) _).mono ?_; rintro e w1 ⟨rfl, hb1⟩)
  go_ret
  exact ⟨rfl, below_call k0 hb1⟩
def laterS (a b : Int × Int) : Int × Int := if lessB a b = true then b else a
def earlierS (a b : Int × Int) : Int × Int := if lessB b a = true then b else a
set_option maxHeartbeats 1000000 in
theorem later_any (a b : Int × Int) (w : World) :
    Calls Try.prog 53 #[vTm a, vTm b] w fun e w' => e = .returned (vTm (laterS a b)) ∧ Below w.heap.size w w' := by
  obtain ⟨a, a'⟩ := a
  obtain ⟨b, b'⟩ := b
  have k0 : Below w.heap.size w ((((w.alloc (.cells #[.int .i64 a, .int .i64 a'] 24)).alloc (.cells #[.int .i64 b, .int .i64 b'] 24))).alloc (.cells #[.int .i64 0, .int .i64 0] 24)) := by repeat (first | exact Below.refl _ _ | refine below_drewN ?_ _ | refine Below.drew ?_ | refine below_alloc ?_ _ | (refine below_call ?_ (by assumption)) | (refine Below.setCell ?_ ?_ _; rotate_left; (simp; try omega)))
  have r0 : Blk ((((w.alloc (.cells #[.int .i64 a, .int .i64 a'] 24)).alloc (.cells #[.int .i64 b, .int .i64 b'] 24))).alloc (.cells #[.int .i64 0, .int .i64 0] 24)) w.heap.size 24 #[.int .i64 a, .int .i64 a'] := ((Blk.new _ _ _).alloc _).alloc _
  have s0 : Blk ((((w.alloc (.cells #[.int .i64 a, .int .i64 a'] 24)).alloc (.cells #[.int .i64 b, .int .i64 b'] 24))).alloc (.cells #[.int .i64 0, .int .i64 0] 24)) (w.heap.size + 1) 24 #[.int .i64 b, .int .i64 b'] := Blk.alloc (Blk.newAt _ _ _ _ (by simp)) _
  have t0 : Blk ((((w.alloc (.cells #[.int .i64 a, .int .i64 a'] 24)).alloc (.cells #[.int .i64 b, .int .i64 b'] 24))).alloc (.cells #[.int .i64 0, .int .i64 0] 24)) (w.heap.size + 1 + 1) 24 #[.int .i64 0, .int .i64 0] := Blk.newAt _ _ _ _ (by simp)
  have hq := refCmp_any (a, a') (b, b')
  obtain ⟨y, hy⟩ : ∃ y, y = cmpS (a, a') (b, b') := ⟨_, rfl⟩
  rw [← hy] at hq
  by_cases h : y.1 < 0
  · have E := Lib.hid (show laterS (a, a') (b, b') = (b, b') by unfold laterS lessB; rw [← hy, if_pos (by simpa using h)])
    clear hy
    go_enter Try.func53, Try.ntmps53
    go_wp2_with (go_at_call 51; refine (hq _).mono ?_; rintro e w1 ⟨rfl, hb1⟩; have r1 := r0.kept hb1; have c1 := r1.cell; have z1 := r1.lt; have s1 := s0.kept hb1; have d1 := s1.cell; have y1 := s1.lt; have t1 := t0.kept hb1; have e1 := t1.cell; have f1 := t1.frozen; have x1 := t1.lt; have k1 := below_call k0 hb1)
    refine ret_of (by simp [results, Try.results53, go_sem, *]; repeat' (first | rfl | apply And.intro)) rfl ⟨?_, by repeat (first | with_reducible exact Below.refl _ _ | with_reducible assumption | with_reducible refine below_drewN ?_ _ | with_reducible refine Below.drew ?_ | with_reducible refine below_alloc ?_ _ | (with_reducible refine Below.setCell ?_ ?_ _; rotate_left; ((try simp only); omega)))⟩
    rw [E.out]
  · have E := Lib.hid (show laterS (a, a') (b, b') = (a, a') by unfold laterS lessB; rw [← hy, if_neg (by simpa using h)])
    have h' : y.1 ≥ 0 := by omega
    clear hy
    go_enter Try.func53, Try.ntmps53
    go_wp2_with (go_at_call 51; refine (hq _).mono ?_; rintro e w1 ⟨rfl, hb1⟩; have r1 := r0.kept hb1; have c1 := r1.cell; have z1 := r1.lt; have s1 := s0.kept hb1; have d1 := s1.cell; have y1 := s1.lt; have t1 := t0.kept hb1; have e1 := t1.cell; have f1 := t1.frozen; have x1 := t1.lt; have k1 := below_call k0 hb1)
    refine ret_of (by simp [results, Try.results53, go_sem, *]; repeat' (first | rfl | apply And.intro)) rfl ⟨?_, by repeat (first | with_reducible exact Below.refl _ _ | with_reducible assumption | with_reducible refine below_drewN ?_ _ | with_reducible refine Below.drew ?_ | with_reducible refine below_alloc ?_ _ | (with_reducible refine Below.setCell ?_ ?_ _; rotate_left; ((try simp only); omega)))⟩
    rw [E.out]
set_option maxHeartbeats 1000000 in
theorem earlier_any (a b : Int × Int) (w : World) :
    Calls Try.prog 54 #[vTm a, vTm b] w fun e w' => e = .returned (vTm (earlierS a b)) ∧ Below w.heap.size w w' := by
  obtain ⟨a, a'⟩ := a
  obtain ⟨b, b'⟩ := b
  have k0 : Below w.heap.size w ((((w.alloc (.cells #[.int .i64 a, .int .i64 a'] 24)).alloc (.cells #[.int .i64 b, .int .i64 b'] 24))).alloc (.cells #[.int .i64 0, .int .i64 0] 24)) := by repeat (first | exact Below.refl _ _ | refine below_drewN ?_ _ | refine Below.drew ?_ | refine below_alloc ?_ _ | (refine below_call ?_ (by assumption)) | (refine Below.setCell ?_ ?_ _; rotate_left; (simp; try omega)))
  have r0 : Blk ((((w.alloc (.cells #[.int .i64 a, .int .i64 a'] 24)).alloc (.cells #[.int .i64 b, .int .i64 b'] 24))).alloc (.cells #[.int .i64 0, .int .i64 0] 24)) w.heap.size 24 #[.int .i64 a, .int .i64 a'] := ((Blk.new _ _ _).alloc _).alloc _
  have s0 : Blk ((((w.alloc (.cells #[.int .i64 a, .int .i64 a'] 24)).alloc (.cells #[.int .i64 b, .int .i64 b'] 24))).alloc (.cells #[.int .i64 0, .int .i64 0] 24)) (w.heap.size + 1) 24 #[.int .i64 b, .int .i64 b'] := Blk.alloc (Blk.newAt _ _ _ _ (by simp)) _
  have t0 : Blk ((((w.alloc (.cells #[.int .i64 a, .int .i64 a'] 24)).alloc (.cells #[.int .i64 b, .int .i64 b'] 24))).alloc (.cells #[.int .i64 0, .int .i64 0] 24)) (w.heap.size + 1 + 1) 24 #[.int .i64 0, .int .i64 0] := Blk.newAt _ _ _ _ (by simp)
  have hq := refCmp_any (a, a') (b, b')
  obtain ⟨y, hy⟩ : ∃ y, y = cmpS (a, a') (b, b') := ⟨_, rfl⟩
  rw [← hy] at hq
  by_cases h : 0 < y.1
  · have E := Lib.hid (show earlierS (a, a') (b, b') = (b, b') by unfold earlierS; rw [← cmp_pos, ← hy, if_pos (by simpa using h)])
    clear hy
    go_enter Try.func54, Try.ntmps54
    go_wp2_with (go_at_call 51; refine (hq _).mono ?_; rintro e w1 ⟨rfl, hb1⟩; have r1 := r0.kept hb1; have c1 := r1.cell; have z1 := r1.lt; have s1 := s0.kept hb1; have d1 := s1.cell; have y1 := s1.lt; have t1 := t0.kept hb1; have e1 := t1.cell; have f1 := t1.frozen; have x1 := t1.lt; have k1 := below_call k0 hb1)
    refine ret_of (by simp [results, Try.results54, go_sem, *]; repeat' (first | rfl | apply And.intro)) rfl ⟨?_, by repeat (first | with_reducible exact Below.refl _ _ | with_reducible assumption | with_reducible refine below_drewN ?_ _ | with_reducible refine Below.drew ?_ | with_reducible refine below_alloc ?_ _ | (with_reducible refine Below.setCell ?_ ?_ _; rotate_left; ((try simp only); omega)))⟩
    rw [E.out]
  · have E := Lib.hid (show earlierS (a, a') (b, b') = (a, a') by unfold earlierS; rw [← cmp_pos, ← hy, if_neg (by simpa using h)])
    have h' : y.1 ≤ 0 := by omega
    clear hy
    go_enter Try.func54, Try.ntmps54
    go_wp2_with (go_at_call 51; refine (hq _).mono ?_; rintro e w1 ⟨rfl, hb1⟩; have r1 := r0.kept hb1; have c1 := r1.cell; have z1 := r1.lt; have s1 := s0.kept hb1; have d1 := s1.cell; have y1 := s1.lt; have t1 := t0.kept hb1; have e1 := t1.cell; have f1 := t1.frozen; have x1 := t1.lt; have k1 := below_call k0 hb1)
    refine ret_of (by simp [results, Try.results54, go_sem, *]; repeat' (first | rfl | apply And.intro)) rfl ⟨?_, by repeat (first | with_reducible exact Below.refl _ _ | with_reducible assumption | with_reducible refine below_drewN ?_ _ | with_reducible refine Below.drew ?_ | with_reducible refine below_alloc ?_ _ | (with_reducible refine Below.setCell ?_ ?_ _; rotate_left; ((try simp only); omega)))⟩
    rw [E.out]
end Go.Proofs.Ytiphacmmglohaaa
