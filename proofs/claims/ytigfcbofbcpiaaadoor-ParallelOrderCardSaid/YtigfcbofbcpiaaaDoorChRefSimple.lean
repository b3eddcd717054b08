
/- The walks through the reference's simple interval and kind of any two pitches, with their errors. -/
import Derived.Test.YtigfcbofbcpiaaaDoorChMadeKind
namespace Go.Proofs.YtigfcbofbcpiaaaDoor
open Go.RowKit
set_option maxHeartbeats 400000 in
theorem rboth_any (p q : Int × Int × Int) (w : World) :
    Calls Tryd.prog 109 #[vP p, vP q] w fun e w' => e = .returned (.int .i64 (bothP p q)) ∧ Below w.heap.size w w' := by
  by_cases hp : pchk p = 0
  · have E := Lib.hid (bothP_both (q := q) hp)
    have hb : (pchk p == 0) = true := by simpa using hp
    clear hp
    obtain ⟨a, b, c⟩ := p
    obtain ⟨a', b', c'⟩ := q
    go_enter Tryd.func109, Tryd.ntmps109
    go_wp2_with fail
    refine (refPcheck_any (_, _, _) _).mono ?_
    rintro e w1 ⟨rfl, hb1⟩
    have BP1 : Blk w1 (w.heap.size) 57 #[.int .i64 a, .int .i64 b, .int .i64 c] := by
      refine Blk.kept ?_ hb1
      repeat (first | with_reducible exact Blk.new _ _ _ | (with_reducible refine Blk.newAt _ _ _ _ ?_; first | rfl | (simp; done)) | with_reducible apply Blk.alloc | with_reducible apply Blk.drewN | with_reducible apply Blk.drew | with_reducible apply Blk.set_to | (with_reducible apply Blk.far_; (simp only [ne_eq]; omega)) | rfl)
    have cP0_1 : w1.cell? ⟨w.heap.size, 0, none⟩ = some (.int .i64 a) := BP1.cell 0
    have cP1_1 : w1.cell? ⟨w.heap.size, 1, none⟩ = some (.int .i64 b) := BP1.cell 1
    have cP2_1 : w1.cell? ⟨w.heap.size, 2, none⟩ = some (.int .i64 c) := BP1.cell 2
    have lP1 : w.heap.size < w1.heap.size := BP1.lt
    have mP1 : w.heap.size < w1.heap.size + 1 := by omega
    have nP1 : w.heap.size < w1.heap.size + 1 + 1 := by omega
    have BQ1 : Blk w1 (w.heap.size + 1) 57 #[.int .i64 a', .int .i64 b', .int .i64 c'] := by
      refine Blk.kept ?_ hb1
      repeat (first | with_reducible exact Blk.new _ _ _ | (with_reducible refine Blk.newAt _ _ _ _ ?_; first | rfl | (simp; done)) | with_reducible apply Blk.alloc | with_reducible apply Blk.drewN | with_reducible apply Blk.drew | with_reducible apply Blk.set_to | (with_reducible apply Blk.far_; (simp only [ne_eq]; omega)) | rfl)
    have cQ0_1 : w1.cell? ⟨w.heap.size + 1, 0, none⟩ = some (.int .i64 a') := BQ1.cell 0
    have cQ1_1 : w1.cell? ⟨w.heap.size + 1, 1, none⟩ = some (.int .i64 b') := BQ1.cell 1
    have cQ2_1 : w1.cell? ⟨w.heap.size + 1, 2, none⟩ = some (.int .i64 c') := BQ1.cell 2
    have lQ1 : w.heap.size + 1 < w1.heap.size := BQ1.lt
    have mQ1 : w.heap.size + 1 < w1.heap.size + 1 := by omega
    have nQ1 : w.heap.size + 1 < w1.heap.size + 1 + 1 := by omega
    have hs1 : w.heap.size ≤ w1.heap.size := by have h := hb1.size; (try simp at h); omega
    go_wp2_with fail
    refine (refPcheck_any (_, _, _) _).mono ?_
    rintro e w2 ⟨rfl, hb2⟩
    have BP2 : Blk w2 (w.heap.size) 57 #[.int .i64 a, .int .i64 b, .int .i64 c] := by
      refine Blk.kept ?_ hb2
      repeat (first | with_reducible exact BP1 | with_reducible exact Blk.new _ _ _ | (with_reducible refine Blk.newAt _ _ _ _ ?_; first | rfl | (simp; done)) | with_reducible apply Blk.alloc | with_reducible apply Blk.drewN | with_reducible apply Blk.drew | with_reducible apply Blk.set_to | (with_reducible apply Blk.far_; (simp only [ne_eq]; omega)) | rfl)
    have cP0_2 : w2.cell? ⟨w.heap.size, 0, none⟩ = some (.int .i64 a) := BP2.cell 0
    have cP1_2 : w2.cell? ⟨w.heap.size, 1, none⟩ = some (.int .i64 b) := BP2.cell 1
    have cP2_2 : w2.cell? ⟨w.heap.size, 2, none⟩ = some (.int .i64 c) := BP2.cell 2
    have lP2 : w.heap.size < w2.heap.size := BP2.lt
    have mP2 : w.heap.size < w2.heap.size + 1 := by omega
    have nP2 : w.heap.size < w2.heap.size + 1 + 1 := by omega
    have BQ2 : Blk w2 (w.heap.size + 1) 57 #[.int .i64 a', .int .i64 b', .int .i64 c'] := by
      refine Blk.kept ?_ hb2
      repeat (first | with_reducible exact BQ1 | with_reducible exact Blk.new _ _ _ | (with_reducible refine Blk.newAt _ _ _ _ ?_; first | rfl | (simp; done)) | with_reducible apply Blk.alloc | with_reducible apply Blk.drewN | with_reducible apply Blk.drew | with_reducible apply Blk.set_to | (with_reducible apply Blk.far_; (simp only [ne_eq]; omega)) | rfl)
    have cQ0_2 : w2.cell? ⟨w.heap.size + 1, 0, none⟩ = some (.int .i64 a') := BQ2.cell 0
    have cQ1_2 : w2.cell? ⟨w.heap.size + 1, 1, none⟩ = some (.int .i64 b') := BQ2.cell 1
    have cQ2_2 : w2.cell? ⟨w.heap.size + 1, 2, none⟩ = some (.int .i64 c') := BQ2.cell 2
    have lQ2 : w.heap.size + 1 < w2.heap.size := BQ2.lt
    have mQ2 : w.heap.size + 1 < w2.heap.size + 1 := by omega
    have nQ2 : w.heap.size + 1 < w2.heap.size + 1 + 1 := by omega
    clear BP1 lP1 mP1 nP1 cP0_1 cP1_1 cP2_1 BQ1 lQ1 mQ1 nQ1 cQ0_1 cQ1_1 cQ2_1
    have hs2 : w.heap.size ≤ w2.heap.size := by have h := hb2.size; (try simp at h); omega
    have kb : Below w.heap.size w w2 := by repeat (first | exact Below.refl _ _ | refine below_drewN ?_ _ | refine Below.drew ?_ | refine below_alloc ?_ _ | (refine below_call ?_ (by assumption)) | (refine Below.setCell ?_ ?_ _; rotate_left; (simp; try omega)))
    go_wp2
    go_ret
    rw [E.out]
    exact ⟨rfl, kb⟩
  · have E := Lib.hid (bothP_fst (q := q) hp)
    have hb : (pchk p == 0) = false := by simpa using hp
    clear hp
    obtain ⟨a, b, c⟩ := p
    obtain ⟨a', b', c'⟩ := q
    go_enter Tryd.func109, Tryd.ntmps109
    go_wp2_with fail
    refine (refPcheck_any (_, _, _) _).mono ?_
    rintro e w1 ⟨rfl, hb1⟩
    have BP1 : Blk w1 (w.heap.size) 57 #[.int .i64 a, .int .i64 b, .int .i64 c] := by
      refine Blk.kept ?_ hb1
      repeat (first | with_reducible exact Blk.new _ _ _ | (with_reducible refine Blk.newAt _ _ _ _ ?_; first | rfl | (simp; done)) | with_reducible apply Blk.alloc | with_reducible apply Blk.drewN | with_reducible apply Blk.drew | with_reducible apply Blk.set_to | (with_reducible apply Blk.far_; (simp only [ne_eq]; omega)) | rfl)
    have cP0_1 : w1.cell? ⟨w.heap.size, 0, none⟩ = some (.int .i64 a) := BP1.cell 0
    have cP1_1 : w1.cell? ⟨w.heap.size, 1, none⟩ = some (.int .i64 b) := BP1.cell 1
    have cP2_1 : w1.cell? ⟨w.heap.size, 2, none⟩ = some (.int .i64 c) := BP1.cell 2
    have lP1 : w.heap.size < w1.heap.size := BP1.lt
    have mP1 : w.heap.size < w1.heap.size + 1 := by omega
    have nP1 : w.heap.size < w1.heap.size + 1 + 1 := by omega
    have BQ1 : Blk w1 (w.heap.size + 1) 57 #[.int .i64 a', .int .i64 b', .int .i64 c'] := by
      refine Blk.kept ?_ hb1
      repeat (first | with_reducible exact Blk.new _ _ _ | (with_reducible refine Blk.newAt _ _ _ _ ?_; first | rfl | (simp; done)) | with_reducible apply Blk.alloc | with_reducible apply Blk.drewN | with_reducible apply Blk.drew | with_reducible apply Blk.set_to | (with_reducible apply Blk.far_; (simp only [ne_eq]; omega)) | rfl)
    have cQ0_1 : w1.cell? ⟨w.heap.size + 1, 0, none⟩ = some (.int .i64 a') := BQ1.cell 0
    have cQ1_1 : w1.cell? ⟨w.heap.size + 1, 1, none⟩ = some (.int .i64 b') := BQ1.cell 1
    have cQ2_1 : w1.cell? ⟨w.heap.size + 1, 2, none⟩ = some (.int .i64 c') := BQ1.cell 2
    have lQ1 : w.heap.size + 1 < w1.heap.size := BQ1.lt
    have mQ1 : w.heap.size + 1 < w1.heap.size + 1 := by omega
    have nQ1 : w.heap.size + 1 < w1.heap.size + 1 + 1 := by omega
    have hs1 : w.heap.size ≤ w1.heap.size := by have h := hb1.size; (try simp at h); omega
    have kb : Below w.heap.size w w1 := by repeat (first | exact Below.refl _ _ | refine below_drewN ?_ _ | refine Below.drew ?_ | refine below_alloc ?_ _ | (refine below_call ?_ (by assumption)) | (refine Below.setCell ?_ ?_ _; rotate_left; (simp; try omega)))
    go_wp2
    go_ret
    rw [E.out]
    exact ⟨rfl, kb⟩
set_option maxRecDepth 100000 in
set_option maxHeartbeats 1000000 in
theorem rSimple_any (p q : Int × Int × Int) (w : World) :
    Calls Tryd.prog 91 #[vP p, vP q] w fun e w' => e = .returned (vIE (simE p q)) ∧ Below w.heap.size w w' := by
  have q1 := rboth_any p q
  by_cases hz : bothP p q = 0
  · have E := Lib.hid (show simE p q = (simI (upI p q), 0) by unfold simE; rw [hz, if_neg (fun h => h rfl)])
    rw [hz] at q1
    obtain ⟨hp, hq⟩ := bothP_ok hz
    have q2 := rUp_ok p q hp hq
    have HB := upI_bd hp hq
    obtain ⟨⟨u, v⟩, hu⟩ : ∃ t, t = upI p q := ⟨_, rfl⟩
    rw [← hu] at q2 E HB
    simp only at HB
    have q3 := fun w => rsimple_any (u, v) w HB.1 HB.2.1 (by simp only; omega) (by simp only; omega)
    obtain ⟨⟨s, h⟩, hs⟩ : ∃ t, t = simI (u, v) := ⟨_, rfl⟩
    rw [← hs] at q3 E
    clear hs hu HB hp hq hz
    obtain ⟨a, b, c⟩ := p
    obtain ⟨a', b', c'⟩ := q
    go_enter Tryd.func91, Tryd.ntmps91
    go_wp2_with fail
    refine (q1 _).mono ?_
    rintro e w1 ⟨rfl, hb1⟩
    have BP1 : Blk w1 (w.heap.size) 57 #[.int .i64 a, .int .i64 b, .int .i64 c] := by
      refine Blk.kept ?_ hb1
      repeat (first | with_reducible exact Blk.new _ _ _ | (with_reducible refine Blk.newAt _ _ _ _ ?_; first | rfl | (simp; done)) | with_reducible apply Blk.alloc | with_reducible apply Blk.drewN | with_reducible apply Blk.drew | with_reducible apply Blk.set_to | (with_reducible apply Blk.far_; (simp only [ne_eq]; omega)) | rfl)
    have cP0_1 : w1.cell? ⟨w.heap.size, 0, none⟩ = some (.int .i64 a) := BP1.cell 0
    have cP1_1 : w1.cell? ⟨w.heap.size, 1, none⟩ = some (.int .i64 b) := BP1.cell 1
    have cP2_1 : w1.cell? ⟨w.heap.size, 2, none⟩ = some (.int .i64 c) := BP1.cell 2
    have lP1 : w.heap.size < w1.heap.size := BP1.lt
    have mP1 : w.heap.size < w1.heap.size + 1 := by omega
    have nP1 : w.heap.size < w1.heap.size + 1 + 1 := by omega
    have BQ1 : Blk w1 (w.heap.size + 1) 57 #[.int .i64 a', .int .i64 b', .int .i64 c'] := by
      refine Blk.kept ?_ hb1
      repeat (first | with_reducible exact Blk.new _ _ _ | (with_reducible refine Blk.newAt _ _ _ _ ?_; first | rfl | (simp; done)) | with_reducible apply Blk.alloc | with_reducible apply Blk.drewN | with_reducible apply Blk.drew | with_reducible apply Blk.set_to | (with_reducible apply Blk.far_; (simp only [ne_eq]; omega)) | rfl)
    have cQ0_1 : w1.cell? ⟨w.heap.size + 1, 0, none⟩ = some (.int .i64 a') := BQ1.cell 0
    have cQ1_1 : w1.cell? ⟨w.heap.size + 1, 1, none⟩ = some (.int .i64 b') := BQ1.cell 1
    have cQ2_1 : w1.cell? ⟨w.heap.size + 1, 2, none⟩ = some (.int .i64 c') := BQ1.cell 2
    have lQ1 : w.heap.size + 1 < w1.heap.size := BQ1.lt
    have mQ1 : w.heap.size + 1 < w1.heap.size + 1 := by omega
    have nQ1 : w.heap.size + 1 < w1.heap.size + 1 + 1 := by omega
    have BR1 : Blk w1 (w.heap.size + 1 + 1) 132 #[.int .i64 0, .int .i64 0] := by
      refine Blk.kept ?_ hb1
      repeat (first | with_reducible exact Blk.new _ _ _ | (with_reducible refine Blk.newAt _ _ _ _ ?_; first | rfl | (simp; done)) | with_reducible apply Blk.alloc | with_reducible apply Blk.drewN | with_reducible apply Blk.drew | with_reducible apply Blk.set_to | (with_reducible apply Blk.far_; (simp only [ne_eq]; omega)) | rfl)
    have cR0_1 : w1.cell? ⟨w.heap.size + 1 + 1, 0, none⟩ = some (.int .i64 0) := BR1.cell 0
    have cR1_1 : w1.cell? ⟨w.heap.size + 1 + 1, 1, none⟩ = some (.int .i64 0) := BR1.cell 1
    have lR1 : w.heap.size + 1 + 1 < w1.heap.size := BR1.lt
    have mR1 : w.heap.size + 1 + 1 < w1.heap.size + 1 := by omega
    have nR1 : w.heap.size + 1 + 1 < w1.heap.size + 1 + 1 := by omega
    have fR0_1 := BR1.frozen 0
    have fR1_1 := BR1.frozen 1
    have eRP1 : w.heap.size + 1 + 1 ≠ w.heap.size := by omega
    have ePR1 : w.heap.size ≠ w.heap.size + 1 + 1 := by omega
    have eRQ1 : w.heap.size + 1 + 1 ≠ w.heap.size + 1 := by omega
    have eQR1 : w.heap.size + 1 ≠ w.heap.size + 1 + 1 := by omega
    have hs1 : w.heap.size ≤ w1.heap.size := by have h := hb1.size; (try simp at h); omega
    go_wp2_with fail
    refine (q2 _).mono ?_
    rintro e w2 ⟨rfl, hb2⟩
    have BP2 : Blk w2 (w.heap.size) 57 #[.int .i64 a, .int .i64 b, .int .i64 c] := by
      refine Blk.kept ?_ hb2
      repeat (first | with_reducible exact BP1 | with_reducible exact Blk.new _ _ _ | (with_reducible refine Blk.newAt _ _ _ _ ?_; first | rfl | (simp; done)) | with_reducible apply Blk.alloc | with_reducible apply Blk.drewN | with_reducible apply Blk.drew | with_reducible apply Blk.set_to | (with_reducible apply Blk.far_; (simp only [ne_eq]; omega)) | rfl)
    have cP0_2 : w2.cell? ⟨w.heap.size, 0, none⟩ = some (.int .i64 a) := BP2.cell 0
    have cP1_2 : w2.cell? ⟨w.heap.size, 1, none⟩ = some (.int .i64 b) := BP2.cell 1
    have cP2_2 : w2.cell? ⟨w.heap.size, 2, none⟩ = some (.int .i64 c) := BP2.cell 2
    have lP2 : w.heap.size < w2.heap.size := BP2.lt
    have mP2 : w.heap.size < w2.heap.size + 1 := by omega
    have nP2 : w.heap.size < w2.heap.size + 1 + 1 := by omega
    have BQ2 : Blk w2 (w.heap.size + 1) 57 #[.int .i64 a', .int .i64 b', .int .i64 c'] := by
      refine Blk.kept ?_ hb2
      repeat (first | with_reducible exact BQ1 | with_reducible exact Blk.new _ _ _ | (with_reducible refine Blk.newAt _ _ _ _ ?_; first | rfl | (simp; done)) | with_reducible apply Blk.alloc | with_reducible apply Blk.drewN | with_reducible apply Blk.drew | with_reducible apply Blk.set_to | (with_reducible apply Blk.far_; (simp only [ne_eq]; omega)) | rfl)
    have cQ0_2 : w2.cell? ⟨w.heap.size + 1, 0, none⟩ = some (.int .i64 a') := BQ2.cell 0
    have cQ1_2 : w2.cell? ⟨w.heap.size + 1, 1, none⟩ = some (.int .i64 b') := BQ2.cell 1
    have cQ2_2 : w2.cell? ⟨w.heap.size + 1, 2, none⟩ = some (.int .i64 c') := BQ2.cell 2
    have lQ2 : w.heap.size + 1 < w2.heap.size := BQ2.lt
    have mQ2 : w.heap.size + 1 < w2.heap.size + 1 := by omega
    have nQ2 : w.heap.size + 1 < w2.heap.size + 1 + 1 := by omega
    have BR2 : Blk w2 (w.heap.size + 1 + 1) 132 #[.int .i64 0, .int .i64 0] := by
      refine Blk.kept ?_ hb2
      repeat (first | with_reducible exact BR1 | with_reducible exact Blk.new _ _ _ | (with_reducible refine Blk.newAt _ _ _ _ ?_; first | rfl | (simp; done)) | with_reducible apply Blk.alloc | with_reducible apply Blk.drewN | with_reducible apply Blk.drew | with_reducible apply Blk.set_to | (with_reducible apply Blk.far_; (simp only [ne_eq]; omega)) | rfl)
    have cR0_2 : w2.cell? ⟨w.heap.size + 1 + 1, 0, none⟩ = some (.int .i64 0) := BR2.cell 0
    have cR1_2 : w2.cell? ⟨w.heap.size + 1 + 1, 1, none⟩ = some (.int .i64 0) := BR2.cell 1
    have lR2 : w.heap.size + 1 + 1 < w2.heap.size := BR2.lt
    have mR2 : w.heap.size + 1 + 1 < w2.heap.size + 1 := by omega
    have nR2 : w.heap.size + 1 + 1 < w2.heap.size + 1 + 1 := by omega
    have fR0_2 := BR2.frozen 0
    have fR1_2 := BR2.frozen 1
    clear BP1 lP1 mP1 nP1 cP0_1 cP1_1 cP2_1 BQ1 lQ1 mQ1 nQ1 cQ0_1 cQ1_1 cQ2_1 BR1 lR1 mR1 nR1 cR0_1 cR1_1 fR0_1 fR1_1
    have hs2 : w.heap.size ≤ w2.heap.size := by have h := hb2.size; (try simp at h); omega
    go_wp2_with fail
    refine (q3 _).mono ?_
    rintro e w3 ⟨rfl, hb3⟩
    have BP3 : Blk w3 (w.heap.size) 57 #[.int .i64 a, .int .i64 b, .int .i64 c] := by
      refine Blk.kept ?_ hb3
      repeat (first | with_reducible exact BP2 | with_reducible exact Blk.new _ _ _ | (with_reducible refine Blk.newAt _ _ _ _ ?_; first | rfl | (simp; done)) | with_reducible apply Blk.alloc | with_reducible apply Blk.drewN | with_reducible apply Blk.drew | with_reducible apply Blk.set_to | (with_reducible apply Blk.far_; (simp only [ne_eq]; omega)) | rfl)
    have cP0_3 : w3.cell? ⟨w.heap.size, 0, none⟩ = some (.int .i64 a) := BP3.cell 0
    have cP1_3 : w3.cell? ⟨w.heap.size, 1, none⟩ = some (.int .i64 b) := BP3.cell 1
    have cP2_3 : w3.cell? ⟨w.heap.size, 2, none⟩ = some (.int .i64 c) := BP3.cell 2
    have lP3 : w.heap.size < w3.heap.size := BP3.lt
    have mP3 : w.heap.size < w3.heap.size + 1 := by omega
    have nP3 : w.heap.size < w3.heap.size + 1 + 1 := by omega
    have BQ3 : Blk w3 (w.heap.size + 1) 57 #[.int .i64 a', .int .i64 b', .int .i64 c'] := by
      refine Blk.kept ?_ hb3
      repeat (first | with_reducible exact BQ2 | with_reducible exact Blk.new _ _ _ | (with_reducible refine Blk.newAt _ _ _ _ ?_; first | rfl | (simp; done)) | with_reducible apply Blk.alloc | with_reducible apply Blk.drewN | with_reducible apply Blk.drew | with_reducible apply Blk.set_to | (with_reducible apply Blk.far_; (simp only [ne_eq]; omega)) | rfl)
    have cQ0_3 : w3.cell? ⟨w.heap.size + 1, 0, none⟩ = some (.int .i64 a') := BQ3.cell 0
    have cQ1_3 : w3.cell? ⟨w.heap.size + 1, 1, none⟩ = some (.int .i64 b') := BQ3.cell 1
    have cQ2_3 : w3.cell? ⟨w.heap.size + 1, 2, none⟩ = some (.int .i64 c') := BQ3.cell 2
    have lQ3 : w.heap.size + 1 < w3.heap.size := BQ3.lt
    have mQ3 : w.heap.size + 1 < w3.heap.size + 1 := by omega
    have nQ3 : w.heap.size + 1 < w3.heap.size + 1 + 1 := by omega
    have BR3 : Blk w3 (w.heap.size + 1 + 1) 132 #[.int .i64 0, .int .i64 0] := by
      refine Blk.kept ?_ hb3
      repeat (first | with_reducible exact BR2 | with_reducible exact Blk.new _ _ _ | (with_reducible refine Blk.newAt _ _ _ _ ?_; first | rfl | (simp; done)) | with_reducible apply Blk.alloc | with_reducible apply Blk.drewN | with_reducible apply Blk.drew | with_reducible apply Blk.set_to | (with_reducible apply Blk.far_; (simp only [ne_eq]; omega)) | rfl)
    have cR0_3 : w3.cell? ⟨w.heap.size + 1 + 1, 0, none⟩ = some (.int .i64 0) := BR3.cell 0
    have cR1_3 : w3.cell? ⟨w.heap.size + 1 + 1, 1, none⟩ = some (.int .i64 0) := BR3.cell 1
    have lR3 : w.heap.size + 1 + 1 < w3.heap.size := BR3.lt
    have mR3 : w.heap.size + 1 + 1 < w3.heap.size + 1 := by omega
    have nR3 : w.heap.size + 1 + 1 < w3.heap.size + 1 + 1 := by omega
    have fR0_3 := BR3.frozen 0
    have fR1_3 := BR3.frozen 1
    clear BP2 lP2 mP2 nP2 cP0_2 cP1_2 cP2_2 BQ2 lQ2 mQ2 nQ2 cQ0_2 cQ1_2 cQ2_2 BR2 lR2 mR2 nR2 cR0_2 cR1_2 fR0_2 fR1_2
    have hs3 : w.heap.size ≤ w3.heap.size := by have h := hb3.size; (try simp at h); omega
    have kb : Below w.heap.size w w3 := by repeat (first | exact Below.refl _ _ | refine below_drewN ?_ _ | refine Below.drew ?_ | refine below_alloc ?_ _ | (refine below_call ?_ (by assumption)) | (refine Below.setCell ?_ ?_ _; rotate_left; (simp; try omega)))
    go_wp2
    refine ret_of (by simp [results, Tryd.results91, go_sem, *]; repeat' (first | rfl | apply And.intro)) rfl ⟨?_, by repeat (first | with_reducible exact Below.refl _ _ | with_reducible assumption | with_reducible refine below_drewN ?_ _ | with_reducible refine Below.drew ?_ | with_reducible refine below_alloc ?_ _ | (with_reducible refine Below.setCell ?_ ?_ _; rotate_left; ((try simp only); omega)))⟩
    rw [E.out]
  · have E := Lib.hid (show simE p q = ((0, 0), bothP p q) by unfold simE; rw [if_pos hz])
    have hb : (bothP p q != 0) = true := by simpa using hz
    clear hz
    obtain ⟨a, b, c⟩ := p
    obtain ⟨a', b', c'⟩ := q
    go_enter Tryd.func91, Tryd.ntmps91
    go_wp2_with fail
    refine (q1 _).mono ?_
    rintro e w1 ⟨rfl, hb1⟩
    have BP1 : Blk w1 (w.heap.size) 57 #[.int .i64 a, .int .i64 b, .int .i64 c] := by
      refine Blk.kept ?_ hb1
      repeat (first | with_reducible exact Blk.new _ _ _ | (with_reducible refine Blk.newAt _ _ _ _ ?_; first | rfl | (simp; done)) | with_reducible apply Blk.alloc | with_reducible apply Blk.drewN | with_reducible apply Blk.drew | with_reducible apply Blk.set_to | (with_reducible apply Blk.far_; (simp only [ne_eq]; omega)) | rfl)
    have cP0_1 : w1.cell? ⟨w.heap.size, 0, none⟩ = some (.int .i64 a) := BP1.cell 0
    have cP1_1 : w1.cell? ⟨w.heap.size, 1, none⟩ = some (.int .i64 b) := BP1.cell 1
    have cP2_1 : w1.cell? ⟨w.heap.size, 2, none⟩ = some (.int .i64 c) := BP1.cell 2
    have lP1 : w.heap.size < w1.heap.size := BP1.lt
    have mP1 : w.heap.size < w1.heap.size + 1 := by omega
    have nP1 : w.heap.size < w1.heap.size + 1 + 1 := by omega
    have BQ1 : Blk w1 (w.heap.size + 1) 57 #[.int .i64 a', .int .i64 b', .int .i64 c'] := by
      refine Blk.kept ?_ hb1
      repeat (first | with_reducible exact Blk.new _ _ _ | (with_reducible refine Blk.newAt _ _ _ _ ?_; first | rfl | (simp; done)) | with_reducible apply Blk.alloc | with_reducible apply Blk.drewN | with_reducible apply Blk.drew | with_reducible apply Blk.set_to | (with_reducible apply Blk.far_; (simp only [ne_eq]; omega)) | rfl)
    have cQ0_1 : w1.cell? ⟨w.heap.size + 1, 0, none⟩ = some (.int .i64 a') := BQ1.cell 0
    have cQ1_1 : w1.cell? ⟨w.heap.size + 1, 1, none⟩ = some (.int .i64 b') := BQ1.cell 1
    have cQ2_1 : w1.cell? ⟨w.heap.size + 1, 2, none⟩ = some (.int .i64 c') := BQ1.cell 2
    have lQ1 : w.heap.size + 1 < w1.heap.size := BQ1.lt
    have mQ1 : w.heap.size + 1 < w1.heap.size + 1 := by omega
    have nQ1 : w.heap.size + 1 < w1.heap.size + 1 + 1 := by omega
    have BR1 : Blk w1 (w.heap.size + 1 + 1) 132 #[.int .i64 0, .int .i64 0] := by
      refine Blk.kept ?_ hb1
      repeat (first | with_reducible exact Blk.new _ _ _ | (with_reducible refine Blk.newAt _ _ _ _ ?_; first | rfl | (simp; done)) | with_reducible apply Blk.alloc | with_reducible apply Blk.drewN | with_reducible apply Blk.drew | with_reducible apply Blk.set_to | (with_reducible apply Blk.far_; (simp only [ne_eq]; omega)) | rfl)
    have cR0_1 : w1.cell? ⟨w.heap.size + 1 + 1, 0, none⟩ = some (.int .i64 0) := BR1.cell 0
    have cR1_1 : w1.cell? ⟨w.heap.size + 1 + 1, 1, none⟩ = some (.int .i64 0) := BR1.cell 1
    have lR1 : w.heap.size + 1 + 1 < w1.heap.size := BR1.lt
    have mR1 : w.heap.size + 1 + 1 < w1.heap.size + 1 := by omega
    have nR1 : w.heap.size + 1 + 1 < w1.heap.size + 1 + 1 := by omega
    have fR0_1 := BR1.frozen 0
    have fR1_1 := BR1.frozen 1
    have eRP1 : w.heap.size + 1 + 1 ≠ w.heap.size := by omega
    have ePR1 : w.heap.size ≠ w.heap.size + 1 + 1 := by omega
    have eRQ1 : w.heap.size + 1 + 1 ≠ w.heap.size + 1 := by omega
    have eQR1 : w.heap.size + 1 ≠ w.heap.size + 1 + 1 := by omega
    have hs1 : w.heap.size ≤ w1.heap.size := by have h := hb1.size; (try simp at h); omega
    have kb : Below w.heap.size w w1 := by repeat (first | exact Below.refl _ _ | refine below_drewN ?_ _ | refine Below.drew ?_ | refine below_alloc ?_ _ | (refine below_call ?_ (by assumption)) | (refine Below.setCell ?_ ?_ _; rotate_left; (simp; try omega)))
    go_wp2
    refine ret_of (by simp [results, Tryd.results91, go_sem, *]; repeat' (first | rfl | apply And.intro)) rfl ⟨?_, by repeat (first | with_reducible exact Below.refl _ _ | with_reducible assumption | with_reducible refine below_drewN ?_ _ | with_reducible refine Below.drew ?_ | with_reducible refine below_alloc ?_ _ | (with_reducible refine Below.setCell ?_ ?_ _; rotate_left; ((try simp only); omega)))⟩
    rw [E.out]
set_option maxRecDepth 100000 in
set_option maxHeartbeats 1000000 in
theorem rKind_any (p q : Int × Int × Int) (w : World) :
    Calls Tryd.prog 90 #[vP p, vP q] w fun e w' => e = .returned (.tuple #[.int .i64 (kindE p q).1, .int .i64 (kindE p q).2]) ∧ Below w.heap.size w w' := by
  have q1 := rboth_any p q
  by_cases hz : bothP p q = 0
  · have E := Lib.hid (show kindE p q = (kindP p q, 0) by unfold kindE; rw [hz, if_neg (fun h => h rfl)])
    rw [hz] at q1
    obtain ⟨hp, hq⟩ := bothP_ok hz
    have q2 := madeKind_ok p q hp hq
    obtain ⟨K, hK⟩ : ∃ t, t = kindP p q := ⟨_, rfl⟩
    rw [← hK] at q2 E
    clear hK hp hq hz
    obtain ⟨a, b, c⟩ := p
    obtain ⟨a', b', c'⟩ := q
    go_enter Tryd.func90, Tryd.ntmps90
    go_wp2_with fail
    refine (q1 _).mono ?_
    rintro e w1 ⟨rfl, hb1⟩
    have BP1 : Blk w1 (w.heap.size) 57 #[.int .i64 a, .int .i64 b, .int .i64 c] := by
      refine Blk.kept ?_ hb1
      repeat (first | with_reducible exact Blk.new _ _ _ | (with_reducible refine Blk.newAt _ _ _ _ ?_; first | rfl | (simp; done)) | with_reducible apply Blk.alloc | with_reducible apply Blk.drewN | with_reducible apply Blk.drew | with_reducible apply Blk.set_to | (with_reducible apply Blk.far_; (simp only [ne_eq]; omega)) | rfl)
    have cP0_1 : w1.cell? ⟨w.heap.size, 0, none⟩ = some (.int .i64 a) := BP1.cell 0
    have cP1_1 : w1.cell? ⟨w.heap.size, 1, none⟩ = some (.int .i64 b) := BP1.cell 1
    have cP2_1 : w1.cell? ⟨w.heap.size, 2, none⟩ = some (.int .i64 c) := BP1.cell 2
    have lP1 : w.heap.size < w1.heap.size := BP1.lt
    have mP1 : w.heap.size < w1.heap.size + 1 := by omega
    have nP1 : w.heap.size < w1.heap.size + 1 + 1 := by omega
    have BQ1 : Blk w1 (w.heap.size + 1) 57 #[.int .i64 a', .int .i64 b', .int .i64 c'] := by
      refine Blk.kept ?_ hb1
      repeat (first | with_reducible exact Blk.new _ _ _ | (with_reducible refine Blk.newAt _ _ _ _ ?_; first | rfl | (simp; done)) | with_reducible apply Blk.alloc | with_reducible apply Blk.drewN | with_reducible apply Blk.drew | with_reducible apply Blk.set_to | (with_reducible apply Blk.far_; (simp only [ne_eq]; omega)) | rfl)
    have cQ0_1 : w1.cell? ⟨w.heap.size + 1, 0, none⟩ = some (.int .i64 a') := BQ1.cell 0
    have cQ1_1 : w1.cell? ⟨w.heap.size + 1, 1, none⟩ = some (.int .i64 b') := BQ1.cell 1
    have cQ2_1 : w1.cell? ⟨w.heap.size + 1, 2, none⟩ = some (.int .i64 c') := BQ1.cell 2
    have lQ1 : w.heap.size + 1 < w1.heap.size := BQ1.lt
    have mQ1 : w.heap.size + 1 < w1.heap.size + 1 := by omega
    have nQ1 : w.heap.size + 1 < w1.heap.size + 1 + 1 := by omega
    have hs1 : w.heap.size ≤ w1.heap.size := by have h := hb1.size; (try simp at h); omega
    go_wp2_with fail
    refine (q2 _).mono ?_
    rintro e w2 ⟨rfl, hb2⟩
    have BP2 : Blk w2 (w.heap.size) 57 #[.int .i64 a, .int .i64 b, .int .i64 c] := by
      refine Blk.kept ?_ hb2
      repeat (first | with_reducible exact BP1 | with_reducible exact Blk.new _ _ _ | (with_reducible refine Blk.newAt _ _ _ _ ?_; first | rfl | (simp; done)) | with_reducible apply Blk.alloc | with_reducible apply Blk.drewN | with_reducible apply Blk.drew | with_reducible apply Blk.set_to | (with_reducible apply Blk.far_; (simp only [ne_eq]; omega)) | rfl)
    have cP0_2 : w2.cell? ⟨w.heap.size, 0, none⟩ = some (.int .i64 a) := BP2.cell 0
    have cP1_2 : w2.cell? ⟨w.heap.size, 1, none⟩ = some (.int .i64 b) := BP2.cell 1
    have cP2_2 : w2.cell? ⟨w.heap.size, 2, none⟩ = some (.int .i64 c) := BP2.cell 2
    have lP2 : w.heap.size < w2.heap.size := BP2.lt
    have mP2 : w.heap.size < w2.heap.size + 1 := by omega
    have nP2 : w.heap.size < w2.heap.size + 1 + 1 := by omega
    have BQ2 : Blk w2 (w.heap.size + 1) 57 #[.int .i64 a', .int .i64 b', .int .i64 c'] := by
      refine Blk.kept ?_ hb2
      repeat (first | with_reducible exact BQ1 | with_reducible exact Blk.new _ _ _ | (with_reducible refine Blk.newAt _ _ _ _ ?_; first | rfl | (simp; done)) | with_reducible apply Blk.alloc | with_reducible apply Blk.drewN | with_reducible apply Blk.drew | with_reducible apply Blk.set_to | (with_reducible apply Blk.far_; (simp only [ne_eq]; omega)) | rfl)
    have cQ0_2 : w2.cell? ⟨w.heap.size + 1, 0, none⟩ = some (.int .i64 a') := BQ2.cell 0
    have cQ1_2 : w2.cell? ⟨w.heap.size + 1, 1, none⟩ = some (.int .i64 b') := BQ2.cell 1
    have cQ2_2 : w2.cell? ⟨w.heap.size + 1, 2, none⟩ = some (.int .i64 c') := BQ2.cell 2
    have lQ2 : w.heap.size + 1 < w2.heap.size := BQ2.lt
    have mQ2 : w.heap.size + 1 < w2.heap.size + 1 := by omega
    have nQ2 : w.heap.size + 1 < w2.heap.size + 1 + 1 := by omega
    clear BP1 lP1 mP1 nP1 cP0_1 cP1_1 cP2_1 BQ1 lQ1 mQ1 nQ1 cQ0_1 cQ1_1 cQ2_1
    have hs2 : w.heap.size ≤ w2.heap.size := by have h := hb2.size; (try simp at h); omega
    have kb : Below w.heap.size w w2 := by repeat (first | exact Below.refl _ _ | refine below_drewN ?_ _ | refine Below.drew ?_ | refine below_alloc ?_ _ | (refine below_call ?_ (by assumption)) | (refine Below.setCell ?_ ?_ _; rotate_left; (simp; try omega)))
    go_wp2
    go_ret2
    rw [E.out]
    exact ⟨rfl, kb⟩
  · have E := Lib.hid (show kindE p q = (0, bothP p q) by unfold kindE; rw [if_pos hz])
    have hb : (bothP p q != 0) = true := by simpa using hz
    clear hz
    obtain ⟨a, b, c⟩ := p
    obtain ⟨a', b', c'⟩ := q
    go_enter Tryd.func90, Tryd.ntmps90
    go_wp2_with fail
    refine (q1 _).mono ?_
    rintro e w1 ⟨rfl, hb1⟩
    have BP1 : Blk w1 (w.heap.size) 57 #[.int .i64 a, .int .i64 b, .int .i64 c] := by
      refine Blk.kept ?_ hb1
      repeat (first | with_reducible exact Blk.new _ _ _ | (with_reducible refine Blk.newAt _ _ _ _ ?_; first | rfl | (simp; done)) | with_reducible apply Blk.alloc | with_reducible apply Blk.drewN | with_reducible apply Blk.drew | with_reducible apply Blk.set_to | (with_reducible apply Blk.far_; (simp only [ne_eq]; omega)) | rfl)
    have cP0_1 : w1.cell? ⟨w.heap.size, 0, none⟩ = some (.int .i64 a) := BP1.cell 0
    have cP1_1 : w1.cell? ⟨w.heap.size, 1, none⟩ = some (.int .i64 b) := BP1.cell 1
    have cP2_1 : w1.cell? ⟨w.heap.size, 2, none⟩ = some (.int .i64 c) := BP1.cell 2
    have lP1 : w.heap.size < w1.heap.size := BP1.lt
    have mP1 : w.heap.size < w1.heap.size + 1 := by omega
    have nP1 : w.heap.size < w1.heap.size + 1 + 1 := by omega
    have BQ1 : Blk w1 (w.heap.size + 1) 57 #[.int .i64 a', .int .i64 b', .int .i64 c'] := by
      refine Blk.kept ?_ hb1
      repeat (first | with_reducible exact Blk.new _ _ _ | (with_reducible refine Blk.newAt _ _ _ _ ?_; first | rfl | (simp; done)) | with_reducible apply Blk.alloc | with_reducible apply Blk.drewN | with_reducible apply Blk.drew | with_reducible apply Blk.set_to | (with_reducible apply Blk.far_; (simp only [ne_eq]; omega)) | rfl)
    have cQ0_1 : w1.cell? ⟨w.heap.size + 1, 0, none⟩ = some (.int .i64 a') := BQ1.cell 0
    have cQ1_1 : w1.cell? ⟨w.heap.size + 1, 1, none⟩ = some (.int .i64 b') := BQ1.cell 1
    have cQ2_1 : w1.cell? ⟨w.heap.size + 1, 2, none⟩ = some (.int .i64 c') := BQ1.cell 2
    have lQ1 : w.heap.size + 1 < w1.heap.size := BQ1.lt
    have mQ1 : w.heap.size + 1 < w1.heap.size + 1 := by omega
    have nQ1 : w.heap.size + 1 < w1.heap.size + 1 + 1 := by omega
    have hs1 : w.heap.size ≤ w1.heap.size := by have h := hb1.size; (try simp at h); omega
    have kb : Below w.heap.size w w1 := by repeat (first | exact Below.refl _ _ | refine below_drewN ?_ _ | refine Below.drew ?_ | refine below_alloc ?_ _ | (refine below_call ?_ (by assumption)) | (refine Below.setCell ?_ ?_ _; rotate_left; (simp; try omega)))
    go_wp2
    go_ret2
    rw [E.out]
    exact ⟨rfl, kb⟩
end Go.Proofs.YtigfcbofbcpiaaaDoor
