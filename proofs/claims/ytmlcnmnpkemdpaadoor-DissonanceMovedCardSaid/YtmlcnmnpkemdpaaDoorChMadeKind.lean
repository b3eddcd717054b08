
/- The walks through the reference's simple interval and kind. -/
import Derived.Test.YtmlcnmnpkemdpaaDoorChRefKind
namespace Go.Proofs.YtmlcnmnpkemdpaaDoor
open Go.RowKit
set_option maxHeartbeats 400000 in
theorem rsimple_any (x : Int × Int) (w : World) (h0 : 0 ≤ x.1) (h1 : x.1 ≤ 62) (h2 : -400 ≤ x.2) (h3 : x.2 ≤ 400) :
    Calls Tryd.prog 97 #[.agg #[.int .i64 x.1, .int .i64 x.2]] w fun e w' => e = .returned (.agg #[.int .i64 (simI x).1, .int .i64 (simI x).2]) ∧ Below w.heap.size w w' := by
  obtain ⟨s, h⟩ := x
  simp only at h0 h1 h2 h3
  have E := Lib.hid (show simI (s, h) = (s % 7, h - 12 * (s / 7)) by rfl)
  go_enter Tryd.func97, Tryd.ntmps97
  go_wp2
  refine ret_of (by simp [results, Tryd.results97, go_sem, *]; repeat' (first | rfl | apply And.intro)) rfl ⟨?_, by repeat (first | with_reducible exact Below.refl _ _ | with_reducible assumption | with_reducible refine below_drewN ?_ _ | with_reducible refine Below.drew ?_ | with_reducible refine below_alloc ?_ _ | (with_reducible refine Below.setCell ?_ ?_ _; rotate_left; ((try simp only); omega)))⟩
  rw [E.out]
set_option maxRecDepth 100000 in
set_option maxHeartbeats 1000000 in
theorem madeKind_ok (p q : Int × Int × Int) (hp : pchk p = 0) (hq : pchk q = 0) (w : World) :
    Calls Tryd.prog 75 #[vP p, vP q] w fun e w' => e = .returned (.int .i64 (kindP p q)) ∧ Below w.heap.size w w' := by
  have q1 := rUp_ok p q hp hq
  have HB := upI_bd hp hq
  have E := Lib.hid (show kindP p q = kindX (simI (upI p q)) by rfl)
  obtain ⟨⟨u, v⟩, hu⟩ : ∃ t, t = upI p q := ⟨_, rfl⟩
  rw [← hu] at q1 E HB
  simp only at HB
  have q2 := fun w => rsimple_any (u, v) w HB.1 HB.2.1 (by simp only; omega) (by simp only; omega)
  obtain ⟨⟨s, h⟩, hs⟩ : ∃ t, t = simI (u, v) := ⟨_, rfl⟩
  rw [← hs] at q2 E
  clear hs hu HB hp hq
  obtain ⟨a, b, c⟩ := p
  obtain ⟨a', b', c'⟩ := q
  go_enter Tryd.func75, Tryd.ntmps75
  go_wp2_with fail
  refine (q1 _).mono ?_
  rintro e w1 ⟨rfl, hb1⟩
  have BP1 : Blk w1 (w.heap.size) 32 #[.int .i64 a, .int .i64 b, .int .i64 c] := by
    refine Blk.kept ?_ hb1
    repeat (first | with_reducible exact Blk.new _ _ _ | (with_reducible refine Blk.newAt _ _ _ _ ?_; first | rfl | (simp; done)) | with_reducible apply Blk.alloc | with_reducible apply Blk.drewN | with_reducible apply Blk.drew | with_reducible apply Blk.set_to | (with_reducible apply Blk.far_; (simp only [ne_eq]; omega)) | rfl)
  have cP0_1 : w1.cell? ⟨w.heap.size, 0, none⟩ = some (.int .i64 a) := BP1.cell 0
  have cP1_1 : w1.cell? ⟨w.heap.size, 1, none⟩ = some (.int .i64 b) := BP1.cell 1
  have cP2_1 : w1.cell? ⟨w.heap.size, 2, none⟩ = some (.int .i64 c) := BP1.cell 2
  have lP1 : w.heap.size < w1.heap.size := BP1.lt
  have mP1 : w.heap.size < w1.heap.size + 1 := by omega
  have nP1 : w.heap.size < w1.heap.size + 1 + 1 := by omega
  have BQ1 : Blk w1 (w.heap.size + 1) 32 #[.int .i64 a', .int .i64 b', .int .i64 c'] := by
    refine Blk.kept ?_ hb1
    repeat (first | with_reducible exact Blk.new _ _ _ | (with_reducible refine Blk.newAt _ _ _ _ ?_; first | rfl | (simp; done)) | with_reducible apply Blk.alloc | with_reducible apply Blk.drewN | with_reducible apply Blk.drew | with_reducible apply Blk.set_to | (with_reducible apply Blk.far_; (simp only [ne_eq]; omega)) | rfl)
  have cQ0_1 : w1.cell? ⟨w.heap.size + 1, 0, none⟩ = some (.int .i64 a') := BQ1.cell 0
  have cQ1_1 : w1.cell? ⟨w.heap.size + 1, 1, none⟩ = some (.int .i64 b') := BQ1.cell 1
  have cQ2_1 : w1.cell? ⟨w.heap.size + 1, 2, none⟩ = some (.int .i64 c') := BQ1.cell 2
  have lQ1 : w.heap.size + 1 < w1.heap.size := BQ1.lt
  have mQ1 : w.heap.size + 1 < w1.heap.size + 1 := by omega
  have nQ1 : w.heap.size + 1 < w1.heap.size + 1 + 1 := by omega
  have hs1 : w.heap.size ≤ w1.heap.size := by have h := hb1.size; (try simp at h); omega
  go_wp2_with fail
  refine (q2 _).mono ?_
  rintro e w2 ⟨rfl, hb2⟩
  have BP2 : Blk w2 (w.heap.size) 32 #[.int .i64 a, .int .i64 b, .int .i64 c] := by
    refine Blk.kept ?_ hb2
    repeat (first | with_reducible exact BP1 | with_reducible exact Blk.new _ _ _ | (with_reducible refine Blk.newAt _ _ _ _ ?_; first | rfl | (simp; done)) | with_reducible apply Blk.alloc | with_reducible apply Blk.drewN | with_reducible apply Blk.drew | with_reducible apply Blk.set_to | (with_reducible apply Blk.far_; (simp only [ne_eq]; omega)) | rfl)
  have cP0_2 : w2.cell? ⟨w.heap.size, 0, none⟩ = some (.int .i64 a) := BP2.cell 0
  have cP1_2 : w2.cell? ⟨w.heap.size, 1, none⟩ = some (.int .i64 b) := BP2.cell 1
  have cP2_2 : w2.cell? ⟨w.heap.size, 2, none⟩ = some (.int .i64 c) := BP2.cell 2
  have lP2 : w.heap.size < w2.heap.size := BP2.lt
  have mP2 : w.heap.size < w2.heap.size + 1 := by omega
  have nP2 : w.heap.size < w2.heap.size + 1 + 1 := by omega
  have BQ2 : Blk w2 (w.heap.size + 1) 32 #[.int .i64 a', .int .i64 b', .int .i64 c'] := by
    refine Blk.kept ?_ hb2
    repeat (first | with_reducible exact BQ1 | with_reducible exact Blk.new _ _ _ | (with_reducible refine Blk.newAt _ _ _ _ ?_; first | rfl | (simp; done)) | with_reducible apply Blk.alloc | with_reducible apply Blk.drewN | with_reducible apply Blk.drew | with_reducible apply Blk.set_to | (with_reducible apply Blk.far_; (simp only [ne_eq]; omega)) | rfl)
  have cQ0_2 : w2.cell? ⟨w.heap.size + 1, 0, none⟩ = some (.int .i64 a') := BQ2.cell 0
  have cQ1_2 : w2.cell? ⟨w.heap.size + 1, 1, none⟩ = some (.int .i64 b') := BQ2.cell 1
  have cQ2_2 : w2.cell? ⟨w.heap.size + 1, 2, none⟩ = some (.int .i64 c') := BQ2.cell 2
  have lQ2 : w.heap.size + 1 < w2.heap.size := BQ2.lt
  have mQ2 : w.heap.size + 1 < w2.heap.size + 1 := by omega
  have nQ2 : w.heap.size + 1 < w2.heap.size + 1 + 1 := by omega
  clear BP1 lP1 mP1 nP1 cP0_1 cP1_1 cP2_1 BQ1 lQ1 mQ1 nQ1 cQ0_1 cQ1_1 cQ2_1
  have hs2 : w.heap.size ≤ w2.heap.size := by have h := hb2.size; (try simp at h); omega
  have kb : Below w.heap.size w w2 := by repeat (first | exact Below.refl _ _ | refine below_drewN ?_ _ | refine Below.drew ?_ | refine below_alloc ?_ _ | (refine below_call ?_ (by assumption)) | (refine Below.setCell ?_ ?_ _; rotate_left; (simp; try omega)))
  go_wp2
  all_goals
    go_ret
    rw [E.out]
    refine ⟨ret_int ?_, by repeat (first | with_reducible exact Below.refl _ _ | with_reducible assumption | with_reducible refine below_drewN ?_ _ | with_reducible refine Below.drew ?_ | with_reducible refine below_alloc ?_ _ | (with_reducible refine Below.setCell ?_ ?_ _; rotate_left; ((try simp only); omega)))⟩
    simp only [kindX]
    repeat' split
    all_goals first | rfl | omega
end Go.Proofs.YtmlcnmnpkemdpaaDoor
