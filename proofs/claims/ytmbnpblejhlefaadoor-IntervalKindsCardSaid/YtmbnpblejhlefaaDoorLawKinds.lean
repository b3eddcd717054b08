/- IntervalKinds: for every two pitches and every text: the simple interval, the kind and the name of the interval of the two pitches, and the interval of the text as a name, and the errors of all, are the reference's. -/
import Derived.Test.YtmbnpblejhlefaaDoorChSentOf
import Derived.Test.YtmbnpblejhlefaaDoorChParse
import Derived.Test.YtmbnpblejhlefaaDoorChAwake
namespace Go.Proofs.YtmbnpblejhlefaaDoor.intervalKinds
open Go.RowKit Go.ChangeShapes Go.WideShapes Go.ChangeAt
set_option maxRecDepth 100000 in
set_option maxHeartbeats 4000000 in
theorem walk (p q : Int × Int × Int) (s : ByteArray) (w : World) (hs : s.size ≤ maxLen) (ht : Tabs2 w) :
    Calls Tryd.prog 4 #[vP p, vP q, .string s] w fun e w' => e = .returned (.bool true) ∧ Below w.heap.size w w' := by
  unfold maxLen at hs
  obtain ⟨a, b, c⟩ := p
  obtain ⟨a', b', c'⟩ := q
  by_cases h200 : 200 < s.size
  · have d1 : decide ((200 : Int) < (s.size : Int)) = true := by simp; omega
    go_enter Tryd.func4, Tryd.ntmps4
    go_wp2_with fail
    refine (awake_any _ (ht.kept (by repeat (first | with_reducible exact Below.refl _ _ | with_reducible assumption | with_reducible refine below_drewN ?_ _ | with_reducible refine Below.drew ?_ | with_reducible refine below_alloc ?_ _ | (with_reducible refine Below.setCell ?_ ?_ _; rotate_left; ((try simp only); omega))))).tabs).mono ?_
    rintro e w1 ⟨rfl, hb1⟩
    have kb : Below w.heap.size w w1 := below_call (by repeat (first | with_reducible exact Below.refl _ _ | with_reducible assumption | with_reducible refine below_drewN ?_ _ | with_reducible refine Below.drew ?_ | with_reducible refine below_alloc ?_ _ | (with_reducible refine Below.setCell ?_ ?_ _; rotate_left; ((try simp only); omega)))) hb1
    go_wp2
    go_ret
    exact ⟨rfl, by repeat (first | with_reducible exact Below.refl _ _ | with_reducible assumption | with_reducible refine below_drewN ?_ _ | with_reducible refine Below.drew ?_ | with_reducible refine below_alloc ?_ _ | (with_reducible refine Below.setCell ?_ ?_ _; rotate_left; ((try simp only); omega)))⟩
  · have d1 : decide ((200 : Int) < (s.size : Int)) = false := by simp; omega
    obtain ⟨⟨⟨u, v⟩, r⟩, q7, q8⟩ := parse_both s (by unfold maxLen; omega)
    have q1 := fun W (hW : Tabs2 W) => Simple_any (a, b, c) (a', b', c') W hW.tabs
    have q2 := fun W => rSimple_any (a, b, c) (a', b', c') W
    have q3 := fun W (hW : Tabs2 W) => Kind_any (a, b, c) (a', b', c') W hW.tabs
    have q4 := fun W => rKind_any (a, b, c) (a', b', c') W
    have q5 := fun W (hW : Tabs2 W) => Name_any (a, b, c) (a', b', c') W hW.tabs
    have q6 := fun W => rName_any (a, b, c) (a', b', c') W
    have q9 := fun W (hW : Tabs2 W) => awake_any W hW.tabs
    obtain ⟨⟨⟨u1, v1⟩, r1⟩, h1⟩ : ∃ t, t = simE (a, b, c) (a', b', c') := ⟨_, rfl⟩
    obtain ⟨⟨k1, r2⟩, h2⟩ : ∃ t, t = kindE (a, b, c) (a', b', c') := ⟨_, rfl⟩
    obtain ⟨⟨n1, r3⟩, h3⟩ : ∃ t, t = nameE (a, b, c) (a', b', c') := ⟨_, rfl⟩
    rw [← h1] at q1 q2
    rw [← h2] at q3 q4
    rw [← h3] at q5 q6
    clear h1 h2 h3
    go_enter Tryd.func4, Tryd.ntmps4
    go_wp2_with fail
    refine Calls.mono (q1 _ ?_) ?_
    · exact ht.kept (by repeat (first | exact Below.refl _ _ | refine below_drewN ?_ _ | refine Below.drew ?_ | refine below_alloc ?_ _ | (refine below_call ?_ (by assumption)) | (refine Below.setCell ?_ ?_ _; rotate_left; (simp; try omega))))
    rintro e w1 ⟨rfl, hb1⟩
    have BP1 : Blk w1 (w.heap.size) 36 #[.int .i64 a, .int .i64 b, .int .i64 c] := by
      refine Blk.kept ?_ hb1
      repeat (first | with_reducible exact Blk.new _ _ _ | (with_reducible refine Blk.newAt _ _ _ _ ?_; first | rfl | (simp; done)) | with_reducible apply Blk.alloc | with_reducible apply Blk.drewN | with_reducible apply Blk.drew | with_reducible apply Blk.set_to | (with_reducible apply Blk.far_; (simp only [ne_eq]; omega)) | rfl)
    have cP0_1 : w1.cell? ⟨w.heap.size, 0, none⟩ = some (.int .i64 a) := BP1.cell 0
    have cP1_1 : w1.cell? ⟨w.heap.size, 1, none⟩ = some (.int .i64 b) := BP1.cell 1
    have cP2_1 : w1.cell? ⟨w.heap.size, 2, none⟩ = some (.int .i64 c) := BP1.cell 2
    have lP1 : w.heap.size < w1.heap.size := BP1.lt
    have mP1 : w.heap.size < w1.heap.size + 1 := by omega
    have nP1 : w.heap.size < w1.heap.size + 1 + 1 := by omega
    have BQ1 : Blk w1 (w.heap.size + 1) 36 #[.int .i64 a', .int .i64 b', .int .i64 c'] := by
      refine Blk.kept ?_ hb1
      repeat (first | with_reducible exact Blk.new _ _ _ | (with_reducible refine Blk.newAt _ _ _ _ ?_; first | rfl | (simp; done)) | with_reducible apply Blk.alloc | with_reducible apply Blk.drewN | with_reducible apply Blk.drew | with_reducible apply Blk.set_to | (with_reducible apply Blk.far_; (simp only [ne_eq]; omega)) | rfl)
    have cQ0_1 : w1.cell? ⟨w.heap.size + 1, 0, none⟩ = some (.int .i64 a') := BQ1.cell 0
    have cQ1_1 : w1.cell? ⟨w.heap.size + 1, 1, none⟩ = some (.int .i64 b') := BQ1.cell 1
    have cQ2_1 : w1.cell? ⟨w.heap.size + 1, 2, none⟩ = some (.int .i64 c') := BQ1.cell 2
    have lQ1 : w.heap.size + 1 < w1.heap.size := BQ1.lt
    have mQ1 : w.heap.size + 1 < w1.heap.size + 1 := by omega
    have nQ1 : w.heap.size + 1 < w1.heap.size + 1 + 1 := by omega
    have hs1 : w.heap.size ≤ w1.heap.size := by have h := hb1.size; (try simp at h); omega
    go_wp2_with fail
    refine (q2 _).mono ?_
    rintro e w2 ⟨rfl, hb2⟩
    have BP2 : Blk w2 (w.heap.size) 36 #[.int .i64 a, .int .i64 b, .int .i64 c] := by
      refine Blk.kept ?_ hb2
      repeat (first | with_reducible exact BP1 | with_reducible exact Blk.new _ _ _ | (with_reducible refine Blk.newAt _ _ _ _ ?_; first | rfl | (simp; done)) | with_reducible apply Blk.alloc | with_reducible apply Blk.drewN | with_reducible apply Blk.drew | with_reducible apply Blk.set_to | (with_reducible apply Blk.far_; (simp only [ne_eq]; omega)) | rfl)
    have cP0_2 : w2.cell? ⟨w.heap.size, 0, none⟩ = some (.int .i64 a) := BP2.cell 0
    have cP1_2 : w2.cell? ⟨w.heap.size, 1, none⟩ = some (.int .i64 b) := BP2.cell 1
    have cP2_2 : w2.cell? ⟨w.heap.size, 2, none⟩ = some (.int .i64 c) := BP2.cell 2
    have lP2 : w.heap.size < w2.heap.size := BP2.lt
    have mP2 : w.heap.size < w2.heap.size + 1 := by omega
    have nP2 : w.heap.size < w2.heap.size + 1 + 1 := by omega
    have BQ2 : Blk w2 (w.heap.size + 1) 36 #[.int .i64 a', .int .i64 b', .int .i64 c'] := by
      refine Blk.kept ?_ hb2
      repeat (first | with_reducible exact BQ1 | with_reducible exact Blk.new _ _ _ | (with_reducible refine Blk.newAt _ _ _ _ ?_; first | rfl | (simp; done)) | with_reducible apply Blk.alloc | with_reducible apply Blk.drewN | with_reducible apply Blk.drew | with_reducible apply Blk.set_to | (with_reducible apply Blk.far_; (simp only [ne_eq]; omega)) | rfl)
    have cQ0_2 : w2.cell? ⟨w.heap.size + 1, 0, none⟩ = some (.int .i64 a') := BQ2.cell 0
    have cQ1_2 : w2.cell? ⟨w.heap.size + 1, 1, none⟩ = some (.int .i64 b') := BQ2.cell 1
    have cQ2_2 : w2.cell? ⟨w.heap.size + 1, 2, none⟩ = some (.int .i64 c') := BQ2.cell 2
    have lQ2 : w.heap.size + 1 < w2.heap.size := BQ2.lt
    have mQ2 : w.heap.size + 1 < w2.heap.size + 1 := by omega
    have nQ2 : w.heap.size + 1 < w2.heap.size + 1 + 1 := by omega
    have BX2 : Blk w2 (w1.heap.size) 38 #[.int .i64 u1, .int .i64 v1] := by
      refine Blk.kept ?_ hb2
      repeat (first | with_reducible exact Blk.new _ _ _ | (with_reducible refine Blk.newAt _ _ _ _ ?_; first | rfl | (simp; done)) | with_reducible apply Blk.alloc | with_reducible apply Blk.drewN | with_reducible apply Blk.drew | with_reducible apply Blk.set_to | (with_reducible apply Blk.far_; (simp only [ne_eq]; omega)) | rfl)
    have cX0_2 : w2.cell? ⟨w1.heap.size, 0, none⟩ = some (.int .i64 u1) := BX2.cell 0
    have cX1_2 : w2.cell? ⟨w1.heap.size, 1, none⟩ = some (.int .i64 v1) := BX2.cell 1
    have lX2 : w1.heap.size < w2.heap.size := BX2.lt
    have mX2 : w1.heap.size < w2.heap.size + 1 := by omega
    have nX2 : w1.heap.size < w2.heap.size + 1 + 1 := by omega
    clear BP1 lP1 mP1 nP1 cP0_1 cP1_1 cP2_1 BQ1 lQ1 mQ1 nQ1 cQ0_1 cQ1_1 cQ2_1
    have hs2 : w.heap.size ≤ w2.heap.size := by have h := hb2.size; (try simp at h); omega
    go_wp2_with fail
    refine Calls.mono (q3 _ ?_) ?_
    · exact ht.kept (by repeat (first | exact Below.refl _ _ | refine below_drewN ?_ _ | refine Below.drew ?_ | refine below_alloc ?_ _ | (refine below_call ?_ (by assumption)) | (refine Below.setCell ?_ ?_ _; rotate_left; (simp; try omega))))
    rintro e w3 ⟨rfl, hb3⟩
    have BP3 : Blk w3 (w.heap.size) 36 #[.int .i64 a, .int .i64 b, .int .i64 c] := by
      refine Blk.kept ?_ hb3
      repeat (first | with_reducible exact BP2 | with_reducible exact Blk.new _ _ _ | (with_reducible refine Blk.newAt _ _ _ _ ?_; first | rfl | (simp; done)) | with_reducible apply Blk.alloc | with_reducible apply Blk.drewN | with_reducible apply Blk.drew | with_reducible apply Blk.set_to | (with_reducible apply Blk.far_; (simp only [ne_eq]; omega)) | rfl)
    have cP0_3 : w3.cell? ⟨w.heap.size, 0, none⟩ = some (.int .i64 a) := BP3.cell 0
    have cP1_3 : w3.cell? ⟨w.heap.size, 1, none⟩ = some (.int .i64 b) := BP3.cell 1
    have cP2_3 : w3.cell? ⟨w.heap.size, 2, none⟩ = some (.int .i64 c) := BP3.cell 2
    have lP3 : w.heap.size < w3.heap.size := BP3.lt
    have mP3 : w.heap.size < w3.heap.size + 1 := by omega
    have nP3 : w.heap.size < w3.heap.size + 1 + 1 := by omega
    have BQ3 : Blk w3 (w.heap.size + 1) 36 #[.int .i64 a', .int .i64 b', .int .i64 c'] := by
      refine Blk.kept ?_ hb3
      repeat (first | with_reducible exact BQ2 | with_reducible exact Blk.new _ _ _ | (with_reducible refine Blk.newAt _ _ _ _ ?_; first | rfl | (simp; done)) | with_reducible apply Blk.alloc | with_reducible apply Blk.drewN | with_reducible apply Blk.drew | with_reducible apply Blk.set_to | (with_reducible apply Blk.far_; (simp only [ne_eq]; omega)) | rfl)
    have cQ0_3 : w3.cell? ⟨w.heap.size + 1, 0, none⟩ = some (.int .i64 a') := BQ3.cell 0
    have cQ1_3 : w3.cell? ⟨w.heap.size + 1, 1, none⟩ = some (.int .i64 b') := BQ3.cell 1
    have cQ2_3 : w3.cell? ⟨w.heap.size + 1, 2, none⟩ = some (.int .i64 c') := BQ3.cell 2
    have lQ3 : w.heap.size + 1 < w3.heap.size := BQ3.lt
    have mQ3 : w.heap.size + 1 < w3.heap.size + 1 := by omega
    have nQ3 : w.heap.size + 1 < w3.heap.size + 1 + 1 := by omega
    have BX3 : Blk w3 (w1.heap.size) 38 #[.int .i64 u1, .int .i64 v1] := by
      refine Blk.kept ?_ hb3
      repeat (first | with_reducible exact BX2 | with_reducible exact Blk.new _ _ _ | (with_reducible refine Blk.newAt _ _ _ _ ?_; first | rfl | (simp; done)) | with_reducible apply Blk.alloc | with_reducible apply Blk.drewN | with_reducible apply Blk.drew | with_reducible apply Blk.set_to | (with_reducible apply Blk.far_; (simp only [ne_eq]; omega)) | rfl)
    have cX0_3 : w3.cell? ⟨w1.heap.size, 0, none⟩ = some (.int .i64 u1) := BX3.cell 0
    have cX1_3 : w3.cell? ⟨w1.heap.size, 1, none⟩ = some (.int .i64 v1) := BX3.cell 1
    have lX3 : w1.heap.size < w3.heap.size := BX3.lt
    have mX3 : w1.heap.size < w3.heap.size + 1 := by omega
    have nX3 : w1.heap.size < w3.heap.size + 1 + 1 := by omega
    have BY3 : Blk w3 (w2.heap.size) 38 #[.int .i64 u1, .int .i64 v1] := by
      refine Blk.kept ?_ hb3
      repeat (first | with_reducible exact Blk.new _ _ _ | (with_reducible refine Blk.newAt _ _ _ _ ?_; first | rfl | (simp; done)) | with_reducible apply Blk.alloc | with_reducible apply Blk.drewN | with_reducible apply Blk.drew | with_reducible apply Blk.set_to | (with_reducible apply Blk.far_; (simp only [ne_eq]; omega)) | rfl)
    have cY0_3 : w3.cell? ⟨w2.heap.size, 0, none⟩ = some (.int .i64 u1) := BY3.cell 0
    have cY1_3 : w3.cell? ⟨w2.heap.size, 1, none⟩ = some (.int .i64 v1) := BY3.cell 1
    have lY3 : w2.heap.size < w3.heap.size := BY3.lt
    have mY3 : w2.heap.size < w3.heap.size + 1 := by omega
    have nY3 : w2.heap.size < w3.heap.size + 1 + 1 := by omega
    clear BP2 lP2 mP2 nP2 cP0_2 cP1_2 cP2_2 BQ2 lQ2 mQ2 nQ2 cQ0_2 cQ1_2 cQ2_2 BX2 lX2 mX2 nX2 cX0_2 cX1_2
    have hs3 : w.heap.size ≤ w3.heap.size := by have h := hb3.size; (try simp at h); omega
    go_wp2_with fail
    refine (q4 _).mono ?_
    rintro e w4 ⟨rfl, hb4⟩
    have BP4 : Blk w4 (w.heap.size) 36 #[.int .i64 a, .int .i64 b, .int .i64 c] := by
      refine Blk.kept ?_ hb4
      repeat (first | with_reducible exact BP3 | with_reducible exact Blk.new _ _ _ | (with_reducible refine Blk.newAt _ _ _ _ ?_; first | rfl | (simp; done)) | with_reducible apply Blk.alloc | with_reducible apply Blk.drewN | with_reducible apply Blk.drew | with_reducible apply Blk.set_to | (with_reducible apply Blk.far_; (simp only [ne_eq]; omega)) | rfl)
    have cP0_4 : w4.cell? ⟨w.heap.size, 0, none⟩ = some (.int .i64 a) := BP4.cell 0
    have cP1_4 : w4.cell? ⟨w.heap.size, 1, none⟩ = some (.int .i64 b) := BP4.cell 1
    have cP2_4 : w4.cell? ⟨w.heap.size, 2, none⟩ = some (.int .i64 c) := BP4.cell 2
    have lP4 : w.heap.size < w4.heap.size := BP4.lt
    have mP4 : w.heap.size < w4.heap.size + 1 := by omega
    have nP4 : w.heap.size < w4.heap.size + 1 + 1 := by omega
    have BQ4 : Blk w4 (w.heap.size + 1) 36 #[.int .i64 a', .int .i64 b', .int .i64 c'] := by
      refine Blk.kept ?_ hb4
      repeat (first | with_reducible exact BQ3 | with_reducible exact Blk.new _ _ _ | (with_reducible refine Blk.newAt _ _ _ _ ?_; first | rfl | (simp; done)) | with_reducible apply Blk.alloc | with_reducible apply Blk.drewN | with_reducible apply Blk.drew | with_reducible apply Blk.set_to | (with_reducible apply Blk.far_; (simp only [ne_eq]; omega)) | rfl)
    have cQ0_4 : w4.cell? ⟨w.heap.size + 1, 0, none⟩ = some (.int .i64 a') := BQ4.cell 0
    have cQ1_4 : w4.cell? ⟨w.heap.size + 1, 1, none⟩ = some (.int .i64 b') := BQ4.cell 1
    have cQ2_4 : w4.cell? ⟨w.heap.size + 1, 2, none⟩ = some (.int .i64 c') := BQ4.cell 2
    have lQ4 : w.heap.size + 1 < w4.heap.size := BQ4.lt
    have mQ4 : w.heap.size + 1 < w4.heap.size + 1 := by omega
    have nQ4 : w.heap.size + 1 < w4.heap.size + 1 + 1 := by omega
    have BX4 : Blk w4 (w1.heap.size) 38 #[.int .i64 u1, .int .i64 v1] := by
      refine Blk.kept ?_ hb4
      repeat (first | with_reducible exact BX3 | with_reducible exact Blk.new _ _ _ | (with_reducible refine Blk.newAt _ _ _ _ ?_; first | rfl | (simp; done)) | with_reducible apply Blk.alloc | with_reducible apply Blk.drewN | with_reducible apply Blk.drew | with_reducible apply Blk.set_to | (with_reducible apply Blk.far_; (simp only [ne_eq]; omega)) | rfl)
    have cX0_4 : w4.cell? ⟨w1.heap.size, 0, none⟩ = some (.int .i64 u1) := BX4.cell 0
    have cX1_4 : w4.cell? ⟨w1.heap.size, 1, none⟩ = some (.int .i64 v1) := BX4.cell 1
    have lX4 : w1.heap.size < w4.heap.size := BX4.lt
    have mX4 : w1.heap.size < w4.heap.size + 1 := by omega
    have nX4 : w1.heap.size < w4.heap.size + 1 + 1 := by omega
    have BY4 : Blk w4 (w2.heap.size) 38 #[.int .i64 u1, .int .i64 v1] := by
      refine Blk.kept ?_ hb4
      repeat (first | with_reducible exact BY3 | with_reducible exact Blk.new _ _ _ | (with_reducible refine Blk.newAt _ _ _ _ ?_; first | rfl | (simp; done)) | with_reducible apply Blk.alloc | with_reducible apply Blk.drewN | with_reducible apply Blk.drew | with_reducible apply Blk.set_to | (with_reducible apply Blk.far_; (simp only [ne_eq]; omega)) | rfl)
    have cY0_4 : w4.cell? ⟨w2.heap.size, 0, none⟩ = some (.int .i64 u1) := BY4.cell 0
    have cY1_4 : w4.cell? ⟨w2.heap.size, 1, none⟩ = some (.int .i64 v1) := BY4.cell 1
    have lY4 : w2.heap.size < w4.heap.size := BY4.lt
    have mY4 : w2.heap.size < w4.heap.size + 1 := by omega
    have nY4 : w2.heap.size < w4.heap.size + 1 + 1 := by omega
    clear BP3 lP3 mP3 nP3 cP0_3 cP1_3 cP2_3 BQ3 lQ3 mQ3 nQ3 cQ0_3 cQ1_3 cQ2_3 BX3 lX3 mX3 nX3 cX0_3 cX1_3 BY3 lY3 mY3 nY3 cY0_3 cY1_3
    have hs4 : w.heap.size ≤ w4.heap.size := by have h := hb4.size; (try simp at h); omega
    go_wp2_with fail
    refine Calls.mono (q5 _ ?_) ?_
    · exact ht.kept (by repeat (first | exact Below.refl _ _ | refine below_drewN ?_ _ | refine Below.drew ?_ | refine below_alloc ?_ _ | (refine below_call ?_ (by assumption)) | (refine Below.setCell ?_ ?_ _; rotate_left; (simp; try omega))))
    rintro e w5 ⟨rfl, hb5⟩
    have BP5 : Blk w5 (w.heap.size) 36 #[.int .i64 a, .int .i64 b, .int .i64 c] := by
      refine Blk.kept ?_ hb5
      repeat (first | with_reducible exact BP4 | with_reducible exact Blk.new _ _ _ | (with_reducible refine Blk.newAt _ _ _ _ ?_; first | rfl | (simp; done)) | with_reducible apply Blk.alloc | with_reducible apply Blk.drewN | with_reducible apply Blk.drew | with_reducible apply Blk.set_to | (with_reducible apply Blk.far_; (simp only [ne_eq]; omega)) | rfl)
    have cP0_5 : w5.cell? ⟨w.heap.size, 0, none⟩ = some (.int .i64 a) := BP5.cell 0
    have cP1_5 : w5.cell? ⟨w.heap.size, 1, none⟩ = some (.int .i64 b) := BP5.cell 1
    have cP2_5 : w5.cell? ⟨w.heap.size, 2, none⟩ = some (.int .i64 c) := BP5.cell 2
    have lP5 : w.heap.size < w5.heap.size := BP5.lt
    have mP5 : w.heap.size < w5.heap.size + 1 := by omega
    have nP5 : w.heap.size < w5.heap.size + 1 + 1 := by omega
    have BQ5 : Blk w5 (w.heap.size + 1) 36 #[.int .i64 a', .int .i64 b', .int .i64 c'] := by
      refine Blk.kept ?_ hb5
      repeat (first | with_reducible exact BQ4 | with_reducible exact Blk.new _ _ _ | (with_reducible refine Blk.newAt _ _ _ _ ?_; first | rfl | (simp; done)) | with_reducible apply Blk.alloc | with_reducible apply Blk.drewN | with_reducible apply Blk.drew | with_reducible apply Blk.set_to | (with_reducible apply Blk.far_; (simp only [ne_eq]; omega)) | rfl)
    have cQ0_5 : w5.cell? ⟨w.heap.size + 1, 0, none⟩ = some (.int .i64 a') := BQ5.cell 0
    have cQ1_5 : w5.cell? ⟨w.heap.size + 1, 1, none⟩ = some (.int .i64 b') := BQ5.cell 1
    have cQ2_5 : w5.cell? ⟨w.heap.size + 1, 2, none⟩ = some (.int .i64 c') := BQ5.cell 2
    have lQ5 : w.heap.size + 1 < w5.heap.size := BQ5.lt
    have mQ5 : w.heap.size + 1 < w5.heap.size + 1 := by omega
    have nQ5 : w.heap.size + 1 < w5.heap.size + 1 + 1 := by omega
    have BX5 : Blk w5 (w1.heap.size) 38 #[.int .i64 u1, .int .i64 v1] := by
      refine Blk.kept ?_ hb5
      repeat (first | with_reducible exact BX4 | with_reducible exact Blk.new _ _ _ | (with_reducible refine Blk.newAt _ _ _ _ ?_; first | rfl | (simp; done)) | with_reducible apply Blk.alloc | with_reducible apply Blk.drewN | with_reducible apply Blk.drew | with_reducible apply Blk.set_to | (with_reducible apply Blk.far_; (simp only [ne_eq]; omega)) | rfl)
    have cX0_5 : w5.cell? ⟨w1.heap.size, 0, none⟩ = some (.int .i64 u1) := BX5.cell 0
    have cX1_5 : w5.cell? ⟨w1.heap.size, 1, none⟩ = some (.int .i64 v1) := BX5.cell 1
    have lX5 : w1.heap.size < w5.heap.size := BX5.lt
    have mX5 : w1.heap.size < w5.heap.size + 1 := by omega
    have nX5 : w1.heap.size < w5.heap.size + 1 + 1 := by omega
    have BY5 : Blk w5 (w2.heap.size) 38 #[.int .i64 u1, .int .i64 v1] := by
      refine Blk.kept ?_ hb5
      repeat (first | with_reducible exact BY4 | with_reducible exact Blk.new _ _ _ | (with_reducible refine Blk.newAt _ _ _ _ ?_; first | rfl | (simp; done)) | with_reducible apply Blk.alloc | with_reducible apply Blk.drewN | with_reducible apply Blk.drew | with_reducible apply Blk.set_to | (with_reducible apply Blk.far_; (simp only [ne_eq]; omega)) | rfl)
    have cY0_5 : w5.cell? ⟨w2.heap.size, 0, none⟩ = some (.int .i64 u1) := BY5.cell 0
    have cY1_5 : w5.cell? ⟨w2.heap.size, 1, none⟩ = some (.int .i64 v1) := BY5.cell 1
    have lY5 : w2.heap.size < w5.heap.size := BY5.lt
    have mY5 : w2.heap.size < w5.heap.size + 1 := by omega
    have nY5 : w2.heap.size < w5.heap.size + 1 + 1 := by omega
    clear BP4 lP4 mP4 nP4 cP0_4 cP1_4 cP2_4 BQ4 lQ4 mQ4 nQ4 cQ0_4 cQ1_4 cQ2_4 BX4 lX4 mX4 nX4 cX0_4 cX1_4 BY4 lY4 mY4 nY4 cY0_4 cY1_4
    have hs5 : w.heap.size ≤ w5.heap.size := by have h := hb5.size; (try simp at h); omega
    go_wp2_with fail
    refine (q6 _).mono ?_
    rintro e w6 ⟨rfl, hb6⟩
    have BP6 : Blk w6 (w.heap.size) 36 #[.int .i64 a, .int .i64 b, .int .i64 c] := by
      refine Blk.kept ?_ hb6
      repeat (first | with_reducible exact BP5 | with_reducible exact Blk.new _ _ _ | (with_reducible refine Blk.newAt _ _ _ _ ?_; first | rfl | (simp; done)) | with_reducible apply Blk.alloc | with_reducible apply Blk.drewN | with_reducible apply Blk.drew | with_reducible apply Blk.set_to | (with_reducible apply Blk.far_; (simp only [ne_eq]; omega)) | rfl)
    have cP0_6 : w6.cell? ⟨w.heap.size, 0, none⟩ = some (.int .i64 a) := BP6.cell 0
    have cP1_6 : w6.cell? ⟨w.heap.size, 1, none⟩ = some (.int .i64 b) := BP6.cell 1
    have cP2_6 : w6.cell? ⟨w.heap.size, 2, none⟩ = some (.int .i64 c) := BP6.cell 2
    have lP6 : w.heap.size < w6.heap.size := BP6.lt
    have mP6 : w.heap.size < w6.heap.size + 1 := by omega
    have nP6 : w.heap.size < w6.heap.size + 1 + 1 := by omega
    have BQ6 : Blk w6 (w.heap.size + 1) 36 #[.int .i64 a', .int .i64 b', .int .i64 c'] := by
      refine Blk.kept ?_ hb6
      repeat (first | with_reducible exact BQ5 | with_reducible exact Blk.new _ _ _ | (with_reducible refine Blk.newAt _ _ _ _ ?_; first | rfl | (simp; done)) | with_reducible apply Blk.alloc | with_reducible apply Blk.drewN | with_reducible apply Blk.drew | with_reducible apply Blk.set_to | (with_reducible apply Blk.far_; (simp only [ne_eq]; omega)) | rfl)
    have cQ0_6 : w6.cell? ⟨w.heap.size + 1, 0, none⟩ = some (.int .i64 a') := BQ6.cell 0
    have cQ1_6 : w6.cell? ⟨w.heap.size + 1, 1, none⟩ = some (.int .i64 b') := BQ6.cell 1
    have cQ2_6 : w6.cell? ⟨w.heap.size + 1, 2, none⟩ = some (.int .i64 c') := BQ6.cell 2
    have lQ6 : w.heap.size + 1 < w6.heap.size := BQ6.lt
    have mQ6 : w.heap.size + 1 < w6.heap.size + 1 := by omega
    have nQ6 : w.heap.size + 1 < w6.heap.size + 1 + 1 := by omega
    have BX6 : Blk w6 (w1.heap.size) 38 #[.int .i64 u1, .int .i64 v1] := by
      refine Blk.kept ?_ hb6
      repeat (first | with_reducible exact BX5 | with_reducible exact Blk.new _ _ _ | (with_reducible refine Blk.newAt _ _ _ _ ?_; first | rfl | (simp; done)) | with_reducible apply Blk.alloc | with_reducible apply Blk.drewN | with_reducible apply Blk.drew | with_reducible apply Blk.set_to | (with_reducible apply Blk.far_; (simp only [ne_eq]; omega)) | rfl)
    have cX0_6 : w6.cell? ⟨w1.heap.size, 0, none⟩ = some (.int .i64 u1) := BX6.cell 0
    have cX1_6 : w6.cell? ⟨w1.heap.size, 1, none⟩ = some (.int .i64 v1) := BX6.cell 1
    have lX6 : w1.heap.size < w6.heap.size := BX6.lt
    have mX6 : w1.heap.size < w6.heap.size + 1 := by omega
    have nX6 : w1.heap.size < w6.heap.size + 1 + 1 := by omega
    have BY6 : Blk w6 (w2.heap.size) 38 #[.int .i64 u1, .int .i64 v1] := by
      refine Blk.kept ?_ hb6
      repeat (first | with_reducible exact BY5 | with_reducible exact Blk.new _ _ _ | (with_reducible refine Blk.newAt _ _ _ _ ?_; first | rfl | (simp; done)) | with_reducible apply Blk.alloc | with_reducible apply Blk.drewN | with_reducible apply Blk.drew | with_reducible apply Blk.set_to | (with_reducible apply Blk.far_; (simp only [ne_eq]; omega)) | rfl)
    have cY0_6 : w6.cell? ⟨w2.heap.size, 0, none⟩ = some (.int .i64 u1) := BY6.cell 0
    have cY1_6 : w6.cell? ⟨w2.heap.size, 1, none⟩ = some (.int .i64 v1) := BY6.cell 1
    have lY6 : w2.heap.size < w6.heap.size := BY6.lt
    have mY6 : w2.heap.size < w6.heap.size + 1 := by omega
    have nY6 : w2.heap.size < w6.heap.size + 1 + 1 := by omega
    clear BP5 lP5 mP5 nP5 cP0_5 cP1_5 cP2_5 BQ5 lQ5 mQ5 nQ5 cQ0_5 cQ1_5 cQ2_5 BX5 lX5 mX5 nX5 cX0_5 cX1_5 BY5 lY5 mY5 nY5 cY0_5 cY1_5
    have hs6 : w.heap.size ≤ w6.heap.size := by have h := hb6.size; (try simp at h); omega
    go_wp2_with fail
    refine Calls.mono (q7 _ ?_) ?_
    · exact ht.kept (by repeat (first | exact Below.refl _ _ | refine below_drewN ?_ _ | refine Below.drew ?_ | refine below_alloc ?_ _ | (refine below_call ?_ (by assumption)) | (refine Below.setCell ?_ ?_ _; rotate_left; (simp; try omega))))
    rintro e w7 ⟨rfl, hb7⟩
    have BX7 : Blk w7 (w1.heap.size) 38 #[.int .i64 u1, .int .i64 v1] := by
      refine Blk.kept ?_ hb7
      repeat (first | with_reducible exact BX6 | with_reducible exact Blk.new _ _ _ | (with_reducible refine Blk.newAt _ _ _ _ ?_; first | rfl | (simp; done)) | with_reducible apply Blk.alloc | with_reducible apply Blk.drewN | with_reducible apply Blk.drew | with_reducible apply Blk.set_to | (with_reducible apply Blk.far_; (simp only [ne_eq]; omega)) | rfl)
    have cX0_7 : w7.cell? ⟨w1.heap.size, 0, none⟩ = some (.int .i64 u1) := BX7.cell 0
    have cX1_7 : w7.cell? ⟨w1.heap.size, 1, none⟩ = some (.int .i64 v1) := BX7.cell 1
    have lX7 : w1.heap.size < w7.heap.size := BX7.lt
    have mX7 : w1.heap.size < w7.heap.size + 1 := by omega
    have nX7 : w1.heap.size < w7.heap.size + 1 + 1 := by omega
    have BY7 : Blk w7 (w2.heap.size) 38 #[.int .i64 u1, .int .i64 v1] := by
      refine Blk.kept ?_ hb7
      repeat (first | with_reducible exact BY6 | with_reducible exact Blk.new _ _ _ | (with_reducible refine Blk.newAt _ _ _ _ ?_; first | rfl | (simp; done)) | with_reducible apply Blk.alloc | with_reducible apply Blk.drewN | with_reducible apply Blk.drew | with_reducible apply Blk.set_to | (with_reducible apply Blk.far_; (simp only [ne_eq]; omega)) | rfl)
    have cY0_7 : w7.cell? ⟨w2.heap.size, 0, none⟩ = some (.int .i64 u1) := BY7.cell 0
    have cY1_7 : w7.cell? ⟨w2.heap.size, 1, none⟩ = some (.int .i64 v1) := BY7.cell 1
    have lY7 : w2.heap.size < w7.heap.size := BY7.lt
    have mY7 : w2.heap.size < w7.heap.size + 1 := by omega
    have nY7 : w2.heap.size < w7.heap.size + 1 + 1 := by omega
    clear BP6 lP6 mP6 nP6 cP0_6 cP1_6 cP2_6 BQ6 lQ6 mQ6 nQ6 cQ0_6 cQ1_6 cQ2_6 BX6 lX6 mX6 nX6 cX0_6 cX1_6 BY6 lY6 mY6 nY6 cY0_6 cY1_6
    have hs7 : w.heap.size ≤ w7.heap.size := by have h := hb7.size; (try simp at h); omega
    go_wp2_with fail
    refine (q8 _).mono ?_
    rintro e w8 ⟨rfl, hb8⟩
    have BX8 : Blk w8 (w1.heap.size) 38 #[.int .i64 u1, .int .i64 v1] := by
      refine Blk.kept ?_ hb8
      repeat (first | with_reducible exact BX7 | with_reducible exact Blk.new _ _ _ | (with_reducible refine Blk.newAt _ _ _ _ ?_; first | rfl | (simp; done)) | with_reducible apply Blk.alloc | with_reducible apply Blk.drewN | with_reducible apply Blk.drew | with_reducible apply Blk.set_to | (with_reducible apply Blk.far_; (simp only [ne_eq]; omega)) | rfl)
    have cX0_8 : w8.cell? ⟨w1.heap.size, 0, none⟩ = some (.int .i64 u1) := BX8.cell 0
    have cX1_8 : w8.cell? ⟨w1.heap.size, 1, none⟩ = some (.int .i64 v1) := BX8.cell 1
    have lX8 : w1.heap.size < w8.heap.size := BX8.lt
    have mX8 : w1.heap.size < w8.heap.size + 1 := by omega
    have nX8 : w1.heap.size < w8.heap.size + 1 + 1 := by omega
    have BY8 : Blk w8 (w2.heap.size) 38 #[.int .i64 u1, .int .i64 v1] := by
      refine Blk.kept ?_ hb8
      repeat (first | with_reducible exact BY7 | with_reducible exact Blk.new _ _ _ | (with_reducible refine Blk.newAt _ _ _ _ ?_; first | rfl | (simp; done)) | with_reducible apply Blk.alloc | with_reducible apply Blk.drewN | with_reducible apply Blk.drew | with_reducible apply Blk.set_to | (with_reducible apply Blk.far_; (simp only [ne_eq]; omega)) | rfl)
    have cY0_8 : w8.cell? ⟨w2.heap.size, 0, none⟩ = some (.int .i64 u1) := BY8.cell 0
    have cY1_8 : w8.cell? ⟨w2.heap.size, 1, none⟩ = some (.int .i64 v1) := BY8.cell 1
    have lY8 : w2.heap.size < w8.heap.size := BY8.lt
    have mY8 : w2.heap.size < w8.heap.size + 1 := by omega
    have nY8 : w2.heap.size < w8.heap.size + 1 + 1 := by omega
    have BV8 : Blk w8 (w7.heap.size) 38 #[.int .i64 u, .int .i64 v] := by
      refine Blk.kept ?_ hb8
      repeat (first | with_reducible exact Blk.new _ _ _ | (with_reducible refine Blk.newAt _ _ _ _ ?_; first | rfl | (simp; done)) | with_reducible apply Blk.alloc | with_reducible apply Blk.drewN | with_reducible apply Blk.drew | with_reducible apply Blk.set_to | (with_reducible apply Blk.far_; (simp only [ne_eq]; omega)) | rfl)
    have cV0_8 : w8.cell? ⟨w7.heap.size, 0, none⟩ = some (.int .i64 u) := BV8.cell 0
    have cV1_8 : w8.cell? ⟨w7.heap.size, 1, none⟩ = some (.int .i64 v) := BV8.cell 1
    have lV8 : w7.heap.size < w8.heap.size := BV8.lt
    have mV8 : w7.heap.size < w8.heap.size + 1 := by omega
    have nV8 : w7.heap.size < w8.heap.size + 1 + 1 := by omega
    clear BX7 lX7 mX7 nX7 cX0_7 cX1_7 BY7 lY7 mY7 nY7 cY0_7 cY1_7
    have hs8 : w.heap.size ≤ w8.heap.size := by have h := hb8.size; (try simp at h); omega
    go_wp2_with fail
    refine Calls.mono (q9 _ ?_) ?_
    · exact ht.kept (by repeat (first | exact Below.refl _ _ | refine below_drewN ?_ _ | refine Below.drew ?_ | refine below_alloc ?_ _ | (refine below_call ?_ (by assumption)) | (refine Below.setCell ?_ ?_ _; rotate_left; (simp; try omega))))
    rintro e w9 ⟨rfl, hb9⟩
    have BX9 : Blk w9 (w1.heap.size) 38 #[.int .i64 u1, .int .i64 v1] := by
      refine Blk.kept ?_ hb9
      repeat (first | with_reducible exact BX8 | with_reducible exact Blk.new _ _ _ | (with_reducible refine Blk.newAt _ _ _ _ ?_; first | rfl | (simp; done)) | with_reducible apply Blk.alloc | with_reducible apply Blk.drewN | with_reducible apply Blk.drew | with_reducible apply Blk.set_to | (with_reducible apply Blk.far_; (simp only [ne_eq]; omega)) | rfl)
    have cX0_9 : w9.cell? ⟨w1.heap.size, 0, none⟩ = some (.int .i64 u1) := BX9.cell 0
    have cX1_9 : w9.cell? ⟨w1.heap.size, 1, none⟩ = some (.int .i64 v1) := BX9.cell 1
    have lX9 : w1.heap.size < w9.heap.size := BX9.lt
    have mX9 : w1.heap.size < w9.heap.size + 1 := by omega
    have nX9 : w1.heap.size < w9.heap.size + 1 + 1 := by omega
    have BY9 : Blk w9 (w2.heap.size) 38 #[.int .i64 u1, .int .i64 v1] := by
      refine Blk.kept ?_ hb9
      repeat (first | with_reducible exact BY8 | with_reducible exact Blk.new _ _ _ | (with_reducible refine Blk.newAt _ _ _ _ ?_; first | rfl | (simp; done)) | with_reducible apply Blk.alloc | with_reducible apply Blk.drewN | with_reducible apply Blk.drew | with_reducible apply Blk.set_to | (with_reducible apply Blk.far_; (simp only [ne_eq]; omega)) | rfl)
    have cY0_9 : w9.cell? ⟨w2.heap.size, 0, none⟩ = some (.int .i64 u1) := BY9.cell 0
    have cY1_9 : w9.cell? ⟨w2.heap.size, 1, none⟩ = some (.int .i64 v1) := BY9.cell 1
    have lY9 : w2.heap.size < w9.heap.size := BY9.lt
    have mY9 : w2.heap.size < w9.heap.size + 1 := by omega
    have nY9 : w2.heap.size < w9.heap.size + 1 + 1 := by omega
    have BV9 : Blk w9 (w7.heap.size) 38 #[.int .i64 u, .int .i64 v] := by
      refine Blk.kept ?_ hb9
      repeat (first | with_reducible exact BV8 | with_reducible exact Blk.new _ _ _ | (with_reducible refine Blk.newAt _ _ _ _ ?_; first | rfl | (simp; done)) | with_reducible apply Blk.alloc | with_reducible apply Blk.drewN | with_reducible apply Blk.drew | with_reducible apply Blk.set_to | (with_reducible apply Blk.far_; (simp only [ne_eq]; omega)) | rfl)
    have cV0_9 : w9.cell? ⟨w7.heap.size, 0, none⟩ = some (.int .i64 u) := BV9.cell 0
    have cV1_9 : w9.cell? ⟨w7.heap.size, 1, none⟩ = some (.int .i64 v) := BV9.cell 1
    have lV9 : w7.heap.size < w9.heap.size := BV9.lt
    have mV9 : w7.heap.size < w9.heap.size + 1 := by omega
    have nV9 : w7.heap.size < w9.heap.size + 1 + 1 := by omega
    have BU9 : Blk w9 (w8.heap.size) 38 #[.int .i64 u, .int .i64 v] := by
      refine Blk.kept ?_ hb9
      repeat (first | with_reducible exact Blk.new _ _ _ | (with_reducible refine Blk.newAt _ _ _ _ ?_; first | rfl | (simp; done)) | with_reducible apply Blk.alloc | with_reducible apply Blk.drewN | with_reducible apply Blk.drew | with_reducible apply Blk.set_to | (with_reducible apply Blk.far_; (simp only [ne_eq]; omega)) | rfl)
    have cU0_9 : w9.cell? ⟨w8.heap.size, 0, none⟩ = some (.int .i64 u) := BU9.cell 0
    have cU1_9 : w9.cell? ⟨w8.heap.size, 1, none⟩ = some (.int .i64 v) := BU9.cell 1
    have lU9 : w8.heap.size < w9.heap.size := BU9.lt
    have mU9 : w8.heap.size < w9.heap.size + 1 := by omega
    have nU9 : w8.heap.size < w9.heap.size + 1 + 1 := by omega
    clear BX8 lX8 mX8 nX8 cX0_8 cX1_8 BY8 lY8 mY8 nY8 cY0_8 cY1_8 BV8 lV8 mV8 nV8 cV0_8 cV1_8
    have hs9 : w.heap.size ≤ w9.heap.size := by have h := hb9.size; (try simp at h); omega
    have kb : Below w.heap.size w w9 := by repeat (first | exact Below.refl _ _ | refine below_drewN ?_ _ | refine Below.drew ?_ | refine below_alloc ?_ _ | (refine below_call ?_ (by assumption)) | (refine Below.setCell ?_ ?_ _; rotate_left; (simp; try omega)))
    go_wp2
    go_ret
    exact ⟨rfl, by repeat (first | with_reducible exact Below.refl _ _ | with_reducible assumption | with_reducible refine below_drewN ?_ _ | with_reducible refine Below.drew ?_ | with_reducible refine below_alloc ?_ _ | (with_reducible refine Below.setCell ?_ ?_ _; rotate_left; ((try simp only); omega)))⟩
def laids : List (String × DataW Unit) := Rows.intervalKindsRow.laid
theorem door_met (os : Os) (args : Array Value) : laidMetH Tryd.prog laids ((World.doorLaid Tryd.prog 80 os).forCall (fun _ _ => 0) ⟨#[], args, []⟩).memory :=
  laidMetH_of_parts3 (fuel := 8) (laidMet_of_run' 8 (by kernel_rfl) (by kernel_rfl)) (by kernel_rfl) (by kernel_rfl)
theorem tabs_of {W : World} (h : laidMetH Tryd.prog laids W) : Tabs2 W := by
  rw [MakeChecks.laidMetH_plain _ _ _ (by kernel_rfl)] at h
  exact ⟨tabs_of_list h (by kernel_rfl) (by kernel_rfl) (by kernel_rfl), sent_of_list h (by kernel_rfl)⟩
set_option maxRecDepth 100000 in
theorem lifted (os : Os) (started : os.Started) (H : Type) (enc : TypeId × Value → H) :
    ReturnsInHanded {} Tryd.checked os 4 .any (fun w args => (Rows.intervalKindsSpec.pre enc Tryd.prog Tryd.f4 [] false w args ∧ laidMetH Tryd.prog laids w) ∧ sizedMet enc Tryd.prog Tryd.f4 (OpenSpec.ofChange Rows.intervalKindsSpec) false w args) (Rows.intervalKindsSpec.post enc Tryd.prog Tryd.f4 false true false false) := by
  refine returnsInHanded_of_change_and (C := Tryd.checked) (X := fun w _ => laidMetH Tryd.prog laids w) (fun _ _ _ hh h => h.of_heap hh) own started (by kernel_rfl) Tryd.func4
    (ChangeSpec.witness_shaped (enc := enc) (C := Tryd.checked) (os := os) (X := fun w _ => laidMetH Tryd.prog laids w) false (World.doorLaid Tryd.prog 80 os) #[.agg #[.int .i64 0, .int .i64 0, .int .i64 0], .agg #[.int .i64 0, .int .i64 0, .int .i64 0], .string ByteArray.empty] 8 rfl (World.shaped_of_RefB (by kernel_rfl) (by kernel_rfl)) (by kernel_rfl) (by kernel_rfl) (by kernel_rfl) (door_met os _)) ?_
  intro W base args ds gs before hval0 hW _ _ hL _
  have hval : ∀ (j : Nat) t v, Tryd.f4.params[j]? = some t → args[j]? = some v → Value.okWide Tryd.prog W .any base t v := hval0
  have hW' := hW
  obtain ⟨p, q, hA0, hV, rfl, hfz, hnd⟩ := hW
  have hA : DataW.TrodAll enc Tryd.prog W 0 (fun _ => true) true Tryd.f4.params.toList args.toList ds p := hA0
  rw [Tryd.params4] at hA hval
  obtain ⟨v0, vs0, d0, ds0, p0, q0, hargs, rfl, rfl, h0, r0⟩ := trodAll_cons hA
  obtain ⟨v1, vs1, d1, ds1, p1, q1, rfl, rfl, rfl, h1, r1⟩ := trodAll_cons r0
  obtain ⟨v2, vs2, d2, ds2, p2, q2, rfl, rfl, rfl, h2, r2⟩ := trodAll_cons r1
  obtain ⟨rfl, rfl, rfl⟩ := trodAll_nil r2
  obtain rfl : args = #[v0, v1, v2] := by cases args; simp_all
  obtain ⟨rfl, rfl⟩ := trodVars_none hV
  have k0 := h0
  have lt0 : ∀ x ∈ p0, x.block < W.heap.size := by obtain ⟨m, hm⟩ := k0; exact DataW.trod_lt m _ _ _ hm
  obtain ⟨a0, b0, c0, rfl, w0⟩ := arg_pitch (hval 0 36 v0 rfl rfl) h0
  have k1 := h1
  have lt1 : ∀ x ∈ p1, x.block < W.heap.size := by obtain ⟨m, hm⟩ := k1; exact DataW.trod_lt m _ _ _ hm
  obtain ⟨a1, b1, c1, rfl, w1⟩ := arg_pitch (hval 1 36 v1 rfl rfl) h1
  have k2 := h2
  have lt2 : ∀ x ∈ p2, x.block < W.heap.size := by obtain ⟨m, hm⟩ := k2; exact DataW.trod_lt m _ _ _ hm
  obtain ⟨a2, rfl, w2⟩ := arg_string (hval 2 9 v2 rfl rfl) h2
  clear hA0 hval0
  refine (walk (a0, b0, c0) (a1, b1, c1) a2 W w2 (tabs_of hL)).mono fun e W' ⟨he, bel⟩ => ?_
  subst he
  exact ⟨_, rfl, _, _, _, [], _, [], hW', trodAll_mk1 (shut_bool Tryd.underlying4 _), (trodAll_cons_mk (Below.trod laidOut (by kernel_rfl) (of_decide_eq_true (by kernel_rfl)) k0 bel lt0) (trodAll_cons_mk (Below.trod laidOut (by kernel_rfl) (of_decide_eq_true (by kernel_rfl)) k1 bel lt1) (trodAll_cons_mk (Below.trod laidOut (by kernel_rfl) (of_decide_eq_true (by kernel_rfl)) k2 bel lt2) trodAll_mk0))), rfl, bel.frame _, fun h => by cases h⟩

theorem over : Rows.IntervalKindsSaid :=
  OpenClaim.holds_of_wide 4 Tryd.f4 rfl rfl rfl rfl rfl rfl rfl ⟨rfl, rfl, rfl, rfl, rfl⟩ rfl rfl rfl rfl rfl (by kernel_rfl) Tryd.func4 (by kernel_rfl)
    (of_decide_eq_true (by kernel_rfl)) (by unfold Func.isWrapper; first | (rw [if_pos (by decide +kernel)]; kernel_rfl) | (rw [if_neg (by decide +kernel)]; exact ⟨rfl, rfl⟩))
    (fun os started H enc _ => lifted os started H enc)

/-- The card: the row, its variables tied to the program's text. -/
theorem proved : Rows.IntervalKindsCardSaid :=
  Claim7.holds_tied_plain_at .later [] [.data, .data, .data, .sentinel, .sentinel, .data, .data, .data] true Rows.intervalKindsCard.stood.harness Rows.intervalKindsCard.stood.looks
    over (fun _ h => by cases h) (by kernel_rfl) (fun _ h => by cases h) intervalKinds_row_tie rfl ⟨rfl, rfl⟩ (by kernel_rfl) rfl
    (fun f fn hf hfn => by
      obtain rfl : f = 4 := Option.some.inj ((show Tryd.prog.funcNamed Tryd.f4.name = some 4 by kernel_rfl).symm.trans hf) |>.symm
      obtain rfl : fn = Tryd.f4 := (Option.some.inj (Tryd.func4.symm.trans hfn)).symm
      exact ⟨by kernel_rfl, fun j t ht => by
        rw [Tryd.params4] at ht
        have hm : t ∈ Tryd.f4.params.toList := by rw [Tryd.params4]; simpa using Array.mem_of_getElem? ht
        have hall : (Tryd.f4.params.toList.all fun u => !Tryd.prog.wantsStandIn u) = true := by kernel_rfl
        exact (show Tryd.prog.wantsStandIn t = false by simpa using List.all_eq_true.1 hall t hm)⟩)
    (by kernel_rfl)

end Go.Proofs.YtmbnpblejhlefaaDoor.intervalKinds
