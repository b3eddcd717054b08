/- The walks through the reference's name of an interval, and Name. -/
import Derived.Test.YtmbnpblejhlefaaDoorChRefNameA
import Derived.Test.YtmbnpblejhlefaaDoorChRefNameB
namespace Go.Proofs.YtmbnpblejhlefaaDoor
open Go.RowKit
theorem rnamed_any (x : Int × Int) (w : World) (h0 : 0 ≤ x.1) (h1 : x.1 ≤ 62) (h2 : -400 ≤ x.2) (h3 : x.2 ≤ 400) :
    Calls Tryd.prog 51 #[.agg #[.int .i64 x.1, .int .i64 x.2]] w fun e w' => e = .returned (.string (nameX x)) ∧ Below w.heap.size w w' := by
  obtain ⟨u, v⟩ := x
  simp only at h0 h1 h2 h3
  have hs0 : 0 ≤ (simI (u, v)).1 := by unfold simI; simp only; omega
  have hs1 : (simI (u, v)).1 ≤ 6 := by unfold simI; simp only; omega
  obtain ⟨m, rfl⟩ := Int.eq_ofNat_of_zero_le h0
  obtain ⟨⟨s, h⟩, hs⟩ : ∃ t, t = simI ((m : Int), v) := ⟨_, rfl⟩
  rw [← hs] at hs0 hs1
  simp only at hs0 hs1
  obtain rfl | rfl | rfl | rfl | rfl | rfl | rfl := step_cases hs0 hs1
  · exact rnamed_0 m v h w (by omega) h2 h3 hs.symm
  · exact rnamed_1 m v h w (by omega) h2 h3 hs.symm
  · exact rnamed_2 m v h w (by omega) h2 h3 hs.symm
  · exact rnamed_3 m v h w (by omega) h2 h3 hs.symm
  · exact rnamed_4 m v h w (by omega) h2 h3 hs.symm
  · exact rnamed_5 m v h w (by omega) h2 h3 hs.symm
  · exact rnamed_6 m v h w (by omega) h2 h3 hs.symm
set_option maxRecDepth 100000 in
set_option maxHeartbeats 1000000 in
theorem rName_any (p q : Int × Int × Int) (w : World) :
    Calls Tryd.prog 24 #[vP p, vP q] w fun e w' => e = .returned (.tuple #[.string (nameE p q).1, .int .i64 (nameE p q).2]) ∧ Below w.heap.size w w' := by
  have q1 := rboth_any p q
  by_cases hz : bothP p q = 0
  · have hu0 : upE p q = (upI p q, 0) := by unfold upE; rw [hz, if_neg (fun h => h rfl)]
    rw [hz] at q1
    obtain ⟨hp, hq⟩ := bothP_ok hz
    have q2 := rUp_ok p q hp hq
    have HB := upI_bd hp hq
    obtain ⟨⟨u, v⟩, hu⟩ : ∃ t, t = upI p q := ⟨_, rfl⟩
    have E := Lib.hid (show nameE p q = if nameX (u, v) = ⟨#[]⟩ then (⟨#[]⟩, 18) else (nameX (u, v), 0) by unfold nameE; rw [hu0, if_neg (fun h => h rfl), ← hu])
    rw [← hu] at q2 HB
    simp only at HB
    have q3 := fun w => rnamed_any (u, v) w HB.1 HB.2.1 (by simp only; omega) (by simp only; omega)
    obtain ⟨tx, htx⟩ : ∃ t, t = nameX (u, v) := ⟨_, rfl⟩
    rw [← htx] at q3 E
    clear htx hu HB hp hq hz hu0
    obtain ⟨a, b, c⟩ := p
    obtain ⟨a', b', c'⟩ := q
    by_cases hx : tx = ⟨#[]⟩
    · have E := Lib.hid (show nameE (a, b, c) (a', b', c') = (⟨#[]⟩, 18) by rw [E.out, if_pos hx])
      subst hx
      go_enter Tryd.func24, Tryd.ntmps24
      go_wp2_with fail
      refine (q1 _).mono ?_
      rintro e w1 ⟨rfl, hb1⟩
      have BP1 : Blk w1 (w.heap.size) 36 #[.int .i64 a, .int .i64 b, .int .i64 c] := by
        refine Blk.kept ?_ hb1
        repeat (first | with_reducible exact Blk.new _ _ _ | (with_reducible refine Blk.newAt _ _ _ _ ?_; first | rfl | (simp; done)) | with_reducible apply Blk.alloc | with_reducible apply Blk.drewN | with_reducible apply Blk.drew | with_reducible apply Blk.set_to | (with_reducible apply Blk.far_; (simp only [ne_eq]; omega)) | rfl)
      have cP0_1 : w1.cell? ⟨w.heap.size, 0, none⟩ = some (.int .i64 a) := BP1.cell 0
      have cP1_1 : w1.cell? ⟨w.heap.size, 1, none⟩ = some (.int .i64 b) := BP1.cell 1
      have cP2_1 : w1.cell? ⟨w.heap.size, 2, none⟩ = some (.int .i64 c) := BP1.cell 2
      have lP1 : w.heap.size < w1.heap.size := BP1.lt
      have mP1 : w.heap.size < w1.heap.size + 1 := by omega
      have nP1 : w.heap.size < w1.heap.size + 1 + 1 := by omega
      have BQ1 : Blk w1 (w.heap.size + 1) 36 #[.int .i64 a', .int .i64 b', .int .i64 c'] := by
        refine Blk.kept ?_ hb1
        repeat (first | with_reducible exact Blk.new _ _ _ | (with_reducible refine Blk.newAt _ _ _ _ ?_; first | rfl | (simp; done)) | with_reducible apply Blk.alloc | with_reducible apply Blk.drewN | with_reducible apply Blk.drew | with_reducible apply Blk.set_to | (with_reducible apply Blk.far_; (simp only [ne_eq]; omega)) | rfl)
      have cQ0_1 : w1.cell? ⟨w.heap.size + 1, 0, none⟩ = some (.int .i64 a') := BQ1.cell 0
      have cQ1_1 : w1.cell? ⟨w.heap.size + 1, 1, none⟩ = some (.int .i64 b') := BQ1.cell 1
      have cQ2_1 : w1.cell? ⟨w.heap.size + 1, 2, none⟩ = some (.int .i64 c') := BQ1.cell 2
      have lQ1 : w.heap.size + 1 < w1.heap.size := BQ1.lt
      have mQ1 : w.heap.size + 1 < w1.heap.size + 1 := by omega
      have nQ1 : w.heap.size + 1 < w1.heap.size + 1 + 1 := by omega
      have hs1 : w.heap.size ≤ w1.heap.size := by have h := hb1.size; (try simp at h); omega
      go_wp2_with fail
      refine (q2 _).mono ?_
      rintro e w2 ⟨rfl, hb2⟩
      have BP2 : Blk w2 (w.heap.size) 36 #[.int .i64 a, .int .i64 b, .int .i64 c] := by
        refine Blk.kept ?_ hb2
        repeat (first | with_reducible exact BP1 | with_reducible exact Blk.new _ _ _ | (with_reducible refine Blk.newAt _ _ _ _ ?_; first | rfl | (simp; done)) | with_reducible apply Blk.alloc | with_reducible apply Blk.drewN | with_reducible apply Blk.drew | with_reducible apply Blk.set_to | (with_reducible apply Blk.far_; (simp only [ne_eq]; omega)) | rfl)
      have cP0_2 : w2.cell? ⟨w.heap.size, 0, none⟩ = some (.int .i64 a) := BP2.cell 0
      have cP1_2 : w2.cell? ⟨w.heap.size, 1, none⟩ = some (.int .i64 b) := BP2.cell 1
      have cP2_2 : w2.cell? ⟨w.heap.size, 2, none⟩ = some (.int .i64 c) := BP2.cell 2
      have lP2 : w.heap.size < w2.heap.size := BP2.lt
      have mP2 : w.heap.size < w2.heap.size + 1 := by omega
      have nP2 : w.heap.size < w2.heap.size + 1 + 1 := by omega
      have BQ2 : Blk w2 (w.heap.size + 1) 36 #[.int .i64 a', .int .i64 b', .int .i64 c'] := by
        refine Blk.kept ?_ hb2
        repeat (first | with_reducible exact BQ1 | with_reducible exact Blk.new _ _ _ | (with_reducible refine Blk.newAt _ _ _ _ ?_; first | rfl | (simp; done)) | with_reducible apply Blk.alloc | with_reducible apply Blk.drewN | with_reducible apply Blk.drew | with_reducible apply Blk.set_to | (with_reducible apply Blk.far_; (simp only [ne_eq]; omega)) | rfl)
      have cQ0_2 : w2.cell? ⟨w.heap.size + 1, 0, none⟩ = some (.int .i64 a') := BQ2.cell 0
      have cQ1_2 : w2.cell? ⟨w.heap.size + 1, 1, none⟩ = some (.int .i64 b') := BQ2.cell 1
      have cQ2_2 : w2.cell? ⟨w.heap.size + 1, 2, none⟩ = some (.int .i64 c') := BQ2.cell 2
      have lQ2 : w.heap.size + 1 < w2.heap.size := BQ2.lt
      have mQ2 : w.heap.size + 1 < w2.heap.size + 1 := by omega
      have nQ2 : w.heap.size + 1 < w2.heap.size + 1 + 1 := by omega
      clear BP1 lP1 mP1 nP1 cP0_1 cP1_1 cP2_1 BQ1 lQ1 mQ1 nQ1 cQ0_1 cQ1_1 cQ2_1
      have hs2 : w.heap.size ≤ w2.heap.size := by have h := hb2.size; (try simp at h); omega
      go_wp2_with fail
      refine (q3 _).mono ?_
      rintro e w3 ⟨rfl, hb3⟩
      have BP3 : Blk w3 (w.heap.size) 36 #[.int .i64 a, .int .i64 b, .int .i64 c] := by
        refine Blk.kept ?_ hb3
        repeat (first | with_reducible exact BP2 | with_reducible exact Blk.new _ _ _ | (with_reducible refine Blk.newAt _ _ _ _ ?_; first | rfl | (simp; done)) | with_reducible apply Blk.alloc | with_reducible apply Blk.drewN | with_reducible apply Blk.drew | with_reducible apply Blk.set_to | (with_reducible apply Blk.far_; (simp only [ne_eq]; omega)) | rfl)
      have cP0_3 : w3.cell? ⟨w.heap.size, 0, none⟩ = some (.int .i64 a) := BP3.cell 0
      have cP1_3 : w3.cell? ⟨w.heap.size, 1, none⟩ = some (.int .i64 b) := BP3.cell 1
      have cP2_3 : w3.cell? ⟨w.heap.size, 2, none⟩ = some (.int .i64 c) := BP3.cell 2
      have lP3 : w.heap.size < w3.heap.size := BP3.lt
      have mP3 : w.heap.size < w3.heap.size + 1 := by omega
      have nP3 : w.heap.size < w3.heap.size + 1 + 1 := by omega
      have BQ3 : Blk w3 (w.heap.size + 1) 36 #[.int .i64 a', .int .i64 b', .int .i64 c'] := by
        refine Blk.kept ?_ hb3
        repeat (first | with_reducible exact BQ2 | with_reducible exact Blk.new _ _ _ | (with_reducible refine Blk.newAt _ _ _ _ ?_; first | rfl | (simp; done)) | with_reducible apply Blk.alloc | with_reducible apply Blk.drewN | with_reducible apply Blk.drew | with_reducible apply Blk.set_to | (with_reducible apply Blk.far_; (simp only [ne_eq]; omega)) | rfl)
      have cQ0_3 : w3.cell? ⟨w.heap.size + 1, 0, none⟩ = some (.int .i64 a') := BQ3.cell 0
      have cQ1_3 : w3.cell? ⟨w.heap.size + 1, 1, none⟩ = some (.int .i64 b') := BQ3.cell 1
      have cQ2_3 : w3.cell? ⟨w.heap.size + 1, 2, none⟩ = some (.int .i64 c') := BQ3.cell 2
      have lQ3 : w.heap.size + 1 < w3.heap.size := BQ3.lt
      have mQ3 : w.heap.size + 1 < w3.heap.size + 1 := by omega
      have nQ3 : w.heap.size + 1 < w3.heap.size + 1 + 1 := by omega
      clear BP2 lP2 mP2 nP2 cP0_2 cP1_2 cP2_2 BQ2 lQ2 mQ2 nQ2 cQ0_2 cQ1_2 cQ2_2
      have hs3 : w.heap.size ≤ w3.heap.size := by have h := hb3.size; (try simp at h); omega
      have kb : Below w.heap.size w w3 := by repeat (first | exact Below.refl _ _ | refine below_drewN ?_ _ | refine Below.drew ?_ | refine below_alloc ?_ _ | (refine below_call ?_ (by assumption)) | (refine Below.setCell ?_ ?_ _; rotate_left; (simp; try omega)))
      go_wp2
      go_ret2
      rw [E.out]
      exact ⟨rfl, by repeat (first | with_reducible exact Below.refl _ _ | with_reducible assumption | with_reducible refine below_drewN ?_ _ | with_reducible refine Below.drew ?_ | with_reducible refine below_alloc ?_ _ | (with_reducible refine Below.setCell ?_ ?_ _; rotate_left; ((try simp only); omega)))⟩
    · have E := Lib.hid (show nameE (a, b, c) (a', b', c') = (tx, 0) by rw [E.out, if_neg hx])
      have dx := notEmpty hx
      go_enter Tryd.func24, Tryd.ntmps24
      go_wp2_with fail
      refine (q1 _).mono ?_
      rintro e w1 ⟨rfl, hb1⟩
      have BP1 : Blk w1 (w.heap.size) 36 #[.int .i64 a, .int .i64 b, .int .i64 c] := by
        refine Blk.kept ?_ hb1
        repeat (first | with_reducible exact Blk.new _ _ _ | (with_reducible refine Blk.newAt _ _ _ _ ?_; first | rfl | (simp; done)) | with_reducible apply Blk.alloc | with_reducible apply Blk.drewN | with_reducible apply Blk.drew | with_reducible apply Blk.set_to | (with_reducible apply Blk.far_; (simp only [ne_eq]; omega)) | rfl)
      have cP0_1 : w1.cell? ⟨w.heap.size, 0, none⟩ = some (.int .i64 a) := BP1.cell 0
      have cP1_1 : w1.cell? ⟨w.heap.size, 1, none⟩ = some (.int .i64 b) := BP1.cell 1
      have cP2_1 : w1.cell? ⟨w.heap.size, 2, none⟩ = some (.int .i64 c) := BP1.cell 2
      have lP1 : w.heap.size < w1.heap.size := BP1.lt
      have mP1 : w.heap.size < w1.heap.size + 1 := by omega
      have nP1 : w.heap.size < w1.heap.size + 1 + 1 := by omega
      have BQ1 : Blk w1 (w.heap.size + 1) 36 #[.int .i64 a', .int .i64 b', .int .i64 c'] := by
        refine Blk.kept ?_ hb1
        repeat (first | with_reducible exact Blk.new _ _ _ | (with_reducible refine Blk.newAt _ _ _ _ ?_; first | rfl | (simp; done)) | with_reducible apply Blk.alloc | with_reducible apply Blk.drewN | with_reducible apply Blk.drew | with_reducible apply Blk.set_to | (with_reducible apply Blk.far_; (simp only [ne_eq]; omega)) | rfl)
      have cQ0_1 : w1.cell? ⟨w.heap.size + 1, 0, none⟩ = some (.int .i64 a') := BQ1.cell 0
      have cQ1_1 : w1.cell? ⟨w.heap.size + 1, 1, none⟩ = some (.int .i64 b') := BQ1.cell 1
      have cQ2_1 : w1.cell? ⟨w.heap.size + 1, 2, none⟩ = some (.int .i64 c') := BQ1.cell 2
      have lQ1 : w.heap.size + 1 < w1.heap.size := BQ1.lt
      have mQ1 : w.heap.size + 1 < w1.heap.size + 1 := by omega
      have nQ1 : w.heap.size + 1 < w1.heap.size + 1 + 1 := by omega
      have hs1 : w.heap.size ≤ w1.heap.size := by have h := hb1.size; (try simp at h); omega
      go_wp2_with fail
      refine (q2 _).mono ?_
      rintro e w2 ⟨rfl, hb2⟩
      have BP2 : Blk w2 (w.heap.size) 36 #[.int .i64 a, .int .i64 b, .int .i64 c] := by
        refine Blk.kept ?_ hb2
        repeat (first | with_reducible exact BP1 | with_reducible exact Blk.new _ _ _ | (with_reducible refine Blk.newAt _ _ _ _ ?_; first | rfl | (simp; done)) | with_reducible apply Blk.alloc | with_reducible apply Blk.drewN | with_reducible apply Blk.drew | with_reducible apply Blk.set_to | (with_reducible apply Blk.far_; (simp only [ne_eq]; omega)) | rfl)
      have cP0_2 : w2.cell? ⟨w.heap.size, 0, none⟩ = some (.int .i64 a) := BP2.cell 0
      have cP1_2 : w2.cell? ⟨w.heap.size, 1, none⟩ = some (.int .i64 b) := BP2.cell 1
      have cP2_2 : w2.cell? ⟨w.heap.size, 2, none⟩ = some (.int .i64 c) := BP2.cell 2
      have lP2 : w.heap.size < w2.heap.size := BP2.lt
      have mP2 : w.heap.size < w2.heap.size + 1 := by omega
      have nP2 : w.heap.size < w2.heap.size + 1 + 1 := by omega
      have BQ2 : Blk w2 (w.heap.size + 1) 36 #[.int .i64 a', .int .i64 b', .int .i64 c'] := by
        refine Blk.kept ?_ hb2
        repeat (first | with_reducible exact BQ1 | with_reducible exact Blk.new _ _ _ | (with_reducible refine Blk.newAt _ _ _ _ ?_; first | rfl | (simp; done)) | with_reducible apply Blk.alloc | with_reducible apply Blk.drewN | with_reducible apply Blk.drew | with_reducible apply Blk.set_to | (with_reducible apply Blk.far_; (simp only [ne_eq]; omega)) | rfl)
      have cQ0_2 : w2.cell? ⟨w.heap.size + 1, 0, none⟩ = some (.int .i64 a') := BQ2.cell 0
      have cQ1_2 : w2.cell? ⟨w.heap.size + 1, 1, none⟩ = some (.int .i64 b') := BQ2.cell 1
      have cQ2_2 : w2.cell? ⟨w.heap.size + 1, 2, none⟩ = some (.int .i64 c') := BQ2.cell 2
      have lQ2 : w.heap.size + 1 < w2.heap.size := BQ2.lt
      have mQ2 : w.heap.size + 1 < w2.heap.size + 1 := by omega
      have nQ2 : w.heap.size + 1 < w2.heap.size + 1 + 1 := by omega
      clear BP1 lP1 mP1 nP1 cP0_1 cP1_1 cP2_1 BQ1 lQ1 mQ1 nQ1 cQ0_1 cQ1_1 cQ2_1
      have hs2 : w.heap.size ≤ w2.heap.size := by have h := hb2.size; (try simp at h); omega
      go_wp2_with fail
      refine (q3 _).mono ?_
      rintro e w3 ⟨rfl, hb3⟩
      have BP3 : Blk w3 (w.heap.size) 36 #[.int .i64 a, .int .i64 b, .int .i64 c] := by
        refine Blk.kept ?_ hb3
        repeat (first | with_reducible exact BP2 | with_reducible exact Blk.new _ _ _ | (with_reducible refine Blk.newAt _ _ _ _ ?_; first | rfl | (simp; done)) | with_reducible apply Blk.alloc | with_reducible apply Blk.drewN | with_reducible apply Blk.drew | with_reducible apply Blk.set_to | (with_reducible apply Blk.far_; (simp only [ne_eq]; omega)) | rfl)
      have cP0_3 : w3.cell? ⟨w.heap.size, 0, none⟩ = some (.int .i64 a) := BP3.cell 0
      have cP1_3 : w3.cell? ⟨w.heap.size, 1, none⟩ = some (.int .i64 b) := BP3.cell 1
      have cP2_3 : w3.cell? ⟨w.heap.size, 2, none⟩ = some (.int .i64 c) := BP3.cell 2
      have lP3 : w.heap.size < w3.heap.size := BP3.lt
      have mP3 : w.heap.size < w3.heap.size + 1 := by omega
      have nP3 : w.heap.size < w3.heap.size + 1 + 1 := by omega
      have BQ3 : Blk w3 (w.heap.size + 1) 36 #[.int .i64 a', .int .i64 b', .int .i64 c'] := by
        refine Blk.kept ?_ hb3
        repeat (first | with_reducible exact BQ2 | with_reducible exact Blk.new _ _ _ | (with_reducible refine Blk.newAt _ _ _ _ ?_; first | rfl | (simp; done)) | with_reducible apply Blk.alloc | with_reducible apply Blk.drewN | with_reducible apply Blk.drew | with_reducible apply Blk.set_to | (with_reducible apply Blk.far_; (simp only [ne_eq]; omega)) | rfl)
      have cQ0_3 : w3.cell? ⟨w.heap.size + 1, 0, none⟩ = some (.int .i64 a') := BQ3.cell 0
      have cQ1_3 : w3.cell? ⟨w.heap.size + 1, 1, none⟩ = some (.int .i64 b') := BQ3.cell 1
      have cQ2_3 : w3.cell? ⟨w.heap.size + 1, 2, none⟩ = some (.int .i64 c') := BQ3.cell 2
      have lQ3 : w.heap.size + 1 < w3.heap.size := BQ3.lt
      have mQ3 : w.heap.size + 1 < w3.heap.size + 1 := by omega
      have nQ3 : w.heap.size + 1 < w3.heap.size + 1 + 1 := by omega
      clear BP2 lP2 mP2 nP2 cP0_2 cP1_2 cP2_2 BQ2 lQ2 mQ2 nQ2 cQ0_2 cQ1_2 cQ2_2
      have hs3 : w.heap.size ≤ w3.heap.size := by have h := hb3.size; (try simp at h); omega
      have kb : Below w.heap.size w w3 := by repeat (first | exact Below.refl _ _ | refine below_drewN ?_ _ | refine Below.drew ?_ | refine below_alloc ?_ _ | (refine below_call ?_ (by assumption)) | (refine Below.setCell ?_ ?_ _; rotate_left; (simp; try omega)))
      go_wp2
      go_ret2
      rw [E.out]
      exact ⟨rfl, by repeat (first | with_reducible exact Below.refl _ _ | with_reducible assumption | with_reducible refine below_drewN ?_ _ | with_reducible refine Below.drew ?_ | with_reducible refine below_alloc ?_ _ | (with_reducible refine Below.setCell ?_ ?_ _; rotate_left; ((try simp only); omega)))⟩
  · have E := Lib.hid (show nameE p q = (⟨#[]⟩, bothP p q) by unfold nameE upE; rw [if_pos hz]; exact if_pos hz)
    have hb : (bothP p q != 0) = true := by simpa using hz
    clear hz
    obtain ⟨a, b, c⟩ := p
    obtain ⟨a', b', c'⟩ := q
    go_enter Tryd.func24, Tryd.ntmps24
    go_wp2_with fail
    refine (q1 _).mono ?_
    rintro e w1 ⟨rfl, hb1⟩
    have BP1 : Blk w1 (w.heap.size) 36 #[.int .i64 a, .int .i64 b, .int .i64 c] := by
      refine Blk.kept ?_ hb1
      repeat (first | with_reducible exact Blk.new _ _ _ | (with_reducible refine Blk.newAt _ _ _ _ ?_; first | rfl | (simp; done)) | with_reducible apply Blk.alloc | with_reducible apply Blk.drewN | with_reducible apply Blk.drew | with_reducible apply Blk.set_to | (with_reducible apply Blk.far_; (simp only [ne_eq]; omega)) | rfl)
    have cP0_1 : w1.cell? ⟨w.heap.size, 0, none⟩ = some (.int .i64 a) := BP1.cell 0
    have cP1_1 : w1.cell? ⟨w.heap.size, 1, none⟩ = some (.int .i64 b) := BP1.cell 1
    have cP2_1 : w1.cell? ⟨w.heap.size, 2, none⟩ = some (.int .i64 c) := BP1.cell 2
    have lP1 : w.heap.size < w1.heap.size := BP1.lt
    have mP1 : w.heap.size < w1.heap.size + 1 := by omega
    have nP1 : w.heap.size < w1.heap.size + 1 + 1 := by omega
    have BQ1 : Blk w1 (w.heap.size + 1) 36 #[.int .i64 a', .int .i64 b', .int .i64 c'] := by
      refine Blk.kept ?_ hb1
      repeat (first | with_reducible exact Blk.new _ _ _ | (with_reducible refine Blk.newAt _ _ _ _ ?_; first | rfl | (simp; done)) | with_reducible apply Blk.alloc | with_reducible apply Blk.drewN | with_reducible apply Blk.drew | with_reducible apply Blk.set_to | (with_reducible apply Blk.far_; (simp only [ne_eq]; omega)) | rfl)
    have cQ0_1 : w1.cell? ⟨w.heap.size + 1, 0, none⟩ = some (.int .i64 a') := BQ1.cell 0
    have cQ1_1 : w1.cell? ⟨w.heap.size + 1, 1, none⟩ = some (.int .i64 b') := BQ1.cell 1
    have cQ2_1 : w1.cell? ⟨w.heap.size + 1, 2, none⟩ = some (.int .i64 c') := BQ1.cell 2
    have lQ1 : w.heap.size + 1 < w1.heap.size := BQ1.lt
    have mQ1 : w.heap.size + 1 < w1.heap.size + 1 := by omega
    have nQ1 : w.heap.size + 1 < w1.heap.size + 1 + 1 := by omega
    have hs1 : w.heap.size ≤ w1.heap.size := by have h := hb1.size; (try simp at h); omega
    have kb : Below w.heap.size w w1 := by repeat (first | exact Below.refl _ _ | refine below_drewN ?_ _ | refine Below.drew ?_ | refine below_alloc ?_ _ | (refine below_call ?_ (by assumption)) | (refine Below.setCell ?_ ?_ _; rotate_left; (simp; try omega)))
    go_wp2
    go_ret2
    rw [E.out]
    exact ⟨rfl, by repeat (first | with_reducible exact Below.refl _ _ | with_reducible assumption | with_reducible refine below_drewN ?_ _ | with_reducible refine Below.drew ?_ | with_reducible refine below_alloc ?_ _ | (with_reducible refine Below.setCell ?_ ?_ _; rotate_left; ((try simp only); omega)))⟩
end Go.Proofs.YtmbnpblejhlefaaDoor
