/- Parts of the proofs of layer 31: ChKind. -/
import Derived.Test.YtpkmiegccfhpnaaGreatDoorK06
namespace Go.Proofs.YtpkmiegccfhpnaaGreatDoor
open Go.RowKit
@[reducible] def vIE (x : (Int × Int) × Int) : Value := .tuple #[.agg #[.int .i64 x.1.1, .int .i64 x.1.2], .int .i64 x.2]
set_option maxHeartbeats 400000 in
theorem simple_any (x : Int × Int) (w : World) (h0 : 0 ≤ x.1) (h1 : x.1 ≤ 62) (h2 : -400 ≤ x.2) (h3 : x.2 ≤ 400) :
    Calls Tryz.prog 166 #[.agg #[.int .i64 x.1, .int .i64 x.2]] w fun e w' => e = .returned (.agg #[.int .i64 (simI x).1, .int .i64 (simI x).2]) ∧ Below w.heap.size w w' := by
  obtain ⟨s, h⟩ := x
  simp only at h0 h1 h2 h3
  have E := Lib.hid (show simI (s, h) = (s % 7, h - 12 * (s / 7)) by rfl)
  go_enter Tryz.func166, Tryz.ntmps166
  go_wp2
  refine ret_of (by simp [results, Tryz.results166, go_sem, *]; repeat' (first | rfl | apply And.intro)) rfl ⟨?_, by repeat (first | with_reducible exact Below.refl _ _ | with_reducible assumption | with_reducible refine below_drewN ?_ _ | with_reducible refine Below.drew ?_ | with_reducible refine below_alloc ?_ _ | (with_reducible refine Below.setCell ?_ ?_ _; rotate_left; ((try simp only); omega)))⟩
  rw [E.out]
theorem bothP_both {p q : Int × Int × Int} (hp : pchk p = 0) : bothP p q = pchk q := by unfold bothP; rw [if_neg (by rw [hp]; exact fun h => h rfl)]
theorem bothP_fst {p q : Int × Int × Int} (hp : pchk p ≠ 0) : bothP p q = pchk p := by unfold bothP; rw [if_pos hp]
theorem upE_ok {p q : Int × Int × Int} (hp : pchk p = 0) (hq : pchk q = 0) : upE p q = (upI p q, 0) := by unfold upE; rw [bothP_both hp, hq, if_neg (fun h => h rfl)]
theorem upE_fst {p q : Int × Int × Int} (hp : pchk p ≠ 0) : upE p q = ((0, 0), pchk p) := by unfold upE; rw [bothP_fst hp, if_pos hp]
theorem upE_snd {p q : Int × Int × Int} (hp : pchk p = 0) (hq : pchk q ≠ 0) : upE p q = ((0, 0), pchk q) := by unfold upE; rw [bothP_both hp, if_pos hq]
set_option maxRecDepth 100000 in
set_option maxHeartbeats 1000000 in
theorem between_any (p q : Int × Int × Int) (w : World) (ht : Tabs w) :
    Calls Tryz.prog 165 #[vP p, vP q] w fun e w' => e = .returned (vIE (upE p q)) ∧ Below w.heap.size w w' := by
  by_cases hp : pchk p = 0
  · by_cases hq : pchk q = 0
    · have E := Lib.hid (upE_ok hp hq)
      have hbp : (pchk p != 0) = false := by simpa using hp
      have hbq : (pchk q != 0) = false := by simpa using hq
      have q1 := lower_ok p q hp hq
      have q2 := btw_ok (loP p q) (hiP p q) (loP_pchk hp hq) (hiP_pchk hp hq)
      rw [show btw (loP p q) (hiP p q) = upI p q by rfl] at q2
      obtain ⟨⟨x, y, z⟩, hlo⟩ : ∃ t, t = loP p q := ⟨_, rfl⟩
      obtain ⟨⟨x', y', z'⟩, hhi⟩ : ∃ t, t = hiP p q := ⟨_, rfl⟩
      obtain ⟨⟨u, v⟩, hu⟩ : ∃ t, t = upI p q := ⟨_, rfl⟩
      rw [← hlo, ← hhi] at q1 q2
      rw [← hu] at q2 E
      clear hlo hhi hu hp hq
      obtain ⟨a, b, c⟩ := p
      obtain ⟨a', b', c'⟩ := q
      go_enter Tryz.func165, Tryz.ntmps165
      go_wp2_with fail
      refine (pcheck_any (_, _, _) _).mono ?_
      rintro e w1 ⟨rfl, hb1⟩
      have BP1 : Blk w1 (w.heap.size) 47 #[.int .i64 a, .int .i64 b, .int .i64 c] := by
        refine Blk.kept ?_ hb1
        repeat (first | with_reducible exact Blk.new _ _ _ | (with_reducible refine Blk.newAt _ _ _ _ ?_; first | rfl | (simp; done)) | with_reducible apply Blk.alloc | with_reducible apply Blk.drewN | with_reducible apply Blk.drew | with_reducible apply Blk.set_to | (with_reducible apply Blk.far_; (simp only [ne_eq]; omega)) | rfl)
      have cP0_1 : w1.cell? ⟨w.heap.size, 0, none⟩ = some (.int .i64 a) := BP1.cell 0
      have cP1_1 : w1.cell? ⟨w.heap.size, 1, none⟩ = some (.int .i64 b) := BP1.cell 1
      have cP2_1 : w1.cell? ⟨w.heap.size, 2, none⟩ = some (.int .i64 c) := BP1.cell 2
      have lP1 : w.heap.size < w1.heap.size := BP1.lt
      have mP1 : w.heap.size < w1.heap.size + 1 := by omega
      have nP1 : w.heap.size < w1.heap.size + 1 + 1 := by omega
      have BQ1 : Blk w1 (w.heap.size + 1) 47 #[.int .i64 a', .int .i64 b', .int .i64 c'] := by
        refine Blk.kept ?_ hb1
        repeat (first | with_reducible exact Blk.new _ _ _ | (with_reducible refine Blk.newAt _ _ _ _ ?_; first | rfl | (simp; done)) | with_reducible apply Blk.alloc | with_reducible apply Blk.drewN | with_reducible apply Blk.drew | with_reducible apply Blk.set_to | (with_reducible apply Blk.far_; (simp only [ne_eq]; omega)) | rfl)
      have cQ0_1 : w1.cell? ⟨w.heap.size + 1, 0, none⟩ = some (.int .i64 a') := BQ1.cell 0
      have cQ1_1 : w1.cell? ⟨w.heap.size + 1, 1, none⟩ = some (.int .i64 b') := BQ1.cell 1
      have cQ2_1 : w1.cell? ⟨w.heap.size + 1, 2, none⟩ = some (.int .i64 c') := BQ1.cell 2
      have lQ1 : w.heap.size + 1 < w1.heap.size := BQ1.lt
      have mQ1 : w.heap.size + 1 < w1.heap.size + 1 := by omega
      have nQ1 : w.heap.size + 1 < w1.heap.size + 1 + 1 := by omega
      have BR1 : Blk w1 (w.heap.size + 1 + 1) 131 #[.int .i64 0, .int .i64 0] := by
        refine Blk.kept ?_ hb1
        repeat (first | with_reducible exact Blk.new _ _ _ | (with_reducible refine Blk.newAt _ _ _ _ ?_; first | rfl | (simp; done)) | with_reducible apply Blk.alloc | with_reducible apply Blk.drewN | with_reducible apply Blk.drew | with_reducible apply Blk.set_to | (with_reducible apply Blk.far_; (simp only [ne_eq]; omega)) | rfl)
      have cR0_1 : w1.cell? ⟨w.heap.size + 1 + 1, 0, none⟩ = some (.int .i64 0) := BR1.cell 0
      have cR1_1 : w1.cell? ⟨w.heap.size + 1 + 1, 1, none⟩ = some (.int .i64 0) := BR1.cell 1
      have lR1 : w.heap.size + 1 + 1 < w1.heap.size := BR1.lt
      have mR1 : w.heap.size + 1 + 1 < w1.heap.size + 1 := by omega
      have nR1 : w.heap.size + 1 + 1 < w1.heap.size + 1 + 1 := by omega
      have fR0_1 := BR1.frozen 0
      have fR1_1 := BR1.frozen 1
      have eRP1 : w.heap.size + 1 + 1 ≠ w.heap.size := by omega
      have ePR1 : w.heap.size ≠ w.heap.size + 1 + 1 := by omega
      have eRQ1 : w.heap.size + 1 + 1 ≠ w.heap.size + 1 := by omega
      have eQR1 : w.heap.size + 1 ≠ w.heap.size + 1 + 1 := by omega
      have hs1 : w.heap.size ≤ w1.heap.size := by have h := hb1.size; (try simp at h); omega
      go_wp2_with fail
      refine (pcheck_any (_, _, _) _).mono ?_
      rintro e w2 ⟨rfl, hb2⟩
      have BP2 : Blk w2 (w.heap.size) 47 #[.int .i64 a, .int .i64 b, .int .i64 c] := by
        refine Blk.kept ?_ hb2
        repeat (first | with_reducible exact BP1 | with_reducible exact Blk.new _ _ _ | (with_reducible refine Blk.newAt _ _ _ _ ?_; first | rfl | (simp; done)) | with_reducible apply Blk.alloc | with_reducible apply Blk.drewN | with_reducible apply Blk.drew | with_reducible apply Blk.set_to | (with_reducible apply Blk.far_; (simp only [ne_eq]; omega)) | rfl)
      have cP0_2 : w2.cell? ⟨w.heap.size, 0, none⟩ = some (.int .i64 a) := BP2.cell 0
      have cP1_2 : w2.cell? ⟨w.heap.size, 1, none⟩ = some (.int .i64 b) := BP2.cell 1
      have cP2_2 : w2.cell? ⟨w.heap.size, 2, none⟩ = some (.int .i64 c) := BP2.cell 2
      have lP2 : w.heap.size < w2.heap.size := BP2.lt
      have mP2 : w.heap.size < w2.heap.size + 1 := by omega
      have nP2 : w.heap.size < w2.heap.size + 1 + 1 := by omega
      have BQ2 : Blk w2 (w.heap.size + 1) 47 #[.int .i64 a', .int .i64 b', .int .i64 c'] := by
        refine Blk.kept ?_ hb2
        repeat (first | with_reducible exact BQ1 | with_reducible exact Blk.new _ _ _ | (with_reducible refine Blk.newAt _ _ _ _ ?_; first | rfl | (simp; done)) | with_reducible apply Blk.alloc | with_reducible apply Blk.drewN | with_reducible apply Blk.drew | with_reducible apply Blk.set_to | (with_reducible apply Blk.far_; (simp only [ne_eq]; omega)) | rfl)
      have cQ0_2 : w2.cell? ⟨w.heap.size + 1, 0, none⟩ = some (.int .i64 a') := BQ2.cell 0
      have cQ1_2 : w2.cell? ⟨w.heap.size + 1, 1, none⟩ = some (.int .i64 b') := BQ2.cell 1
      have cQ2_2 : w2.cell? ⟨w.heap.size + 1, 2, none⟩ = some (.int .i64 c') := BQ2.cell 2
      have lQ2 : w.heap.size + 1 < w2.heap.size := BQ2.lt
      have mQ2 : w.heap.size + 1 < w2.heap.size + 1 := by omega
      have nQ2 : w.heap.size + 1 < w2.heap.size + 1 + 1 := by omega
      have BR2 : Blk w2 (w.heap.size + 1 + 1) 131 #[.int .i64 0, .int .i64 0] := by
        refine Blk.kept ?_ hb2
        repeat (first | with_reducible exact BR1 | with_reducible exact Blk.new _ _ _ | (with_reducible refine Blk.newAt _ _ _ _ ?_; first | rfl | (simp; done)) | with_reducible apply Blk.alloc | with_reducible apply Blk.drewN | with_reducible apply Blk.drew | with_reducible apply Blk.set_to | (with_reducible apply Blk.far_; (simp only [ne_eq]; omega)) | rfl)
      have cR0_2 : w2.cell? ⟨w.heap.size + 1 + 1, 0, none⟩ = some (.int .i64 0) := BR2.cell 0
      have cR1_2 : w2.cell? ⟨w.heap.size + 1 + 1, 1, none⟩ = some (.int .i64 0) := BR2.cell 1
      have lR2 : w.heap.size + 1 + 1 < w2.heap.size := BR2.lt
      have mR2 : w.heap.size + 1 + 1 < w2.heap.size + 1 := by omega
      have nR2 : w.heap.size + 1 + 1 < w2.heap.size + 1 + 1 := by omega
      have fR0_2 := BR2.frozen 0
      have fR1_2 := BR2.frozen 1
      clear BP1 lP1 mP1 nP1 cP0_1 cP1_1 cP2_1 BQ1 lQ1 mQ1 nQ1 cQ0_1 cQ1_1 cQ2_1 BR1 lR1 mR1 nR1 cR0_1 cR1_1 fR0_1 fR1_1
      have hs2 : w.heap.size ≤ w2.heap.size := by have h := hb2.size; (try simp at h); omega
      go_wp2_with fail
      refine Calls.mono (q1 _ ?_) ?_
      · exact ht.kept (by repeat (first | exact Below.refl _ _ | refine below_drewN ?_ _ | refine Below.drew ?_ | refine below_alloc ?_ _ | (refine below_call ?_ (by assumption)) | (refine Below.setCell ?_ ?_ _; rotate_left; (simp; try omega))))
      rintro e w3 ⟨rfl, hb3⟩
      have BP3 : Blk w3 (w.heap.size) 47 #[.int .i64 a, .int .i64 b, .int .i64 c] := by
        refine Blk.kept ?_ hb3
        repeat (first | with_reducible exact BP2 | with_reducible exact Blk.new _ _ _ | (with_reducible refine Blk.newAt _ _ _ _ ?_; first | rfl | (simp; done)) | with_reducible apply Blk.alloc | with_reducible apply Blk.drewN | with_reducible apply Blk.drew | with_reducible apply Blk.set_to | (with_reducible apply Blk.far_; (simp only [ne_eq]; omega)) | rfl)
      have cP0_3 : w3.cell? ⟨w.heap.size, 0, none⟩ = some (.int .i64 a) := BP3.cell 0
      have cP1_3 : w3.cell? ⟨w.heap.size, 1, none⟩ = some (.int .i64 b) := BP3.cell 1
      have cP2_3 : w3.cell? ⟨w.heap.size, 2, none⟩ = some (.int .i64 c) := BP3.cell 2
      have lP3 : w.heap.size < w3.heap.size := BP3.lt
      have mP3 : w.heap.size < w3.heap.size + 1 := by omega
      have nP3 : w.heap.size < w3.heap.size + 1 + 1 := by omega
      have BQ3 : Blk w3 (w.heap.size + 1) 47 #[.int .i64 a', .int .i64 b', .int .i64 c'] := by
        refine Blk.kept ?_ hb3
        repeat (first | with_reducible exact BQ2 | with_reducible exact Blk.new _ _ _ | (with_reducible refine Blk.newAt _ _ _ _ ?_; first | rfl | (simp; done)) | with_reducible apply Blk.alloc | with_reducible apply Blk.drewN | with_reducible apply Blk.drew | with_reducible apply Blk.set_to | (with_reducible apply Blk.far_; (simp only [ne_eq]; omega)) | rfl)
      have cQ0_3 : w3.cell? ⟨w.heap.size + 1, 0, none⟩ = some (.int .i64 a') := BQ3.cell 0
      have cQ1_3 : w3.cell? ⟨w.heap.size + 1, 1, none⟩ = some (.int .i64 b') := BQ3.cell 1
      have cQ2_3 : w3.cell? ⟨w.heap.size + 1, 2, none⟩ = some (.int .i64 c') := BQ3.cell 2
      have lQ3 : w.heap.size + 1 < w3.heap.size := BQ3.lt
      have mQ3 : w.heap.size + 1 < w3.heap.size + 1 := by omega
      have nQ3 : w.heap.size + 1 < w3.heap.size + 1 + 1 := by omega
      have BR3 : Blk w3 (w.heap.size + 1 + 1) 131 #[.int .i64 0, .int .i64 0] := by
        refine Blk.kept ?_ hb3
        repeat (first | with_reducible exact BR2 | with_reducible exact Blk.new _ _ _ | (with_reducible refine Blk.newAt _ _ _ _ ?_; first | rfl | (simp; done)) | with_reducible apply Blk.alloc | with_reducible apply Blk.drewN | with_reducible apply Blk.drew | with_reducible apply Blk.set_to | (with_reducible apply Blk.far_; (simp only [ne_eq]; omega)) | rfl)
      have cR0_3 : w3.cell? ⟨w.heap.size + 1 + 1, 0, none⟩ = some (.int .i64 0) := BR3.cell 0
      have cR1_3 : w3.cell? ⟨w.heap.size + 1 + 1, 1, none⟩ = some (.int .i64 0) := BR3.cell 1
      have lR3 : w.heap.size + 1 + 1 < w3.heap.size := BR3.lt
      have mR3 : w.heap.size + 1 + 1 < w3.heap.size + 1 := by omega
      have nR3 : w.heap.size + 1 + 1 < w3.heap.size + 1 + 1 := by omega
      have fR0_3 := BR3.frozen 0
      have fR1_3 := BR3.frozen 1
      clear BP2 lP2 mP2 nP2 cP0_2 cP1_2 cP2_2 BQ2 lQ2 mQ2 nQ2 cQ0_2 cQ1_2 cQ2_2 BR2 lR2 mR2 nR2 cR0_2 cR1_2 fR0_2 fR1_2
      have hs3 : w.heap.size ≤ w3.heap.size := by have h := hb3.size; (try simp at h); omega
      go_wp2_with fail
      refine Calls.mono (q2 _ ?_) ?_
      · exact ht.kept (by repeat (first | exact Below.refl _ _ | refine below_drewN ?_ _ | refine Below.drew ?_ | refine below_alloc ?_ _ | (refine below_call ?_ (by assumption)) | (refine Below.setCell ?_ ?_ _; rotate_left; (simp; try omega))))
      rintro e w4 ⟨rfl, hb4⟩
      have BP4 : Blk w4 (w.heap.size) 47 #[.int .i64 a, .int .i64 b, .int .i64 c] := by
        refine Blk.kept ?_ hb4
        repeat (first | with_reducible exact BP3 | with_reducible exact Blk.new _ _ _ | (with_reducible refine Blk.newAt _ _ _ _ ?_; first | rfl | (simp; done)) | with_reducible apply Blk.alloc | with_reducible apply Blk.drewN | with_reducible apply Blk.drew | with_reducible apply Blk.set_to | (with_reducible apply Blk.far_; (simp only [ne_eq]; omega)) | rfl)
      have cP0_4 : w4.cell? ⟨w.heap.size, 0, none⟩ = some (.int .i64 a) := BP4.cell 0
      have cP1_4 : w4.cell? ⟨w.heap.size, 1, none⟩ = some (.int .i64 b) := BP4.cell 1
      have cP2_4 : w4.cell? ⟨w.heap.size, 2, none⟩ = some (.int .i64 c) := BP4.cell 2
      have lP4 : w.heap.size < w4.heap.size := BP4.lt
      have mP4 : w.heap.size < w4.heap.size + 1 := by omega
      have nP4 : w.heap.size < w4.heap.size + 1 + 1 := by omega
      have BQ4 : Blk w4 (w.heap.size + 1) 47 #[.int .i64 a', .int .i64 b', .int .i64 c'] := by
        refine Blk.kept ?_ hb4
        repeat (first | with_reducible exact BQ3 | with_reducible exact Blk.new _ _ _ | (with_reducible refine Blk.newAt _ _ _ _ ?_; first | rfl | (simp; done)) | with_reducible apply Blk.alloc | with_reducible apply Blk.drewN | with_reducible apply Blk.drew | with_reducible apply Blk.set_to | (with_reducible apply Blk.far_; (simp only [ne_eq]; omega)) | rfl)
      have cQ0_4 : w4.cell? ⟨w.heap.size + 1, 0, none⟩ = some (.int .i64 a') := BQ4.cell 0
      have cQ1_4 : w4.cell? ⟨w.heap.size + 1, 1, none⟩ = some (.int .i64 b') := BQ4.cell 1
      have cQ2_4 : w4.cell? ⟨w.heap.size + 1, 2, none⟩ = some (.int .i64 c') := BQ4.cell 2
      have lQ4 : w.heap.size + 1 < w4.heap.size := BQ4.lt
      have mQ4 : w.heap.size + 1 < w4.heap.size + 1 := by omega
      have nQ4 : w.heap.size + 1 < w4.heap.size + 1 + 1 := by omega
      have BR4 : Blk w4 (w.heap.size + 1 + 1) 131 #[.int .i64 0, .int .i64 0] := by
        refine Blk.kept ?_ hb4
        repeat (first | with_reducible exact BR3 | with_reducible exact Blk.new _ _ _ | (with_reducible refine Blk.newAt _ _ _ _ ?_; first | rfl | (simp; done)) | with_reducible apply Blk.alloc | with_reducible apply Blk.drewN | with_reducible apply Blk.drew | with_reducible apply Blk.set_to | (with_reducible apply Blk.far_; (simp only [ne_eq]; omega)) | rfl)
      have cR0_4 : w4.cell? ⟨w.heap.size + 1 + 1, 0, none⟩ = some (.int .i64 0) := BR4.cell 0
      have cR1_4 : w4.cell? ⟨w.heap.size + 1 + 1, 1, none⟩ = some (.int .i64 0) := BR4.cell 1
      have lR4 : w.heap.size + 1 + 1 < w4.heap.size := BR4.lt
      have mR4 : w.heap.size + 1 + 1 < w4.heap.size + 1 := by omega
      have nR4 : w.heap.size + 1 + 1 < w4.heap.size + 1 + 1 := by omega
      have fR0_4 := BR4.frozen 0
      have fR1_4 := BR4.frozen 1
      have BX4 : Blk w4 (w3.heap.size) 47 #[.int .i64 x, .int .i64 y, .int .i64 z] := by
        refine Blk.kept ?_ hb4
        repeat (first | with_reducible exact Blk.new _ _ _ | (with_reducible refine Blk.newAt _ _ _ _ ?_; first | rfl | (simp; done)) | with_reducible apply Blk.alloc | with_reducible apply Blk.drewN | with_reducible apply Blk.drew | with_reducible apply Blk.set_to | (with_reducible apply Blk.far_; (simp only [ne_eq]; omega)) | rfl)
      have cX0_4 : w4.cell? ⟨w3.heap.size, 0, none⟩ = some (.int .i64 x) := BX4.cell 0
      have cX1_4 : w4.cell? ⟨w3.heap.size, 1, none⟩ = some (.int .i64 y) := BX4.cell 1
      have cX2_4 : w4.cell? ⟨w3.heap.size, 2, none⟩ = some (.int .i64 z) := BX4.cell 2
      have lX4 : w3.heap.size < w4.heap.size := BX4.lt
      have mX4 : w3.heap.size < w4.heap.size + 1 := by omega
      have nX4 : w3.heap.size < w4.heap.size + 1 + 1 := by omega
      have BY4 : Blk w4 (w3.heap.size + 1) 47 #[.int .i64 x', .int .i64 y', .int .i64 z'] := by
        refine Blk.kept ?_ hb4
        repeat (first | with_reducible exact Blk.new _ _ _ | (with_reducible refine Blk.newAt _ _ _ _ ?_; first | rfl | (simp; done)) | with_reducible apply Blk.alloc | with_reducible apply Blk.drewN | with_reducible apply Blk.drew | with_reducible apply Blk.set_to | (with_reducible apply Blk.far_; (simp only [ne_eq]; omega)) | rfl)
      have cY0_4 : w4.cell? ⟨w3.heap.size + 1, 0, none⟩ = some (.int .i64 x') := BY4.cell 0
      have cY1_4 : w4.cell? ⟨w3.heap.size + 1, 1, none⟩ = some (.int .i64 y') := BY4.cell 1
      have cY2_4 : w4.cell? ⟨w3.heap.size + 1, 2, none⟩ = some (.int .i64 z') := BY4.cell 2
      have lY4 : w3.heap.size + 1 < w4.heap.size := BY4.lt
      have mY4 : w3.heap.size + 1 < w4.heap.size + 1 := by omega
      have nY4 : w3.heap.size + 1 < w4.heap.size + 1 + 1 := by omega
      have eXR4 : w3.heap.size ≠ w.heap.size + 1 + 1 := by omega
      have eRX4 : w.heap.size + 1 + 1 ≠ w3.heap.size := by omega
      have eYR4 : w3.heap.size + 1 ≠ w.heap.size + 1 + 1 := by omega
      have eRY4 : w.heap.size + 1 + 1 ≠ w3.heap.size + 1 := by omega
      clear BP3 lP3 mP3 nP3 cP0_3 cP1_3 cP2_3 BQ3 lQ3 mQ3 nQ3 cQ0_3 cQ1_3 cQ2_3 BR3 lR3 mR3 nR3 cR0_3 cR1_3 fR0_3 fR1_3
      have hs4 : w.heap.size ≤ w4.heap.size := by have h := hb4.size; (try simp at h); omega
      go_wp2
      have kb : Below w.heap.size w w4 := by repeat (first | exact Below.refl _ _ | refine below_drewN ?_ _ | refine Below.drew ?_ | refine below_alloc ?_ _ | (refine below_call ?_ (by assumption)) | (refine Below.setCell ?_ ?_ _; rotate_left; (simp; try omega)))
      refine ret_of (by simp [results, Tryz.results165, go_sem, *]; repeat' (first | rfl | apply And.intro)) rfl ⟨?_, by repeat (first | with_reducible exact Below.refl _ _ | with_reducible assumption | with_reducible refine below_drewN ?_ _ | with_reducible refine Below.drew ?_ | with_reducible refine below_alloc ?_ _ | (with_reducible refine Below.setCell ?_ ?_ _; rotate_left; ((try simp only); omega)))⟩
      rw [E.out]
    · have E := Lib.hid (upE_snd hp hq)
      have hbp : (pchk p != 0) = false := by simpa using hp
      have hbq : (pchk q != 0) = true := by simpa using hq
      clear hp hq
      obtain ⟨a, b, c⟩ := p
      obtain ⟨a', b', c'⟩ := q
      go_enter Tryz.func165, Tryz.ntmps165
      go_wp2_with fail
      refine (pcheck_any (_, _, _) _).mono ?_
      rintro e w1 ⟨rfl, hb1⟩
      have BP1 : Blk w1 (w.heap.size) 47 #[.int .i64 a, .int .i64 b, .int .i64 c] := by
        refine Blk.kept ?_ hb1
        repeat (first | with_reducible exact Blk.new _ _ _ | (with_reducible refine Blk.newAt _ _ _ _ ?_; first | rfl | (simp; done)) | with_reducible apply Blk.alloc | with_reducible apply Blk.drewN | with_reducible apply Blk.drew | with_reducible apply Blk.set_to | (with_reducible apply Blk.far_; (simp only [ne_eq]; omega)) | rfl)
      have cP0_1 : w1.cell? ⟨w.heap.size, 0, none⟩ = some (.int .i64 a) := BP1.cell 0
      have cP1_1 : w1.cell? ⟨w.heap.size, 1, none⟩ = some (.int .i64 b) := BP1.cell 1
      have cP2_1 : w1.cell? ⟨w.heap.size, 2, none⟩ = some (.int .i64 c) := BP1.cell 2
      have lP1 : w.heap.size < w1.heap.size := BP1.lt
      have mP1 : w.heap.size < w1.heap.size + 1 := by omega
      have nP1 : w.heap.size < w1.heap.size + 1 + 1 := by omega
      have BQ1 : Blk w1 (w.heap.size + 1) 47 #[.int .i64 a', .int .i64 b', .int .i64 c'] := by
        refine Blk.kept ?_ hb1
        repeat (first | with_reducible exact Blk.new _ _ _ | (with_reducible refine Blk.newAt _ _ _ _ ?_; first | rfl | (simp; done)) | with_reducible apply Blk.alloc | with_reducible apply Blk.drewN | with_reducible apply Blk.drew | with_reducible apply Blk.set_to | (with_reducible apply Blk.far_; (simp only [ne_eq]; omega)) | rfl)
      have cQ0_1 : w1.cell? ⟨w.heap.size + 1, 0, none⟩ = some (.int .i64 a') := BQ1.cell 0
      have cQ1_1 : w1.cell? ⟨w.heap.size + 1, 1, none⟩ = some (.int .i64 b') := BQ1.cell 1
      have cQ2_1 : w1.cell? ⟨w.heap.size + 1, 2, none⟩ = some (.int .i64 c') := BQ1.cell 2
      have lQ1 : w.heap.size + 1 < w1.heap.size := BQ1.lt
      have mQ1 : w.heap.size + 1 < w1.heap.size + 1 := by omega
      have nQ1 : w.heap.size + 1 < w1.heap.size + 1 + 1 := by omega
      have BR1 : Blk w1 (w.heap.size + 1 + 1) 131 #[.int .i64 0, .int .i64 0] := by
        refine Blk.kept ?_ hb1
        repeat (first | with_reducible exact Blk.new _ _ _ | (with_reducible refine Blk.newAt _ _ _ _ ?_; first | rfl | (simp; done)) | with_reducible apply Blk.alloc | with_reducible apply Blk.drewN | with_reducible apply Blk.drew | with_reducible apply Blk.set_to | (with_reducible apply Blk.far_; (simp only [ne_eq]; omega)) | rfl)
      have cR0_1 : w1.cell? ⟨w.heap.size + 1 + 1, 0, none⟩ = some (.int .i64 0) := BR1.cell 0
      have cR1_1 : w1.cell? ⟨w.heap.size + 1 + 1, 1, none⟩ = some (.int .i64 0) := BR1.cell 1
      have lR1 : w.heap.size + 1 + 1 < w1.heap.size := BR1.lt
      have mR1 : w.heap.size + 1 + 1 < w1.heap.size + 1 := by omega
      have nR1 : w.heap.size + 1 + 1 < w1.heap.size + 1 + 1 := by omega
      have fR0_1 := BR1.frozen 0
      have fR1_1 := BR1.frozen 1
      have eRP1 : w.heap.size + 1 + 1 ≠ w.heap.size := by omega
      have ePR1 : w.heap.size ≠ w.heap.size + 1 + 1 := by omega
      have eRQ1 : w.heap.size + 1 + 1 ≠ w.heap.size + 1 := by omega
      have eQR1 : w.heap.size + 1 ≠ w.heap.size + 1 + 1 := by omega
      have hs1 : w.heap.size ≤ w1.heap.size := by have h := hb1.size; (try simp at h); omega
      go_wp2_with fail
      refine (pcheck_any (_, _, _) _).mono ?_
      rintro e w2 ⟨rfl, hb2⟩
      have BP2 : Blk w2 (w.heap.size) 47 #[.int .i64 a, .int .i64 b, .int .i64 c] := by
        refine Blk.kept ?_ hb2
        repeat (first | with_reducible exact BP1 | with_reducible exact Blk.new _ _ _ | (with_reducible refine Blk.newAt _ _ _ _ ?_; first | rfl | (simp; done)) | with_reducible apply Blk.alloc | with_reducible apply Blk.drewN | with_reducible apply Blk.drew | with_reducible apply Blk.set_to | (with_reducible apply Blk.far_; (simp only [ne_eq]; omega)) | rfl)
      have cP0_2 : w2.cell? ⟨w.heap.size, 0, none⟩ = some (.int .i64 a) := BP2.cell 0
      have cP1_2 : w2.cell? ⟨w.heap.size, 1, none⟩ = some (.int .i64 b) := BP2.cell 1
      have cP2_2 : w2.cell? ⟨w.heap.size, 2, none⟩ = some (.int .i64 c) := BP2.cell 2
      have lP2 : w.heap.size < w2.heap.size := BP2.lt
      have mP2 : w.heap.size < w2.heap.size + 1 := by omega
      have nP2 : w.heap.size < w2.heap.size + 1 + 1 := by omega
      have BQ2 : Blk w2 (w.heap.size + 1) 47 #[.int .i64 a', .int .i64 b', .int .i64 c'] := by
        refine Blk.kept ?_ hb2
        repeat (first | with_reducible exact BQ1 | with_reducible exact Blk.new _ _ _ | (with_reducible refine Blk.newAt _ _ _ _ ?_; first | rfl | (simp; done)) | with_reducible apply Blk.alloc | with_reducible apply Blk.drewN | with_reducible apply Blk.drew | with_reducible apply Blk.set_to | (with_reducible apply Blk.far_; (simp only [ne_eq]; omega)) | rfl)
      have cQ0_2 : w2.cell? ⟨w.heap.size + 1, 0, none⟩ = some (.int .i64 a') := BQ2.cell 0
      have cQ1_2 : w2.cell? ⟨w.heap.size + 1, 1, none⟩ = some (.int .i64 b') := BQ2.cell 1
      have cQ2_2 : w2.cell? ⟨w.heap.size + 1, 2, none⟩ = some (.int .i64 c') := BQ2.cell 2
      have lQ2 : w.heap.size + 1 < w2.heap.size := BQ2.lt
      have mQ2 : w.heap.size + 1 < w2.heap.size + 1 := by omega
      have nQ2 : w.heap.size + 1 < w2.heap.size + 1 + 1 := by omega
      have BR2 : Blk w2 (w.heap.size + 1 + 1) 131 #[.int .i64 0, .int .i64 0] := by
        refine Blk.kept ?_ hb2
        repeat (first | with_reducible exact BR1 | with_reducible exact Blk.new _ _ _ | (with_reducible refine Blk.newAt _ _ _ _ ?_; first | rfl | (simp; done)) | with_reducible apply Blk.alloc | with_reducible apply Blk.drewN | with_reducible apply Blk.drew | with_reducible apply Blk.set_to | (with_reducible apply Blk.far_; (simp only [ne_eq]; omega)) | rfl)
      have cR0_2 : w2.cell? ⟨w.heap.size + 1 + 1, 0, none⟩ = some (.int .i64 0) := BR2.cell 0
      have cR1_2 : w2.cell? ⟨w.heap.size + 1 + 1, 1, none⟩ = some (.int .i64 0) := BR2.cell 1
      have lR2 : w.heap.size + 1 + 1 < w2.heap.size := BR2.lt
      have mR2 : w.heap.size + 1 + 1 < w2.heap.size + 1 := by omega
      have nR2 : w.heap.size + 1 + 1 < w2.heap.size + 1 + 1 := by omega
      have fR0_2 := BR2.frozen 0
      have fR1_2 := BR2.frozen 1
      clear BP1 lP1 mP1 nP1 cP0_1 cP1_1 cP2_1 BQ1 lQ1 mQ1 nQ1 cQ0_1 cQ1_1 cQ2_1 BR1 lR1 mR1 nR1 cR0_1 cR1_1 fR0_1 fR1_1
      have hs2 : w.heap.size ≤ w2.heap.size := by have h := hb2.size; (try simp at h); omega
      go_wp2
      have kb : Below w.heap.size w w2 := by repeat (first | exact Below.refl _ _ | refine below_drewN ?_ _ | refine Below.drew ?_ | refine below_alloc ?_ _ | (refine below_call ?_ (by assumption)) | (refine Below.setCell ?_ ?_ _; rotate_left; (simp; try omega)))
      refine ret_of (by simp [results, Tryz.results165, go_sem, *]; repeat' (first | rfl | apply And.intro)) rfl ⟨?_, by repeat (first | with_reducible exact Below.refl _ _ | with_reducible assumption | with_reducible refine below_drewN ?_ _ | with_reducible refine Below.drew ?_ | with_reducible refine below_alloc ?_ _ | (with_reducible refine Below.setCell ?_ ?_ _; rotate_left; ((try simp only); omega)))⟩
      rw [E.out]
  · have E := Lib.hid (upE_fst (q := q) hp)
    have hbp : (pchk p != 0) = true := by simpa using hp
    clear hp
    obtain ⟨a, b, c⟩ := p
    obtain ⟨a', b', c'⟩ := q
    go_enter Tryz.func165, Tryz.ntmps165
    go_wp2_with fail
    refine (pcheck_any (_, _, _) _).mono ?_
    rintro e w1 ⟨rfl, hb1⟩
    have BP1 : Blk w1 (w.heap.size) 47 #[.int .i64 a, .int .i64 b, .int .i64 c] := by
      refine Blk.kept ?_ hb1
      repeat (first | with_reducible exact Blk.new _ _ _ | (with_reducible refine Blk.newAt _ _ _ _ ?_; first | rfl | (simp; done)) | with_reducible apply Blk.alloc | with_reducible apply Blk.drewN | with_reducible apply Blk.drew | with_reducible apply Blk.set_to | (with_reducible apply Blk.far_; (simp only [ne_eq]; omega)) | rfl)
    have cP0_1 : w1.cell? ⟨w.heap.size, 0, none⟩ = some (.int .i64 a) := BP1.cell 0
    have cP1_1 : w1.cell? ⟨w.heap.size, 1, none⟩ = some (.int .i64 b) := BP1.cell 1
    have cP2_1 : w1.cell? ⟨w.heap.size, 2, none⟩ = some (.int .i64 c) := BP1.cell 2
    have lP1 : w.heap.size < w1.heap.size := BP1.lt
    have mP1 : w.heap.size < w1.heap.size + 1 := by omega
    have nP1 : w.heap.size < w1.heap.size + 1 + 1 := by omega
    have BQ1 : Blk w1 (w.heap.size + 1) 47 #[.int .i64 a', .int .i64 b', .int .i64 c'] := by
      refine Blk.kept ?_ hb1
      repeat (first | with_reducible exact Blk.new _ _ _ | (with_reducible refine Blk.newAt _ _ _ _ ?_; first | rfl | (simp; done)) | with_reducible apply Blk.alloc | with_reducible apply Blk.drewN | with_reducible apply Blk.drew | with_reducible apply Blk.set_to | (with_reducible apply Blk.far_; (simp only [ne_eq]; omega)) | rfl)
    have cQ0_1 : w1.cell? ⟨w.heap.size + 1, 0, none⟩ = some (.int .i64 a') := BQ1.cell 0
    have cQ1_1 : w1.cell? ⟨w.heap.size + 1, 1, none⟩ = some (.int .i64 b') := BQ1.cell 1
    have cQ2_1 : w1.cell? ⟨w.heap.size + 1, 2, none⟩ = some (.int .i64 c') := BQ1.cell 2
    have lQ1 : w.heap.size + 1 < w1.heap.size := BQ1.lt
    have mQ1 : w.heap.size + 1 < w1.heap.size + 1 := by omega
    have nQ1 : w.heap.size + 1 < w1.heap.size + 1 + 1 := by omega
    have BR1 : Blk w1 (w.heap.size + 1 + 1) 131 #[.int .i64 0, .int .i64 0] := by
      refine Blk.kept ?_ hb1
      repeat (first | with_reducible exact Blk.new _ _ _ | (with_reducible refine Blk.newAt _ _ _ _ ?_; first | rfl | (simp; done)) | with_reducible apply Blk.alloc | with_reducible apply Blk.drewN | with_reducible apply Blk.drew | with_reducible apply Blk.set_to | (with_reducible apply Blk.far_; (simp only [ne_eq]; omega)) | rfl)
    have cR0_1 : w1.cell? ⟨w.heap.size + 1 + 1, 0, none⟩ = some (.int .i64 0) := BR1.cell 0
    have cR1_1 : w1.cell? ⟨w.heap.size + 1 + 1, 1, none⟩ = some (.int .i64 0) := BR1.cell 1
    have lR1 : w.heap.size + 1 + 1 < w1.heap.size := BR1.lt
    have mR1 : w.heap.size + 1 + 1 < w1.heap.size + 1 := by omega
    have nR1 : w.heap.size + 1 + 1 < w1.heap.size + 1 + 1 := by omega
    have fR0_1 := BR1.frozen 0
    have fR1_1 := BR1.frozen 1
    have eRP1 : w.heap.size + 1 + 1 ≠ w.heap.size := by omega
    have ePR1 : w.heap.size ≠ w.heap.size + 1 + 1 := by omega
    have eRQ1 : w.heap.size + 1 + 1 ≠ w.heap.size + 1 := by omega
    have eQR1 : w.heap.size + 1 ≠ w.heap.size + 1 + 1 := by omega
    have hs1 : w.heap.size ≤ w1.heap.size := by have h := hb1.size; (try simp at h); omega
    go_wp2
    have kb : Below w.heap.size w w1 := by repeat (first | exact Below.refl _ _ | refine below_drewN ?_ _ | refine Below.drew ?_ | refine below_alloc ?_ _ | (refine below_call ?_ (by assumption)) | (refine Below.setCell ?_ ?_ _; rotate_left; (simp; try omega)))
    refine ret_of (by simp [results, Tryz.results165, go_sem, *]; repeat' (first | rfl | apply And.intro)) rfl ⟨?_, by repeat (first | with_reducible exact Below.refl _ _ | with_reducible assumption | with_reducible refine below_drewN ?_ _ | with_reducible refine Below.drew ?_ | with_reducible refine below_alloc ?_ _ | (with_reducible refine Below.setCell ?_ ?_ _; rotate_left; ((try simp only); omega)))⟩
    rw [E.out]
theorem simE_up (p q : Int × Int × Int) : simE p q = (if (upE p q).2 ≠ 0 then (0, 0) else simI (upE p q).1, (upE p q).2) := by
  by_cases h : bothP p q = 0
  · simp [simE, upE, h]
  · simp [simE, upE, h]
theorem upE_bd (p q : Int × Int × Int) : 0 ≤ (upE p q).1.1 ∧ (upE p q).1.1 ≤ 62 ∧ -110 ≤ (upE p q).1.2 ∧ (upE p q).1.2 ≤ 110 := by
  unfold upE
  split
  · simp
  · rename_i h
    have := bothP_ok (p := p) (q := q) (by omega)
    exact upI_bd this.1 this.2
set_option maxRecDepth 100000 in
set_option maxHeartbeats 1000000 in
theorem Simple_any (p q : Int × Int × Int) (w : World) (ht : Tabs w) :
    Calls Tryz.prog 146 #[vP p, vP q] w fun e w' => e = .returned (vIE (simE p q)) ∧ Below w.heap.size w w' := by
  have q1 := between_any p q
  have E := Lib.hid (simE_up p q)
  have HB := upE_bd p q
  obtain ⟨⟨⟨u, v⟩, r⟩, hu⟩ : ∃ t, t = upE p q := ⟨_, rfl⟩
  rw [← hu] at q1 E HB
  simp only at E HB
  have q2 := fun w => simple_any (u, v) w HB.1 HB.2.1 (by simp only; omega) (by simp only; omega)
  obtain ⟨⟨s, h⟩, hs⟩ : ∃ t, t = simI (u, v) := ⟨_, rfl⟩
  rw [← hs] at q2 E
  clear hs hu HB
  obtain ⟨a, b, c⟩ := p
  obtain ⟨a', b', c'⟩ := q
  by_cases hr : r = 0
  · have E := Lib.hid (show simE (a, b, c) (a', b', c') = ((s, h), r) by rw [E.out, if_neg (by omega)])
    subst hr
    go_enter Tryz.func146, Tryz.ntmps146
    go_wp2_with fail
    refine Calls.mono (q1 _ ?_) ?_
    · exact ht.kept (by repeat (first | exact Below.refl _ _ | refine below_drewN ?_ _ | refine Below.drew ?_ | refine below_alloc ?_ _ | (refine below_call ?_ (by assumption)) | (refine Below.setCell ?_ ?_ _; rotate_left; (simp; try omega))))
    rintro e w1 ⟨rfl, hb1⟩
    have BP1 : Blk w1 (w.heap.size) 47 #[.int .i64 a, .int .i64 b, .int .i64 c] := by
      refine Blk.kept ?_ hb1
      repeat (first | with_reducible exact Blk.new _ _ _ | (with_reducible refine Blk.newAt _ _ _ _ ?_; first | rfl | (simp; done)) | with_reducible apply Blk.alloc | with_reducible apply Blk.drewN | with_reducible apply Blk.drew | with_reducible apply Blk.set_to | (with_reducible apply Blk.far_; (simp only [ne_eq]; omega)) | rfl)
    have cP0_1 : w1.cell? ⟨w.heap.size, 0, none⟩ = some (.int .i64 a) := BP1.cell 0
    have cP1_1 : w1.cell? ⟨w.heap.size, 1, none⟩ = some (.int .i64 b) := BP1.cell 1
    have cP2_1 : w1.cell? ⟨w.heap.size, 2, none⟩ = some (.int .i64 c) := BP1.cell 2
    have lP1 : w.heap.size < w1.heap.size := BP1.lt
    have mP1 : w.heap.size < w1.heap.size + 1 := by omega
    have nP1 : w.heap.size < w1.heap.size + 1 + 1 := by omega
    have BQ1 : Blk w1 (w.heap.size + 1) 47 #[.int .i64 a', .int .i64 b', .int .i64 c'] := by
      refine Blk.kept ?_ hb1
      repeat (first | with_reducible exact Blk.new _ _ _ | (with_reducible refine Blk.newAt _ _ _ _ ?_; first | rfl | (simp; done)) | with_reducible apply Blk.alloc | with_reducible apply Blk.drewN | with_reducible apply Blk.drew | with_reducible apply Blk.set_to | (with_reducible apply Blk.far_; (simp only [ne_eq]; omega)) | rfl)
    have cQ0_1 : w1.cell? ⟨w.heap.size + 1, 0, none⟩ = some (.int .i64 a') := BQ1.cell 0
    have cQ1_1 : w1.cell? ⟨w.heap.size + 1, 1, none⟩ = some (.int .i64 b') := BQ1.cell 1
    have cQ2_1 : w1.cell? ⟨w.heap.size + 1, 2, none⟩ = some (.int .i64 c') := BQ1.cell 2
    have lQ1 : w.heap.size + 1 < w1.heap.size := BQ1.lt
    have mQ1 : w.heap.size + 1 < w1.heap.size + 1 := by omega
    have nQ1 : w.heap.size + 1 < w1.heap.size + 1 + 1 := by omega
    have BR1 : Blk w1 (w.heap.size + 1 + 1) 131 #[.int .i64 0, .int .i64 0] := by
      refine Blk.kept ?_ hb1
      repeat (first | with_reducible exact Blk.new _ _ _ | (with_reducible refine Blk.newAt _ _ _ _ ?_; first | rfl | (simp; done)) | with_reducible apply Blk.alloc | with_reducible apply Blk.drewN | with_reducible apply Blk.drew | with_reducible apply Blk.set_to | (with_reducible apply Blk.far_; (simp only [ne_eq]; omega)) | rfl)
    have cR0_1 : w1.cell? ⟨w.heap.size + 1 + 1, 0, none⟩ = some (.int .i64 0) := BR1.cell 0
    have cR1_1 : w1.cell? ⟨w.heap.size + 1 + 1, 1, none⟩ = some (.int .i64 0) := BR1.cell 1
    have lR1 : w.heap.size + 1 + 1 < w1.heap.size := BR1.lt
    have mR1 : w.heap.size + 1 + 1 < w1.heap.size + 1 := by omega
    have nR1 : w.heap.size + 1 + 1 < w1.heap.size + 1 + 1 := by omega
    have fR0_1 := BR1.frozen 0
    have fR1_1 := BR1.frozen 1
    have eRP1 : w.heap.size + 1 + 1 ≠ w.heap.size := by omega
    have ePR1 : w.heap.size ≠ w.heap.size + 1 + 1 := by omega
    have eRQ1 : w.heap.size + 1 + 1 ≠ w.heap.size + 1 := by omega
    have eQR1 : w.heap.size + 1 ≠ w.heap.size + 1 + 1 := by omega
    have hs1 : w.heap.size ≤ w1.heap.size := by have h := hb1.size; (try simp at h); omega
    go_wp2_with fail
    refine (q2 _).mono ?_
    rintro e w2 ⟨rfl, hb2⟩
    have BP2 : Blk w2 (w.heap.size) 47 #[.int .i64 a, .int .i64 b, .int .i64 c] := by
      refine Blk.kept ?_ hb2
      repeat (first | with_reducible exact BP1 | with_reducible exact Blk.new _ _ _ | (with_reducible refine Blk.newAt _ _ _ _ ?_; first | rfl | (simp; done)) | with_reducible apply Blk.alloc | with_reducible apply Blk.drewN | with_reducible apply Blk.drew | with_reducible apply Blk.set_to | (with_reducible apply Blk.far_; (simp only [ne_eq]; omega)) | rfl)
    have cP0_2 : w2.cell? ⟨w.heap.size, 0, none⟩ = some (.int .i64 a) := BP2.cell 0
    have cP1_2 : w2.cell? ⟨w.heap.size, 1, none⟩ = some (.int .i64 b) := BP2.cell 1
    have cP2_2 : w2.cell? ⟨w.heap.size, 2, none⟩ = some (.int .i64 c) := BP2.cell 2
    have lP2 : w.heap.size < w2.heap.size := BP2.lt
    have mP2 : w.heap.size < w2.heap.size + 1 := by omega
    have nP2 : w.heap.size < w2.heap.size + 1 + 1 := by omega
    have BQ2 : Blk w2 (w.heap.size + 1) 47 #[.int .i64 a', .int .i64 b', .int .i64 c'] := by
      refine Blk.kept ?_ hb2
      repeat (first | with_reducible exact BQ1 | with_reducible exact Blk.new _ _ _ | (with_reducible refine Blk.newAt _ _ _ _ ?_; first | rfl | (simp; done)) | with_reducible apply Blk.alloc | with_reducible apply Blk.drewN | with_reducible apply Blk.drew | with_reducible apply Blk.set_to | (with_reducible apply Blk.far_; (simp only [ne_eq]; omega)) | rfl)
    have cQ0_2 : w2.cell? ⟨w.heap.size + 1, 0, none⟩ = some (.int .i64 a') := BQ2.cell 0
    have cQ1_2 : w2.cell? ⟨w.heap.size + 1, 1, none⟩ = some (.int .i64 b') := BQ2.cell 1
    have cQ2_2 : w2.cell? ⟨w.heap.size + 1, 2, none⟩ = some (.int .i64 c') := BQ2.cell 2
    have lQ2 : w.heap.size + 1 < w2.heap.size := BQ2.lt
    have mQ2 : w.heap.size + 1 < w2.heap.size + 1 := by omega
    have nQ2 : w.heap.size + 1 < w2.heap.size + 1 + 1 := by omega
    have BR2 : Blk w2 (w.heap.size + 1 + 1) 131 #[.int .i64 0, .int .i64 0] := by
      refine Blk.kept ?_ hb2
      repeat (first | with_reducible exact BR1 | with_reducible exact Blk.new _ _ _ | (with_reducible refine Blk.newAt _ _ _ _ ?_; first | rfl | (simp; done)) | with_reducible apply Blk.alloc | with_reducible apply Blk.drewN | with_reducible apply Blk.drew | with_reducible apply Blk.set_to | (with_reducible apply Blk.far_; (simp only [ne_eq]; omega)) | rfl)
    have cR0_2 : w2.cell? ⟨w.heap.size + 1 + 1, 0, none⟩ = some (.int .i64 0) := BR2.cell 0
    have cR1_2 : w2.cell? ⟨w.heap.size + 1 + 1, 1, none⟩ = some (.int .i64 0) := BR2.cell 1
    have lR2 : w.heap.size + 1 + 1 < w2.heap.size := BR2.lt
    have mR2 : w.heap.size + 1 + 1 < w2.heap.size + 1 := by omega
    have nR2 : w.heap.size + 1 + 1 < w2.heap.size + 1 + 1 := by omega
    have fR0_2 := BR2.frozen 0
    have fR1_2 := BR2.frozen 1
    have BX2 : Blk w2 (w1.heap.size) 131 #[.int .i64 u, .int .i64 v] := by
      refine Blk.kept ?_ hb2
      repeat (first | with_reducible exact Blk.new _ _ _ | (with_reducible refine Blk.newAt _ _ _ _ ?_; first | rfl | (simp; done)) | with_reducible apply Blk.alloc | with_reducible apply Blk.drewN | with_reducible apply Blk.drew | with_reducible apply Blk.set_to | (with_reducible apply Blk.far_; (simp only [ne_eq]; omega)) | rfl)
    have cX0_2 : w2.cell? ⟨w1.heap.size, 0, none⟩ = some (.int .i64 u) := BX2.cell 0
    have cX1_2 : w2.cell? ⟨w1.heap.size, 1, none⟩ = some (.int .i64 v) := BX2.cell 1
    have lX2 : w1.heap.size < w2.heap.size := BX2.lt
    have mX2 : w1.heap.size < w2.heap.size + 1 := by omega
    have nX2 : w1.heap.size < w2.heap.size + 1 + 1 := by omega
    have eXR2 : w1.heap.size ≠ w.heap.size + 1 + 1 := by omega
    have eRX2 : w.heap.size + 1 + 1 ≠ w1.heap.size := by omega
    clear BP1 lP1 mP1 nP1 cP0_1 cP1_1 cP2_1 BQ1 lQ1 mQ1 nQ1 cQ0_1 cQ1_1 cQ2_1 BR1 lR1 mR1 nR1 cR0_1 cR1_1 fR0_1 fR1_1
    have hs2 : w.heap.size ≤ w2.heap.size := by have h := hb2.size; (try simp at h); omega
    go_wp2
    have kb : Below w.heap.size w w2 := by repeat (first | exact Below.refl _ _ | refine below_drewN ?_ _ | refine Below.drew ?_ | refine below_alloc ?_ _ | (refine below_call ?_ (by assumption)) | (refine Below.setCell ?_ ?_ _; rotate_left; (simp; try omega)))
    refine ret_of (by simp [results, Tryz.results146, go_sem, *]; repeat' (first | rfl | apply And.intro)) rfl ⟨?_, by repeat (first | with_reducible exact Below.refl _ _ | with_reducible assumption | with_reducible refine below_drewN ?_ _ | with_reducible refine Below.drew ?_ | with_reducible refine below_alloc ?_ _ | (with_reducible refine Below.setCell ?_ ?_ _; rotate_left; ((try simp only); omega)))⟩
    rw [E.out]
  · have E := Lib.hid (show simE (a, b, c) (a', b', c') = ((0, 0), r) by rw [E.out, if_pos hr])
    have hbr : (r != 0) = true := by simpa using hr
    clear hr
    go_enter Tryz.func146, Tryz.ntmps146
    go_wp2_with fail
    refine Calls.mono (q1 _ ?_) ?_
    · exact ht.kept (by repeat (first | exact Below.refl _ _ | refine below_drewN ?_ _ | refine Below.drew ?_ | refine below_alloc ?_ _ | (refine below_call ?_ (by assumption)) | (refine Below.setCell ?_ ?_ _; rotate_left; (simp; try omega))))
    rintro e w1 ⟨rfl, hb1⟩
    have BP1 : Blk w1 (w.heap.size) 47 #[.int .i64 a, .int .i64 b, .int .i64 c] := by
      refine Blk.kept ?_ hb1
      repeat (first | with_reducible exact Blk.new _ _ _ | (with_reducible refine Blk.newAt _ _ _ _ ?_; first | rfl | (simp; done)) | with_reducible apply Blk.alloc | with_reducible apply Blk.drewN | with_reducible apply Blk.drew | with_reducible apply Blk.set_to | (with_reducible apply Blk.far_; (simp only [ne_eq]; omega)) | rfl)
    have cP0_1 : w1.cell? ⟨w.heap.size, 0, none⟩ = some (.int .i64 a) := BP1.cell 0
    have cP1_1 : w1.cell? ⟨w.heap.size, 1, none⟩ = some (.int .i64 b) := BP1.cell 1
    have cP2_1 : w1.cell? ⟨w.heap.size, 2, none⟩ = some (.int .i64 c) := BP1.cell 2
    have lP1 : w.heap.size < w1.heap.size := BP1.lt
    have mP1 : w.heap.size < w1.heap.size + 1 := by omega
    have nP1 : w.heap.size < w1.heap.size + 1 + 1 := by omega
    have BQ1 : Blk w1 (w.heap.size + 1) 47 #[.int .i64 a', .int .i64 b', .int .i64 c'] := by
      refine Blk.kept ?_ hb1
      repeat (first | with_reducible exact Blk.new _ _ _ | (with_reducible refine Blk.newAt _ _ _ _ ?_; first | rfl | (simp; done)) | with_reducible apply Blk.alloc | with_reducible apply Blk.drewN | with_reducible apply Blk.drew | with_reducible apply Blk.set_to | (with_reducible apply Blk.far_; (simp only [ne_eq]; omega)) | rfl)
    have cQ0_1 : w1.cell? ⟨w.heap.size + 1, 0, none⟩ = some (.int .i64 a') := BQ1.cell 0
    have cQ1_1 : w1.cell? ⟨w.heap.size + 1, 1, none⟩ = some (.int .i64 b') := BQ1.cell 1
    have cQ2_1 : w1.cell? ⟨w.heap.size + 1, 2, none⟩ = some (.int .i64 c') := BQ1.cell 2
    have lQ1 : w.heap.size + 1 < w1.heap.size := BQ1.lt
    have mQ1 : w.heap.size + 1 < w1.heap.size + 1 := by omega
    have nQ1 : w.heap.size + 1 < w1.heap.size + 1 + 1 := by omega
    have BR1 : Blk w1 (w.heap.size + 1 + 1) 131 #[.int .i64 0, .int .i64 0] := by
      refine Blk.kept ?_ hb1
      repeat (first | with_reducible exact Blk.new _ _ _ | (with_reducible refine Blk.newAt _ _ _ _ ?_; first | rfl | (simp; done)) | with_reducible apply Blk.alloc | with_reducible apply Blk.drewN | with_reducible apply Blk.drew | with_reducible apply Blk.set_to | (with_reducible apply Blk.far_; (simp only [ne_eq]; omega)) | rfl)
    have cR0_1 : w1.cell? ⟨w.heap.size + 1 + 1, 0, none⟩ = some (.int .i64 0) := BR1.cell 0
    have cR1_1 : w1.cell? ⟨w.heap.size + 1 + 1, 1, none⟩ = some (.int .i64 0) := BR1.cell 1
    have lR1 : w.heap.size + 1 + 1 < w1.heap.size := BR1.lt
    have mR1 : w.heap.size + 1 + 1 < w1.heap.size + 1 := by omega
    have nR1 : w.heap.size + 1 + 1 < w1.heap.size + 1 + 1 := by omega
    have fR0_1 := BR1.frozen 0
    have fR1_1 := BR1.frozen 1
    have eRP1 : w.heap.size + 1 + 1 ≠ w.heap.size := by omega
    have ePR1 : w.heap.size ≠ w.heap.size + 1 + 1 := by omega
    have eRQ1 : w.heap.size + 1 + 1 ≠ w.heap.size + 1 := by omega
    have eQR1 : w.heap.size + 1 ≠ w.heap.size + 1 + 1 := by omega
    have hs1 : w.heap.size ≤ w1.heap.size := by have h := hb1.size; (try simp at h); omega
    go_wp2
    have kb : Below w.heap.size w w1 := by repeat (first | exact Below.refl _ _ | refine below_drewN ?_ _ | refine Below.drew ?_ | refine below_alloc ?_ _ | (refine below_call ?_ (by assumption)) | (refine Below.setCell ?_ ?_ _; rotate_left; (simp; try omega)))
    refine ret_of (by simp [results, Tryz.results146, go_sem, *]; repeat' (first | rfl | apply And.intro)) rfl ⟨?_, by repeat (first | with_reducible exact Below.refl _ _ | with_reducible assumption | with_reducible refine below_drewN ?_ _ | with_reducible refine Below.drew ?_ | with_reducible refine below_alloc ?_ _ | (with_reducible refine Below.setCell ?_ ?_ _; rotate_left; ((try simp only); omega)))⟩
    rw [E.out]
theorem kindE_sim (p q : Int × Int × Int) : kindE p q = (if (simE p q).2 ≠ 0 then 0 else kindX (simE p q).1, (simE p q).2) := by
  by_cases h : bothP p q = 0
  · simp [kindE, simE, kindP, h]
  · simp [kindE, simE, h]
theorem simE_bd (p q : Int × Int × Int) : 0 ≤ (simE p q).1.1 ∧ (simE p q).1.1 ≤ 6 ∧ -300 ≤ (simE p q).1.2 ∧ (simE p q).1.2 ≤ 300 := by
  unfold simE
  split
  · simp
  · rename_i h
    have := bothP_ok (p := p) (q := q) (by omega)
    exact simI_bd this.1 this.2
set_option maxRecDepth 100000 in
set_option maxHeartbeats 1000000 in
theorem Kind_any (p q : Int × Int × Int) (w : World) (ht : Tabs w) :
    Calls Tryz.prog 123 #[vP p, vP q] w fun e w' => e = .returned (.tuple #[.int .i64 (kindE p q).1, .int .i64 (kindE p q).2]) ∧ Below w.heap.size w w' := by
  have q1 := Simple_any p q
  have E := Lib.hid (kindE_sim p q)
  have HB := simE_bd p q
  obtain ⟨⟨⟨s, h⟩, r⟩, hu⟩ : ∃ t, t = simE p q := ⟨_, rfl⟩
  rw [← hu] at q1 E HB
  simp only at E HB
  clear hu
  obtain ⟨a, b, c⟩ := p
  obtain ⟨a', b', c'⟩ := q
  by_cases hr : r = 0
  · have E := Lib.hid (show kindE (a, b, c) (a', b', c') = (kindX (s, h), r) by rw [E.out, if_neg (by omega)])
    subst hr
    obtain ⟨s0, s1, h0, h1⟩ := HB
    by_cases hin : 0 ≤ h ∧ h < 13
    · obtain ⟨k, rfl⟩ := Int.eq_ofNat_of_zero_le s0
      obtain ⟨m, rfl⟩ := Int.eq_ofNat_of_zero_le hin.1
      have hk : k < 7 := by omega
      have hm : m < 13 := by omega
      have hc := ht.kind (k * 13 + m) (by omega)
      have E := Lib.hid (show kindE (a, b, c) (a', b', c') = (if kindTab.getD (k * 13 + m) 0 ≠ 0 then kindTab.getD (k * 13 + m) 0 else 5, 0) by rw [E.out, kindTab_in k m hk hm])
      obtain ⟨y, hy⟩ : ∃ y, y = kindTab.getD (k * 13 + m) 0 := ⟨_, rfl⟩
      rw [← hy] at E hc
      clear hy
      have hg := ht.lt.2.2
      go_enter Tryz.func123, Tryz.ntmps123
      go_wp2_with fail
      refine Calls.mono (q1 _ ?_) ?_
      · exact ht.kept (by repeat (first | exact Below.refl _ _ | refine below_drewN ?_ _ | refine Below.drew ?_ | refine below_alloc ?_ _ | (refine below_call ?_ (by assumption)) | (refine Below.setCell ?_ ?_ _; rotate_left; (simp; try omega))))
      rintro e w1 ⟨rfl, hb1⟩
      have BP1 : Blk w1 (w.heap.size) 47 #[.int .i64 a, .int .i64 b, .int .i64 c] := by
        refine Blk.kept ?_ hb1
        repeat (first | with_reducible exact Blk.new _ _ _ | (with_reducible refine Blk.newAt _ _ _ _ ?_; first | rfl | (simp; done)) | with_reducible apply Blk.alloc | with_reducible apply Blk.drewN | with_reducible apply Blk.drew | with_reducible apply Blk.set_to | (with_reducible apply Blk.far_; (simp only [ne_eq]; omega)) | rfl)
      have cP0_1 : w1.cell? ⟨w.heap.size, 0, none⟩ = some (.int .i64 a) := BP1.cell 0
      have cP1_1 : w1.cell? ⟨w.heap.size, 1, none⟩ = some (.int .i64 b) := BP1.cell 1
      have cP2_1 : w1.cell? ⟨w.heap.size, 2, none⟩ = some (.int .i64 c) := BP1.cell 2
      have lP1 : w.heap.size < w1.heap.size := BP1.lt
      have mP1 : w.heap.size < w1.heap.size + 1 := by omega
      have nP1 : w.heap.size < w1.heap.size + 1 + 1 := by omega
      have BQ1 : Blk w1 (w.heap.size + 1) 47 #[.int .i64 a', .int .i64 b', .int .i64 c'] := by
        refine Blk.kept ?_ hb1
        repeat (first | with_reducible exact Blk.new _ _ _ | (with_reducible refine Blk.newAt _ _ _ _ ?_; first | rfl | (simp; done)) | with_reducible apply Blk.alloc | with_reducible apply Blk.drewN | with_reducible apply Blk.drew | with_reducible apply Blk.set_to | (with_reducible apply Blk.far_; (simp only [ne_eq]; omega)) | rfl)
      have cQ0_1 : w1.cell? ⟨w.heap.size + 1, 0, none⟩ = some (.int .i64 a') := BQ1.cell 0
      have cQ1_1 : w1.cell? ⟨w.heap.size + 1, 1, none⟩ = some (.int .i64 b') := BQ1.cell 1
      have cQ2_1 : w1.cell? ⟨w.heap.size + 1, 2, none⟩ = some (.int .i64 c') := BQ1.cell 2
      have lQ1 : w.heap.size + 1 < w1.heap.size := BQ1.lt
      have mQ1 : w.heap.size + 1 < w1.heap.size + 1 := by omega
      have nQ1 : w.heap.size + 1 < w1.heap.size + 1 + 1 := by omega
      have hs1 : w.heap.size ≤ w1.heap.size := by have h := hb1.size; (try simp at h); omega
      have kb : Below w.heap.size w w1 := by repeat (first | exact Below.refl _ _ | refine below_drewN ?_ _ | refine Below.drew ?_ | refine below_alloc ?_ _ | (refine below_call ?_ (by assumption)) | (refine Below.setCell ?_ ?_ _; rotate_left; (simp; try omega)))
      have hc1 : w1.cell? ⟨1, k * 13 + m, none⟩ = some (.int .i64 y) := (kb.cell (p := ⟨_, _, none⟩) hg).trans hc
      have hg1 : 1 < w1.heap.size := Nat.lt_of_lt_of_le hg kb.size
      clear hc
      have x0 : (0 : Int) ≤ (m : Int) := by omega
      have x1 : (m : Int) < 13 := by omega
      have x2 : (0 : Int) ≤ (k : Int) := by omega
      have x3 : (k : Int) < 7 := by omega
      by_cases hy : y = 0
      · subst hy
        go_wp2_with fail
        go_region
        go_wp2
        go_ret2
        rw [E.out, if_neg (fun h => h rfl)]
        exact ⟨rfl, by repeat (first | with_reducible exact Below.refl _ _ | with_reducible assumption | with_reducible refine below_drewN ?_ _ | with_reducible refine Below.drew ?_ | with_reducible refine below_alloc ?_ _ | (with_reducible refine Below.setCell ?_ ?_ _; rotate_left; ((try simp only); omega)))⟩
      · have hby : (y != 0) = true := by simpa using hy
        go_wp2_with fail
        go_region
        go_wp2
        go_region
        go_wp2
        go_ret2
        rw [E.out, if_pos hy]
        exact ⟨rfl, by repeat (first | with_reducible exact Below.refl _ _ | with_reducible assumption | with_reducible refine below_drewN ?_ _ | with_reducible refine Below.drew ?_ | with_reducible refine below_alloc ?_ _ | (with_reducible refine Below.setCell ?_ ?_ _; rotate_left; ((try simp only); omega)))⟩
    · have E := Lib.hid (show kindE (a, b, c) (a', b', c') = (5, 0) by rw [E.out, kindX_out s h (by omega)])
      go_enter Tryz.func123, Tryz.ntmps123
      go_wp2_with fail
      refine Calls.mono (q1 _ ?_) ?_
      · exact ht.kept (by repeat (first | exact Below.refl _ _ | refine below_drewN ?_ _ | refine Below.drew ?_ | refine below_alloc ?_ _ | (refine below_call ?_ (by assumption)) | (refine Below.setCell ?_ ?_ _; rotate_left; (simp; try omega))))
      rintro e w1 ⟨rfl, hb1⟩
      have BP1 : Blk w1 (w.heap.size) 47 #[.int .i64 a, .int .i64 b, .int .i64 c] := by
        refine Blk.kept ?_ hb1
        repeat (first | with_reducible exact Blk.new _ _ _ | (with_reducible refine Blk.newAt _ _ _ _ ?_; first | rfl | (simp; done)) | with_reducible apply Blk.alloc | with_reducible apply Blk.drewN | with_reducible apply Blk.drew | with_reducible apply Blk.set_to | (with_reducible apply Blk.far_; (simp only [ne_eq]; omega)) | rfl)
      have cP0_1 : w1.cell? ⟨w.heap.size, 0, none⟩ = some (.int .i64 a) := BP1.cell 0
      have cP1_1 : w1.cell? ⟨w.heap.size, 1, none⟩ = some (.int .i64 b) := BP1.cell 1
      have cP2_1 : w1.cell? ⟨w.heap.size, 2, none⟩ = some (.int .i64 c) := BP1.cell 2
      have lP1 : w.heap.size < w1.heap.size := BP1.lt
      have mP1 : w.heap.size < w1.heap.size + 1 := by omega
      have nP1 : w.heap.size < w1.heap.size + 1 + 1 := by omega
      have BQ1 : Blk w1 (w.heap.size + 1) 47 #[.int .i64 a', .int .i64 b', .int .i64 c'] := by
        refine Blk.kept ?_ hb1
        repeat (first | with_reducible exact Blk.new _ _ _ | (with_reducible refine Blk.newAt _ _ _ _ ?_; first | rfl | (simp; done)) | with_reducible apply Blk.alloc | with_reducible apply Blk.drewN | with_reducible apply Blk.drew | with_reducible apply Blk.set_to | (with_reducible apply Blk.far_; (simp only [ne_eq]; omega)) | rfl)
      have cQ0_1 : w1.cell? ⟨w.heap.size + 1, 0, none⟩ = some (.int .i64 a') := BQ1.cell 0
      have cQ1_1 : w1.cell? ⟨w.heap.size + 1, 1, none⟩ = some (.int .i64 b') := BQ1.cell 1
      have cQ2_1 : w1.cell? ⟨w.heap.size + 1, 2, none⟩ = some (.int .i64 c') := BQ1.cell 2
      have lQ1 : w.heap.size + 1 < w1.heap.size := BQ1.lt
      have mQ1 : w.heap.size + 1 < w1.heap.size + 1 := by omega
      have nQ1 : w.heap.size + 1 < w1.heap.size + 1 + 1 := by omega
      have hs1 : w.heap.size ≤ w1.heap.size := by have h := hb1.size; (try simp at h); omega
      have kb : Below w.heap.size w w1 := by repeat (first | exact Below.refl _ _ | refine below_drewN ?_ _ | refine Below.drew ?_ | refine below_alloc ?_ _ | (refine below_call ?_ (by assumption)) | (refine Below.setCell ?_ ?_ _; rotate_left; (simp; try omega)))
      by_cases h0' : h < 0
      · have hb0 : decide ((0 : Int) ≤ h) = false := by simp; omega
        go_wp2_with fail
        go_region
        go_wp2
        go_ret2
        rw [E.out]
        exact ⟨rfl, by repeat (first | with_reducible exact Below.refl _ _ | with_reducible assumption | with_reducible refine below_drewN ?_ _ | with_reducible refine Below.drew ?_ | with_reducible refine below_alloc ?_ _ | (with_reducible refine Below.setCell ?_ ?_ _; rotate_left; ((try simp only); omega)))⟩
      · have hb0 : decide ((0 : Int) ≤ h) = true := by simp; omega
        have hb1 : decide (h < 13) = false := by simp; omega
        go_wp2_with fail
        go_region
        go_wp2
        go_ret2
        rw [E.out]
        exact ⟨rfl, by repeat (first | with_reducible exact Below.refl _ _ | with_reducible assumption | with_reducible refine below_drewN ?_ _ | with_reducible refine Below.drew ?_ | with_reducible refine below_alloc ?_ _ | (with_reducible refine Below.setCell ?_ ?_ _; rotate_left; ((try simp only); omega)))⟩
  · have E := Lib.hid (show kindE (a, b, c) (a', b', c') = (0, r) by rw [E.out, if_pos hr])
    have hbr : (r != 0) = true := by simpa using hr
    clear hr
    go_enter Tryz.func123, Tryz.ntmps123
    go_wp2_with fail
    refine Calls.mono (q1 _ ?_) ?_
    · exact ht.kept (by repeat (first | exact Below.refl _ _ | refine below_drewN ?_ _ | refine Below.drew ?_ | refine below_alloc ?_ _ | (refine below_call ?_ (by assumption)) | (refine Below.setCell ?_ ?_ _; rotate_left; (simp; try omega))))
    rintro e w1 ⟨rfl, hb1⟩
    have BP1 : Blk w1 (w.heap.size) 47 #[.int .i64 a, .int .i64 b, .int .i64 c] := by
      refine Blk.kept ?_ hb1
      repeat (first | with_reducible exact Blk.new _ _ _ | (with_reducible refine Blk.newAt _ _ _ _ ?_; first | rfl | (simp; done)) | with_reducible apply Blk.alloc | with_reducible apply Blk.drewN | with_reducible apply Blk.drew | with_reducible apply Blk.set_to | (with_reducible apply Blk.far_; (simp only [ne_eq]; omega)) | rfl)
    have cP0_1 : w1.cell? ⟨w.heap.size, 0, none⟩ = some (.int .i64 a) := BP1.cell 0
    have cP1_1 : w1.cell? ⟨w.heap.size, 1, none⟩ = some (.int .i64 b) := BP1.cell 1
    have cP2_1 : w1.cell? ⟨w.heap.size, 2, none⟩ = some (.int .i64 c) := BP1.cell 2
    have lP1 : w.heap.size < w1.heap.size := BP1.lt
    have mP1 : w.heap.size < w1.heap.size + 1 := by omega
    have nP1 : w.heap.size < w1.heap.size + 1 + 1 := by omega
    have BQ1 : Blk w1 (w.heap.size + 1) 47 #[.int .i64 a', .int .i64 b', .int .i64 c'] := by
      refine Blk.kept ?_ hb1
      repeat (first | with_reducible exact Blk.new _ _ _ | (with_reducible refine Blk.newAt _ _ _ _ ?_; first | rfl | (simp; done)) | with_reducible apply Blk.alloc | with_reducible apply Blk.drewN | with_reducible apply Blk.drew | with_reducible apply Blk.set_to | (with_reducible apply Blk.far_; (simp only [ne_eq]; omega)) | rfl)
    have cQ0_1 : w1.cell? ⟨w.heap.size + 1, 0, none⟩ = some (.int .i64 a') := BQ1.cell 0
    have cQ1_1 : w1.cell? ⟨w.heap.size + 1, 1, none⟩ = some (.int .i64 b') := BQ1.cell 1
    have cQ2_1 : w1.cell? ⟨w.heap.size + 1, 2, none⟩ = some (.int .i64 c') := BQ1.cell 2
    have lQ1 : w.heap.size + 1 < w1.heap.size := BQ1.lt
    have mQ1 : w.heap.size + 1 < w1.heap.size + 1 := by omega
    have nQ1 : w.heap.size + 1 < w1.heap.size + 1 + 1 := by omega
    have hs1 : w.heap.size ≤ w1.heap.size := by have h := hb1.size; (try simp at h); omega
    go_wp2
    have kb : Below w.heap.size w w1 := by repeat (first | exact Below.refl _ _ | refine below_drewN ?_ _ | refine Below.drew ?_ | refine below_alloc ?_ _ | (refine below_call ?_ (by assumption)) | (refine Below.setCell ?_ ?_ _; rotate_left; (simp; try omega)))
    refine ret_of (by simp [results, Tryz.results123, go_sem, *]; repeat' (first | rfl | apply And.intro)) rfl ⟨?_, by repeat (first | with_reducible exact Below.refl _ _ | with_reducible assumption | with_reducible refine below_drewN ?_ _ | with_reducible refine Below.drew ?_ | with_reducible refine below_alloc ?_ _ | (with_reducible refine Below.setCell ?_ ?_ _; rotate_left; ((try simp only); omega)))⟩
    rw [E.out]
end Go.Proofs.YtpkmiegccfhpnaaGreatDoor
