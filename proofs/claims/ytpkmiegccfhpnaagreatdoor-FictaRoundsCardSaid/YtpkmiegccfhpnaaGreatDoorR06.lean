/- Parts of the proof of LawRounds31: ChKind, AlTimes, CaBase. -/
import Derived.Test.YtpkmiegccfhpnaaGreatDoorR05
set_option maxRecDepth 100000
set_option maxHeartbeats 16000000
namespace Go.Proofs.YtpkmiegccfhpnaaGreatDoor
open Go.RowKit
@[reducible] def vIE (x : (Int × Int) × Int) : Value := .tuple #[.agg #[.int .i64 x.1.1, .int .i64 x.1.2], .int .i64 x.2]
theorem simple_any (x : Int × Int) (w : World) (h0 : 0 ≤ x.1) (h1 : x.1 ≤ 62) (h2 : -400 ≤ x.2) (h3 : x.2 ≤ 400) :
  Calls Tryz.prog 166 #[.agg #[.int .i64 x.1, .int .i64 x.2]] w fun e w' => e = .returned (.agg #[.int .i64 (simI x).1, .int .i64 (simI x).2]) ∧ Below w.heap.size w w' := by
 obtain ⟨s, h⟩ := x
 simp only at h0 h1 h2 h3
 have E := Lib.hid (show simI (s, h) = (s % 7, h - 12 * (s / 7)) by rfl)
 go_enter Tryz.func166, Tryz.ntmps166
 go_wp2
 refine ret_of (by simp [results, Tryz.results166, go_sem, *]; repeat' (first | rfl | apply And.intro)) rfl ⟨?_, by repeat (first | with_reducible (first | exact Below.refl _ _ | assumption | refine below_drewN ?_ _ | refine Below.drew ?_ | refine below_alloc ?_ _) | (with_reducible refine Below.setCell ?_ ?_ _; rotate_left; ((try simp only); omega)))⟩
 rw [E.out]
theorem bothP_both {p q : Int × Int × Int} (hp : pchk p = 0) : bothP p q = pchk q := by unfold bothP; rw [if_neg (by rw [hp]; exact fun h => h rfl)]
theorem bothP_fst {p q : Int × Int × Int} (hp : pchk p ≠ 0) : bothP p q = pchk p := by unfold bothP; rw [if_pos hp]
theorem upE_ok {p q : Int × Int × Int} (hp : pchk p = 0) (hq : pchk q = 0) : upE p q = (upI p q, 0) := by unfold upE; rw [bothP_both hp, hq, if_neg (fun h => h rfl)]
theorem upE_fst {p q : Int × Int × Int} (hp : pchk p ≠ 0) : upE p q = ((0, 0), pchk p) := by unfold upE; rw [bothP_fst hp, if_pos hp]
theorem upE_snd {p q : Int × Int × Int} (hp : pchk p = 0) (hq : pchk q ≠ 0) : upE p q = ((0, 0), pchk q) := by unfold upE; rw [bothP_both hp, if_pos hq]
theorem between_any (p q : Int × Int × Int) (w : World) (ht : Tabs w) :
  Calls Tryz.prog 165 #[vP p, vP q] w fun e w' => e = .returned (vIE (upE p q)) ∧ Below w.heap.size w w' := by
 by_cases hp : pchk p = 0
 ·by_cases hq : pchk q = 0
  ·have E := Lib.hid (upE_ok hp hq)
   have hbp : (pchk p != 0) = false := by simpa using hp
   have hbq : (pchk q != 0) = false := by simpa using hq
   have q1 := lower_ok p q hp hq
   have q2 := btw_ok (loP p q) (hiP p q) (loP_pchk hp hq) (hiP_pchk hp hq)
   rw [show btw (loP p q) (hiP p q) = upI p q by rfl] at q2
   obtain ⟨⟨x, y, z⟩, hlo⟩ : ∃ t, t = loP p q := ⟨_, rfl⟩
   obtain ⟨⟨x', y', z'⟩, hhi⟩ : ∃ t, t = hiP p q := ⟨_, rfl⟩
   obtain ⟨⟨u, v⟩, hu⟩ : ∃ t, t = upI p q := ⟨_, rfl⟩
   rw [← hlo, ← hhi] at q1 q2
   rw [← hu] at q2 E
   clear hlo hhi hu hp hq
   obtain ⟨a, b, c⟩ := p
   obtain ⟨a', b', c'⟩ := q
   go_enter Tryz.func165, Tryz.ntmps165
   go_wp2_with fail
   refine (pcheck_any (_, _, _) _).mono ?_
   rintro e w1 ⟨rfl, hb1⟩
   have BP1 : Blk w1 (w.heap.size) 47 #[.int .i64 a, .int .i64 b, .int .i64 c] := by
    refine Blk.kept ?_ hb1
    repeat (first | with_reducible exact Blk.new _ _ _ | (with_reducible refine Blk.newAt _ _ _ _ ?_; first | rfl | (simp; done)) | with_reducible (first | apply Blk.alloc | apply Blk.drewN | apply Blk.drew | apply Blk.set_to) | (with_reducible apply Blk.far_; (simp only [ne_eq]; omega)) | rfl)
   have cP0_1 : w1.cell? ⟨w.heap.size, 0, none⟩ = some (.int .i64 a) := BP1.cell 0
   have cP1_1 : w1.cell? ⟨w.heap.size, 1, none⟩ = some (.int .i64 b) := BP1.cell 1
   have cP2_1 : w1.cell? ⟨w.heap.size, 2, none⟩ = some (.int .i64 c) := BP1.cell 2
   have lP1 : w.heap.size < w1.heap.size := BP1.lt
   have mP1 : w.heap.size < w1.heap.size + 1 := by omega
   have nP1 : w.heap.size < w1.heap.size + 1 + 1 := by omega
   have BQ1 : Blk w1 (w.heap.size + 1) 47 #[.int .i64 a', .int .i64 b', .int .i64 c'] := by
    refine Blk.kept ?_ hb1
    repeat (first | with_reducible exact Blk.new _ _ _ | (with_reducible refine Blk.newAt _ _ _ _ ?_; first | rfl | (simp; done)) | with_reducible (first | apply Blk.alloc | apply Blk.drewN | apply Blk.drew | apply Blk.set_to) | (with_reducible apply Blk.far_; (simp only [ne_eq]; omega)) | rfl)
   have cQ0_1 : w1.cell? ⟨w.heap.size + 1, 0, none⟩ = some (.int .i64 a') := BQ1.cell 0
   have cQ1_1 : w1.cell? ⟨w.heap.size + 1, 1, none⟩ = some (.int .i64 b') := BQ1.cell 1
   have cQ2_1 : w1.cell? ⟨w.heap.size + 1, 2, none⟩ = some (.int .i64 c') := BQ1.cell 2
   have lQ1 : w.heap.size + 1 < w1.heap.size := BQ1.lt
   have mQ1 : w.heap.size + 1 < w1.heap.size + 1 := by omega
   have nQ1 : w.heap.size + 1 < w1.heap.size + 1 + 1 := by omega
   have BR1 : Blk w1 (w.heap.size + 1 + 1) 131 #[.int .i64 0, .int .i64 0] := by
    refine Blk.kept ?_ hb1
    repeat (first | with_reducible exact Blk.new _ _ _ | (with_reducible refine Blk.newAt _ _ _ _ ?_; first | rfl | (simp; done)) | with_reducible (first | apply Blk.alloc | apply Blk.drewN | apply Blk.drew | apply Blk.set_to) | (with_reducible apply Blk.far_; (simp only [ne_eq]; omega)) | rfl)
   have cR0_1 : w1.cell? ⟨w.heap.size + 1 + 1, 0, none⟩ = some (.int .i64 0) := BR1.cell 0
   have cR1_1 : w1.cell? ⟨w.heap.size + 1 + 1, 1, none⟩ = some (.int .i64 0) := BR1.cell 1
   have lR1 : w.heap.size + 1 + 1 < w1.heap.size := BR1.lt
   have mR1 : w.heap.size + 1 + 1 < w1.heap.size + 1 := by omega
   have nR1 : w.heap.size + 1 + 1 < w1.heap.size + 1 + 1 := by omega
   have fR0_1 := BR1.frozen 0
   have fR1_1 := BR1.frozen 1
   have eRP1 : w.heap.size + 1 + 1 ≠ w.heap.size := by omega
   have ePR1 : w.heap.size ≠ w.heap.size + 1 + 1 := by omega
   have eRQ1 : w.heap.size + 1 + 1 ≠ w.heap.size + 1 := by omega
   have eQR1 : w.heap.size + 1 ≠ w.heap.size + 1 + 1 := by omega
   have hs1 : w.heap.size ≤ w1.heap.size := by have h := hb1.size; (try simp at h); omega
   go_wp2_with fail
   refine (pcheck_any (_, _, _) _).mono ?_
   rintro e w2 ⟨rfl, hb2⟩
   have BP2 : Blk w2 (w.heap.size) 47 #[.int .i64 a, .int .i64 b, .int .i64 c] := by
    refine Blk.kept ?_ hb2
    repeat (first | with_reducible exact BP1 | with_reducible exact Blk.new _ _ _ | (with_reducible refine Blk.newAt _ _ _ _ ?_; first | rfl | (simp; done)) | with_reducible (first | apply Blk.alloc | apply Blk.drewN | apply Blk.drew | apply Blk.set_to) | (with_reducible apply Blk.far_; (simp only [ne_eq]; omega)) | rfl)
   have cP0_2 : w2.cell? ⟨w.heap.size, 0, none⟩ = some (.int .i64 a) := BP2.cell 0
   have cP1_2 : w2.cell? ⟨w.heap.size, 1, none⟩ = some (.int .i64 b) := BP2.cell 1
   have cP2_2 : w2.cell? ⟨w.heap.size, 2, none⟩ = some (.int .i64 c) := BP2.cell 2
   have lP2 : w.heap.size < w2.heap.size := BP2.lt
   have mP2 : w.heap.size < w2.heap.size + 1 := by omega
   have nP2 : w.heap.size < w2.heap.size + 1 + 1 := by omega
   have BQ2 : Blk w2 (w.heap.size + 1) 47 #[.int .i64 a', .int .i64 b', .int .i64 c'] := by
    refine Blk.kept ?_ hb2
    repeat (first | with_reducible exact BQ1 | with_reducible exact Blk.new _ _ _ | (with_reducible refine Blk.newAt _ _ _ _ ?_; first | rfl | (simp; done)) | with_reducible (first | apply Blk.alloc | apply Blk.drewN | apply Blk.drew | apply Blk.set_to) | (with_reducible apply Blk.far_; (simp only [ne_eq]; omega)) | rfl)
   have cQ0_2 : w2.cell? ⟨w.heap.size + 1, 0, none⟩ = some (.int .i64 a') := BQ2.cell 0
   have cQ1_2 : w2.cell? ⟨w.heap.size + 1, 1, none⟩ = some (.int .i64 b') := BQ2.cell 1
   have cQ2_2 : w2.cell? ⟨w.heap.size + 1, 2, none⟩ = some (.int .i64 c') := BQ2.cell 2
   have lQ2 : w.heap.size + 1 < w2.heap.size := BQ2.lt
   have mQ2 : w.heap.size + 1 < w2.heap.size + 1 := by omega
   have nQ2 : w.heap.size + 1 < w2.heap.size + 1 + 1 := by omega
   have BR2 : Blk w2 (w.heap.size + 1 + 1) 131 #[.int .i64 0, .int .i64 0] := by
    refine Blk.kept ?_ hb2
    repeat (first | with_reducible exact BR1 | with_reducible exact Blk.new _ _ _ | (with_reducible refine Blk.newAt _ _ _ _ ?_; first | rfl | (simp; done)) | with_reducible (first | apply Blk.alloc | apply Blk.drewN | apply Blk.drew | apply Blk.set_to) | (with_reducible apply Blk.far_; (simp only [ne_eq]; omega)) | rfl)
   have cR0_2 : w2.cell? ⟨w.heap.size + 1 + 1, 0, none⟩ = some (.int .i64 0) := BR2.cell 0
   have cR1_2 : w2.cell? ⟨w.heap.size + 1 + 1, 1, none⟩ = some (.int .i64 0) := BR2.cell 1
   have lR2 : w.heap.size + 1 + 1 < w2.heap.size := BR2.lt
   have mR2 : w.heap.size + 1 + 1 < w2.heap.size + 1 := by omega
   have nR2 : w.heap.size + 1 + 1 < w2.heap.size + 1 + 1 := by omega
   have fR0_2 := BR2.frozen 0
   have fR1_2 := BR2.frozen 1
   clear BP1 lP1 mP1 nP1 cP0_1 cP1_1 cP2_1 BQ1 lQ1 mQ1 nQ1 cQ0_1 cQ1_1 cQ2_1 BR1 lR1 mR1 nR1 cR0_1 cR1_1 fR0_1 fR1_1
   have hs2 : w.heap.size ≤ w2.heap.size := by have h := hb2.size; (try simp at h); omega
   go_wp2_with fail
   refine Calls.mono (q1 _ ?_) ?_
   ·exact ht.kept (by repeat (first | exact Below.refl _ _ | refine below_drewN ?_ _ | refine Below.drew ?_ | refine below_alloc ?_ _ | (refine below_call ?_ (by assumption)) | (refine Below.setCell ?_ ?_ _; rotate_left; (simp; try omega))))
   rintro e w3 ⟨rfl, hb3⟩
   have BP3 : Blk w3 (w.heap.size) 47 #[.int .i64 a, .int .i64 b, .int .i64 c] := by
    refine Blk.kept ?_ hb3
    repeat (first | with_reducible exact BP2 | with_reducible exact Blk.new _ _ _ | (with_reducible refine Blk.newAt _ _ _ _ ?_; first | rfl | (simp; done)) | with_reducible (first | apply Blk.alloc | apply Blk.drewN | apply Blk.drew | apply Blk.set_to) | (with_reducible apply Blk.far_; (simp only [ne_eq]; omega)) | rfl)
   have cP0_3 : w3.cell? ⟨w.heap.size, 0, none⟩ = some (.int .i64 a) := BP3.cell 0
   have cP1_3 : w3.cell? ⟨w.heap.size, 1, none⟩ = some (.int .i64 b) := BP3.cell 1
   have cP2_3 : w3.cell? ⟨w.heap.size, 2, none⟩ = some (.int .i64 c) := BP3.cell 2
   have lP3 : w.heap.size < w3.heap.size := BP3.lt
   have mP3 : w.heap.size < w3.heap.size + 1 := by omega
   have nP3 : w.heap.size < w3.heap.size + 1 + 1 := by omega
   have BQ3 : Blk w3 (w.heap.size + 1) 47 #[.int .i64 a', .int .i64 b', .int .i64 c'] := by
    refine Blk.kept ?_ hb3
    repeat (first | with_reducible exact BQ2 | with_reducible exact Blk.new _ _ _ | (with_reducible refine Blk.newAt _ _ _ _ ?_; first | rfl | (simp; done)) | with_reducible (first | apply Blk.alloc | apply Blk.drewN | apply Blk.drew | apply Blk.set_to) | (with_reducible apply Blk.far_; (simp only [ne_eq]; omega)) | rfl)
   have cQ0_3 : w3.cell? ⟨w.heap.size + 1, 0, none⟩ = some (.int .i64 a') := BQ3.cell 0
   have cQ1_3 : w3.cell? ⟨w.heap.size + 1, 1, none⟩ = some (.int .i64 b') := BQ3.cell 1
   have cQ2_3 : w3.cell? ⟨w.heap.size + 1, 2, none⟩ = some (.int .i64 c') := BQ3.cell 2
   have lQ3 : w.heap.size + 1 < w3.heap.size := BQ3.lt
   have mQ3 : w.heap.size + 1 < w3.heap.size + 1 := by omega
   have nQ3 : w.heap.size + 1 < w3.heap.size + 1 + 1 := by omega
   have BR3 : Blk w3 (w.heap.size + 1 + 1) 131 #[.int .i64 0, .int .i64 0] := by
    refine Blk.kept ?_ hb3
    repeat (first | with_reducible exact BR2 | with_reducible exact Blk.new _ _ _ | (with_reducible refine Blk.newAt _ _ _ _ ?_; first | rfl | (simp; done)) | with_reducible (first | apply Blk.alloc | apply Blk.drewN | apply Blk.drew | apply Blk.set_to) | (with_reducible apply Blk.far_; (simp only [ne_eq]; omega)) | rfl)
   have cR0_3 : w3.cell? ⟨w.heap.size + 1 + 1, 0, none⟩ = some (.int .i64 0) := BR3.cell 0
   have cR1_3 : w3.cell? ⟨w.heap.size + 1 + 1, 1, none⟩ = some (.int .i64 0) := BR3.cell 1
   have lR3 : w.heap.size + 1 + 1 < w3.heap.size := BR3.lt
   have mR3 : w.heap.size + 1 + 1 < w3.heap.size + 1 := by omega
   have nR3 : w.heap.size + 1 + 1 < w3.heap.size + 1 + 1 := by omega
   have fR0_3 := BR3.frozen 0
   have fR1_3 := BR3.frozen 1
   clear BP2 lP2 mP2 nP2 cP0_2 cP1_2 cP2_2 BQ2 lQ2 mQ2 nQ2 cQ0_2 cQ1_2 cQ2_2 BR2 lR2 mR2 nR2 cR0_2 cR1_2 fR0_2 fR1_2
   have hs3 : w.heap.size ≤ w3.heap.size := by have h := hb3.size; (try simp at h); omega
   go_wp2_with fail
   refine Calls.mono (q2 _ ?_) ?_
   ·exact ht.kept (by repeat (first | exact Below.refl _ _ | refine below_drewN ?_ _ | refine Below.drew ?_ | refine below_alloc ?_ _ | (refine below_call ?_ (by assumption)) | (refine Below.setCell ?_ ?_ _; rotate_left; (simp; try omega))))
   rintro e w4 ⟨rfl, hb4⟩
   have BP4 : Blk w4 (w.heap.size) 47 #[.int .i64 a, .int .i64 b, .int .i64 c] := by
    refine Blk.kept ?_ hb4
    repeat (first | with_reducible exact BP3 | with_reducible exact Blk.new _ _ _ | (with_reducible refine Blk.newAt _ _ _ _ ?_; first | rfl | (simp; done)) | with_reducible (first | apply Blk.alloc | apply Blk.drewN | apply Blk.drew | apply Blk.set_to) | (with_reducible apply Blk.far_; (simp only [ne_eq]; omega)) | rfl)
   have cP0_4 : w4.cell? ⟨w.heap.size, 0, none⟩ = some (.int .i64 a) := BP4.cell 0
   have cP1_4 : w4.cell? ⟨w.heap.size, 1, none⟩ = some (.int .i64 b) := BP4.cell 1
   have cP2_4 : w4.cell? ⟨w.heap.size, 2, none⟩ = some (.int .i64 c) := BP4.cell 2
   have lP4 : w.heap.size < w4.heap.size := BP4.lt
   have mP4 : w.heap.size < w4.heap.size + 1 := by omega
   have nP4 : w.heap.size < w4.heap.size + 1 + 1 := by omega
   have BQ4 : Blk w4 (w.heap.size + 1) 47 #[.int .i64 a', .int .i64 b', .int .i64 c'] := by
    refine Blk.kept ?_ hb4
    repeat (first | with_reducible exact BQ3 | with_reducible exact Blk.new _ _ _ | (with_reducible refine Blk.newAt _ _ _ _ ?_; first | rfl | (simp; done)) | with_reducible (first | apply Blk.alloc | apply Blk.drewN | apply Blk.drew | apply Blk.set_to) | (with_reducible apply Blk.far_; (simp only [ne_eq]; omega)) | rfl)
   have cQ0_4 : w4.cell? ⟨w.heap.size + 1, 0, none⟩ = some (.int .i64 a') := BQ4.cell 0
   have cQ1_4 : w4.cell? ⟨w.heap.size + 1, 1, none⟩ = some (.int .i64 b') := BQ4.cell 1
   have cQ2_4 : w4.cell? ⟨w.heap.size + 1, 2, none⟩ = some (.int .i64 c') := BQ4.cell 2
   have lQ4 : w.heap.size + 1 < w4.heap.size := BQ4.lt
   have mQ4 : w.heap.size + 1 < w4.heap.size + 1 := by omega
   have nQ4 : w.heap.size + 1 < w4.heap.size + 1 + 1 := by omega
   have BR4 : Blk w4 (w.heap.size + 1 + 1) 131 #[.int .i64 0, .int .i64 0] := by
    refine Blk.kept ?_ hb4
    repeat (first | with_reducible exact BR3 | with_reducible exact Blk.new _ _ _ | (with_reducible refine Blk.newAt _ _ _ _ ?_; first | rfl | (simp; done)) | with_reducible (first | apply Blk.alloc | apply Blk.drewN | apply Blk.drew | apply Blk.set_to) | (with_reducible apply Blk.far_; (simp only [ne_eq]; omega)) | rfl)
   have cR0_4 : w4.cell? ⟨w.heap.size + 1 + 1, 0, none⟩ = some (.int .i64 0) := BR4.cell 0
   have cR1_4 : w4.cell? ⟨w.heap.size + 1 + 1, 1, none⟩ = some (.int .i64 0) := BR4.cell 1
   have lR4 : w.heap.size + 1 + 1 < w4.heap.size := BR4.lt
   have mR4 : w.heap.size + 1 + 1 < w4.heap.size + 1 := by omega
   have nR4 : w.heap.size + 1 + 1 < w4.heap.size + 1 + 1 := by omega
   have fR0_4 := BR4.frozen 0
   have fR1_4 := BR4.frozen 1
   have BX4 : Blk w4 (w3.heap.size) 47 #[.int .i64 x, .int .i64 y, .int .i64 z] := by
    refine Blk.kept ?_ hb4
    repeat (first | with_reducible exact Blk.new _ _ _ | (with_reducible refine Blk.newAt _ _ _ _ ?_; first | rfl | (simp; done)) | with_reducible (first | apply Blk.alloc | apply Blk.drewN | apply Blk.drew | apply Blk.set_to) | (with_reducible apply Blk.far_; (simp only [ne_eq]; omega)) | rfl)
   have cX0_4 : w4.cell? ⟨w3.heap.size, 0, none⟩ = some (.int .i64 x) := BX4.cell 0
   have cX1_4 : w4.cell? ⟨w3.heap.size, 1, none⟩ = some (.int .i64 y) := BX4.cell 1
   have cX2_4 : w4.cell? ⟨w3.heap.size, 2, none⟩ = some (.int .i64 z) := BX4.cell 2
   have lX4 : w3.heap.size < w4.heap.size := BX4.lt
   have mX4 : w3.heap.size < w4.heap.size + 1 := by omega
   have nX4 : w3.heap.size < w4.heap.size + 1 + 1 := by omega
   have BY4 : Blk w4 (w3.heap.size + 1) 47 #[.int .i64 x', .int .i64 y', .int .i64 z'] := by
    refine Blk.kept ?_ hb4
    repeat (first | with_reducible exact Blk.new _ _ _ | (with_reducible refine Blk.newAt _ _ _ _ ?_; first | rfl | (simp; done)) | with_reducible (first | apply Blk.alloc | apply Blk.drewN | apply Blk.drew | apply Blk.set_to) | (with_reducible apply Blk.far_; (simp only [ne_eq]; omega)) | rfl)
   have cY0_4 : w4.cell? ⟨w3.heap.size + 1, 0, none⟩ = some (.int .i64 x') := BY4.cell 0
   have cY1_4 : w4.cell? ⟨w3.heap.size + 1, 1, none⟩ = some (.int .i64 y') := BY4.cell 1
   have cY2_4 : w4.cell? ⟨w3.heap.size + 1, 2, none⟩ = some (.int .i64 z') := BY4.cell 2
   have lY4 : w3.heap.size + 1 < w4.heap.size := BY4.lt
   have mY4 : w3.heap.size + 1 < w4.heap.size + 1 := by omega
   have nY4 : w3.heap.size + 1 < w4.heap.size + 1 + 1 := by omega
   have eXR4 : w3.heap.size ≠ w.heap.size + 1 + 1 := by omega
   have eRX4 : w.heap.size + 1 + 1 ≠ w3.heap.size := by omega
   have eYR4 : w3.heap.size + 1 ≠ w.heap.size + 1 + 1 := by omega
   have eRY4 : w.heap.size + 1 + 1 ≠ w3.heap.size + 1 := by omega
   clear BP3 lP3 mP3 nP3 cP0_3 cP1_3 cP2_3 BQ3 lQ3 mQ3 nQ3 cQ0_3 cQ1_3 cQ2_3 BR3 lR3 mR3 nR3 cR0_3 cR1_3 fR0_3 fR1_3
   have hs4 : w.heap.size ≤ w4.heap.size := by have h := hb4.size; (try simp at h); omega
   go_wp2
   have kb : Below w.heap.size w w4 := by repeat (first | exact Below.refl _ _ | refine below_drewN ?_ _ | refine Below.drew ?_ | refine below_alloc ?_ _ | (refine below_call ?_ (by assumption)) | (refine Below.setCell ?_ ?_ _; rotate_left; (simp; try omega)))
   refine ret_of (by simp [results, Tryz.results165, go_sem, *]; repeat' (first | rfl | apply And.intro)) rfl ⟨?_, by repeat (first | with_reducible (first | exact Below.refl _ _ | assumption | refine below_drewN ?_ _ | refine Below.drew ?_ | refine below_alloc ?_ _) | (with_reducible refine Below.setCell ?_ ?_ _; rotate_left; ((try simp only); omega)))⟩
   rw [E.out]
  ·have E := Lib.hid (upE_snd hp hq)
   have hbp : (pchk p != 0) = false := by simpa using hp
   have hbq : (pchk q != 0) = true := by simpa using hq
   clear hp hq
   obtain ⟨a, b, c⟩ := p
   obtain ⟨a', b', c'⟩ := q
   go_enter Tryz.func165, Tryz.ntmps165
   go_wp2_with fail
   refine (pcheck_any (_, _, _) _).mono ?_
   rintro e w1 ⟨rfl, hb1⟩
   have BP1 : Blk w1 (w.heap.size) 47 #[.int .i64 a, .int .i64 b, .int .i64 c] := by
    refine Blk.kept ?_ hb1
    repeat (first | with_reducible exact Blk.new _ _ _ | (with_reducible refine Blk.newAt _ _ _ _ ?_; first | rfl | (simp; done)) | with_reducible (first | apply Blk.alloc | apply Blk.drewN | apply Blk.drew | apply Blk.set_to) | (with_reducible apply Blk.far_; (simp only [ne_eq]; omega)) | rfl)
   have cP0_1 : w1.cell? ⟨w.heap.size, 0, none⟩ = some (.int .i64 a) := BP1.cell 0
   have cP1_1 : w1.cell? ⟨w.heap.size, 1, none⟩ = some (.int .i64 b) := BP1.cell 1
   have cP2_1 : w1.cell? ⟨w.heap.size, 2, none⟩ = some (.int .i64 c) := BP1.cell 2
   have lP1 : w.heap.size < w1.heap.size := BP1.lt
   have mP1 : w.heap.size < w1.heap.size + 1 := by omega
   have nP1 : w.heap.size < w1.heap.size + 1 + 1 := by omega
   have BQ1 : Blk w1 (w.heap.size + 1) 47 #[.int .i64 a', .int .i64 b', .int .i64 c'] := by
    refine Blk.kept ?_ hb1
    repeat (first | with_reducible exact Blk.new _ _ _ | (with_reducible refine Blk.newAt _ _ _ _ ?_; first | rfl | (simp; done)) | with_reducible (first | apply Blk.alloc | apply Blk.drewN | apply Blk.drew | apply Blk.set_to) | (with_reducible apply Blk.far_; (simp only [ne_eq]; omega)) | rfl)
   have cQ0_1 : w1.cell? ⟨w.heap.size + 1, 0, none⟩ = some (.int .i64 a') := BQ1.cell 0
   have cQ1_1 : w1.cell? ⟨w.heap.size + 1, 1, none⟩ = some (.int .i64 b') := BQ1.cell 1
   have cQ2_1 : w1.cell? ⟨w.heap.size + 1, 2, none⟩ = some (.int .i64 c') := BQ1.cell 2
   have lQ1 : w.heap.size + 1 < w1.heap.size := BQ1.lt
   have mQ1 : w.heap.size + 1 < w1.heap.size + 1 := by omega
   have nQ1 : w.heap.size + 1 < w1.heap.size + 1 + 1 := by omega
   have BR1 : Blk w1 (w.heap.size + 1 + 1) 131 #[.int .i64 0, .int .i64 0] := by
    refine Blk.kept ?_ hb1
    repeat (first | with_reducible exact Blk.new _ _ _ | (with_reducible refine Blk.newAt _ _ _ _ ?_; first | rfl | (simp; done)) | with_reducible (first | apply Blk.alloc | apply Blk.drewN | apply Blk.drew | apply Blk.set_to) | (with_reducible apply Blk.far_; (simp only [ne_eq]; omega)) | rfl)
   have cR0_1 : w1.cell? ⟨w.heap.size + 1 + 1, 0, none⟩ = some (.int .i64 0) := BR1.cell 0
   have cR1_1 : w1.cell? ⟨w.heap.size + 1 + 1, 1, none⟩ = some (.int .i64 0) := BR1.cell 1
   have lR1 : w.heap.size + 1 + 1 < w1.heap.size := BR1.lt
   have mR1 : w.heap.size + 1 + 1 < w1.heap.size + 1 := by omega
   have nR1 : w.heap.size + 1 + 1 < w1.heap.size + 1 + 1 := by omega
   have fR0_1 := BR1.frozen 0
   have fR1_1 := BR1.frozen 1
   have eRP1 : w.heap.size + 1 + 1 ≠ w.heap.size := by omega
   have ePR1 : w.heap.size ≠ w.heap.size + 1 + 1 := by omega
   have eRQ1 : w.heap.size + 1 + 1 ≠ w.heap.size + 1 := by omega
   have eQR1 : w.heap.size + 1 ≠ w.heap.size + 1 + 1 := by omega
   have hs1 : w.heap.size ≤ w1.heap.size := by have h := hb1.size; (try simp at h); omega
   go_wp2_with fail
   refine (pcheck_any (_, _, _) _).mono ?_
   rintro e w2 ⟨rfl, hb2⟩
   have BP2 : Blk w2 (w.heap.size) 47 #[.int .i64 a, .int .i64 b, .int .i64 c] := by
    refine Blk.kept ?_ hb2
    repeat (first | with_reducible exact BP1 | with_reducible exact Blk.new _ _ _ | (with_reducible refine Blk.newAt _ _ _ _ ?_; first | rfl | (simp; done)) | with_reducible (first | apply Blk.alloc | apply Blk.drewN | apply Blk.drew | apply Blk.set_to) | (with_reducible apply Blk.far_; (simp only [ne_eq]; omega)) | rfl)
   have cP0_2 : w2.cell? ⟨w.heap.size, 0, none⟩ = some (.int .i64 a) := BP2.cell 0
   have cP1_2 : w2.cell? ⟨w.heap.size, 1, none⟩ = some (.int .i64 b) := BP2.cell 1
   have cP2_2 : w2.cell? ⟨w.heap.size, 2, none⟩ = some (.int .i64 c) := BP2.cell 2
   have lP2 : w.heap.size < w2.heap.size := BP2.lt
   have mP2 : w.heap.size < w2.heap.size + 1 := by omega
   have nP2 : w.heap.size < w2.heap.size + 1 + 1 := by omega
   have BQ2 : Blk w2 (w.heap.size + 1) 47 #[.int .i64 a', .int .i64 b', .int .i64 c'] := by
    refine Blk.kept ?_ hb2
    repeat (first | with_reducible exact BQ1 | with_reducible exact Blk.new _ _ _ | (with_reducible refine Blk.newAt _ _ _ _ ?_; first | rfl | (simp; done)) | with_reducible (first | apply Blk.alloc | apply Blk.drewN | apply Blk.drew | apply Blk.set_to) | (with_reducible apply Blk.far_; (simp only [ne_eq]; omega)) | rfl)
   have cQ0_2 : w2.cell? ⟨w.heap.size + 1, 0, none⟩ = some (.int .i64 a') := BQ2.cell 0
   have cQ1_2 : w2.cell? ⟨w.heap.size + 1, 1, none⟩ = some (.int .i64 b') := BQ2.cell 1
   have cQ2_2 : w2.cell? ⟨w.heap.size + 1, 2, none⟩ = some (.int .i64 c') := BQ2.cell 2
   have lQ2 : w.heap.size + 1 < w2.heap.size := BQ2.lt
   have mQ2 : w.heap.size + 1 < w2.heap.size + 1 := by omega
   have nQ2 : w.heap.size + 1 < w2.heap.size + 1 + 1 := by omega
   have BR2 : Blk w2 (w.heap.size + 1 + 1) 131 #[.int .i64 0, .int .i64 0] := by
    refine Blk.kept ?_ hb2
    repeat (first | with_reducible exact BR1 | with_reducible exact Blk.new _ _ _ | (with_reducible refine Blk.newAt _ _ _ _ ?_; first | rfl | (simp; done)) | with_reducible (first | apply Blk.alloc | apply Blk.drewN | apply Blk.drew | apply Blk.set_to) | (with_reducible apply Blk.far_; (simp only [ne_eq]; omega)) | rfl)
   have cR0_2 : w2.cell? ⟨w.heap.size + 1 + 1, 0, none⟩ = some (.int .i64 0) := BR2.cell 0
   have cR1_2 : w2.cell? ⟨w.heap.size + 1 + 1, 1, none⟩ = some (.int .i64 0) := BR2.cell 1
   have lR2 : w.heap.size + 1 + 1 < w2.heap.size := BR2.lt
   have mR2 : w.heap.size + 1 + 1 < w2.heap.size + 1 := by omega
   have nR2 : w.heap.size + 1 + 1 < w2.heap.size + 1 + 1 := by omega
   have fR0_2 := BR2.frozen 0
   have fR1_2 := BR2.frozen 1
   clear BP1 lP1 mP1 nP1 cP0_1 cP1_1 cP2_1 BQ1 lQ1 mQ1 nQ1 cQ0_1 cQ1_1 cQ2_1 BR1 lR1 mR1 nR1 cR0_1 cR1_1 fR0_1 fR1_1
   have hs2 : w.heap.size ≤ w2.heap.size := by have h := hb2.size; (try simp at h); omega
   go_wp2
   have kb : Below w.heap.size w w2 := by repeat (first | exact Below.refl _ _ | refine below_drewN ?_ _ | refine Below.drew ?_ | refine below_alloc ?_ _ | (refine below_call ?_ (by assumption)) | (refine Below.setCell ?_ ?_ _; rotate_left; (simp; try omega)))
   refine ret_of (by simp [results, Tryz.results165, go_sem, *]; repeat' (first | rfl | apply And.intro)) rfl ⟨?_, by repeat (first | with_reducible (first | exact Below.refl _ _ | assumption | refine below_drewN ?_ _ | refine Below.drew ?_ | refine below_alloc ?_ _) | (with_reducible refine Below.setCell ?_ ?_ _; rotate_left; ((try simp only); omega)))⟩
   rw [E.out]
 ·have E := Lib.hid (upE_fst (q := q) hp)
  have hbp : (pchk p != 0) = true := by simpa using hp
  clear hp
  obtain ⟨a, b, c⟩ := p
  obtain ⟨a', b', c'⟩ := q
  go_enter Tryz.func165, Tryz.ntmps165
  go_wp2_with fail
  refine (pcheck_any (_, _, _) _).mono ?_
  rintro e w1 ⟨rfl, hb1⟩
  have BP1 : Blk w1 (w.heap.size) 47 #[.int .i64 a, .int .i64 b, .int .i64 c] := by
   refine Blk.kept ?_ hb1
   repeat (first | with_reducible exact Blk.new _ _ _ | (with_reducible refine Blk.newAt _ _ _ _ ?_; first | rfl | (simp; done)) | with_reducible (first | apply Blk.alloc | apply Blk.drewN | apply Blk.drew | apply Blk.set_to) | (with_reducible apply Blk.far_; (simp only [ne_eq]; omega)) | rfl)
  have cP0_1 : w1.cell? ⟨w.heap.size, 0, none⟩ = some (.int .i64 a) := BP1.cell 0
  have cP1_1 : w1.cell? ⟨w.heap.size, 1, none⟩ = some (.int .i64 b) := BP1.cell 1
  have cP2_1 : w1.cell? ⟨w.heap.size, 2, none⟩ = some (.int .i64 c) := BP1.cell 2
  have lP1 : w.heap.size < w1.heap.size := BP1.lt
  have mP1 : w.heap.size < w1.heap.size + 1 := by omega
  have nP1 : w.heap.size < w1.heap.size + 1 + 1 := by omega
  have BQ1 : Blk w1 (w.heap.size + 1) 47 #[.int .i64 a', .int .i64 b', .int .i64 c'] := by
   refine Blk.kept ?_ hb1
   repeat (first | with_reducible exact Blk.new _ _ _ | (with_reducible refine Blk.newAt _ _ _ _ ?_; first | rfl | (simp; done)) | with_reducible (first | apply Blk.alloc | apply Blk.drewN | apply Blk.drew | apply Blk.set_to) | (with_reducible apply Blk.far_; (simp only [ne_eq]; omega)) | rfl)
  have cQ0_1 : w1.cell? ⟨w.heap.size + 1, 0, none⟩ = some (.int .i64 a') := BQ1.cell 0
  have cQ1_1 : w1.cell? ⟨w.heap.size + 1, 1, none⟩ = some (.int .i64 b') := BQ1.cell 1
  have cQ2_1 : w1.cell? ⟨w.heap.size + 1, 2, none⟩ = some (.int .i64 c') := BQ1.cell 2
  have lQ1 : w.heap.size + 1 < w1.heap.size := BQ1.lt
  have mQ1 : w.heap.size + 1 < w1.heap.size + 1 := by omega
  have nQ1 : w.heap.size + 1 < w1.heap.size + 1 + 1 := by omega
  have BR1 : Blk w1 (w.heap.size + 1 + 1) 131 #[.int .i64 0, .int .i64 0] := by
   refine Blk.kept ?_ hb1
   repeat (first | with_reducible exact Blk.new _ _ _ | (with_reducible refine Blk.newAt _ _ _ _ ?_; first | rfl | (simp; done)) | with_reducible (first | apply Blk.alloc | apply Blk.drewN | apply Blk.drew | apply Blk.set_to) | (with_reducible apply Blk.far_; (simp only [ne_eq]; omega)) | rfl)
  have cR0_1 : w1.cell? ⟨w.heap.size + 1 + 1, 0, none⟩ = some (.int .i64 0) := BR1.cell 0
  have cR1_1 : w1.cell? ⟨w.heap.size + 1 + 1, 1, none⟩ = some (.int .i64 0) := BR1.cell 1
  have lR1 : w.heap.size + 1 + 1 < w1.heap.size := BR1.lt
  have mR1 : w.heap.size + 1 + 1 < w1.heap.size + 1 := by omega
  have nR1 : w.heap.size + 1 + 1 < w1.heap.size + 1 + 1 := by omega
  have fR0_1 := BR1.frozen 0
  have fR1_1 := BR1.frozen 1
  have eRP1 : w.heap.size + 1 + 1 ≠ w.heap.size := by omega
  have ePR1 : w.heap.size ≠ w.heap.size + 1 + 1 := by omega
  have eRQ1 : w.heap.size + 1 + 1 ≠ w.heap.size + 1 := by omega
  have eQR1 : w.heap.size + 1 ≠ w.heap.size + 1 + 1 := by omega
  have hs1 : w.heap.size ≤ w1.heap.size := by have h := hb1.size; (try simp at h); omega
  go_wp2
  have kb : Below w.heap.size w w1 := by repeat (first | exact Below.refl _ _ | refine below_drewN ?_ _ | refine Below.drew ?_ | refine below_alloc ?_ _ | (refine below_call ?_ (by assumption)) | (refine Below.setCell ?_ ?_ _; rotate_left; (simp; try omega)))
  refine ret_of (by simp [results, Tryz.results165, go_sem, *]; repeat' (first | rfl | apply And.intro)) rfl ⟨?_, by repeat (first | with_reducible (first | exact Below.refl _ _ | assumption | refine below_drewN ?_ _ | refine Below.drew ?_ | refine below_alloc ?_ _) | (with_reducible refine Below.setCell ?_ ?_ _; rotate_left; ((try simp only); omega)))⟩
  rw [E.out]
theorem simE_up (p q : Int × Int × Int) : simE p q = (if (upE p q).2 ≠ 0 then (0, 0) else simI (upE p q).1, (upE p q).2) := by
 by_cases h : bothP p q = 0
 ·simp [simE, upE, h]
 ·simp [simE, upE, h]
theorem upE_bd (p q : Int × Int × Int) : 0 ≤ (upE p q).1.1 ∧ (upE p q).1.1 ≤ 62 ∧ -110 ≤ (upE p q).1.2 ∧ (upE p q).1.2 ≤ 110 := by
 unfold upE
 split
 ·simp
 ·rename_i h
  have := bothP_ok (p := p) (q := q) (by omega)
  exact upI_bd this.1 this.2
theorem Simple_any (p q : Int × Int × Int) (w : World) (ht : Tabs w) :
  Calls Tryz.prog 146 #[vP p, vP q] w fun e w' => e = .returned (vIE (simE p q)) ∧ Below w.heap.size w w' := by
 have q1 := between_any p q
 have E := Lib.hid (simE_up p q)
 have HB := upE_bd p q
 obtain ⟨⟨⟨u, v⟩, r⟩, hu⟩ : ∃ t, t = upE p q := ⟨_, rfl⟩
 rw [← hu] at q1 E HB
 simp only at E HB
 have q2 := fun w => simple_any (u, v) w HB.1 HB.2.1 (by simp only; omega) (by simp only; omega)
 obtain ⟨⟨s, h⟩, hs⟩ : ∃ t, t = simI (u, v) := ⟨_, rfl⟩
 rw [← hs] at q2 E
 clear hs hu HB
 obtain ⟨a, b, c⟩ := p
 obtain ⟨a', b', c'⟩ := q
 by_cases hr : r = 0
 ·have E := Lib.hid (show simE (a, b, c) (a', b', c') = ((s, h), r) by rw [E.out, if_neg (by omega)])
  subst hr
  go_enter Tryz.func146, Tryz.ntmps146
  go_wp2_with fail
  refine Calls.mono (q1 _ ?_) ?_
  ·exact ht.kept (by repeat (first | exact Below.refl _ _ | refine below_drewN ?_ _ | refine Below.drew ?_ | refine below_alloc ?_ _ | (refine below_call ?_ (by assumption)) | (refine Below.setCell ?_ ?_ _; rotate_left; (simp; try omega))))
  rintro e w1 ⟨rfl, hb1⟩
  have BP1 : Blk w1 (w.heap.size) 47 #[.int .i64 a, .int .i64 b, .int .i64 c] := by
   refine Blk.kept ?_ hb1
   repeat (first | with_reducible exact Blk.new _ _ _ | (with_reducible refine Blk.newAt _ _ _ _ ?_; first | rfl | (simp; done)) | with_reducible (first | apply Blk.alloc | apply Blk.drewN | apply Blk.drew | apply Blk.set_to) | (with_reducible apply Blk.far_; (simp only [ne_eq]; omega)) | rfl)
  have cP0_1 : w1.cell? ⟨w.heap.size, 0, none⟩ = some (.int .i64 a) := BP1.cell 0
  have cP1_1 : w1.cell? ⟨w.heap.size, 1, none⟩ = some (.int .i64 b) := BP1.cell 1
  have cP2_1 : w1.cell? ⟨w.heap.size, 2, none⟩ = some (.int .i64 c) := BP1.cell 2
  have lP1 : w.heap.size < w1.heap.size := BP1.lt
  have mP1 : w.heap.size < w1.heap.size + 1 := by omega
  have nP1 : w.heap.size < w1.heap.size + 1 + 1 := by omega
  have BQ1 : Blk w1 (w.heap.size + 1) 47 #[.int .i64 a', .int .i64 b', .int .i64 c'] := by
   refine Blk.kept ?_ hb1
   repeat (first | with_reducible exact Blk.new _ _ _ | (with_reducible refine Blk.newAt _ _ _ _ ?_; first | rfl | (simp; done)) | with_reducible (first | apply Blk.alloc | apply Blk.drewN | apply Blk.drew | apply Blk.set_to) | (with_reducible apply Blk.far_; (simp only [ne_eq]; omega)) | rfl)
  have cQ0_1 : w1.cell? ⟨w.heap.size + 1, 0, none⟩ = some (.int .i64 a') := BQ1.cell 0
  have cQ1_1 : w1.cell? ⟨w.heap.size + 1, 1, none⟩ = some (.int .i64 b') := BQ1.cell 1
  have cQ2_1 : w1.cell? ⟨w.heap.size + 1, 2, none⟩ = some (.int .i64 c') := BQ1.cell 2
  have lQ1 : w.heap.size + 1 < w1.heap.size := BQ1.lt
  have mQ1 : w.heap.size + 1 < w1.heap.size + 1 := by omega
  have nQ1 : w.heap.size + 1 < w1.heap.size + 1 + 1 := by omega
  have BR1 : Blk w1 (w.heap.size + 1 + 1) 131 #[.int .i64 0, .int .i64 0] := by
   refine Blk.kept ?_ hb1
   repeat (first | with_reducible exact Blk.new _ _ _ | (with_reducible refine Blk.newAt _ _ _ _ ?_; first | rfl | (simp; done)) | with_reducible (first | apply Blk.alloc | apply Blk.drewN | apply Blk.drew | apply Blk.set_to) | (with_reducible apply Blk.far_; (simp only [ne_eq]; omega)) | rfl)
  have cR0_1 : w1.cell? ⟨w.heap.size + 1 + 1, 0, none⟩ = some (.int .i64 0) := BR1.cell 0
  have cR1_1 : w1.cell? ⟨w.heap.size + 1 + 1, 1, none⟩ = some (.int .i64 0) := BR1.cell 1
  have lR1 : w.heap.size + 1 + 1 < w1.heap.size := BR1.lt
  have mR1 : w.heap.size + 1 + 1 < w1.heap.size + 1 := by omega
  have nR1 : w.heap.size + 1 + 1 < w1.heap.size + 1 + 1 := by omega
  have fR0_1 := BR1.frozen 0
  have fR1_1 := BR1.frozen 1
  have eRP1 : w.heap.size + 1 + 1 ≠ w.heap.size := by omega
  have ePR1 : w.heap.size ≠ w.heap.size + 1 + 1 := by omega
  have eRQ1 : w.heap.size + 1 + 1 ≠ w.heap.size + 1 := by omega
  have eQR1 : w.heap.size + 1 ≠ w.heap.size + 1 + 1 := by omega
  have hs1 : w.heap.size ≤ w1.heap.size := by have h := hb1.size; (try simp at h); omega
  go_wp2_with fail
  refine (q2 _).mono ?_
  rintro e w2 ⟨rfl, hb2⟩
  have BP2 : Blk w2 (w.heap.size) 47 #[.int .i64 a, .int .i64 b, .int .i64 c] := by
   refine Blk.kept ?_ hb2
   repeat (first | with_reducible exact BP1 | with_reducible exact Blk.new _ _ _ | (with_reducible refine Blk.newAt _ _ _ _ ?_; first | rfl | (simp; done)) | with_reducible (first | apply Blk.alloc | apply Blk.drewN | apply Blk.drew | apply Blk.set_to) | (with_reducible apply Blk.far_; (simp only [ne_eq]; omega)) | rfl)
  have cP0_2 : w2.cell? ⟨w.heap.size, 0, none⟩ = some (.int .i64 a) := BP2.cell 0
  have cP1_2 : w2.cell? ⟨w.heap.size, 1, none⟩ = some (.int .i64 b) := BP2.cell 1
  have cP2_2 : w2.cell? ⟨w.heap.size, 2, none⟩ = some (.int .i64 c) := BP2.cell 2
  have lP2 : w.heap.size < w2.heap.size := BP2.lt
  have mP2 : w.heap.size < w2.heap.size + 1 := by omega
  have nP2 : w.heap.size < w2.heap.size + 1 + 1 := by omega
  have BQ2 : Blk w2 (w.heap.size + 1) 47 #[.int .i64 a', .int .i64 b', .int .i64 c'] := by
   refine Blk.kept ?_ hb2
   repeat (first | with_reducible exact BQ1 | with_reducible exact Blk.new _ _ _ | (with_reducible refine Blk.newAt _ _ _ _ ?_; first | rfl | (simp; done)) | with_reducible (first | apply Blk.alloc | apply Blk.drewN | apply Blk.drew | apply Blk.set_to) | (with_reducible apply Blk.far_; (simp only [ne_eq]; omega)) | rfl)
  have cQ0_2 : w2.cell? ⟨w.heap.size + 1, 0, none⟩ = some (.int .i64 a') := BQ2.cell 0
  have cQ1_2 : w2.cell? ⟨w.heap.size + 1, 1, none⟩ = some (.int .i64 b') := BQ2.cell 1
  have cQ2_2 : w2.cell? ⟨w.heap.size + 1, 2, none⟩ = some (.int .i64 c') := BQ2.cell 2
  have lQ2 : w.heap.size + 1 < w2.heap.size := BQ2.lt
  have mQ2 : w.heap.size + 1 < w2.heap.size + 1 := by omega
  have nQ2 : w.heap.size + 1 < w2.heap.size + 1 + 1 := by omega
  have BR2 : Blk w2 (w.heap.size + 1 + 1) 131 #[.int .i64 0, .int .i64 0] := by
   refine Blk.kept ?_ hb2
   repeat (first | with_reducible exact BR1 | with_reducible exact Blk.new _ _ _ | (with_reducible refine Blk.newAt _ _ _ _ ?_; first | rfl | (simp; done)) | with_reducible (first | apply Blk.alloc | apply Blk.drewN | apply Blk.drew | apply Blk.set_to) | (with_reducible apply Blk.far_; (simp only [ne_eq]; omega)) | rfl)
  have cR0_2 : w2.cell? ⟨w.heap.size + 1 + 1, 0, none⟩ = some (.int .i64 0) := BR2.cell 0
  have cR1_2 : w2.cell? ⟨w.heap.size + 1 + 1, 1, none⟩ = some (.int .i64 0) := BR2.cell 1
  have lR2 : w.heap.size + 1 + 1 < w2.heap.size := BR2.lt
  have mR2 : w.heap.size + 1 + 1 < w2.heap.size + 1 := by omega
  have nR2 : w.heap.size + 1 + 1 < w2.heap.size + 1 + 1 := by omega
  have fR0_2 := BR2.frozen 0
  have fR1_2 := BR2.frozen 1
  have BX2 : Blk w2 (w1.heap.size) 131 #[.int .i64 u, .int .i64 v] := by
   refine Blk.kept ?_ hb2
   repeat (first | with_reducible exact Blk.new _ _ _ | (with_reducible refine Blk.newAt _ _ _ _ ?_; first | rfl | (simp; done)) | with_reducible (first | apply Blk.alloc | apply Blk.drewN | apply Blk.drew | apply Blk.set_to) | (with_reducible apply Blk.far_; (simp only [ne_eq]; omega)) | rfl)
  have cX0_2 : w2.cell? ⟨w1.heap.size, 0, none⟩ = some (.int .i64 u) := BX2.cell 0
  have cX1_2 : w2.cell? ⟨w1.heap.size, 1, none⟩ = some (.int .i64 v) := BX2.cell 1
  have lX2 : w1.heap.size < w2.heap.size := BX2.lt
  have mX2 : w1.heap.size < w2.heap.size + 1 := by omega
  have nX2 : w1.heap.size < w2.heap.size + 1 + 1 := by omega
  have eXR2 : w1.heap.size ≠ w.heap.size + 1 + 1 := by omega
  have eRX2 : w.heap.size + 1 + 1 ≠ w1.heap.size := by omega
  clear BP1 lP1 mP1 nP1 cP0_1 cP1_1 cP2_1 BQ1 lQ1 mQ1 nQ1 cQ0_1 cQ1_1 cQ2_1 BR1 lR1 mR1 nR1 cR0_1 cR1_1 fR0_1 fR1_1
  have hs2 : w.heap.size ≤ w2.heap.size := by have h := hb2.size; (try simp at h); omega
  go_wp2
  have kb : Below w.heap.size w w2 := by repeat (first | exact Below.refl _ _ | refine below_drewN ?_ _ | refine Below.drew ?_ | refine below_alloc ?_ _ | (refine below_call ?_ (by assumption)) | (refine Below.setCell ?_ ?_ _; rotate_left; (simp; try omega)))
  refine ret_of (by simp [results, Tryz.results146, go_sem, *]; repeat' (first | rfl | apply And.intro)) rfl ⟨?_, by repeat (first | with_reducible (first | exact Below.refl _ _ | assumption | refine below_drewN ?_ _ | refine Below.drew ?_ | refine below_alloc ?_ _) | (with_reducible refine Below.setCell ?_ ?_ _; rotate_left; ((try simp only); omega)))⟩
  rw [E.out]
 ·have E := Lib.hid (show simE (a, b, c) (a', b', c') = ((0, 0), r) by rw [E.out, if_pos hr])
  have hbr : (r != 0) = true := by simpa using hr
  clear hr
  go_enter Tryz.func146, Tryz.ntmps146
  go_wp2_with fail
  refine Calls.mono (q1 _ ?_) ?_
  ·exact ht.kept (by repeat (first | exact Below.refl _ _ | refine below_drewN ?_ _ | refine Below.drew ?_ | refine below_alloc ?_ _ | (refine below_call ?_ (by assumption)) | (refine Below.setCell ?_ ?_ _; rotate_left; (simp; try omega))))
  rintro e w1 ⟨rfl, hb1⟩
  have BP1 : Blk w1 (w.heap.size) 47 #[.int .i64 a, .int .i64 b, .int .i64 c] := by
   refine Blk.kept ?_ hb1
   repeat (first | with_reducible exact Blk.new _ _ _ | (with_reducible refine Blk.newAt _ _ _ _ ?_; first | rfl | (simp; done)) | with_reducible (first | apply Blk.alloc | apply Blk.drewN | apply Blk.drew | apply Blk.set_to) | (with_reducible apply Blk.far_; (simp only [ne_eq]; omega)) | rfl)
  have cP0_1 : w1.cell? ⟨w.heap.size, 0, none⟩ = some (.int .i64 a) := BP1.cell 0
  have cP1_1 : w1.cell? ⟨w.heap.size, 1, none⟩ = some (.int .i64 b) := BP1.cell 1
  have cP2_1 : w1.cell? ⟨w.heap.size, 2, none⟩ = some (.int .i64 c) := BP1.cell 2
  have lP1 : w.heap.size < w1.heap.size := BP1.lt
  have mP1 : w.heap.size < w1.heap.size + 1 := by omega
  have nP1 : w.heap.size < w1.heap.size + 1 + 1 := by omega
  have BQ1 : Blk w1 (w.heap.size + 1) 47 #[.int .i64 a', .int .i64 b', .int .i64 c'] := by
   refine Blk.kept ?_ hb1
   repeat (first | with_reducible exact Blk.new _ _ _ | (with_reducible refine Blk.newAt _ _ _ _ ?_; first | rfl | (simp; done)) | with_reducible (first | apply Blk.alloc | apply Blk.drewN | apply Blk.drew | apply Blk.set_to) | (with_reducible apply Blk.far_; (simp only [ne_eq]; omega)) | rfl)
  have cQ0_1 : w1.cell? ⟨w.heap.size + 1, 0, none⟩ = some (.int .i64 a') := BQ1.cell 0
  have cQ1_1 : w1.cell? ⟨w.heap.size + 1, 1, none⟩ = some (.int .i64 b') := BQ1.cell 1
  have cQ2_1 : w1.cell? ⟨w.heap.size + 1, 2, none⟩ = some (.int .i64 c') := BQ1.cell 2
  have lQ1 : w.heap.size + 1 < w1.heap.size := BQ1.lt
  have mQ1 : w.heap.size + 1 < w1.heap.size + 1 := by omega
  have nQ1 : w.heap.size + 1 < w1.heap.size + 1 + 1 := by omega
  have BR1 : Blk w1 (w.heap.size + 1 + 1) 131 #[.int .i64 0, .int .i64 0] := by
   refine Blk.kept ?_ hb1
   repeat (first | with_reducible exact Blk.new _ _ _ | (with_reducible refine Blk.newAt _ _ _ _ ?_; first | rfl | (simp; done)) | with_reducible (first | apply Blk.alloc | apply Blk.drewN | apply Blk.drew | apply Blk.set_to) | (with_reducible apply Blk.far_; (simp only [ne_eq]; omega)) | rfl)
  have cR0_1 : w1.cell? ⟨w.heap.size + 1 + 1, 0, none⟩ = some (.int .i64 0) := BR1.cell 0
  have cR1_1 : w1.cell? ⟨w.heap.size + 1 + 1, 1, none⟩ = some (.int .i64 0) := BR1.cell 1
  have lR1 : w.heap.size + 1 + 1 < w1.heap.size := BR1.lt
  have mR1 : w.heap.size + 1 + 1 < w1.heap.size + 1 := by omega
  have nR1 : w.heap.size + 1 + 1 < w1.heap.size + 1 + 1 := by omega
  have fR0_1 := BR1.frozen 0
  have fR1_1 := BR1.frozen 1
  have eRP1 : w.heap.size + 1 + 1 ≠ w.heap.size := by omega
  have ePR1 : w.heap.size ≠ w.heap.size + 1 + 1 := by omega
  have eRQ1 : w.heap.size + 1 + 1 ≠ w.heap.size + 1 := by omega
  have eQR1 : w.heap.size + 1 ≠ w.heap.size + 1 + 1 := by omega
  have hs1 : w.heap.size ≤ w1.heap.size := by have h := hb1.size; (try simp at h); omega
  go_wp2
  have kb : Below w.heap.size w w1 := by repeat (first | exact Below.refl _ _ | refine below_drewN ?_ _ | refine Below.drew ?_ | refine below_alloc ?_ _ | (refine below_call ?_ (by assumption)) | (refine Below.setCell ?_ ?_ _; rotate_left; (simp; try omega)))
  refine ret_of (by simp [results, Tryz.results146, go_sem, *]; repeat' (first | rfl | apply And.intro)) rfl ⟨?_, by repeat (first | with_reducible (first | exact Below.refl _ _ | assumption | refine below_drewN ?_ _ | refine Below.drew ?_ | refine below_alloc ?_ _) | (with_reducible refine Below.setCell ?_ ?_ _; rotate_left; ((try simp only); omega)))⟩
  rw [E.out]
theorem kindE_sim (p q : Int × Int × Int) : kindE p q = (if (simE p q).2 ≠ 0 then 0 else kindX (simE p q).1, (simE p q).2) := by
 by_cases h : bothP p q = 0
 ·simp [kindE, simE, kindP, h]
 ·simp [kindE, simE, h]
theorem simE_bd (p q : Int × Int × Int) : 0 ≤ (simE p q).1.1 ∧ (simE p q).1.1 ≤ 6 ∧ -300 ≤ (simE p q).1.2 ∧ (simE p q).1.2 ≤ 300 := by
 unfold simE
 split
 ·simp
 ·rename_i h
  have := bothP_ok (p := p) (q := q) (by omega)
  exact simI_bd this.1 this.2
theorem Kind_any (p q : Int × Int × Int) (w : World) (ht : Tabs w) :
  Calls Tryz.prog 123 #[vP p, vP q] w fun e w' => e = .returned (.tuple #[.int .i64 (kindE p q).1, .int .i64 (kindE p q).2]) ∧ Below w.heap.size w w' := by
 have q1 := Simple_any p q
 have E := Lib.hid (kindE_sim p q)
 have HB := simE_bd p q
 obtain ⟨⟨⟨s, h⟩, r⟩, hu⟩ : ∃ t, t = simE p q := ⟨_, rfl⟩
 rw [← hu] at q1 E HB
 simp only at E HB
 clear hu
 obtain ⟨a, b, c⟩ := p
 obtain ⟨a', b', c'⟩ := q
 by_cases hr : r = 0
 ·have E := Lib.hid (show kindE (a, b, c) (a', b', c') = (kindX (s, h), r) by rw [E.out, if_neg (by omega)])
  subst hr
  obtain ⟨s0, s1, h0, h1⟩ := HB
  by_cases hin : 0 ≤ h ∧ h < 13
  ·obtain ⟨k, rfl⟩ := Int.eq_ofNat_of_zero_le s0
   obtain ⟨m, rfl⟩ := Int.eq_ofNat_of_zero_le hin.1
   have hk : k < 7 := by omega
   have hm : m < 13 := by omega
   have hc := ht.kind (k * 13 + m) (by omega)
   have E := Lib.hid (show kindE (a, b, c) (a', b', c') = (if kindTab.getD (k * 13 + m) 0 ≠ 0 then kindTab.getD (k * 13 + m) 0 else 5, 0) by rw [E.out, kindTab_in k m hk hm])
   obtain ⟨y, hy⟩ : ∃ y, y = kindTab.getD (k * 13 + m) 0 := ⟨_, rfl⟩
   rw [← hy] at E hc
   clear hy
   have hg := ht.lt.2.2
   go_enter Tryz.func123, Tryz.ntmps123
   go_wp2_with fail
   refine Calls.mono (q1 _ ?_) ?_
   ·exact ht.kept (by repeat (first | exact Below.refl _ _ | refine below_drewN ?_ _ | refine Below.drew ?_ | refine below_alloc ?_ _ | (refine below_call ?_ (by assumption)) | (refine Below.setCell ?_ ?_ _; rotate_left; (simp; try omega))))
   rintro e w1 ⟨rfl, hb1⟩
   have BP1 : Blk w1 (w.heap.size) 47 #[.int .i64 a, .int .i64 b, .int .i64 c] := by
    refine Blk.kept ?_ hb1
    repeat (first | with_reducible exact Blk.new _ _ _ | (with_reducible refine Blk.newAt _ _ _ _ ?_; first | rfl | (simp; done)) | with_reducible (first | apply Blk.alloc | apply Blk.drewN | apply Blk.drew | apply Blk.set_to) | (with_reducible apply Blk.far_; (simp only [ne_eq]; omega)) | rfl)
   have cP0_1 : w1.cell? ⟨w.heap.size, 0, none⟩ = some (.int .i64 a) := BP1.cell 0
   have cP1_1 : w1.cell? ⟨w.heap.size, 1, none⟩ = some (.int .i64 b) := BP1.cell 1
   have cP2_1 : w1.cell? ⟨w.heap.size, 2, none⟩ = some (.int .i64 c) := BP1.cell 2
   have lP1 : w.heap.size < w1.heap.size := BP1.lt
   have mP1 : w.heap.size < w1.heap.size + 1 := by omega
   have nP1 : w.heap.size < w1.heap.size + 1 + 1 := by omega
   have BQ1 : Blk w1 (w.heap.size + 1) 47 #[.int .i64 a', .int .i64 b', .int .i64 c'] := by
    refine Blk.kept ?_ hb1
    repeat (first | with_reducible exact Blk.new _ _ _ | (with_reducible refine Blk.newAt _ _ _ _ ?_; first | rfl | (simp; done)) | with_reducible (first | apply Blk.alloc | apply Blk.drewN | apply Blk.drew | apply Blk.set_to) | (with_reducible apply Blk.far_; (simp only [ne_eq]; omega)) | rfl)
   have cQ0_1 : w1.cell? ⟨w.heap.size + 1, 0, none⟩ = some (.int .i64 a') := BQ1.cell 0
   have cQ1_1 : w1.cell? ⟨w.heap.size + 1, 1, none⟩ = some (.int .i64 b') := BQ1.cell 1
   have cQ2_1 : w1.cell? ⟨w.heap.size + 1, 2, none⟩ = some (.int .i64 c') := BQ1.cell 2
   have lQ1 : w.heap.size + 1 < w1.heap.size := BQ1.lt
   have mQ1 : w.heap.size + 1 < w1.heap.size + 1 := by omega
   have nQ1 : w.heap.size + 1 < w1.heap.size + 1 + 1 := by omega
   have hs1 : w.heap.size ≤ w1.heap.size := by have h := hb1.size; (try simp at h); omega
   have kb : Below w.heap.size w w1 := by repeat (first | exact Below.refl _ _ | refine below_drewN ?_ _ | refine Below.drew ?_ | refine below_alloc ?_ _ | (refine below_call ?_ (by assumption)) | (refine Below.setCell ?_ ?_ _; rotate_left; (simp; try omega)))
   have hc1 : w1.cell? ⟨1, k * 13 + m, none⟩ = some (.int .i64 y) := (kb.cell (p := ⟨_, _, none⟩) hg).trans hc
   have hg1 : 1 < w1.heap.size := Nat.lt_of_lt_of_le hg kb.size
   clear hc
   have x0 : (0 : Int) ≤ (m : Int) := by omega
   have x1 : (m : Int) < 13 := by omega
   have x2 : (0 : Int) ≤ (k : Int) := by omega
   have x3 : (k : Int) < 7 := by omega
   by_cases hy : y = 0
   ·subst hy
    go_wp2_with fail
    go_region
    go_wp2
    go_ret2
    rw [E.out, if_neg (fun h => h rfl)]
    exact ⟨rfl, by repeat (first | with_reducible (first | exact Below.refl _ _ | assumption | refine below_drewN ?_ _ | refine Below.drew ?_ | refine below_alloc ?_ _) | (with_reducible refine Below.setCell ?_ ?_ _; rotate_left; ((try simp only); omega)))⟩
   ·have hby : (y != 0) = true := by simpa using hy
    go_wp2_with fail
    go_region
    go_wp2
    go_region
    go_wp2
    go_ret2
    rw [E.out, if_pos hy]
    exact ⟨rfl, by repeat (first | with_reducible (first | exact Below.refl _ _ | assumption | refine below_drewN ?_ _ | refine Below.drew ?_ | refine below_alloc ?_ _) | (with_reducible refine Below.setCell ?_ ?_ _; rotate_left; ((try simp only); omega)))⟩
  ·have E := Lib.hid (show kindE (a, b, c) (a', b', c') = (5, 0) by rw [E.out, kindX_out s h (by omega)])
   go_enter Tryz.func123, Tryz.ntmps123
   go_wp2_with fail
   refine Calls.mono (q1 _ ?_) ?_
   ·exact ht.kept (by repeat (first | exact Below.refl _ _ | refine below_drewN ?_ _ | refine Below.drew ?_ | refine below_alloc ?_ _ | (refine below_call ?_ (by assumption)) | (refine Below.setCell ?_ ?_ _; rotate_left; (simp; try omega))))
   rintro e w1 ⟨rfl, hb1⟩
   have BP1 : Blk w1 (w.heap.size) 47 #[.int .i64 a, .int .i64 b, .int .i64 c] := by
    refine Blk.kept ?_ hb1
    repeat (first | with_reducible exact Blk.new _ _ _ | (with_reducible refine Blk.newAt _ _ _ _ ?_; first | rfl | (simp; done)) | with_reducible (first | apply Blk.alloc | apply Blk.drewN | apply Blk.drew | apply Blk.set_to) | (with_reducible apply Blk.far_; (simp only [ne_eq]; omega)) | rfl)
   have cP0_1 : w1.cell? ⟨w.heap.size, 0, none⟩ = some (.int .i64 a) := BP1.cell 0
   have cP1_1 : w1.cell? ⟨w.heap.size, 1, none⟩ = some (.int .i64 b) := BP1.cell 1
   have cP2_1 : w1.cell? ⟨w.heap.size, 2, none⟩ = some (.int .i64 c) := BP1.cell 2
   have lP1 : w.heap.size < w1.heap.size := BP1.lt
   have mP1 : w.heap.size < w1.heap.size + 1 := by omega
   have nP1 : w.heap.size < w1.heap.size + 1 + 1 := by omega
   have BQ1 : Blk w1 (w.heap.size + 1) 47 #[.int .i64 a', .int .i64 b', .int .i64 c'] := by
    refine Blk.kept ?_ hb1
    repeat (first | with_reducible exact Blk.new _ _ _ | (with_reducible refine Blk.newAt _ _ _ _ ?_; first | rfl | (simp; done)) | with_reducible (first | apply Blk.alloc | apply Blk.drewN | apply Blk.drew | apply Blk.set_to) | (with_reducible apply Blk.far_; (simp only [ne_eq]; omega)) | rfl)
   have cQ0_1 : w1.cell? ⟨w.heap.size + 1, 0, none⟩ = some (.int .i64 a') := BQ1.cell 0
   have cQ1_1 : w1.cell? ⟨w.heap.size + 1, 1, none⟩ = some (.int .i64 b') := BQ1.cell 1
   have cQ2_1 : w1.cell? ⟨w.heap.size + 1, 2, none⟩ = some (.int .i64 c') := BQ1.cell 2
   have lQ1 : w.heap.size + 1 < w1.heap.size := BQ1.lt
   have mQ1 : w.heap.size + 1 < w1.heap.size + 1 := by omega
   have nQ1 : w.heap.size + 1 < w1.heap.size + 1 + 1 := by omega
   have hs1 : w.heap.size ≤ w1.heap.size := by have h := hb1.size; (try simp at h); omega
   have kb : Below w.heap.size w w1 := by repeat (first | exact Below.refl _ _ | refine below_drewN ?_ _ | refine Below.drew ?_ | refine below_alloc ?_ _ | (refine below_call ?_ (by assumption)) | (refine Below.setCell ?_ ?_ _; rotate_left; (simp; try omega)))
   by_cases h0' : h < 0
   ·have hb0 : decide ((0 : Int) ≤ h) = false := by simp; omega
    go_wp2_with fail
    go_region
    go_wp2
    go_ret2
    rw [E.out]
    exact ⟨rfl, by repeat (first | with_reducible (first | exact Below.refl _ _ | assumption | refine below_drewN ?_ _ | refine Below.drew ?_ | refine below_alloc ?_ _) | (with_reducible refine Below.setCell ?_ ?_ _; rotate_left; ((try simp only); omega)))⟩
   ·have hb0 : decide ((0 : Int) ≤ h) = true := by simp; omega
    have hb1 : decide (h < 13) = false := by simp; omega
    go_wp2_with fail
    go_region
    go_wp2
    go_ret2
    rw [E.out]
    exact ⟨rfl, by repeat (first | with_reducible (first | exact Below.refl _ _ | assumption | refine below_drewN ?_ _ | refine Below.drew ?_ | refine below_alloc ?_ _) | (with_reducible refine Below.setCell ?_ ?_ _; rotate_left; ((try simp only); omega)))⟩
 ·have E := Lib.hid (show kindE (a, b, c) (a', b', c') = (0, r) by rw [E.out, if_pos hr])
  have hbr : (r != 0) = true := by simpa using hr
  clear hr
  go_enter Tryz.func123, Tryz.ntmps123
  go_wp2_with fail
  refine Calls.mono (q1 _ ?_) ?_
  ·exact ht.kept (by repeat (first | exact Below.refl _ _ | refine below_drewN ?_ _ | refine Below.drew ?_ | refine below_alloc ?_ _ | (refine below_call ?_ (by assumption)) | (refine Below.setCell ?_ ?_ _; rotate_left; (simp; try omega))))
  rintro e w1 ⟨rfl, hb1⟩
  have BP1 : Blk w1 (w.heap.size) 47 #[.int .i64 a, .int .i64 b, .int .i64 c] := by
   refine Blk.kept ?_ hb1
   repeat (first | with_reducible exact Blk.new _ _ _ | (with_reducible refine Blk.newAt _ _ _ _ ?_; first | rfl | (simp; done)) | with_reducible (first | apply Blk.alloc | apply Blk.drewN | apply Blk.drew | apply Blk.set_to) | (with_reducible apply Blk.far_; (simp only [ne_eq]; omega)) | rfl)
  have cP0_1 : w1.cell? ⟨w.heap.size, 0, none⟩ = some (.int .i64 a) := BP1.cell 0
  have cP1_1 : w1.cell? ⟨w.heap.size, 1, none⟩ = some (.int .i64 b) := BP1.cell 1
  have cP2_1 : w1.cell? ⟨w.heap.size, 2, none⟩ = some (.int .i64 c) := BP1.cell 2
  have lP1 : w.heap.size < w1.heap.size := BP1.lt
  have mP1 : w.heap.size < w1.heap.size + 1 := by omega
  have nP1 : w.heap.size < w1.heap.size + 1 + 1 := by omega
  have BQ1 : Blk w1 (w.heap.size + 1) 47 #[.int .i64 a', .int .i64 b', .int .i64 c'] := by
   refine Blk.kept ?_ hb1
   repeat (first | with_reducible exact Blk.new _ _ _ | (with_reducible refine Blk.newAt _ _ _ _ ?_; first | rfl | (simp; done)) | with_reducible (first | apply Blk.alloc | apply Blk.drewN | apply Blk.drew | apply Blk.set_to) | (with_reducible apply Blk.far_; (simp only [ne_eq]; omega)) | rfl)
  have cQ0_1 : w1.cell? ⟨w.heap.size + 1, 0, none⟩ = some (.int .i64 a') := BQ1.cell 0
  have cQ1_1 : w1.cell? ⟨w.heap.size + 1, 1, none⟩ = some (.int .i64 b') := BQ1.cell 1
  have cQ2_1 : w1.cell? ⟨w.heap.size + 1, 2, none⟩ = some (.int .i64 c') := BQ1.cell 2
  have lQ1 : w.heap.size + 1 < w1.heap.size := BQ1.lt
  have mQ1 : w.heap.size + 1 < w1.heap.size + 1 := by omega
  have nQ1 : w.heap.size + 1 < w1.heap.size + 1 + 1 := by omega
  have hs1 : w.heap.size ≤ w1.heap.size := by have h := hb1.size; (try simp at h); omega
  go_wp2
  have kb : Below w.heap.size w w1 := by repeat (first | exact Below.refl _ _ | refine below_drewN ?_ _ | refine Below.drew ?_ | refine below_alloc ?_ _ | (refine below_call ?_ (by assumption)) | (refine Below.setCell ?_ ?_ _; rotate_left; (simp; try omega)))
  refine ret_of (by simp [results, Tryz.results123, go_sem, *]; repeat' (first | rfl | apply And.intro)) rfl ⟨?_, by repeat (first | with_reducible (first | exact Below.refl _ _ | assumption | refine below_drewN ?_ _ | refine Below.drew ?_ | refine below_alloc ?_ _) | (with_reducible refine Below.setCell ?_ ?_ _; rotate_left; ((try simp only); omega)))⟩
  rw [E.out]
theorem tm_info : (Tryz.prog.info? 45).map (fun i => (i.zero, i.size, i.bytes)) = some (some (.agg #[.int .i64 0, .int .i64 0]), 2, 16) := by kernel_rfl
theorem one_csT (l : List (Int × Int)) : ∀ u ∈ csT l, u.oneCell' = true := by
 intro u hu
 obtain ⟨t, _, ht⟩ := List.mem_flatMap.1 hu
 simp [cT] at ht
 rcases ht with rfl | rfl <;> rfl
theorem csT_append (l m : List (Int × Int)) : csT (l ++ m) = csT l ++ csT m := by unfold csT; rw [List.flatMap_append]
theorem csT_len (l : List (Int × Int)) : (csT l).length = l.length * 2 := flat_len cT 2 (fun _ => rfl) l
theorem Reads.tlen {w : World} {B n : Nat} {A : Option Addr} {l : List Tm} (h : Reads w B 2 A n (csT l)) : l.length = n := h.len (size := 2) (l := l) (f := cT) (fun _ => rfl) (by decide)
theorem Reads.tm {w W : World} {B n : Nat} {A : Option Addr} {l : List Tm} (h : Reads w B 2 A n (csT l)) (hB : B ≤ w.heap.size) (hb : Below w.heap.size w W) {k : Nat} {x : Tm} (hk : k < n) (hx : l[k]? = some x) :
  ∃ b off, A = some ⟨b, off, none⟩ ∧ b < W.heap.size ∧ W.cell? ⟨b, off + k * 2, none⟩ = some (.int .i64 x.1) ∧ W.cell? ⟨b, off + k * 2 + 1, none⟩ = some (.int .i64 x.2) := by
 obtain ⟨b, off, hA, hbB, hc⟩ := h.elem (f := cT) (fun _ => rfl) hk hx
 have hall : ∀ j u, (cT x)[j]? = some u → W.cell? ⟨b, off + k * 2 + j, none⟩ = some u := fun j u hj => by
  rw [hb.cell (by simp; omega), Nat.add_assoc]
  exact hc j u hj
 exact ⟨b, off, hA, by have := hb.size; omega, hall 0 _ rfl, hall 1 _ rfl⟩
theorem reads_take2 {w : World} {B n k : Nat} {A : Option Addr} {l : List Tm} (h : Reads w B 2 A n (csT l)) (hk : k ≤ n) : Reads w B 2 A k (csT (l.take k)) := by
 have hl := h.tlen
 refine ⟨by rw [csT_len, List.length_take]; omega, fun h0 => ?_⟩
 obtain ⟨b, off, e, hb, hc⟩ := h.2 (by omega)
 refine ⟨b, off, e, hb, fun j u hu => hc j u ?_⟩
 have e2 : csT l = csT (l.take k) ++ csT (l.drop k) := by rw [← csT_append, List.take_append_drop]
 rw [e2]
 have hj : j < (csT (l.take k)).length := by
  rcases Nat.lt_or_ge j (csT (l.take k)).length with h1 | h1
  ·exact h1
  ·rw [List.getElem?_eq_none h1] at hu; cases hu
 rw [List.getElem?_append_left hj, hu]
theorem reads_drop2 {w : World} {B n k : Nat} {A : Option Addr} {l : List Tm} (h : Reads w B 2 A n (csT l)) (hk : k ≤ n) (A' : Option Addr) (hA : ∀ b off, A = some ⟨b, off, none⟩ → k < n → A' = some ⟨b, off + k * 2, none⟩) : Reads w B 2 A' (n - k) (csT (l.drop k)) := by
 have hl := h.tlen
 refine ⟨by rw [csT_len, List.length_drop]; omega, fun h0 => ?_⟩
 obtain ⟨b, off, e, hb, hc⟩ := h.2 (by omega)
 refine ⟨b, off + k * 2, hA b off e (by omega), hb, fun j u hu => ?_⟩
 rw [Nat.add_assoc]
 refine hc (k * 2 + j) u ?_
 have e2 : csT l = csT (l.take k) ++ csT (l.drop k) := by rw [← csT_append, List.take_append_drop]
 have e3 : (csT (l.take k)).length = k * 2 := by rw [csT_len, List.length_take]; omega
 rw [e2, List.getElem?_append_right (by omega), e3, show k * 2 + j - k * 2 = j by omega, hu]
theorem tm_head (A : Option Addr) (k n c : Nat) (h : k ≤ c) : ∃ A' : Option Addr, A' = A ∧
  ∀ W : World, (Instr.slice 88 (.slice A n c) none (some (.int .i64 (k : Int))) none).run Tryz.prog W = .ok (.slice A' k c) W := by
 refine ⟨A, rfl, fun W => ?_⟩
 rw [run_slice_h W 88 _ _ _ Tryz.underlying88 .i64 _ (by omega) (by omega), show (Go.sizeOf (Tryz.prog.elem 88)).run Tryz.prog W = .ok 2 W by kernel_rfl]
 have ha : A.map (fun a => a.add 0) = A := by cases A <;> simp [Addr.add]
 by_cases hne : c = 0 <;> simp [Result.andThen, sliced, hne, ha]
theorem tm_tail (A : Option Addr) (k n c : Nat) (h : k ≤ n) (hc : n ≤ c) : ∃ A' : Option Addr, (∀ b off, A = some ⟨b, off, none⟩ → k < n → A' = some ⟨b, off + k * 2, none⟩) ∧
  ∀ W : World, (Instr.slice 88 (.slice A n c) (some (.int .i64 (k : Int))) none none).run Tryz.prog W = .ok (.slice A' (n - k) (c - k)) W := by
 refine ⟨if c = k then A else A.map (·.add (k * 2)), fun b off e h0 => by rw [if_neg (by omega), e]; simp [Addr.add], fun W => ?_⟩
 rw [run_slice_l W 88 _ _ _ Tryz.underlying88 .i64 _ (by omega) (by omega), show (Go.sizeOf (Tryz.prog.elem 88)).run Tryz.prog W = .ok 2 W by kernel_rfl]
 by_cases hne : c = k <;> simp [Result.andThen, sliced, hne]
/-! ### Appends in a drawn region -/
theorem step_app {P : Program} (w : World) {ops : Array Oper} {o : Oper} {a : Act} {K : Act → World → Prop} {Q : Exit → Act → World → Prop} {E : Prop} (hgd : o.guard = none) (s x : Operand) (t : TypeId)
  (ho : o.op = .call { callee := .builtin .append, args := #[s, x], argTypes := #[t, t] })
  (base : Nat) (e : TypeId) (i : TypeInfo) (z : Value) (size bytes : Nat) (ht : P.underlying t = some (.slice e)) (hi : P.info? e = some i) (hz : i.zero = some z)
  (hsize : i.size = size) (hby : i.bytes = bytes) (hzs : z.cells.size = size) (hsz : 0 < size)
  (v : Value) (n : Nat) (xs : List Value) (hs : a.eval s = v) (hown : w.ownsRow base e size v n xs)
  (B : Nat) (A : Option Addr) (m c : Nat) (news : List Value) (hx : a.eval x = .slice A m c) (hr : Reads w B size A m news) (h1 : ∀ u ∈ news, u.oneCell' = true)
  (h63 : n + m ≤ maxLen) (hbytes : (n + m) * bytes ≤ 140737488355328) (hbase : base ≤ w.heap.size)
  (h : ∀ v' w', w'.ownsRow base e size v' (n + m) (xs ++ news) → w.grownBy w' v.ownBlock → (v'.ownBlock = v.ownBlock ∨ v'.ownBlock = some w.heap.size) → K (a.put o.dst v') w') :
  if Region.wanted o (yielded ops a.tmps) = true then Oper.wp P o a w K Q else E := by
 have hw : Region.wanted o (yielded ops a.tmps) = true := by simp [Region.wanted, hgd]
 rw [if_pos hw]
 exact wp_append_any w s x t ho base e i z size bytes ht hi hz hsize hby hzs hsz v n xs hs hown B A m c news hx hr h1 h63 hbytes hbase h
theorem step_is {P : Program} {w : World} {ops : Array Oper} {o : Oper} {a : Act} {K : Act → World → Prop} {Q : Exit → Act → World → Prop} {E : Prop} (s x : Operand) (t : TypeId) (v : Value)
  (_ : o.op = .call { callee := .builtin .append, args := #[s, x], argTypes := #[t, t] }) (_ : a.eval s = v) (h : if Region.wanted o (yielded ops a.tmps) = true then Oper.wp P o a w K Q else E) :
  if Region.wanted o (yielded ops a.tmps) = true then Oper.wp P o a w K Q else E := h
theorem Blk.grow {w w' : World} {g : Nat} {t : TypeId} {cs : Array Value} {row : Option Nat} (h : Blk w g t cs) (hg : w.grownBy w' row) (hne : some g ≠ row) : Blk w' g t cs := (hg.block g h.lt hne).trans h
theorem lay_grow {W w' : World} {row : Option Nat} {t : TypeId} {cs : Array Value} {G : Prop} (hg : W.grownBy w' row) (g : Nat) (hB : Blk W g t cs) (hne : some g ≠ row) (k : Blk w' g t cs → G) : G := k (Blk.grow hB hg hne)
theorem tm_lit (w : World) (base g : Nat) (hg : g = w.heap.size) (hb : base ≤ w.heap.size) : (w.alloc (.cells #[] 45)).ownsRow base 45 2 (.slice (some ⟨g, 0, none⟩) 0 0) 0 [] := by
 subst hg; exact World.ownsRow_lit w #[] 0 hb (by simp [maxLen]) rfl
theorem tm_blk {w : World} {g : Nat} {t : TypeId} {p0 p1 : Int} (h : Blk w g t #[.int .i64 p0, .int .i64 p1]) : Reads w w.heap.size 2 (some ⟨g, 0, none⟩) 1 (csT [(p0, p1)]) :=
 ⟨rfl, fun _ => ⟨g, 0, rfl, h.lt, fun j u hu => by rw [Nat.zero_add, h.cell]; simpa [csT, cT] using hu⟩⟩
def ReadsT (w : World) (v : Value) (l : List Tm) : Prop := ∃ A c, v = .slice A l.length c ∧ Reads w w.heap.size 2 A l.length (csT l) ∧ l.length ≤ c ∧ c ≤ 9223372036854775807
theorem ReadsT.kept {w w' : World} {v : Value} {l : List Tm} (h : ReadsT w v l) (hb : Below w.heap.size w w') : ReadsT w' v l := by
 obtain ⟨A, c, e, hr, h1, h2⟩ := h
 exact ⟨A, c, e, (hr.below (Nat.le_refl _) hb).more hb.size, h1, h2⟩
theorem ReadsT.nil_ (w : World) : ReadsT w (.slice none 0 0) [] := ⟨none, 0, rfl, Reads.none_, by simp, by omega⟩
theorem ReadsT.own {w : World} {base n : Nat} {v : Value} {l : List Tm} (h : w.ownsRow base 45 2 v n (csT l)) (hn : l.length = n) : ReadsT w v l := by
 obtain ⟨A, c, e, hr, h1, h2⟩ := own_reads h
 subst e hn
 unfold maxLen at h2
 exact ⟨A, c, rfl, hr, h1, by omega⟩
theorem cbtw_ok (p q : Int × Int × Int) (hp : pchk p = 0) (hq : pchk q = 0) (w : World) (ht : Tabs w) :
  Calls Tryz.prog 114 #[vP p, vP q] w fun e w' => e = .returned (.agg #[.int .i64 (btw p q).1, .int .i64 (btw p q).2]) ∧ Below w.heap.size w w' := by
 have q1 := btw_ok p q hp hq
 obtain ⟨⟨s, h⟩, hs⟩ : ∃ t, t = btw p q := ⟨_, rfl⟩
 rw [← hs] at q1 ⊢
 obtain ⟨a, b, c⟩ := p
 obtain ⟨a', b', c'⟩ := q
 clear hs hp hq
 simp only at q1
 go_enter Tryz.func114, Tryz.ntmps114
 go_wp2_with fail
 refine Calls.mono (q1 _ ?_) ?_
 ·exact ht.kept (by repeat (first | exact Below.refl _ _ | refine below_drewN ?_ _ | refine Below.drew ?_ | refine below_alloc ?_ _ | (refine below_call ?_ (by assumption)) | (refine Below.setCell ?_ ?_ _; rotate_left; (simp; try omega))))
 rintro e w1 ⟨rfl, hb1⟩
 have BP1 : Blk w1 (w.heap.size) 47 #[.int .i64 a, .int .i64 b, .int .i64 c] := by
  refine Blk.kept ?_ hb1
  repeat (first | with_reducible exact Blk.new _ _ _ | (with_reducible refine Blk.newAt _ _ _ _ ?_; first | rfl | (simp; done)) | with_reducible (first | apply Blk.alloc | apply Blk.drewN | apply Blk.drew | apply Blk.set_to) | (with_reducible apply Blk.far_; (simp only [ne_eq]; omega)) | rfl)
 have cP0_1 : w1.cell? ⟨w.heap.size, 0, none⟩ = some (.int .i64 a) := BP1.cell 0
 have cP1_1 : w1.cell? ⟨w.heap.size, 1, none⟩ = some (.int .i64 b) := BP1.cell 1
 have cP2_1 : w1.cell? ⟨w.heap.size, 2, none⟩ = some (.int .i64 c) := BP1.cell 2
 have lP1 : w.heap.size < w1.heap.size := BP1.lt
 have mP1 : w.heap.size < w1.heap.size + 1 := by omega
 have nP1 : w.heap.size < w1.heap.size + 1 + 1 := by omega
 have BQ1 : Blk w1 (w.heap.size + 1) 47 #[.int .i64 a', .int .i64 b', .int .i64 c'] := by
  refine Blk.kept ?_ hb1
  repeat (first | with_reducible exact Blk.new _ _ _ | (with_reducible refine Blk.newAt _ _ _ _ ?_; first | rfl | (simp; done)) | with_reducible (first | apply Blk.alloc | apply Blk.drewN | apply Blk.drew | apply Blk.set_to) | (with_reducible apply Blk.far_; (simp only [ne_eq]; omega)) | rfl)
 have cQ0_1 : w1.cell? ⟨w.heap.size + 1, 0, none⟩ = some (.int .i64 a') := BQ1.cell 0
 have cQ1_1 : w1.cell? ⟨w.heap.size + 1, 1, none⟩ = some (.int .i64 b') := BQ1.cell 1
 have cQ2_1 : w1.cell? ⟨w.heap.size + 1, 2, none⟩ = some (.int .i64 c') := BQ1.cell 2
 have lQ1 : w.heap.size + 1 < w1.heap.size := BQ1.lt
 have mQ1 : w.heap.size + 1 < w1.heap.size + 1 := by omega
 have nQ1 : w.heap.size + 1 < w1.heap.size + 1 + 1 := by omega
 have BR1 : Blk w1 (w.heap.size + 1 + 1) 131 #[.int .i64 0, .int .i64 0] := by
  refine Blk.kept ?_ hb1
  repeat (first | with_reducible exact Blk.new _ _ _ | (with_reducible refine Blk.newAt _ _ _ _ ?_; first | rfl | (simp; done)) | with_reducible (first | apply Blk.alloc | apply Blk.drewN | apply Blk.drew | apply Blk.set_to) | (with_reducible apply Blk.far_; (simp only [ne_eq]; omega)) | rfl)
 have cR0_1 : w1.cell? ⟨w.heap.size + 1 + 1, 0, none⟩ = some (.int .i64 0) := BR1.cell 0
 have cR1_1 : w1.cell? ⟨w.heap.size + 1 + 1, 1, none⟩ = some (.int .i64 0) := BR1.cell 1
 have lR1 : w.heap.size + 1 + 1 < w1.heap.size := BR1.lt
 have mR1 : w.heap.size + 1 + 1 < w1.heap.size + 1 := by omega
 have nR1 : w.heap.size + 1 + 1 < w1.heap.size + 1 + 1 := by omega
 have fR0_1 := BR1.frozen 0
 have fR1_1 := BR1.frozen 1
 have eRP1 : w.heap.size + 1 + 1 ≠ w.heap.size := by omega
 have ePR1 : w.heap.size ≠ w.heap.size + 1 + 1 := by omega
 have eRQ1 : w.heap.size + 1 + 1 ≠ w.heap.size + 1 := by omega
 have eQR1 : w.heap.size + 1 ≠ w.heap.size + 1 + 1 := by omega
 have hs1 : w.heap.size ≤ w1.heap.size := by have h := hb1.size; (try simp at h); omega
 have kb : Below w.heap.size w w1 := by repeat (first | exact Below.refl _ _ | refine below_drewN ?_ _ | refine Below.drew ?_ | refine below_alloc ?_ _ | (refine below_call ?_ (by assumption)) | (refine Below.setCell ?_ ?_ _; rotate_left; (simp; try omega)))
 go_wp2
 refine ret_of (by simp [results, Tryz.results114, go_sem, *]; repeat' (first | rfl | apply And.intro)) rfl ⟨rfl, by repeat (first | with_reducible (first | exact Below.refl _ _ | assumption | refine below_drewN ?_ _ | refine Below.drew ?_ | refine below_alloc ?_ _) | (with_reducible refine Below.setCell ?_ ?_ _; rotate_left; ((try simp only); omega)))⟩
def clF (s : Int) : Option Int := if clOf s = 0 then none else some (clOf s)
theorem clF_eq (s : Int) : updO (updO (updO (updO (fun _ => none) 1 1) (-1) 2) 3 3) (-4) 3 s = clF s := by
 unfold clF clOf updO
 by_cases h1 : s = 1
 ·subst h1; decide
 ·by_cases h2 : s = -1
  ·subst h2; decide
  ·by_cases h3 : s = 3
   ·subst h3; decide
   ·by_cases h4 : s = -4
    ·subst h4; decide
    ·simp [h1, h2, h3, h4]
def MapRet {γ β : Type} {K : TypeId} (G : KeyG γ K) (T : ElemT β) (n : Nat) (f : γ → Option β) (w : World) (e : Ending) (w' : World) : Prop :=
 ∃ b, e = .returned (.map (some b)) ∧ w.heap.size ≤ b ∧ TMap w' G T b n f ∧ Below w.heap.size w w'
theorem wpList_tins {γ β : Type} [DecidableEq γ] {K : TypeId} {G : KeyG γ K} {T : ElemT β} {w : World} {b n : Nat} {f : γ → Option β} {ops : Array Oper} {rest : List Oper} {o : Oper} {a : Act} {Q : Exit → Act → World → Prop} {t E : TypeId} (hg : o.guard = none) (m x v : Operand) (hop : o.op = Op.insert t m x v) (h : TMap w G T b n f) (ht : Tryz.prog.underlying t = some (.map K E)) (hn : n < maxLen) (k : γ) (hk : G.ok k) (y : β) (hy : T.ok y)
  (hm : a.eval m = .map (some b)) (hx : a.eval x = G.enc k) (hv : a.eval v = T.enc y) (hK : ∀ w', TMap w' G T b (n + 1) (updO f k y) → w.grownBy w' (some b) → wpList Tryz.prog ops Q rest (a.put o.dst undef) w') : wpList Tryz.prog ops Q (o :: rest) a w := by
 obtain ⟨D, h, hf⟩ := h
 obtain ⟨kl, hkl⟩ := G.keys k hk
 refine wpList_plain hg fun K' hK' => ?_
 obtain ⟨w', hrun, r1, r2⟩ := h.update G.keyed ht hn hkl (T.here y hy)
 unfold Oper.wp
 simp [execOp, hop, hm, hx, hv, hrun, Result.andThen]
 exact hK' _ _ (hK w' ⟨_, r1, hf.put h.isMap hkl y⟩ r2)
theorem below_grown {B b : Nat} {a w w' : World} (h : Below B a w) (hg : w.grownBy w' (some b)) (hb : B ≤ b) (hB : B ≤ w.heap.size) : Below B a w' :=
 ⟨hg.os.trans h.os, hg.tape.trans h.tape, hg.output.trans h.output, Nat.le_trans h.size hg.size, fun i hi => (hg.block i (by omega) (fun e => by cases e; omega)).trans (h.block i hi)⟩
theorem kinds_any (w : World) : Calls Tryz.prog 156 #[] w fun e w' => MapRet keyInt elemInt 4 clF w e w' := by
 have m0 := TMap.made w keyInt elemInt
 have k0 : Below w.heap.size w (w.alloc (.map #[] 0)) := by repeat (first | with_reducible (first | exact Below.refl _ _ | assumption | refine below_drewN ?_ _ | refine Below.drew ?_ | refine below_alloc ?_ _) | (with_reducible refine Below.setCell ?_ ?_ _; rotate_left; ((try simp only); omega)))
 have z0 : w.heap.size + 1 = (w.alloc (.map #[] 0)).heap.size := by simp
 have o1 : ∀ x : Int, -100 ≤ x → x ≤ 100 → okI x := fun x _ _ => by unfold okI; omega
 have hmm := @run_makeMap Tryz.prog
 go_enter Tryz.func156, Tryz.ntmps156
 go_wp2_with (first
  | (refine wpList_tins rfl (.tmp 1) (.const (.int .i64 (1))) (.const (.int .i64 (1))) rfl m0 Tryz.underlying202 (by simp only [maxLen]; omega) (1 : Int) (o1 _ (by omega) (by omega)) (1 : Int) (o1 _ (by omega) (by omega)) rfl rfl rfl ?_; intro w1 m1 g1)
  | (refine wpList_tins rfl (.tmp 1) (.const (.int .i64 (-1))) (.const (.int .i64 (2))) rfl m1 Tryz.underlying202 (by simp only [maxLen]; omega) (-1 : Int) (o1 _ (by omega) (by omega)) (2 : Int) (o1 _ (by omega) (by omega)) rfl rfl rfl ?_; intro w2 m2 g2)
  | (refine wpList_tins rfl (.tmp 1) (.const (.int .i64 (3))) (.const (.int .i64 (3))) rfl m2 Tryz.underlying202 (by simp only [maxLen]; omega) (3 : Int) (o1 _ (by omega) (by omega)) (3 : Int) (o1 _ (by omega) (by omega)) rfl rfl rfl ?_; intro w3 m3 g3)
  | (refine wpList_tins rfl (.tmp 1) (.const (.int .i64 (-4))) (.const (.int .i64 (3))) rfl m3 Tryz.underlying202 (by simp only [maxLen]; omega) (-4 : Int) (o1 _ (by omega) (by omega)) (3 : Int) (o1 _ (by omega) (by omega)) rfl rfl rfl ?_; intro w4 m4 g4))
 have s1 := g1.size
 have s2 := g2.size
 have s3 := g3.size
 have kz := below_grown (below_grown (below_grown (below_grown k0 g1 (Nat.le_refl _) (by omega)) g2 (Nat.le_refl _) (by omega)) g3 (Nat.le_refl _) (by omega)) g4 (Nat.le_refl _) (by omega)
 have HX := Lib.hid (show MapRet keyInt elemInt 4 clF w (.returned (.map (some w.heap.size))) w4 from ⟨_, rfl, Nat.le_refl _, m4.same fun x _ => clF_eq x, kz⟩)
 clear m0 m1 m2 m3 m4 k0 kz g1 g2 g3 g4
 refine ret_of (by simp [results, Tryz.results156, go_sem, *]; repeat' (first | rfl | apply And.intro)) rfl ?_
 exact HX.out
end Go.Proofs.YtpkmiegccfhpnaaGreatDoor
