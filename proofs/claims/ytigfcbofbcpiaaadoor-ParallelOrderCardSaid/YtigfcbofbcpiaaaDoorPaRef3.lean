
/- Motions of two voices by the reference: perfect, motion. -/
import Derived.Test.YtigfcbofbcpiaaaDoorPaRef2
namespace Go.Proofs.YtigfcbofbcpiaaaDoor
open Go.RowKit
theorem prf_bd {p q : Int × Int × Int} (h : pchk p = 0) (h' : pchk q = 0) : 0 ≤ (prfE p q).1 := (simI_bd h h').1
set_option maxRecDepth 100000 in
set_option maxHeartbeats 4000000 in
theorem rperfect_ok {ba oa n K : Nat} {S : Option Addr} {l : List (List Ev)} {w : World} (h : Stg w (some ⟨ba, oa, none⟩) S n K l) (c : Nat) {a b k : Nat} {va vb : List Ev} (ha : l[a]? = some va) (hb : l[b]? = some vb) (hk : k < K) {s : Value} {be oe : Nat} (hs : SlAt w s be oe n l (mAt (momS l) k)) :
    Calls Tryd.prog 71 #[.slice (some ⟨ba, oa, none⟩) n c, s, .int .i64 a, .int .i64 b] w fun e w' => e = .returned (.int .i64 (if (prfE (pitA va (mAt (momS l) k)) (pitA vb (mAt (momS l) k))).2 = true then (prfE (pitA va (mAt (momS l) k)) (pitA vb (mAt (momS l) k))).1 else -1)) ∧ Below w.heap.size w w' := by
  have q1 := fun W (hW : Below w.heap.size w W) => rpitch_ok (h.kept hW) c ha hk (hs.kept hW)
  have q2 := fun W (hW : Below w.heap.size w W) => rpitch_ok (h.kept hW) c hb hk (hs.kept hW)
  have hp1 := h.pit ha (mAt (momS l) k)
  have hp2 := h.pit hb (mAt (momS l) k)
  obtain ⟨⟨t0, t1⟩, ht⟩ : ∃ t, t = mAt (momS l) k := ⟨_, rfl⟩
  obtain ⟨d0, d1, ce, rfl⟩ := hs.val
  rw [← ht] at q1 q2 hp1 hp2 ⊢
  obtain ⟨P, hP⟩ : ∃ p, p = pitA va (t0, t1) := ⟨_, rfl⟩
  obtain ⟨Q, hQ⟩ : ∃ p, p = pitA vb (t0, t1) := ⟨_, rfl⟩
  rw [← hP] at q1 hp1 ⊢
  rw [← hQ] at q2 hp2 ⊢
  have q3 := rKind_any P Q
  have q4 := rSimple_any P Q
  rw [kindE_ok hp1 hp2] at q3
  rw [simE_ok hp1 hp2] at q4
  have E := Lib.hid (show prfE P Q = ((simI (upI P Q)).1, decide (kindP P Q = 1)) from rfl)
  obtain ⟨kd, hkd⟩ : ∃ z, z = kindP P Q := ⟨_, rfl⟩
  obtain ⟨⟨s0, s1⟩, hsi⟩ : ∃ z, z = simI (upI P Q) := ⟨_, rfl⟩
  rw [← hkd] at q3 E
  rw [← hsi] at q4 E
  have HT := Lib.hid ht
  obtain ⟨x1, hx1⟩ : ∃ z, z = (sndV va (t0, t1)).2 := ⟨_, rfl⟩
  obtain ⟨x2, hx2⟩ : ∃ z, z = (sndV vb (t0, t1)).2 := ⟨_, rfl⟩
  rw [← hx1] at q1
  rw [← hx2] at q2
  obtain ⟨P0, P1, P2⟩ := P
  obtain ⟨Q0, Q1, Q2⟩ := Q
  try simp only at q1 q2
  obtain ⟨R, hR⟩ : ∃ r, r = if (prfE (P0, P1, P2) (Q0, Q1, Q2)).2 = true then (prfE (P0, P1, P2) (Q0, Q1, Q2)).1 else -1 := ⟨_, rfl⟩
  rw [← hR]
  show Calls Tryd.prog 71 #[.slice (some ⟨ba, oa, none⟩) n c, .agg #[.int .i64 t0, .int .i64 t1, .int .i64 d0, .int .i64 d1, .slice (some ⟨be, oe, none⟩) n ce], .int .i64 a, .int .i64 b] w fun e w' => e = .returned (.int .i64 R) ∧ Below w.heap.size w w'
  have HR := Lib.hid hR
  clear hP hQ hp1 hp2 hkd hsi ht hs h hx1 hx2 HT ha hb hR
  have ht : Anch w := ⟨⟩
  by_cases hkd : kd = 1
  · have hkb : (kd != 1) = false := by simp [hkd]
    have E2 := Lib.hid (show R = s0 by rw [HR.out, E.out]; simp [hkd])
    clear E hkd HR
    go_enter Tryd.func71, Tryd.ntmps71
    go_wp2_with fail
    refine Calls.mono (q1 _ ?_) ?_
    · exact ht.kept (by repeat (first | exact Below.refl _ _ | refine below_drewN ?_ _ | refine Below.drew ?_ | refine below_alloc ?_ _ | (refine below_call ?_ (by assumption)) | (refine Below.setCell ?_ ?_ _; rotate_left; (simp; try omega))))
    rintro e w1 ⟨rfl, hb1⟩
    have BX1 : Blk w1 (w.heap.size) 114 #[.int .i64 t0, .int .i64 t1, .int .i64 d0, .int .i64 d1, .slice (some ⟨be, oe, none⟩) n ce] := by
      refine Blk.kept ?_ hb1
      repeat (first | with_reducible exact Blk.new _ _ _ | (with_reducible refine Blk.newAt _ _ _ _ ?_; first | rfl | (simp; done)) | with_reducible apply Blk.alloc | with_reducible apply Blk.drewN | with_reducible apply Blk.drew | with_reducible apply Blk.set_to | (with_reducible apply Blk.far_; (simp only [ne_eq]; omega)) | rfl)
    have cX0_1 : w1.cell? ⟨w.heap.size, 0, none⟩ = some (.int .i64 t0) := BX1.cell 0
    have cX1_1 : w1.cell? ⟨w.heap.size, 1, none⟩ = some (.int .i64 t1) := BX1.cell 1
    have cX2_1 : w1.cell? ⟨w.heap.size, 2, none⟩ = some (.int .i64 d0) := BX1.cell 2
    have cX3_1 : w1.cell? ⟨w.heap.size, 3, none⟩ = some (.int .i64 d1) := BX1.cell 3
    have cX4_1 : w1.cell? ⟨w.heap.size, 4, none⟩ = some (.slice (some ⟨be, oe, none⟩) n ce) := BX1.cell 4
    have lX1 : w.heap.size < w1.heap.size := BX1.lt
    have mX1 : w.heap.size < w1.heap.size + 1 := by omega
    have nX1 : w.heap.size < w1.heap.size + 1 + 1 := by omega
    have hs1 : w.heap.size ≤ w1.heap.size := by have h := hb1.size; (try simp at h); omega
    go_wp2_with fail
    refine Calls.mono (q2 _ ?_) ?_
    · exact ht.kept (by repeat (first | exact Below.refl _ _ | refine below_drewN ?_ _ | refine Below.drew ?_ | refine below_alloc ?_ _ | (refine below_call ?_ (by assumption)) | (refine Below.setCell ?_ ?_ _; rotate_left; (simp; try omega))))
    rintro e w2 ⟨rfl, hb2⟩
    have BX2 : Blk w2 (w.heap.size) 114 #[.int .i64 t0, .int .i64 t1, .int .i64 d0, .int .i64 d1, .slice (some ⟨be, oe, none⟩) n ce] := by
      refine Blk.kept ?_ hb2
      repeat (first | with_reducible exact BX1 | with_reducible exact Blk.new _ _ _ | (with_reducible refine Blk.newAt _ _ _ _ ?_; first | rfl | (simp; done)) | with_reducible apply Blk.alloc | with_reducible apply Blk.drewN | with_reducible apply Blk.drew | with_reducible apply Blk.set_to | (with_reducible apply Blk.far_; (simp only [ne_eq]; omega)) | rfl)
    have cX0_2 : w2.cell? ⟨w.heap.size, 0, none⟩ = some (.int .i64 t0) := BX2.cell 0
    have cX1_2 : w2.cell? ⟨w.heap.size, 1, none⟩ = some (.int .i64 t1) := BX2.cell 1
    have cX2_2 : w2.cell? ⟨w.heap.size, 2, none⟩ = some (.int .i64 d0) := BX2.cell 2
    have cX3_2 : w2.cell? ⟨w.heap.size, 3, none⟩ = some (.int .i64 d1) := BX2.cell 3
    have cX4_2 : w2.cell? ⟨w.heap.size, 4, none⟩ = some (.slice (some ⟨be, oe, none⟩) n ce) := BX2.cell 4
    have lX2 : w.heap.size < w2.heap.size := BX2.lt
    have mX2 : w.heap.size < w2.heap.size + 1 := by omega
    have nX2 : w.heap.size < w2.heap.size + 1 + 1 := by omega
    have BE2 : Blk w2 (w1.heap.size) 57 #[.int .i64 P0, .int .i64 P1, .int .i64 P2] := by
      refine Blk.kept ?_ hb2
      repeat (first | with_reducible exact Blk.new _ _ _ | (with_reducible refine Blk.newAt _ _ _ _ ?_; first | rfl | (simp; done)) | with_reducible apply Blk.alloc | with_reducible apply Blk.drewN | with_reducible apply Blk.drew | with_reducible apply Blk.set_to | (with_reducible apply Blk.far_; (simp only [ne_eq]; omega)) | rfl)
    have cE0_2 : w2.cell? ⟨w1.heap.size, 0, none⟩ = some (.int .i64 P0) := BE2.cell 0
    have cE1_2 : w2.cell? ⟨w1.heap.size, 1, none⟩ = some (.int .i64 P1) := BE2.cell 1
    have cE2_2 : w2.cell? ⟨w1.heap.size, 2, none⟩ = some (.int .i64 P2) := BE2.cell 2
    have lE2 : w1.heap.size < w2.heap.size := BE2.lt
    have mE2 : w1.heap.size < w2.heap.size + 1 := by omega
    have nE2 : w1.heap.size < w2.heap.size + 1 + 1 := by omega
    clear BX1 lX1 mX1 nX1 cX0_1 cX1_1 cX2_1 cX3_1 cX4_1
    have hs2 : w.heap.size ≤ w2.heap.size := by have h := hb2.size; (try simp at h); omega
    go_wp2_with fail
    refine (q3 _).mono ?_
    rintro e w3 ⟨rfl, hb3⟩
    have BX3 : Blk w3 (w.heap.size) 114 #[.int .i64 t0, .int .i64 t1, .int .i64 d0, .int .i64 d1, .slice (some ⟨be, oe, none⟩) n ce] := by
      refine Blk.kept ?_ hb3
      repeat (first | with_reducible exact BX2 | with_reducible exact Blk.new _ _ _ | (with_reducible refine Blk.newAt _ _ _ _ ?_; first | rfl | (simp; done)) | with_reducible apply Blk.alloc | with_reducible apply Blk.drewN | with_reducible apply Blk.drew | with_reducible apply Blk.set_to | (with_reducible apply Blk.far_; (simp only [ne_eq]; omega)) | rfl)
    have cX0_3 : w3.cell? ⟨w.heap.size, 0, none⟩ = some (.int .i64 t0) := BX3.cell 0
    have cX1_3 : w3.cell? ⟨w.heap.size, 1, none⟩ = some (.int .i64 t1) := BX3.cell 1
    have cX2_3 : w3.cell? ⟨w.heap.size, 2, none⟩ = some (.int .i64 d0) := BX3.cell 2
    have cX3_3 : w3.cell? ⟨w.heap.size, 3, none⟩ = some (.int .i64 d1) := BX3.cell 3
    have cX4_3 : w3.cell? ⟨w.heap.size, 4, none⟩ = some (.slice (some ⟨be, oe, none⟩) n ce) := BX3.cell 4
    have lX3 : w.heap.size < w3.heap.size := BX3.lt
    have mX3 : w.heap.size < w3.heap.size + 1 := by omega
    have nX3 : w.heap.size < w3.heap.size + 1 + 1 := by omega
    have BE3 : Blk w3 (w1.heap.size) 57 #[.int .i64 P0, .int .i64 P1, .int .i64 P2] := by
      refine Blk.kept ?_ hb3
      repeat (first | with_reducible exact BE2 | with_reducible exact Blk.new _ _ _ | (with_reducible refine Blk.newAt _ _ _ _ ?_; first | rfl | (simp; done)) | with_reducible apply Blk.alloc | with_reducible apply Blk.drewN | with_reducible apply Blk.drew | with_reducible apply Blk.set_to | (with_reducible apply Blk.far_; (simp only [ne_eq]; omega)) | rfl)
    have cE0_3 : w3.cell? ⟨w1.heap.size, 0, none⟩ = some (.int .i64 P0) := BE3.cell 0
    have cE1_3 : w3.cell? ⟨w1.heap.size, 1, none⟩ = some (.int .i64 P1) := BE3.cell 1
    have cE2_3 : w3.cell? ⟨w1.heap.size, 2, none⟩ = some (.int .i64 P2) := BE3.cell 2
    have lE3 : w1.heap.size < w3.heap.size := BE3.lt
    have mE3 : w1.heap.size < w3.heap.size + 1 := by omega
    have nE3 : w1.heap.size < w3.heap.size + 1 + 1 := by omega
    have BY3 : Blk w3 (w2.heap.size) 57 #[.int .i64 Q0, .int .i64 Q1, .int .i64 Q2] := by
      refine Blk.kept ?_ hb3
      repeat (first | with_reducible exact Blk.new _ _ _ | (with_reducible refine Blk.newAt _ _ _ _ ?_; first | rfl | (simp; done)) | with_reducible apply Blk.alloc | with_reducible apply Blk.drewN | with_reducible apply Blk.drew | with_reducible apply Blk.set_to | (with_reducible apply Blk.far_; (simp only [ne_eq]; omega)) | rfl)
    have cY0_3 : w3.cell? ⟨w2.heap.size, 0, none⟩ = some (.int .i64 Q0) := BY3.cell 0
    have cY1_3 : w3.cell? ⟨w2.heap.size, 1, none⟩ = some (.int .i64 Q1) := BY3.cell 1
    have cY2_3 : w3.cell? ⟨w2.heap.size, 2, none⟩ = some (.int .i64 Q2) := BY3.cell 2
    have lY3 : w2.heap.size < w3.heap.size := BY3.lt
    have mY3 : w2.heap.size < w3.heap.size + 1 := by omega
    have nY3 : w2.heap.size < w3.heap.size + 1 + 1 := by omega
    clear BX2 lX2 mX2 nX2 cX0_2 cX1_2 cX2_2 cX3_2 cX4_2 BE2 lE2 mE2 nE2 cE0_2 cE1_2 cE2_2
    have hs3 : w.heap.size ≤ w3.heap.size := by have h := hb3.size; (try simp at h); omega
    go_wp2_with fail
    refine (q4 _).mono ?_
    rintro e w4 ⟨rfl, hb4⟩
    have BX4 : Blk w4 (w.heap.size) 114 #[.int .i64 t0, .int .i64 t1, .int .i64 d0, .int .i64 d1, .slice (some ⟨be, oe, none⟩) n ce] := by
      refine Blk.kept ?_ hb4
      repeat (first | with_reducible exact BX3 | with_reducible exact Blk.new _ _ _ | (with_reducible refine Blk.newAt _ _ _ _ ?_; first | rfl | (simp; done)) | with_reducible apply Blk.alloc | with_reducible apply Blk.drewN | with_reducible apply Blk.drew | with_reducible apply Blk.set_to | (with_reducible apply Blk.far_; (simp only [ne_eq]; omega)) | rfl)
    have cX0_4 : w4.cell? ⟨w.heap.size, 0, none⟩ = some (.int .i64 t0) := BX4.cell 0
    have cX1_4 : w4.cell? ⟨w.heap.size, 1, none⟩ = some (.int .i64 t1) := BX4.cell 1
    have cX2_4 : w4.cell? ⟨w.heap.size, 2, none⟩ = some (.int .i64 d0) := BX4.cell 2
    have cX3_4 : w4.cell? ⟨w.heap.size, 3, none⟩ = some (.int .i64 d1) := BX4.cell 3
    have cX4_4 : w4.cell? ⟨w.heap.size, 4, none⟩ = some (.slice (some ⟨be, oe, none⟩) n ce) := BX4.cell 4
    have lX4 : w.heap.size < w4.heap.size := BX4.lt
    have mX4 : w.heap.size < w4.heap.size + 1 := by omega
    have nX4 : w.heap.size < w4.heap.size + 1 + 1 := by omega
    have BE4 : Blk w4 (w1.heap.size) 57 #[.int .i64 P0, .int .i64 P1, .int .i64 P2] := by
      refine Blk.kept ?_ hb4
      repeat (first | with_reducible exact BE3 | with_reducible exact Blk.new _ _ _ | (with_reducible refine Blk.newAt _ _ _ _ ?_; first | rfl | (simp; done)) | with_reducible apply Blk.alloc | with_reducible apply Blk.drewN | with_reducible apply Blk.drew | with_reducible apply Blk.set_to | (with_reducible apply Blk.far_; (simp only [ne_eq]; omega)) | rfl)
    have cE0_4 : w4.cell? ⟨w1.heap.size, 0, none⟩ = some (.int .i64 P0) := BE4.cell 0
    have cE1_4 : w4.cell? ⟨w1.heap.size, 1, none⟩ = some (.int .i64 P1) := BE4.cell 1
    have cE2_4 : w4.cell? ⟨w1.heap.size, 2, none⟩ = some (.int .i64 P2) := BE4.cell 2
    have lE4 : w1.heap.size < w4.heap.size := BE4.lt
    have mE4 : w1.heap.size < w4.heap.size + 1 := by omega
    have nE4 : w1.heap.size < w4.heap.size + 1 + 1 := by omega
    have BY4 : Blk w4 (w2.heap.size) 57 #[.int .i64 Q0, .int .i64 Q1, .int .i64 Q2] := by
      refine Blk.kept ?_ hb4
      repeat (first | with_reducible exact BY3 | with_reducible exact Blk.new _ _ _ | (with_reducible refine Blk.newAt _ _ _ _ ?_; first | rfl | (simp; done)) | with_reducible apply Blk.alloc | with_reducible apply Blk.drewN | with_reducible apply Blk.drew | with_reducible apply Blk.set_to | (with_reducible apply Blk.far_; (simp only [ne_eq]; omega)) | rfl)
    have cY0_4 : w4.cell? ⟨w2.heap.size, 0, none⟩ = some (.int .i64 Q0) := BY4.cell 0
    have cY1_4 : w4.cell? ⟨w2.heap.size, 1, none⟩ = some (.int .i64 Q1) := BY4.cell 1
    have cY2_4 : w4.cell? ⟨w2.heap.size, 2, none⟩ = some (.int .i64 Q2) := BY4.cell 2
    have lY4 : w2.heap.size < w4.heap.size := BY4.lt
    have mY4 : w2.heap.size < w4.heap.size + 1 := by omega
    have nY4 : w2.heap.size < w4.heap.size + 1 + 1 := by omega
    clear BX3 lX3 mX3 nX3 cX0_3 cX1_3 cX2_3 cX3_3 cX4_3 BE3 lE3 mE3 nE3 cE0_3 cE1_3 cE2_3 BY3 lY3 mY3 nY3 cY0_3 cY1_3 cY2_3
    have hs4 : w.heap.size ≤ w4.heap.size := by have h := hb4.size; (try simp at h); omega
    go_wp2
    refine ret_of (by simp [results, Tryd.results71, go_sem, *]; repeat' (first | rfl | apply And.intro)) rfl ⟨?_, by repeat (first | exact Below.refl _ _ | refine below_drewN ?_ _ | refine Below.drew ?_ | refine below_alloc ?_ _ | (refine below_call ?_ (by assumption)) | (refine Below.setCell ?_ ?_ _; rotate_left; (simp; try omega)))⟩
    rw [E2.out]
  · have hkb : (kd != 1) = true := by simp [hkd]
    have E2 := Lib.hid (show R = -1 by rw [HR.out, E.out]; simp [hkd])
    clear E hkd HR
    go_enter Tryd.func71, Tryd.ntmps71
    go_wp2_with fail
    refine Calls.mono (q1 _ ?_) ?_
    · exact ht.kept (by repeat (first | exact Below.refl _ _ | refine below_drewN ?_ _ | refine Below.drew ?_ | refine below_alloc ?_ _ | (refine below_call ?_ (by assumption)) | (refine Below.setCell ?_ ?_ _; rotate_left; (simp; try omega))))
    rintro e w1 ⟨rfl, hb1⟩
    have BX1 : Blk w1 (w.heap.size) 114 #[.int .i64 t0, .int .i64 t1, .int .i64 d0, .int .i64 d1, .slice (some ⟨be, oe, none⟩) n ce] := by
      refine Blk.kept ?_ hb1
      repeat (first | with_reducible exact Blk.new _ _ _ | (with_reducible refine Blk.newAt _ _ _ _ ?_; first | rfl | (simp; done)) | with_reducible apply Blk.alloc | with_reducible apply Blk.drewN | with_reducible apply Blk.drew | with_reducible apply Blk.set_to | (with_reducible apply Blk.far_; (simp only [ne_eq]; omega)) | rfl)
    have cX0_1 : w1.cell? ⟨w.heap.size, 0, none⟩ = some (.int .i64 t0) := BX1.cell 0
    have cX1_1 : w1.cell? ⟨w.heap.size, 1, none⟩ = some (.int .i64 t1) := BX1.cell 1
    have cX2_1 : w1.cell? ⟨w.heap.size, 2, none⟩ = some (.int .i64 d0) := BX1.cell 2
    have cX3_1 : w1.cell? ⟨w.heap.size, 3, none⟩ = some (.int .i64 d1) := BX1.cell 3
    have cX4_1 : w1.cell? ⟨w.heap.size, 4, none⟩ = some (.slice (some ⟨be, oe, none⟩) n ce) := BX1.cell 4
    have lX1 : w.heap.size < w1.heap.size := BX1.lt
    have mX1 : w.heap.size < w1.heap.size + 1 := by omega
    have nX1 : w.heap.size < w1.heap.size + 1 + 1 := by omega
    have hs1 : w.heap.size ≤ w1.heap.size := by have h := hb1.size; (try simp at h); omega
    go_wp2_with fail
    refine Calls.mono (q2 _ ?_) ?_
    · exact ht.kept (by repeat (first | exact Below.refl _ _ | refine below_drewN ?_ _ | refine Below.drew ?_ | refine below_alloc ?_ _ | (refine below_call ?_ (by assumption)) | (refine Below.setCell ?_ ?_ _; rotate_left; (simp; try omega))))
    rintro e w2 ⟨rfl, hb2⟩
    have BX2 : Blk w2 (w.heap.size) 114 #[.int .i64 t0, .int .i64 t1, .int .i64 d0, .int .i64 d1, .slice (some ⟨be, oe, none⟩) n ce] := by
      refine Blk.kept ?_ hb2
      repeat (first | with_reducible exact BX1 | with_reducible exact Blk.new _ _ _ | (with_reducible refine Blk.newAt _ _ _ _ ?_; first | rfl | (simp; done)) | with_reducible apply Blk.alloc | with_reducible apply Blk.drewN | with_reducible apply Blk.drew | with_reducible apply Blk.set_to | (with_reducible apply Blk.far_; (simp only [ne_eq]; omega)) | rfl)
    have cX0_2 : w2.cell? ⟨w.heap.size, 0, none⟩ = some (.int .i64 t0) := BX2.cell 0
    have cX1_2 : w2.cell? ⟨w.heap.size, 1, none⟩ = some (.int .i64 t1) := BX2.cell 1
    have cX2_2 : w2.cell? ⟨w.heap.size, 2, none⟩ = some (.int .i64 d0) := BX2.cell 2
    have cX3_2 : w2.cell? ⟨w.heap.size, 3, none⟩ = some (.int .i64 d1) := BX2.cell 3
    have cX4_2 : w2.cell? ⟨w.heap.size, 4, none⟩ = some (.slice (some ⟨be, oe, none⟩) n ce) := BX2.cell 4
    have lX2 : w.heap.size < w2.heap.size := BX2.lt
    have mX2 : w.heap.size < w2.heap.size + 1 := by omega
    have nX2 : w.heap.size < w2.heap.size + 1 + 1 := by omega
    have BE2 : Blk w2 (w1.heap.size) 57 #[.int .i64 P0, .int .i64 P1, .int .i64 P2] := by
      refine Blk.kept ?_ hb2
      repeat (first | with_reducible exact Blk.new _ _ _ | (with_reducible refine Blk.newAt _ _ _ _ ?_; first | rfl | (simp; done)) | with_reducible apply Blk.alloc | with_reducible apply Blk.drewN | with_reducible apply Blk.drew | with_reducible apply Blk.set_to | (with_reducible apply Blk.far_; (simp only [ne_eq]; omega)) | rfl)
    have cE0_2 : w2.cell? ⟨w1.heap.size, 0, none⟩ = some (.int .i64 P0) := BE2.cell 0
    have cE1_2 : w2.cell? ⟨w1.heap.size, 1, none⟩ = some (.int .i64 P1) := BE2.cell 1
    have cE2_2 : w2.cell? ⟨w1.heap.size, 2, none⟩ = some (.int .i64 P2) := BE2.cell 2
    have lE2 : w1.heap.size < w2.heap.size := BE2.lt
    have mE2 : w1.heap.size < w2.heap.size + 1 := by omega
    have nE2 : w1.heap.size < w2.heap.size + 1 + 1 := by omega
    clear BX1 lX1 mX1 nX1 cX0_1 cX1_1 cX2_1 cX3_1 cX4_1
    have hs2 : w.heap.size ≤ w2.heap.size := by have h := hb2.size; (try simp at h); omega
    go_wp2_with fail
    refine (q3 _).mono ?_
    rintro e w3 ⟨rfl, hb3⟩
    have BX3 : Blk w3 (w.heap.size) 114 #[.int .i64 t0, .int .i64 t1, .int .i64 d0, .int .i64 d1, .slice (some ⟨be, oe, none⟩) n ce] := by
      refine Blk.kept ?_ hb3
      repeat (first | with_reducible exact BX2 | with_reducible exact Blk.new _ _ _ | (with_reducible refine Blk.newAt _ _ _ _ ?_; first | rfl | (simp; done)) | with_reducible apply Blk.alloc | with_reducible apply Blk.drewN | with_reducible apply Blk.drew | with_reducible apply Blk.set_to | (with_reducible apply Blk.far_; (simp only [ne_eq]; omega)) | rfl)
    have cX0_3 : w3.cell? ⟨w.heap.size, 0, none⟩ = some (.int .i64 t0) := BX3.cell 0
    have cX1_3 : w3.cell? ⟨w.heap.size, 1, none⟩ = some (.int .i64 t1) := BX3.cell 1
    have cX2_3 : w3.cell? ⟨w.heap.size, 2, none⟩ = some (.int .i64 d0) := BX3.cell 2
    have cX3_3 : w3.cell? ⟨w.heap.size, 3, none⟩ = some (.int .i64 d1) := BX3.cell 3
    have cX4_3 : w3.cell? ⟨w.heap.size, 4, none⟩ = some (.slice (some ⟨be, oe, none⟩) n ce) := BX3.cell 4
    have lX3 : w.heap.size < w3.heap.size := BX3.lt
    have mX3 : w.heap.size < w3.heap.size + 1 := by omega
    have nX3 : w.heap.size < w3.heap.size + 1 + 1 := by omega
    have BE3 : Blk w3 (w1.heap.size) 57 #[.int .i64 P0, .int .i64 P1, .int .i64 P2] := by
      refine Blk.kept ?_ hb3
      repeat (first | with_reducible exact BE2 | with_reducible exact Blk.new _ _ _ | (with_reducible refine Blk.newAt _ _ _ _ ?_; first | rfl | (simp; done)) | with_reducible apply Blk.alloc | with_reducible apply Blk.drewN | with_reducible apply Blk.drew | with_reducible apply Blk.set_to | (with_reducible apply Blk.far_; (simp only [ne_eq]; omega)) | rfl)
    have cE0_3 : w3.cell? ⟨w1.heap.size, 0, none⟩ = some (.int .i64 P0) := BE3.cell 0
    have cE1_3 : w3.cell? ⟨w1.heap.size, 1, none⟩ = some (.int .i64 P1) := BE3.cell 1
    have cE2_3 : w3.cell? ⟨w1.heap.size, 2, none⟩ = some (.int .i64 P2) := BE3.cell 2
    have lE3 : w1.heap.size < w3.heap.size := BE3.lt
    have mE3 : w1.heap.size < w3.heap.size + 1 := by omega
    have nE3 : w1.heap.size < w3.heap.size + 1 + 1 := by omega
    have BY3 : Blk w3 (w2.heap.size) 57 #[.int .i64 Q0, .int .i64 Q1, .int .i64 Q2] := by
      refine Blk.kept ?_ hb3
      repeat (first | with_reducible exact Blk.new _ _ _ | (with_reducible refine Blk.newAt _ _ _ _ ?_; first | rfl | (simp; done)) | with_reducible apply Blk.alloc | with_reducible apply Blk.drewN | with_reducible apply Blk.drew | with_reducible apply Blk.set_to | (with_reducible apply Blk.far_; (simp only [ne_eq]; omega)) | rfl)
    have cY0_3 : w3.cell? ⟨w2.heap.size, 0, none⟩ = some (.int .i64 Q0) := BY3.cell 0
    have cY1_3 : w3.cell? ⟨w2.heap.size, 1, none⟩ = some (.int .i64 Q1) := BY3.cell 1
    have cY2_3 : w3.cell? ⟨w2.heap.size, 2, none⟩ = some (.int .i64 Q2) := BY3.cell 2
    have lY3 : w2.heap.size < w3.heap.size := BY3.lt
    have mY3 : w2.heap.size < w3.heap.size + 1 := by omega
    have nY3 : w2.heap.size < w3.heap.size + 1 + 1 := by omega
    clear BX2 lX2 mX2 nX2 cX0_2 cX1_2 cX2_2 cX3_2 cX4_2 BE2 lE2 mE2 nE2 cE0_2 cE1_2 cE2_2
    have hs3 : w.heap.size ≤ w3.heap.size := by have h := hb3.size; (try simp at h); omega
    go_wp2_with fail
    refine (q4 _).mono ?_
    rintro e w4 ⟨rfl, hb4⟩
    have BX4 : Blk w4 (w.heap.size) 114 #[.int .i64 t0, .int .i64 t1, .int .i64 d0, .int .i64 d1, .slice (some ⟨be, oe, none⟩) n ce] := by
      refine Blk.kept ?_ hb4
      repeat (first | with_reducible exact BX3 | with_reducible exact Blk.new _ _ _ | (with_reducible refine Blk.newAt _ _ _ _ ?_; first | rfl | (simp; done)) | with_reducible apply Blk.alloc | with_reducible apply Blk.drewN | with_reducible apply Blk.drew | with_reducible apply Blk.set_to | (with_reducible apply Blk.far_; (simp only [ne_eq]; omega)) | rfl)
    have cX0_4 : w4.cell? ⟨w.heap.size, 0, none⟩ = some (.int .i64 t0) := BX4.cell 0
    have cX1_4 : w4.cell? ⟨w.heap.size, 1, none⟩ = some (.int .i64 t1) := BX4.cell 1
    have cX2_4 : w4.cell? ⟨w.heap.size, 2, none⟩ = some (.int .i64 d0) := BX4.cell 2
    have cX3_4 : w4.cell? ⟨w.heap.size, 3, none⟩ = some (.int .i64 d1) := BX4.cell 3
    have cX4_4 : w4.cell? ⟨w.heap.size, 4, none⟩ = some (.slice (some ⟨be, oe, none⟩) n ce) := BX4.cell 4
    have lX4 : w.heap.size < w4.heap.size := BX4.lt
    have mX4 : w.heap.size < w4.heap.size + 1 := by omega
    have nX4 : w.heap.size < w4.heap.size + 1 + 1 := by omega
    have BE4 : Blk w4 (w1.heap.size) 57 #[.int .i64 P0, .int .i64 P1, .int .i64 P2] := by
      refine Blk.kept ?_ hb4
      repeat (first | with_reducible exact BE3 | with_reducible exact Blk.new _ _ _ | (with_reducible refine Blk.newAt _ _ _ _ ?_; first | rfl | (simp; done)) | with_reducible apply Blk.alloc | with_reducible apply Blk.drewN | with_reducible apply Blk.drew | with_reducible apply Blk.set_to | (with_reducible apply Blk.far_; (simp only [ne_eq]; omega)) | rfl)
    have cE0_4 : w4.cell? ⟨w1.heap.size, 0, none⟩ = some (.int .i64 P0) := BE4.cell 0
    have cE1_4 : w4.cell? ⟨w1.heap.size, 1, none⟩ = some (.int .i64 P1) := BE4.cell 1
    have cE2_4 : w4.cell? ⟨w1.heap.size, 2, none⟩ = some (.int .i64 P2) := BE4.cell 2
    have lE4 : w1.heap.size < w4.heap.size := BE4.lt
    have mE4 : w1.heap.size < w4.heap.size + 1 := by omega
    have nE4 : w1.heap.size < w4.heap.size + 1 + 1 := by omega
    have BY4 : Blk w4 (w2.heap.size) 57 #[.int .i64 Q0, .int .i64 Q1, .int .i64 Q2] := by
      refine Blk.kept ?_ hb4
      repeat (first | with_reducible exact BY3 | with_reducible exact Blk.new _ _ _ | (with_reducible refine Blk.newAt _ _ _ _ ?_; first | rfl | (simp; done)) | with_reducible apply Blk.alloc | with_reducible apply Blk.drewN | with_reducible apply Blk.drew | with_reducible apply Blk.set_to | (with_reducible apply Blk.far_; (simp only [ne_eq]; omega)) | rfl)
    have cY0_4 : w4.cell? ⟨w2.heap.size, 0, none⟩ = some (.int .i64 Q0) := BY4.cell 0
    have cY1_4 : w4.cell? ⟨w2.heap.size, 1, none⟩ = some (.int .i64 Q1) := BY4.cell 1
    have cY2_4 : w4.cell? ⟨w2.heap.size, 2, none⟩ = some (.int .i64 Q2) := BY4.cell 2
    have lY4 : w2.heap.size < w4.heap.size := BY4.lt
    have mY4 : w2.heap.size < w4.heap.size + 1 := by omega
    have nY4 : w2.heap.size < w4.heap.size + 1 + 1 := by omega
    clear BX3 lX3 mX3 nX3 cX0_3 cX1_3 cX2_3 cX3_3 cX4_3 BE3 lE3 mE3 nE3 cE0_3 cE1_3 cE2_3 BY3 lY3 mY3 nY3 cY0_3 cY1_3 cY2_3
    have hs4 : w.heap.size ≤ w4.heap.size := by have h := hb4.size; (try simp at h); omega
    go_wp2
    refine ret_of (by simp [results, Tryd.results71, go_sem, *]; repeat' (first | rfl | apply And.intro)) rfl ⟨?_, by repeat (first | exact Below.refl _ _ | refine below_drewN ?_ _ | refine Below.drew ?_ | refine below_alloc ?_ _ | (refine below_call ?_ (by assumption)) | (refine Below.setCell ?_ ?_ _; rotate_left; (simp; try omega)))⟩
    rw [E2.out]
end Go.Proofs.YtigfcbofbcpiaaaDoor
