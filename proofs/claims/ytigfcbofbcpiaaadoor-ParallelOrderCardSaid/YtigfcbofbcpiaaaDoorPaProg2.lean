
/- Perfect consonances and the upper voice, by the program. -/
import Derived.Test.YtigfcbofbcpiaaaDoorPaProg
namespace Go.Proofs.YtigfcbofbcpiaaaDoor
open Go.RowKit
set_option maxHeartbeats 400000 in
theorem sign_any (x : Int) (w : World) : Calls Tryd.prog 64 #[.int .i64 x] w fun e w' => e = .returned (.int .i64 (sgn x)) ∧ w' = w := by
  have E := Lib.hid (show sgn x = if x < 0 then -1 else if 0 < x then 1 else 0 from rfl)
  by_cases h : x < 0
  · have E2 := Lib.hid (show sgn x = -1 by rw [E.out, if_pos h])
    go_enter Tryd.func64, Tryd.ntmps64
    go_wp2
    go_ret
    rw [E2.out]
    exact ⟨rfl, rfl⟩
  · by_cases h2 : 0 < x
    · have E2 := Lib.hid (show sgn x = 1 by rw [E.out, if_neg h, if_pos h2])
      go_enter Tryd.func64, Tryd.ntmps64
      go_wp2
      go_ret
      rw [E2.out]
      exact ⟨rfl, rfl⟩
    · have E2 := Lib.hid (show sgn x = 0 by rw [E.out, if_neg h, if_neg h2])
      go_enter Tryd.func64, Tryd.ntmps64
      go_wp2
      go_ret
      rw [E2.out]
      exact ⟨rfl, rfl⟩
theorem kindE_ok {p q : Int × Int × Int} (h : pchk p = 0) (h' : pchk q = 0) : kindE p q = (kindP p q, 0) := by
  unfold kindE bothP; rw [if_neg]; simp [h, h']
theorem simE_ok {p q : Int × Int × Int} (h : pchk p = 0) (h' : pchk q = 0) : simE p q = (simI (upI p q), 0) := by
  unfold simE bothP; rw [if_neg]; simp [h, h']
set_option maxRecDepth 100000 in
set_option maxHeartbeats 4000000 in
theorem perfect_ok {A S : Option Addr} {n K : Nat} {l : List (List Ev)} {w : World} (h : Stg w A S n K l) (ht : Tabs w) (c d : Nat) {a b k : Nat} {va vb : List Ev} (ha : l[a]? = some va) (hb : l[b]? = some vb) (hk : k < K) :
    Calls Tryd.prog 65 #[vX A n c S K d, .int .i64 a, .int .i64 b, .int .i64 k] w fun e w' => e = .returned (.tuple #[.int .i64 (prfE (pitA va (mAt (momS l) k)) (pitA vb (mAt (momS l) k))).1, .bool (prfE (pitA va (mAt (momS l) k)) (pitA vb (mAt (momS l) k))).2]) ∧ Below w.heap.size w w' := by
  have q1 := fun W (hW : Below w.heap.size w W) => sounds_ok (h.kept hW) c d ha hk
  have q2 := fun W (hW : Below w.heap.size w W) => sounds_ok (h.kept hW) c d hb hk
  have hp1 := h.pit ha (mAt (momS l) k)
  have hp2 := h.pit hb (mAt (momS l) k)
  unfold pitA at hp1 hp2 ⊢
  obtain ⟨⟨x, bx⟩, hx⟩ : ∃ y, y = sndV va (mAt (momS l) k) := ⟨_, rfl⟩
  obtain ⟨⟨y, by_⟩, hy⟩ : ∃ y, y = sndV vb (mAt (momS l) k) := ⟨_, rfl⟩
  rw [← hx] at q1 hp1 ⊢
  rw [← hy] at q2 hp2 ⊢
  obtain ⟨⟨xa0, xa1⟩, ⟨xd0, xd1⟩, ⟨xp0, xp1, xp2⟩, xr, xs, xq⟩ := x
  obtain ⟨⟨ya0, ya1⟩, ⟨yd0, yd1⟩, ⟨yp0, yp1, yp2⟩, yr, ys, yq⟩ := y
  simp only at hp1 hp2 q1 q2 ⊢
  have q3 := fun W (hW : Below w.heap.size w W) => Kind_any (xp0, xp1, xp2) (yp0, yp1, yp2) W (ht.kept hW)
  have q4 := fun W (hW : Below w.heap.size w W) => Simple_any (xp0, xp1, xp2) (yp0, yp1, yp2) W (ht.kept hW)
  rw [kindE_ok hp1 hp2] at q3
  rw [simE_ok hp1 hp2] at q4
  have E := Lib.hid (show prfE (xp0, xp1, xp2) (yp0, yp1, yp2) = ((simI (upI (xp0, xp1, xp2) (yp0, yp1, yp2))).1, decide (kindP (xp0, xp1, xp2) (yp0, yp1, yp2) = 1)) from rfl)
  obtain ⟨kd, hkd⟩ : ∃ z, z = kindP (xp0, xp1, xp2) (yp0, yp1, yp2) := ⟨_, rfl⟩
  obtain ⟨⟨s0, s1⟩, hsi⟩ : ∃ z, z = simI (upI (xp0, xp1, xp2) (yp0, yp1, yp2)) := ⟨_, rfl⟩
  rw [← hkd] at q3 E
  rw [← hsi] at q4 E
  clear hx hy hp1 hp2 hkd hsi ht
  have ht : Anch w := ⟨⟩
  go_enter Tryd.func65, Tryd.ntmps65
  go_wp2_with fail
  refine Calls.mono (q1 _ ?_) ?_
  · exact ht.kept (by repeat (first | exact Below.refl _ _ | refine below_drewN ?_ _ | refine Below.drew ?_ | refine below_alloc ?_ _ | (refine below_call ?_ (by assumption)) | (refine Below.setCell ?_ ?_ _; rotate_left; (simp; try omega))))
  rintro e w1 ⟨rfl, hb1⟩
  have BX1 : Blk w1 (w.heap.size) 75 #[.slice A n c, .slice S K d] := by
    refine Blk.kept ?_ hb1
    repeat (first | with_reducible exact Blk.new _ _ _ | (with_reducible refine Blk.newAt _ _ _ _ ?_; first | rfl | (simp; done)) | with_reducible apply Blk.alloc | with_reducible apply Blk.drewN | with_reducible apply Blk.drew | with_reducible apply Blk.set_to | (with_reducible apply Blk.far_; (simp only [ne_eq]; omega)) | rfl)
  have cX0_1 : w1.cell? ⟨w.heap.size, 0, none⟩ = some (.slice A n c) := BX1.cell 0
  have cX1_1 : w1.cell? ⟨w.heap.size, 1, none⟩ = some (.slice S K d) := BX1.cell 1
  have lX1 : w.heap.size < w1.heap.size := BX1.lt
  have mX1 : w.heap.size < w1.heap.size + 1 := by omega
  have nX1 : w.heap.size < w1.heap.size + 1 + 1 := by omega
  have hs1 : w.heap.size ≤ w1.heap.size := by have h := hb1.size; (try simp at h); omega
  go_wp2_with fail
  refine Calls.mono (q2 _ ?_) ?_
  · exact ht.kept (by repeat (first | exact Below.refl _ _ | refine below_drewN ?_ _ | refine Below.drew ?_ | refine below_alloc ?_ _ | (refine below_call ?_ (by assumption)) | (refine Below.setCell ?_ ?_ _; rotate_left; (simp; try omega))))
  rintro e w2 ⟨rfl, hb2⟩
  have BX2 : Blk w2 (w.heap.size) 75 #[.slice A n c, .slice S K d] := by
    refine Blk.kept ?_ hb2
    repeat (first | with_reducible exact BX1 | with_reducible exact Blk.new _ _ _ | (with_reducible refine Blk.newAt _ _ _ _ ?_; first | rfl | (simp; done)) | with_reducible apply Blk.alloc | with_reducible apply Blk.drewN | with_reducible apply Blk.drew | with_reducible apply Blk.set_to | (with_reducible apply Blk.far_; (simp only [ne_eq]; omega)) | rfl)
  have cX0_2 : w2.cell? ⟨w.heap.size, 0, none⟩ = some (.slice A n c) := BX2.cell 0
  have cX1_2 : w2.cell? ⟨w.heap.size, 1, none⟩ = some (.slice S K d) := BX2.cell 1
  have lX2 : w.heap.size < w2.heap.size := BX2.lt
  have mX2 : w.heap.size < w2.heap.size + 1 := by omega
  have nX2 : w.heap.size < w2.heap.size + 1 + 1 := by omega
  have BE2 : Blk w2 (w1.heap.size) 70 #[.int .i64 xa0, .int .i64 xa1, .int .i64 xd0, .int .i64 xd1, .int .i64 xp0, .int .i64 xp1, .int .i64 xp2, .bool xr, .int .i64 xs, .int .i64 xq] := by
    refine Blk.kept ?_ hb2
    repeat (first | with_reducible exact Blk.new _ _ _ | (with_reducible refine Blk.newAt _ _ _ _ ?_; first | rfl | (simp; done)) | with_reducible apply Blk.alloc | with_reducible apply Blk.drewN | with_reducible apply Blk.drew | with_reducible apply Blk.set_to | (with_reducible apply Blk.far_; (simp only [ne_eq]; omega)) | rfl)
  have cE0_2 : w2.cell? ⟨w1.heap.size, 0, none⟩ = some (.int .i64 xa0) := BE2.cell 0
  have cE1_2 : w2.cell? ⟨w1.heap.size, 1, none⟩ = some (.int .i64 xa1) := BE2.cell 1
  have cE2_2 : w2.cell? ⟨w1.heap.size, 2, none⟩ = some (.int .i64 xd0) := BE2.cell 2
  have cE3_2 : w2.cell? ⟨w1.heap.size, 3, none⟩ = some (.int .i64 xd1) := BE2.cell 3
  have cE4_2 : w2.cell? ⟨w1.heap.size, 4, none⟩ = some (.int .i64 xp0) := BE2.cell 4
  have cE5_2 : w2.cell? ⟨w1.heap.size, 5, none⟩ = some (.int .i64 xp1) := BE2.cell 5
  have cE6_2 : w2.cell? ⟨w1.heap.size, 6, none⟩ = some (.int .i64 xp2) := BE2.cell 6
  have cE7_2 : w2.cell? ⟨w1.heap.size, 7, none⟩ = some (.bool xr) := BE2.cell 7
  have cE8_2 : w2.cell? ⟨w1.heap.size, 8, none⟩ = some (.int .i64 xs) := BE2.cell 8
  have cE9_2 : w2.cell? ⟨w1.heap.size, 9, none⟩ = some (.int .i64 xq) := BE2.cell 9
  have lE2 : w1.heap.size < w2.heap.size := BE2.lt
  have mE2 : w1.heap.size < w2.heap.size + 1 := by omega
  have nE2 : w1.heap.size < w2.heap.size + 1 + 1 := by omega
  clear BX1 lX1 mX1 nX1 cX0_1 cX1_1
  have hs2 : w.heap.size ≤ w2.heap.size := by have h := hb2.size; (try simp at h); omega
  go_wp2_with fail
  refine Calls.mono (q3 _ ?_) ?_
  · exact ht.kept (by repeat (first | exact Below.refl _ _ | refine below_drewN ?_ _ | refine Below.drew ?_ | refine below_alloc ?_ _ | (refine below_call ?_ (by assumption)) | (refine Below.setCell ?_ ?_ _; rotate_left; (simp; try omega))))
  rintro e w3 ⟨rfl, hb3⟩
  have BX3 : Blk w3 (w.heap.size) 75 #[.slice A n c, .slice S K d] := by
    refine Blk.kept ?_ hb3
    repeat (first | with_reducible exact BX2 | with_reducible exact Blk.new _ _ _ | (with_reducible refine Blk.newAt _ _ _ _ ?_; first | rfl | (simp; done)) | with_reducible apply Blk.alloc | with_reducible apply Blk.drewN | with_reducible apply Blk.drew | with_reducible apply Blk.set_to | (with_reducible apply Blk.far_; (simp only [ne_eq]; omega)) | rfl)
  have cX0_3 : w3.cell? ⟨w.heap.size, 0, none⟩ = some (.slice A n c) := BX3.cell 0
  have cX1_3 : w3.cell? ⟨w.heap.size, 1, none⟩ = some (.slice S K d) := BX3.cell 1
  have lX3 : w.heap.size < w3.heap.size := BX3.lt
  have mX3 : w.heap.size < w3.heap.size + 1 := by omega
  have nX3 : w.heap.size < w3.heap.size + 1 + 1 := by omega
  have BE3 : Blk w3 (w1.heap.size) 70 #[.int .i64 xa0, .int .i64 xa1, .int .i64 xd0, .int .i64 xd1, .int .i64 xp0, .int .i64 xp1, .int .i64 xp2, .bool xr, .int .i64 xs, .int .i64 xq] := by
    refine Blk.kept ?_ hb3
    repeat (first | with_reducible exact BE2 | with_reducible exact Blk.new _ _ _ | (with_reducible refine Blk.newAt _ _ _ _ ?_; first | rfl | (simp; done)) | with_reducible apply Blk.alloc | with_reducible apply Blk.drewN | with_reducible apply Blk.drew | with_reducible apply Blk.set_to | (with_reducible apply Blk.far_; (simp only [ne_eq]; omega)) | rfl)
  have cE0_3 : w3.cell? ⟨w1.heap.size, 0, none⟩ = some (.int .i64 xa0) := BE3.cell 0
  have cE1_3 : w3.cell? ⟨w1.heap.size, 1, none⟩ = some (.int .i64 xa1) := BE3.cell 1
  have cE2_3 : w3.cell? ⟨w1.heap.size, 2, none⟩ = some (.int .i64 xd0) := BE3.cell 2
  have cE3_3 : w3.cell? ⟨w1.heap.size, 3, none⟩ = some (.int .i64 xd1) := BE3.cell 3
  have cE4_3 : w3.cell? ⟨w1.heap.size, 4, none⟩ = some (.int .i64 xp0) := BE3.cell 4
  have cE5_3 : w3.cell? ⟨w1.heap.size, 5, none⟩ = some (.int .i64 xp1) := BE3.cell 5
  have cE6_3 : w3.cell? ⟨w1.heap.size, 6, none⟩ = some (.int .i64 xp2) := BE3.cell 6
  have cE7_3 : w3.cell? ⟨w1.heap.size, 7, none⟩ = some (.bool xr) := BE3.cell 7
  have cE8_3 : w3.cell? ⟨w1.heap.size, 8, none⟩ = some (.int .i64 xs) := BE3.cell 8
  have cE9_3 : w3.cell? ⟨w1.heap.size, 9, none⟩ = some (.int .i64 xq) := BE3.cell 9
  have lE3 : w1.heap.size < w3.heap.size := BE3.lt
  have mE3 : w1.heap.size < w3.heap.size + 1 := by omega
  have nE3 : w1.heap.size < w3.heap.size + 1 + 1 := by omega
  have BY3 : Blk w3 (w2.heap.size) 70 #[.int .i64 ya0, .int .i64 ya1, .int .i64 yd0, .int .i64 yd1, .int .i64 yp0, .int .i64 yp1, .int .i64 yp2, .bool yr, .int .i64 ys, .int .i64 yq] := by
    refine Blk.kept ?_ hb3
    repeat (first | with_reducible exact Blk.new _ _ _ | (with_reducible refine Blk.newAt _ _ _ _ ?_; first | rfl | (simp; done)) | with_reducible apply Blk.alloc | with_reducible apply Blk.drewN | with_reducible apply Blk.drew | with_reducible apply Blk.set_to | (with_reducible apply Blk.far_; (simp only [ne_eq]; omega)) | rfl)
  have cY0_3 : w3.cell? ⟨w2.heap.size, 0, none⟩ = some (.int .i64 ya0) := BY3.cell 0
  have cY1_3 : w3.cell? ⟨w2.heap.size, 1, none⟩ = some (.int .i64 ya1) := BY3.cell 1
  have cY2_3 : w3.cell? ⟨w2.heap.size, 2, none⟩ = some (.int .i64 yd0) := BY3.cell 2
  have cY3_3 : w3.cell? ⟨w2.heap.size, 3, none⟩ = some (.int .i64 yd1) := BY3.cell 3
  have cY4_3 : w3.cell? ⟨w2.heap.size, 4, none⟩ = some (.int .i64 yp0) := BY3.cell 4
  have cY5_3 : w3.cell? ⟨w2.heap.size, 5, none⟩ = some (.int .i64 yp1) := BY3.cell 5
  have cY6_3 : w3.cell? ⟨w2.heap.size, 6, none⟩ = some (.int .i64 yp2) := BY3.cell 6
  have cY7_3 : w3.cell? ⟨w2.heap.size, 7, none⟩ = some (.bool yr) := BY3.cell 7
  have cY8_3 : w3.cell? ⟨w2.heap.size, 8, none⟩ = some (.int .i64 ys) := BY3.cell 8
  have cY9_3 : w3.cell? ⟨w2.heap.size, 9, none⟩ = some (.int .i64 yq) := BY3.cell 9
  have lY3 : w2.heap.size < w3.heap.size := BY3.lt
  have mY3 : w2.heap.size < w3.heap.size + 1 := by omega
  have nY3 : w2.heap.size < w3.heap.size + 1 + 1 := by omega
  clear BX2 lX2 mX2 nX2 cX0_2 cX1_2 BE2 lE2 mE2 nE2 cE0_2 cE1_2 cE2_2 cE3_2 cE4_2 cE5_2 cE6_2 cE7_2 cE8_2 cE9_2
  have hs3 : w.heap.size ≤ w3.heap.size := by have h := hb3.size; (try simp at h); omega
  go_wp2_with fail
  refine Calls.mono (q4 _ ?_) ?_
  · exact ht.kept (by repeat (first | exact Below.refl _ _ | refine below_drewN ?_ _ | refine Below.drew ?_ | refine below_alloc ?_ _ | (refine below_call ?_ (by assumption)) | (refine Below.setCell ?_ ?_ _; rotate_left; (simp; try omega))))
  rintro e w4 ⟨rfl, hb4⟩
  have BX4 : Blk w4 (w.heap.size) 75 #[.slice A n c, .slice S K d] := by
    refine Blk.kept ?_ hb4
    repeat (first | with_reducible exact BX3 | with_reducible exact Blk.new _ _ _ | (with_reducible refine Blk.newAt _ _ _ _ ?_; first | rfl | (simp; done)) | with_reducible apply Blk.alloc | with_reducible apply Blk.drewN | with_reducible apply Blk.drew | with_reducible apply Blk.set_to | (with_reducible apply Blk.far_; (simp only [ne_eq]; omega)) | rfl)
  have cX0_4 : w4.cell? ⟨w.heap.size, 0, none⟩ = some (.slice A n c) := BX4.cell 0
  have cX1_4 : w4.cell? ⟨w.heap.size, 1, none⟩ = some (.slice S K d) := BX4.cell 1
  have lX4 : w.heap.size < w4.heap.size := BX4.lt
  have mX4 : w.heap.size < w4.heap.size + 1 := by omega
  have nX4 : w.heap.size < w4.heap.size + 1 + 1 := by omega
  have BE4 : Blk w4 (w1.heap.size) 70 #[.int .i64 xa0, .int .i64 xa1, .int .i64 xd0, .int .i64 xd1, .int .i64 xp0, .int .i64 xp1, .int .i64 xp2, .bool xr, .int .i64 xs, .int .i64 xq] := by
    refine Blk.kept ?_ hb4
    repeat (first | with_reducible exact BE3 | with_reducible exact Blk.new _ _ _ | (with_reducible refine Blk.newAt _ _ _ _ ?_; first | rfl | (simp; done)) | with_reducible apply Blk.alloc | with_reducible apply Blk.drewN | with_reducible apply Blk.drew | with_reducible apply Blk.set_to | (with_reducible apply Blk.far_; (simp only [ne_eq]; omega)) | rfl)
  have cE0_4 : w4.cell? ⟨w1.heap.size, 0, none⟩ = some (.int .i64 xa0) := BE4.cell 0
  have cE1_4 : w4.cell? ⟨w1.heap.size, 1, none⟩ = some (.int .i64 xa1) := BE4.cell 1
  have cE2_4 : w4.cell? ⟨w1.heap.size, 2, none⟩ = some (.int .i64 xd0) := BE4.cell 2
  have cE3_4 : w4.cell? ⟨w1.heap.size, 3, none⟩ = some (.int .i64 xd1) := BE4.cell 3
  have cE4_4 : w4.cell? ⟨w1.heap.size, 4, none⟩ = some (.int .i64 xp0) := BE4.cell 4
  have cE5_4 : w4.cell? ⟨w1.heap.size, 5, none⟩ = some (.int .i64 xp1) := BE4.cell 5
  have cE6_4 : w4.cell? ⟨w1.heap.size, 6, none⟩ = some (.int .i64 xp2) := BE4.cell 6
  have cE7_4 : w4.cell? ⟨w1.heap.size, 7, none⟩ = some (.bool xr) := BE4.cell 7
  have cE8_4 : w4.cell? ⟨w1.heap.size, 8, none⟩ = some (.int .i64 xs) := BE4.cell 8
  have cE9_4 : w4.cell? ⟨w1.heap.size, 9, none⟩ = some (.int .i64 xq) := BE4.cell 9
  have lE4 : w1.heap.size < w4.heap.size := BE4.lt
  have mE4 : w1.heap.size < w4.heap.size + 1 := by omega
  have nE4 : w1.heap.size < w4.heap.size + 1 + 1 := by omega
  have BY4 : Blk w4 (w2.heap.size) 70 #[.int .i64 ya0, .int .i64 ya1, .int .i64 yd0, .int .i64 yd1, .int .i64 yp0, .int .i64 yp1, .int .i64 yp2, .bool yr, .int .i64 ys, .int .i64 yq] := by
    refine Blk.kept ?_ hb4
    repeat (first | with_reducible exact BY3 | with_reducible exact Blk.new _ _ _ | (with_reducible refine Blk.newAt _ _ _ _ ?_; first | rfl | (simp; done)) | with_reducible apply Blk.alloc | with_reducible apply Blk.drewN | with_reducible apply Blk.drew | with_reducible apply Blk.set_to | (with_reducible apply Blk.far_; (simp only [ne_eq]; omega)) | rfl)
  have cY0_4 : w4.cell? ⟨w2.heap.size, 0, none⟩ = some (.int .i64 ya0) := BY4.cell 0
  have cY1_4 : w4.cell? ⟨w2.heap.size, 1, none⟩ = some (.int .i64 ya1) := BY4.cell 1
  have cY2_4 : w4.cell? ⟨w2.heap.size, 2, none⟩ = some (.int .i64 yd0) := BY4.cell 2
  have cY3_4 : w4.cell? ⟨w2.heap.size, 3, none⟩ = some (.int .i64 yd1) := BY4.cell 3
  have cY4_4 : w4.cell? ⟨w2.heap.size, 4, none⟩ = some (.int .i64 yp0) := BY4.cell 4
  have cY5_4 : w4.cell? ⟨w2.heap.size, 5, none⟩ = some (.int .i64 yp1) := BY4.cell 5
  have cY6_4 : w4.cell? ⟨w2.heap.size, 6, none⟩ = some (.int .i64 yp2) := BY4.cell 6
  have cY7_4 : w4.cell? ⟨w2.heap.size, 7, none⟩ = some (.bool yr) := BY4.cell 7
  have cY8_4 : w4.cell? ⟨w2.heap.size, 8, none⟩ = some (.int .i64 ys) := BY4.cell 8
  have cY9_4 : w4.cell? ⟨w2.heap.size, 9, none⟩ = some (.int .i64 yq) := BY4.cell 9
  have lY4 : w2.heap.size < w4.heap.size := BY4.lt
  have mY4 : w2.heap.size < w4.heap.size + 1 := by omega
  have nY4 : w2.heap.size < w4.heap.size + 1 + 1 := by omega
  clear BX3 lX3 mX3 nX3 cX0_3 cX1_3 BE3 lE3 mE3 nE3 cE0_3 cE1_3 cE2_3 cE3_3 cE4_3 cE5_3 cE6_3 cE7_3 cE8_3 cE9_3 BY3 lY3 mY3 nY3 cY0_3 cY1_3 cY2_3 cY3_3 cY4_3 cY5_3 cY6_3 cY7_3 cY8_3 cY9_3
  have hs4 : w.heap.size ≤ w4.heap.size := by have h := hb4.size; (try simp at h); omega
  go_wp2
  refine ret_of (by simp [results, Tryd.results65, go_sem, *]; repeat' (first | rfl | apply And.intro)) rfl ⟨?_, by repeat (first | exact Below.refl _ _ | refine below_drewN ?_ _ | refine Below.drew ?_ | refine below_alloc ?_ _ | (refine below_call ?_ (by assumption)) | (refine Below.setCell ?_ ?_ _; rotate_left; (simp; try omega)))⟩
  rw [E.out]
  by_cases hk1 : kd = 1 <;> simp [hk1]
set_option maxRecDepth 100000 in
set_option maxHeartbeats 4000000 in
theorem upper_ok {A S : Option Addr} {n K : Nat} {l : List (List Ev)} {w : World} (h : Stg w A S n K l) (c d : Nat) {a b k : Nat} {va vb : List Ev} (ha : l[a]? = some va) (hb : l[b]? = some vb) (hk : k < K) (da db : Int) :
    Calls Tryd.prog 66 #[vX A n c S K d, .int .i64 a, .int .i64 b, .int .i64 k, .int .i64 da, .int .i64 db] w fun e w' => e = .returned (.int .i64 (if numP (pitA vb (mAt (momS l) k)) < numP (pitA va (mAt (momS l) k)) then da else db)) ∧ Below w.heap.size w w' := by
  have q1 := fun W (hW : Below w.heap.size w W) => sounds_ok (h.kept hW) c d ha hk
  have q2 := fun W (hW : Below w.heap.size w W) => sounds_ok (h.kept hW) c d hb hk
  have hp1 := h.pit ha (mAt (momS l) k)
  have hp2 := h.pit hb (mAt (momS l) k)
  unfold pitA at hp1 hp2 ⊢
  obtain ⟨⟨x, bx⟩, hx⟩ : ∃ y, y = sndV va (mAt (momS l) k) := ⟨_, rfl⟩
  obtain ⟨⟨y, by_⟩, hy⟩ : ∃ y, y = sndV vb (mAt (momS l) k) := ⟨_, rfl⟩
  rw [← hx] at q1 hp1 ⊢
  rw [← hy] at q2 hp2 ⊢
  obtain ⟨⟨xa0, xa1⟩, ⟨xd0, xd1⟩, ⟨xp0, xp1, xp2⟩, xr, xs, xq⟩ := x
  obtain ⟨⟨ya0, ya1⟩, ⟨yd0, yd1⟩, ⟨yp0, yp1, yp2⟩, yr, ys, yq⟩ := y
  simp only at hp1 hp2 q1 q2 ⊢
  have q3 := number_ok _ hp1
  have q4 := number_ok _ hp2
  obtain ⟨nx, hnx⟩ : ∃ z, z = numP (xp0, xp1, xp2) := ⟨_, rfl⟩
  obtain ⟨ny, hny⟩ : ∃ z, z = numP (yp0, yp1, yp2) := ⟨_, rfl⟩
  rw [← hnx] at q3 ⊢
  rw [← hny] at q4 ⊢
  clear hx hy hp1 hp2 hnx hny
  have ht : Anch w := ⟨⟩
  by_cases hlt : ny < nx
  all_goals
    go_enter Tryd.func66, Tryd.ntmps66
    go_wp2_with fail
    refine Calls.mono (q1 _ ?_) ?_
    · exact ht.kept (by repeat (first | exact Below.refl _ _ | refine below_drewN ?_ _ | refine Below.drew ?_ | refine below_alloc ?_ _ | (refine below_call ?_ (by assumption)) | (refine Below.setCell ?_ ?_ _; rotate_left; (simp; try omega))))
    rintro e w1 ⟨rfl, hb1⟩
    have BX1 : Blk w1 (w.heap.size) 75 #[.slice A n c, .slice S K d] := by
      refine Blk.kept ?_ hb1
      repeat (first | with_reducible exact Blk.new _ _ _ | (with_reducible refine Blk.newAt _ _ _ _ ?_; first | rfl | (simp; done)) | with_reducible apply Blk.alloc | with_reducible apply Blk.drewN | with_reducible apply Blk.drew | with_reducible apply Blk.set_to | (with_reducible apply Blk.far_; (simp only [ne_eq]; omega)) | rfl)
    have cX0_1 : w1.cell? ⟨w.heap.size, 0, none⟩ = some (.slice A n c) := BX1.cell 0
    have cX1_1 : w1.cell? ⟨w.heap.size, 1, none⟩ = some (.slice S K d) := BX1.cell 1
    have lX1 : w.heap.size < w1.heap.size := BX1.lt
    have mX1 : w.heap.size < w1.heap.size + 1 := by omega
    have nX1 : w.heap.size < w1.heap.size + 1 + 1 := by omega
    have hs1 : w.heap.size ≤ w1.heap.size := by have h := hb1.size; (try simp at h); omega
    go_wp2_with fail
    refine Calls.mono (q2 _ ?_) ?_
    · exact ht.kept (by repeat (first | exact Below.refl _ _ | refine below_drewN ?_ _ | refine Below.drew ?_ | refine below_alloc ?_ _ | (refine below_call ?_ (by assumption)) | (refine Below.setCell ?_ ?_ _; rotate_left; (simp; try omega))))
    rintro e w2 ⟨rfl, hb2⟩
    have BX2 : Blk w2 (w.heap.size) 75 #[.slice A n c, .slice S K d] := by
      refine Blk.kept ?_ hb2
      repeat (first | with_reducible exact BX1 | with_reducible exact Blk.new _ _ _ | (with_reducible refine Blk.newAt _ _ _ _ ?_; first | rfl | (simp; done)) | with_reducible apply Blk.alloc | with_reducible apply Blk.drewN | with_reducible apply Blk.drew | with_reducible apply Blk.set_to | (with_reducible apply Blk.far_; (simp only [ne_eq]; omega)) | rfl)
    have cX0_2 : w2.cell? ⟨w.heap.size, 0, none⟩ = some (.slice A n c) := BX2.cell 0
    have cX1_2 : w2.cell? ⟨w.heap.size, 1, none⟩ = some (.slice S K d) := BX2.cell 1
    have lX2 : w.heap.size < w2.heap.size := BX2.lt
    have mX2 : w.heap.size < w2.heap.size + 1 := by omega
    have nX2 : w.heap.size < w2.heap.size + 1 + 1 := by omega
    have BE2 : Blk w2 (w1.heap.size) 70 #[.int .i64 xa0, .int .i64 xa1, .int .i64 xd0, .int .i64 xd1, .int .i64 xp0, .int .i64 xp1, .int .i64 xp2, .bool xr, .int .i64 xs, .int .i64 xq] := by
      refine Blk.kept ?_ hb2
      repeat (first | with_reducible exact Blk.new _ _ _ | (with_reducible refine Blk.newAt _ _ _ _ ?_; first | rfl | (simp; done)) | with_reducible apply Blk.alloc | with_reducible apply Blk.drewN | with_reducible apply Blk.drew | with_reducible apply Blk.set_to | (with_reducible apply Blk.far_; (simp only [ne_eq]; omega)) | rfl)
    have cE0_2 : w2.cell? ⟨w1.heap.size, 0, none⟩ = some (.int .i64 xa0) := BE2.cell 0
    have cE1_2 : w2.cell? ⟨w1.heap.size, 1, none⟩ = some (.int .i64 xa1) := BE2.cell 1
    have cE2_2 : w2.cell? ⟨w1.heap.size, 2, none⟩ = some (.int .i64 xd0) := BE2.cell 2
    have cE3_2 : w2.cell? ⟨w1.heap.size, 3, none⟩ = some (.int .i64 xd1) := BE2.cell 3
    have cE4_2 : w2.cell? ⟨w1.heap.size, 4, none⟩ = some (.int .i64 xp0) := BE2.cell 4
    have cE5_2 : w2.cell? ⟨w1.heap.size, 5, none⟩ = some (.int .i64 xp1) := BE2.cell 5
    have cE6_2 : w2.cell? ⟨w1.heap.size, 6, none⟩ = some (.int .i64 xp2) := BE2.cell 6
    have cE7_2 : w2.cell? ⟨w1.heap.size, 7, none⟩ = some (.bool xr) := BE2.cell 7
    have cE8_2 : w2.cell? ⟨w1.heap.size, 8, none⟩ = some (.int .i64 xs) := BE2.cell 8
    have cE9_2 : w2.cell? ⟨w1.heap.size, 9, none⟩ = some (.int .i64 xq) := BE2.cell 9
    have lE2 : w1.heap.size < w2.heap.size := BE2.lt
    have mE2 : w1.heap.size < w2.heap.size + 1 := by omega
    have nE2 : w1.heap.size < w2.heap.size + 1 + 1 := by omega
    clear BX1 lX1 mX1 nX1 cX0_1 cX1_1
    have hs2 : w.heap.size ≤ w2.heap.size := by have h := hb2.size; (try simp at h); omega
    go_wp2_with fail
    refine (q3 _).mono ?_
    rintro e w3 ⟨rfl, hb3⟩
    have BX3 : Blk w3 (w.heap.size) 75 #[.slice A n c, .slice S K d] := by
      refine Blk.kept ?_ hb3
      repeat (first | with_reducible exact BX2 | with_reducible exact Blk.new _ _ _ | (with_reducible refine Blk.newAt _ _ _ _ ?_; first | rfl | (simp; done)) | with_reducible apply Blk.alloc | with_reducible apply Blk.drewN | with_reducible apply Blk.drew | with_reducible apply Blk.set_to | (with_reducible apply Blk.far_; (simp only [ne_eq]; omega)) | rfl)
    have cX0_3 : w3.cell? ⟨w.heap.size, 0, none⟩ = some (.slice A n c) := BX3.cell 0
    have cX1_3 : w3.cell? ⟨w.heap.size, 1, none⟩ = some (.slice S K d) := BX3.cell 1
    have lX3 : w.heap.size < w3.heap.size := BX3.lt
    have mX3 : w.heap.size < w3.heap.size + 1 := by omega
    have nX3 : w.heap.size < w3.heap.size + 1 + 1 := by omega
    have BE3 : Blk w3 (w1.heap.size) 70 #[.int .i64 xa0, .int .i64 xa1, .int .i64 xd0, .int .i64 xd1, .int .i64 xp0, .int .i64 xp1, .int .i64 xp2, .bool xr, .int .i64 xs, .int .i64 xq] := by
      refine Blk.kept ?_ hb3
      repeat (first | with_reducible exact BE2 | with_reducible exact Blk.new _ _ _ | (with_reducible refine Blk.newAt _ _ _ _ ?_; first | rfl | (simp; done)) | with_reducible apply Blk.alloc | with_reducible apply Blk.drewN | with_reducible apply Blk.drew | with_reducible apply Blk.set_to | (with_reducible apply Blk.far_; (simp only [ne_eq]; omega)) | rfl)
    have cE0_3 : w3.cell? ⟨w1.heap.size, 0, none⟩ = some (.int .i64 xa0) := BE3.cell 0
    have cE1_3 : w3.cell? ⟨w1.heap.size, 1, none⟩ = some (.int .i64 xa1) := BE3.cell 1
    have cE2_3 : w3.cell? ⟨w1.heap.size, 2, none⟩ = some (.int .i64 xd0) := BE3.cell 2
    have cE3_3 : w3.cell? ⟨w1.heap.size, 3, none⟩ = some (.int .i64 xd1) := BE3.cell 3
    have cE4_3 : w3.cell? ⟨w1.heap.size, 4, none⟩ = some (.int .i64 xp0) := BE3.cell 4
    have cE5_3 : w3.cell? ⟨w1.heap.size, 5, none⟩ = some (.int .i64 xp1) := BE3.cell 5
    have cE6_3 : w3.cell? ⟨w1.heap.size, 6, none⟩ = some (.int .i64 xp2) := BE3.cell 6
    have cE7_3 : w3.cell? ⟨w1.heap.size, 7, none⟩ = some (.bool xr) := BE3.cell 7
    have cE8_3 : w3.cell? ⟨w1.heap.size, 8, none⟩ = some (.int .i64 xs) := BE3.cell 8
    have cE9_3 : w3.cell? ⟨w1.heap.size, 9, none⟩ = some (.int .i64 xq) := BE3.cell 9
    have lE3 : w1.heap.size < w3.heap.size := BE3.lt
    have mE3 : w1.heap.size < w3.heap.size + 1 := by omega
    have nE3 : w1.heap.size < w3.heap.size + 1 + 1 := by omega
    have BY3 : Blk w3 (w2.heap.size) 70 #[.int .i64 ya0, .int .i64 ya1, .int .i64 yd0, .int .i64 yd1, .int .i64 yp0, .int .i64 yp1, .int .i64 yp2, .bool yr, .int .i64 ys, .int .i64 yq] := by
      refine Blk.kept ?_ hb3
      repeat (first | with_reducible exact Blk.new _ _ _ | (with_reducible refine Blk.newAt _ _ _ _ ?_; first | rfl | (simp; done)) | with_reducible apply Blk.alloc | with_reducible apply Blk.drewN | with_reducible apply Blk.drew | with_reducible apply Blk.set_to | (with_reducible apply Blk.far_; (simp only [ne_eq]; omega)) | rfl)
    have cY0_3 : w3.cell? ⟨w2.heap.size, 0, none⟩ = some (.int .i64 ya0) := BY3.cell 0
    have cY1_3 : w3.cell? ⟨w2.heap.size, 1, none⟩ = some (.int .i64 ya1) := BY3.cell 1
    have cY2_3 : w3.cell? ⟨w2.heap.size, 2, none⟩ = some (.int .i64 yd0) := BY3.cell 2
    have cY3_3 : w3.cell? ⟨w2.heap.size, 3, none⟩ = some (.int .i64 yd1) := BY3.cell 3
    have cY4_3 : w3.cell? ⟨w2.heap.size, 4, none⟩ = some (.int .i64 yp0) := BY3.cell 4
    have cY5_3 : w3.cell? ⟨w2.heap.size, 5, none⟩ = some (.int .i64 yp1) := BY3.cell 5
    have cY6_3 : w3.cell? ⟨w2.heap.size, 6, none⟩ = some (.int .i64 yp2) := BY3.cell 6
    have cY7_3 : w3.cell? ⟨w2.heap.size, 7, none⟩ = some (.bool yr) := BY3.cell 7
    have cY8_3 : w3.cell? ⟨w2.heap.size, 8, none⟩ = some (.int .i64 ys) := BY3.cell 8
    have cY9_3 : w3.cell? ⟨w2.heap.size, 9, none⟩ = some (.int .i64 yq) := BY3.cell 9
    have lY3 : w2.heap.size < w3.heap.size := BY3.lt
    have mY3 : w2.heap.size < w3.heap.size + 1 := by omega
    have nY3 : w2.heap.size < w3.heap.size + 1 + 1 := by omega
    clear BX2 lX2 mX2 nX2 cX0_2 cX1_2 BE2 lE2 mE2 nE2 cE0_2 cE1_2 cE2_2 cE3_2 cE4_2 cE5_2 cE6_2 cE7_2 cE8_2 cE9_2
    have hs3 : w.heap.size ≤ w3.heap.size := by have h := hb3.size; (try simp at h); omega
    go_wp2_with fail
    refine (q4 _).mono ?_
    rintro e w4 ⟨rfl, hb4⟩
    have BX4 : Blk w4 (w.heap.size) 75 #[.slice A n c, .slice S K d] := by
      refine Blk.kept ?_ hb4
      repeat (first | with_reducible exact BX3 | with_reducible exact Blk.new _ _ _ | (with_reducible refine Blk.newAt _ _ _ _ ?_; first | rfl | (simp; done)) | with_reducible apply Blk.alloc | with_reducible apply Blk.drewN | with_reducible apply Blk.drew | with_reducible apply Blk.set_to | (with_reducible apply Blk.far_; (simp only [ne_eq]; omega)) | rfl)
    have cX0_4 : w4.cell? ⟨w.heap.size, 0, none⟩ = some (.slice A n c) := BX4.cell 0
    have cX1_4 : w4.cell? ⟨w.heap.size, 1, none⟩ = some (.slice S K d) := BX4.cell 1
    have lX4 : w.heap.size < w4.heap.size := BX4.lt
    have mX4 : w.heap.size < w4.heap.size + 1 := by omega
    have nX4 : w.heap.size < w4.heap.size + 1 + 1 := by omega
    have BE4 : Blk w4 (w1.heap.size) 70 #[.int .i64 xa0, .int .i64 xa1, .int .i64 xd0, .int .i64 xd1, .int .i64 xp0, .int .i64 xp1, .int .i64 xp2, .bool xr, .int .i64 xs, .int .i64 xq] := by
      refine Blk.kept ?_ hb4
      repeat (first | with_reducible exact BE3 | with_reducible exact Blk.new _ _ _ | (with_reducible refine Blk.newAt _ _ _ _ ?_; first | rfl | (simp; done)) | with_reducible apply Blk.alloc | with_reducible apply Blk.drewN | with_reducible apply Blk.drew | with_reducible apply Blk.set_to | (with_reducible apply Blk.far_; (simp only [ne_eq]; omega)) | rfl)
    have cE0_4 : w4.cell? ⟨w1.heap.size, 0, none⟩ = some (.int .i64 xa0) := BE4.cell 0
    have cE1_4 : w4.cell? ⟨w1.heap.size, 1, none⟩ = some (.int .i64 xa1) := BE4.cell 1
    have cE2_4 : w4.cell? ⟨w1.heap.size, 2, none⟩ = some (.int .i64 xd0) := BE4.cell 2
    have cE3_4 : w4.cell? ⟨w1.heap.size, 3, none⟩ = some (.int .i64 xd1) := BE4.cell 3
    have cE4_4 : w4.cell? ⟨w1.heap.size, 4, none⟩ = some (.int .i64 xp0) := BE4.cell 4
    have cE5_4 : w4.cell? ⟨w1.heap.size, 5, none⟩ = some (.int .i64 xp1) := BE4.cell 5
    have cE6_4 : w4.cell? ⟨w1.heap.size, 6, none⟩ = some (.int .i64 xp2) := BE4.cell 6
    have cE7_4 : w4.cell? ⟨w1.heap.size, 7, none⟩ = some (.bool xr) := BE4.cell 7
    have cE8_4 : w4.cell? ⟨w1.heap.size, 8, none⟩ = some (.int .i64 xs) := BE4.cell 8
    have cE9_4 : w4.cell? ⟨w1.heap.size, 9, none⟩ = some (.int .i64 xq) := BE4.cell 9
    have lE4 : w1.heap.size < w4.heap.size := BE4.lt
    have mE4 : w1.heap.size < w4.heap.size + 1 := by omega
    have nE4 : w1.heap.size < w4.heap.size + 1 + 1 := by omega
    have BY4 : Blk w4 (w2.heap.size) 70 #[.int .i64 ya0, .int .i64 ya1, .int .i64 yd0, .int .i64 yd1, .int .i64 yp0, .int .i64 yp1, .int .i64 yp2, .bool yr, .int .i64 ys, .int .i64 yq] := by
      refine Blk.kept ?_ hb4
      repeat (first | with_reducible exact BY3 | with_reducible exact Blk.new _ _ _ | (with_reducible refine Blk.newAt _ _ _ _ ?_; first | rfl | (simp; done)) | with_reducible apply Blk.alloc | with_reducible apply Blk.drewN | with_reducible apply Blk.drew | with_reducible apply Blk.set_to | (with_reducible apply Blk.far_; (simp only [ne_eq]; omega)) | rfl)
    have cY0_4 : w4.cell? ⟨w2.heap.size, 0, none⟩ = some (.int .i64 ya0) := BY4.cell 0
    have cY1_4 : w4.cell? ⟨w2.heap.size, 1, none⟩ = some (.int .i64 ya1) := BY4.cell 1
    have cY2_4 : w4.cell? ⟨w2.heap.size, 2, none⟩ = some (.int .i64 yd0) := BY4.cell 2
    have cY3_4 : w4.cell? ⟨w2.heap.size, 3, none⟩ = some (.int .i64 yd1) := BY4.cell 3
    have cY4_4 : w4.cell? ⟨w2.heap.size, 4, none⟩ = some (.int .i64 yp0) := BY4.cell 4
    have cY5_4 : w4.cell? ⟨w2.heap.size, 5, none⟩ = some (.int .i64 yp1) := BY4.cell 5
    have cY6_4 : w4.cell? ⟨w2.heap.size, 6, none⟩ = some (.int .i64 yp2) := BY4.cell 6
    have cY7_4 : w4.cell? ⟨w2.heap.size, 7, none⟩ = some (.bool yr) := BY4.cell 7
    have cY8_4 : w4.cell? ⟨w2.heap.size, 8, none⟩ = some (.int .i64 ys) := BY4.cell 8
    have cY9_4 : w4.cell? ⟨w2.heap.size, 9, none⟩ = some (.int .i64 yq) := BY4.cell 9
    have lY4 : w2.heap.size < w4.heap.size := BY4.lt
    have mY4 : w2.heap.size < w4.heap.size + 1 := by omega
    have nY4 : w2.heap.size < w4.heap.size + 1 + 1 := by omega
    clear BX3 lX3 mX3 nX3 cX0_3 cX1_3 BE3 lE3 mE3 nE3 cE0_3 cE1_3 cE2_3 cE3_3 cE4_3 cE5_3 cE6_3 cE7_3 cE8_3 cE9_3 BY3 lY3 mY3 nY3 cY0_3 cY1_3 cY2_3 cY3_3 cY4_3 cY5_3 cY6_3 cY7_3 cY8_3 cY9_3
    have hs4 : w.heap.size ≤ w4.heap.size := by have h := hb4.size; (try simp at h); omega
    go_wp2
    refine ret_of (by simp [results, Tryd.results66, go_sem, *]; repeat' (first | rfl | apply And.intro)) rfl ⟨?_, by repeat (first | exact Below.refl _ _ | refine below_drewN ?_ _ | refine Below.drew ?_ | refine below_alloc ?_ _ | (refine below_call ?_ (by assumption)) | (refine Below.setCell ?_ ?_ _; rotate_left; (simp; try omega)))⟩
    rfl
end Go.Proofs.YtigfcbofbcpiaaaDoor
