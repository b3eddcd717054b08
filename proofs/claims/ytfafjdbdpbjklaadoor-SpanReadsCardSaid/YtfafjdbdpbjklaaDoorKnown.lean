/- The walk through tactuslaw01.SpanKnown: it returns true. -/
import Derived.Test.YtfafjdbdpbjklaaDoorAwake
import Derived.Test.YtfafjdbdpbjklaaDoorKit
import Derived.Test.YtfafjdbdpbjklaaDoorTail
namespace Go.Proofs.YtfafjdbdpbjklaaDoor
open Go.RowKit
set_option maxRecDepth 100000 in
set_option maxHeartbeats 1000000 in
theorem known_any (w : World) : Calls Tryd.prog 8 #[] w fun e w' => e = .returned (.bool true) ∧ Below w.heap.size w w' := by
  have m1 : mk 0 7 = (0, 1, 0) := by decide +kernel
  have m2 : mk (-1) 2 = (0, 0, 2) := by decide +kernel
  have m3 : mk 1 0 = (0, 0, 5) := by decide +kernel
  have m4 : mk 1 2097152 = (0, 0, 4) := by decide +kernel
  have m5 : subS (1, 3) (1, 2) = (0, 0, 2) := by decide +kernel
  have m6 : mulS (2, 3) (9, 4) = (3, 2, 0) := by decide +kernel
  have m7 : divS (2, 3) (0, 1) = (0, 0, 5) := by decide +kernel
  have m8 : addS (1099511627776, 1) (1, 1) = (0, 0, 4) := by decide +kernel
  have m9 : parS (ByteArray.mk #[52]).data.toList = (4, 1, 0) := by decide +kernel
  have t12 : tS 1 2 = (1, 2) := by decide +kernel
  have t13 : tS 1 3 = (1, 3) := by decide +kernel
  have t23 : tS 2 3 = (2, 3) := by decide +kernel
  have t94 : tS 9 4 = (9, 4) := by decide +kernel
  have t11 : tS 1 1 = (1, 1) := by decide +kernel
  have t32 : tS 3 2 = (3, 2) := by decide +kernel
  have t41 : tS 4 1 = (4, 1) := by decide +kernel
  have k1 : chk 2 4 = 3 := by decide +kernel
  have k2 : chk 0 2 = 3 := by decide +kernel
  have k3 : chk 0 0 = 2 := by decide +kernel
  have M9 := Lib.hid m9; clear m9
  go_enter Tryd.func8, Tryd.ntmps8
  go_wp2_with fail
  refine (make_any _ _ _ (by omega) (by omega)).mono ?_
  rintro e w1 ⟨rfl, hb1⟩
  go_wp2_with fail
  refine (make_any _ _ _ (by omega) (by omega)).mono ?_
  rintro e w2 ⟨rfl, hb2⟩
  have BZ2 : Blk w2 (w1.heap.size) 23 #[.int .i64 0, .int .i64 1] := by
    have h := Blk.kept (g := w1.heap.size) (t := 23) (w' := w2) (by repeat (first | exact Blk.new _ _ _ | exact Blk.newAt _ _ _ _ (by simp) | exact Blk.newAt _ _ _ _ (by simp only [World.size_alloc, World.drewN, World.drew]) | apply Blk.alloc | apply Blk.drewN | apply Blk.drew | apply Blk.set_ | (apply Blk.far_; (simp only [ne_eq]; omega)))) hb2
    exact h
  have cZ0_2 : w2.cell? ⟨w1.heap.size, 0, none⟩ = some (.int .i64 0) := BZ2.cell 0
  have cZ1_2 : w2.cell? ⟨w1.heap.size, 1, none⟩ = some (.int .i64 1) := BZ2.cell 1
  have lZ2 : w1.heap.size < w2.heap.size := BZ2.lt
  have mZ2 : w1.heap.size < w2.heap.size + 1 := by omega
  have nZ2 : w1.heap.size < w2.heap.size + 1 + 1 := by omega
  go_wp2_with fail
  refine (make_any _ _ _ (by omega) (by omega)).mono ?_
  rintro e w3 ⟨rfl, hb3⟩
  have BZ3 : Blk w3 (w1.heap.size) 23 #[.int .i64 0, .int .i64 1] := by
    have h := Blk.kept (g := w1.heap.size) (t := 23) (w' := w3) (by repeat (first | exact BZ2 | exact Blk.new _ _ _ | exact Blk.newAt _ _ _ _ (by simp) | exact Blk.newAt _ _ _ _ (by simp only [World.size_alloc, World.drewN, World.drew]) | apply Blk.alloc | apply Blk.drewN | apply Blk.drew | apply Blk.set_ | (apply Blk.far_; (simp only [ne_eq]; omega)))) hb3
    exact h
  have cZ0_3 : w3.cell? ⟨w1.heap.size, 0, none⟩ = some (.int .i64 0) := BZ3.cell 0
  have cZ1_3 : w3.cell? ⟨w1.heap.size, 1, none⟩ = some (.int .i64 1) := BZ3.cell 1
  have lZ3 : w1.heap.size < w3.heap.size := BZ3.lt
  have mZ3 : w1.heap.size < w3.heap.size + 1 := by omega
  have nZ3 : w1.heap.size < w3.heap.size + 1 + 1 := by omega
  clear BZ2 lZ2 mZ2 nZ2 cZ0_2 cZ1_2
  go_wp2_with fail
  refine (make_any _ _ _ (by omega) (by omega)).mono ?_
  rintro e w4 ⟨rfl, hb4⟩
  have BZ4 : Blk w4 (w1.heap.size) 23 #[.int .i64 0, .int .i64 1] := by
    have h := Blk.kept (g := w1.heap.size) (t := 23) (w' := w4) (by repeat (first | exact BZ3 | exact Blk.new _ _ _ | exact Blk.newAt _ _ _ _ (by simp) | exact Blk.newAt _ _ _ _ (by simp only [World.size_alloc, World.drewN, World.drew]) | apply Blk.alloc | apply Blk.drewN | apply Blk.drew | apply Blk.set_ | (apply Blk.far_; (simp only [ne_eq]; omega)))) hb4
    exact h
  have cZ0_4 : w4.cell? ⟨w1.heap.size, 0, none⟩ = some (.int .i64 0) := BZ4.cell 0
  have cZ1_4 : w4.cell? ⟨w1.heap.size, 1, none⟩ = some (.int .i64 1) := BZ4.cell 1
  have lZ4 : w1.heap.size < w4.heap.size := BZ4.lt
  have mZ4 : w1.heap.size < w4.heap.size + 1 := by omega
  have nZ4 : w1.heap.size < w4.heap.size + 1 + 1 := by omega
  clear BZ3 lZ3 mZ3 nZ3 cZ0_3 cZ1_3
  go_wp2_with fail
  refine (t_any _ _ _ (by omega) (by omega) (by omega) (by omega)).mono ?_
  rintro e w5 ⟨rfl, hb5⟩
  have BZ5 : Blk w5 (w1.heap.size) 23 #[.int .i64 0, .int .i64 1] := by
    have h := Blk.kept (g := w1.heap.size) (t := 23) (w' := w5) (by repeat (first | exact BZ4 | exact Blk.new _ _ _ | exact Blk.newAt _ _ _ _ (by simp) | exact Blk.newAt _ _ _ _ (by simp only [World.size_alloc, World.drewN, World.drew]) | apply Blk.alloc | apply Blk.drewN | apply Blk.drew | apply Blk.set_ | (apply Blk.far_; (simp only [ne_eq]; omega)))) hb5
    exact h
  have cZ0_5 : w5.cell? ⟨w1.heap.size, 0, none⟩ = some (.int .i64 0) := BZ5.cell 0
  have cZ1_5 : w5.cell? ⟨w1.heap.size, 1, none⟩ = some (.int .i64 1) := BZ5.cell 1
  have lZ5 : w1.heap.size < w5.heap.size := BZ5.lt
  have mZ5 : w1.heap.size < w5.heap.size + 1 := by omega
  have nZ5 : w1.heap.size < w5.heap.size + 1 + 1 := by omega
  clear BZ4 lZ4 mZ4 nZ4 cZ0_4 cZ1_4
  go_wp2_with fail
  refine (t_any _ _ _ (by omega) (by omega) (by omega) (by omega)).mono ?_
  rintro e w6 ⟨rfl, hb6⟩
  have BZ6 : Blk w6 (w1.heap.size) 23 #[.int .i64 0, .int .i64 1] := by
    have h := Blk.kept (g := w1.heap.size) (t := 23) (w' := w6) (by repeat (first | exact BZ5 | exact Blk.new _ _ _ | exact Blk.newAt _ _ _ _ (by simp) | exact Blk.newAt _ _ _ _ (by simp only [World.size_alloc, World.drewN, World.drew]) | apply Blk.alloc | apply Blk.drewN | apply Blk.drew | apply Blk.set_ | (apply Blk.far_; (simp only [ne_eq]; omega)))) hb6
    exact h
  have cZ0_6 : w6.cell? ⟨w1.heap.size, 0, none⟩ = some (.int .i64 0) := BZ6.cell 0
  have cZ1_6 : w6.cell? ⟨w1.heap.size, 1, none⟩ = some (.int .i64 1) := BZ6.cell 1
  have lZ6 : w1.heap.size < w6.heap.size := BZ6.lt
  have mZ6 : w1.heap.size < w6.heap.size + 1 := by omega
  have nZ6 : w1.heap.size < w6.heap.size + 1 + 1 := by omega
  clear BZ5 lZ5 mZ5 nZ5 cZ0_5 cZ1_5
  go_wp2_with fail
  refine (sub_any (_, _) (_, _) _).mono ?_
  rintro e w7 ⟨rfl, hb7⟩
  have BZ7 : Blk w7 (w1.heap.size) 23 #[.int .i64 0, .int .i64 1] := by
    have h := Blk.kept (g := w1.heap.size) (t := 23) (w' := w7) (by repeat (first | exact BZ6 | exact Blk.new _ _ _ | exact Blk.newAt _ _ _ _ (by simp) | exact Blk.newAt _ _ _ _ (by simp only [World.size_alloc, World.drewN, World.drew]) | apply Blk.alloc | apply Blk.drewN | apply Blk.drew | apply Blk.set_ | (apply Blk.far_; (simp only [ne_eq]; omega)))) hb7
    exact h
  have cZ0_7 : w7.cell? ⟨w1.heap.size, 0, none⟩ = some (.int .i64 0) := BZ7.cell 0
  have cZ1_7 : w7.cell? ⟨w1.heap.size, 1, none⟩ = some (.int .i64 1) := BZ7.cell 1
  have lZ7 : w1.heap.size < w7.heap.size := BZ7.lt
  have mZ7 : w1.heap.size < w7.heap.size + 1 := by omega
  have nZ7 : w1.heap.size < w7.heap.size + 1 + 1 := by omega
  clear BZ6 lZ6 mZ6 nZ6 cZ0_6 cZ1_6
  go_wp2_with fail
  refine (t_any _ _ _ (by omega) (by omega) (by omega) (by omega)).mono ?_
  rintro e w8 ⟨rfl, hb8⟩
  have BZ8 : Blk w8 (w1.heap.size) 23 #[.int .i64 0, .int .i64 1] := by
    have h := Blk.kept (g := w1.heap.size) (t := 23) (w' := w8) (by repeat (first | exact BZ7 | exact Blk.new _ _ _ | exact Blk.newAt _ _ _ _ (by simp) | exact Blk.newAt _ _ _ _ (by simp only [World.size_alloc, World.drewN, World.drew]) | apply Blk.alloc | apply Blk.drewN | apply Blk.drew | apply Blk.set_ | (apply Blk.far_; (simp only [ne_eq]; omega)))) hb8
    exact h
  have cZ0_8 : w8.cell? ⟨w1.heap.size, 0, none⟩ = some (.int .i64 0) := BZ8.cell 0
  have cZ1_8 : w8.cell? ⟨w1.heap.size, 1, none⟩ = some (.int .i64 1) := BZ8.cell 1
  have lZ8 : w1.heap.size < w8.heap.size := BZ8.lt
  have mZ8 : w1.heap.size < w8.heap.size + 1 := by omega
  have nZ8 : w1.heap.size < w8.heap.size + 1 + 1 := by omega
  clear BZ7 lZ7 mZ7 nZ7 cZ0_7 cZ1_7
  go_wp2_with fail
  refine (t_any _ _ _ (by omega) (by omega) (by omega) (by omega)).mono ?_
  rintro e w9 ⟨rfl, hb9⟩
  have BZ9 : Blk w9 (w1.heap.size) 23 #[.int .i64 0, .int .i64 1] := by
    have h := Blk.kept (g := w1.heap.size) (t := 23) (w' := w9) (by repeat (first | exact BZ8 | exact Blk.new _ _ _ | exact Blk.newAt _ _ _ _ (by simp) | exact Blk.newAt _ _ _ _ (by simp only [World.size_alloc, World.drewN, World.drew]) | apply Blk.alloc | apply Blk.drewN | apply Blk.drew | apply Blk.set_ | (apply Blk.far_; (simp only [ne_eq]; omega)))) hb9
    exact h
  have cZ0_9 : w9.cell? ⟨w1.heap.size, 0, none⟩ = some (.int .i64 0) := BZ9.cell 0
  have cZ1_9 : w9.cell? ⟨w1.heap.size, 1, none⟩ = some (.int .i64 1) := BZ9.cell 1
  have lZ9 : w1.heap.size < w9.heap.size := BZ9.lt
  have mZ9 : w1.heap.size < w9.heap.size + 1 := by omega
  have nZ9 : w1.heap.size < w9.heap.size + 1 + 1 := by omega
  clear BZ8 lZ8 mZ8 nZ8 cZ0_8 cZ1_8
  go_wp2_with fail
  refine (mul_any (_, _) (_, _) _).mono ?_
  rintro e w10 ⟨rfl, hb10⟩
  have BZ10 : Blk w10 (w1.heap.size) 23 #[.int .i64 0, .int .i64 1] := by
    have h := Blk.kept (g := w1.heap.size) (t := 23) (w' := w10) (by repeat (first | exact BZ9 | exact Blk.new _ _ _ | exact Blk.newAt _ _ _ _ (by simp) | exact Blk.newAt _ _ _ _ (by simp only [World.size_alloc, World.drewN, World.drew]) | apply Blk.alloc | apply Blk.drewN | apply Blk.drew | apply Blk.set_ | (apply Blk.far_; (simp only [ne_eq]; omega)))) hb10
    exact h
  have cZ0_10 : w10.cell? ⟨w1.heap.size, 0, none⟩ = some (.int .i64 0) := BZ10.cell 0
  have cZ1_10 : w10.cell? ⟨w1.heap.size, 1, none⟩ = some (.int .i64 1) := BZ10.cell 1
  have lZ10 : w1.heap.size < w10.heap.size := BZ10.lt
  have mZ10 : w1.heap.size < w10.heap.size + 1 := by omega
  have nZ10 : w1.heap.size < w10.heap.size + 1 + 1 := by omega
  clear BZ9 lZ9 mZ9 nZ9 cZ0_9 cZ1_9
  go_wp2_with fail
  have hZ : Blk (w10.alloc (.cells #[.int .i64 3, .int .i64 2] 23)) w1.heap.size 23 #[.int .i64 0, .int .i64 1] := BZ10.alloc _
  have hP : Blk (w10.alloc (.cells #[.int .i64 3, .int .i64 2] 23)) w10.heap.size 23 #[.int .i64 3, .int .i64 2] := Blk.new _ _ _
  generalize hwx : w10.alloc (.cells #[.int .i64 3, .int .i64 2] 23) = wx at hZ hP ⊢
  have hbx : Below w.heap.size w wx := by rw [← hwx]; repeat (first | exact Below.refl _ _ | refine below_drewN ?_ _ | refine Below.drew ?_ | refine below_alloc ?_ _ | (refine below_call ?_ (by assumption)) | (refine Below.setCell ?_ ?_ _; rotate_left; (simp; try omega)))
  have c0 := hZ.cell 0
  have c1 := hZ.cell 1
  simp only [List.getElem?_toArray, List.getElem?_cons_zero, List.getElem?_cons_succ] at c0 c1
  clear BZ10 cZ0_10 cZ1_10 lZ10 mZ10 nZ10 hb1 hb2 hb3 hb4 hb5 hb6 hb7 hb8 hb9 hb10
  go_region_held3 (fun w' => w'.cell? ⟨w1.heap.size, 0, none⟩ = some (.int .i64 0) ∧ w'.cell? ⟨w1.heap.size, 1, none⟩ = some (.int .i64 1) ∧ Below wx.heap.size wx w') ((refine (fun hb => ⟨Blk.cell (hZ.below hb hZ.lt) 0, Blk.cell (hZ.below hb hZ.lt) 1, hb⟩) ?_; repeat (first | exact Below.refl _ _ | exact hBd | exact hBt | exact (show _ ∧ _ ∧ Below wx.heap.size wx _ by assumption).2.2 | refine Below.drew ?_ | refine below_alloc ?_ _ | (refine Below.setCell ?_ ?_ _; rotate_left; (first | (have hz := hBd.size; have hz' := hBt.size; show wx.heap.size ≤ _; simp only; omega) | (have hz' := hBt.size; show wx.heap.size ≤ _; simp only; omega)))))) (first | (go_at_call 38; refine (t_any _ _ _ (by omega) (by omega) (by omega) (by omega)).mono ?_; rintro e wt ⟨rfl, hbt⟩; have hBt := below_call (show _ ∧ _ ∧ Below wx.heap.size wx _ by assumption).2.2 hbt; have hct := (bcell hbt).1; have hft := (bcell hbt).2; try (have hzt : wx.heap.size < wt.heap.size := by have hz := hbt.size; simp at hz; omega)) | (go_at_call 30; refine (div_any (_, _) (_, _) _).mono ?_; rintro e wd ⟨rfl, hbd⟩; have hBd := below_call (show _ ∧ _ ∧ Below wx.heap.size wx _ by assumption).2.2 hbd; have hcd := (bcell hbd).1; have hfd := (bcell hbd).2; try (have hzd : wx.heap.size < wd.heap.size := by have hz := hbd.size; simp at hz; omega)))
  all_goals
    have hB11 := (show _ ∧ _ ∧ Below wx.heap.size wx _ by assumption).2.2
    have BZ11 := hZ.below hB11 hZ.lt
    have BP11 := hP.below hB11 hP.lt
    clear c0 c1
    go_wp2_with fail
    refine (t_any _ _ _ (by omega) (by omega) (by omega) (by omega)).mono ?_
    rintro e w12 ⟨rfl, hb12⟩
    have BZ12 : Blk w12 (w1.heap.size) 23 #[.int .i64 0, .int .i64 1] := by
      have h := Blk.kept (g := w1.heap.size) (t := 23) (w' := w12) (by repeat (first | exact BZ11 | exact Blk.new _ _ _ | exact Blk.newAt _ _ _ _ (by simp) | exact Blk.newAt _ _ _ _ (by simp only [World.size_alloc, World.drewN, World.drew]) | apply Blk.alloc | apply Blk.drewN | apply Blk.drew | apply Blk.set_ | (apply Blk.far_; (simp only [ne_eq]; omega)))) hb12
      exact h
    have cZ0_12 : w12.cell? ⟨w1.heap.size, 0, none⟩ = some (.int .i64 0) := BZ12.cell 0
    have cZ1_12 : w12.cell? ⟨w1.heap.size, 1, none⟩ = some (.int .i64 1) := BZ12.cell 1
    have lZ12 : w1.heap.size < w12.heap.size := BZ12.lt
    have mZ12 : w1.heap.size < w12.heap.size + 1 := by omega
    have nZ12 : w1.heap.size < w12.heap.size + 1 + 1 := by omega
    have BP12 : Blk w12 (w10.heap.size) 23 #[.int .i64 3, .int .i64 2] := by
      have h := Blk.kept (g := w10.heap.size) (t := 23) (w' := w12) (by repeat (first | exact BP11 | exact Blk.new _ _ _ | exact Blk.newAt _ _ _ _ (by simp) | exact Blk.newAt _ _ _ _ (by simp only [World.size_alloc, World.drewN, World.drew]) | apply Blk.alloc | apply Blk.drewN | apply Blk.drew | apply Blk.set_ | (apply Blk.far_; (simp only [ne_eq]; omega)))) hb12
      exact h
    have cP0_12 : w12.cell? ⟨w10.heap.size, 0, none⟩ = some (.int .i64 3) := BP12.cell 0
    have cP1_12 : w12.cell? ⟨w10.heap.size, 1, none⟩ = some (.int .i64 2) := BP12.cell 1
    have lP12 : w10.heap.size < w12.heap.size := BP12.lt
    have mP12 : w10.heap.size < w12.heap.size + 1 := by omega
    have nP12 : w10.heap.size < w12.heap.size + 1 + 1 := by omega
    go_wp2_with fail
    refine (add_any (_, _) (_, _) _).mono ?_
    rintro e w13 ⟨rfl, hb13⟩
    have BZ13 : Blk w13 (w1.heap.size) 23 #[.int .i64 0, .int .i64 1] := by
      have h := Blk.kept (g := w1.heap.size) (t := 23) (w' := w13) (by repeat (first | exact BZ12 | exact Blk.new _ _ _ | exact Blk.newAt _ _ _ _ (by simp) | exact Blk.newAt _ _ _ _ (by simp only [World.size_alloc, World.drewN, World.drew]) | apply Blk.alloc | apply Blk.drewN | apply Blk.drew | apply Blk.set_ | (apply Blk.far_; (simp only [ne_eq]; omega)))) hb13
      exact h
    have cZ0_13 : w13.cell? ⟨w1.heap.size, 0, none⟩ = some (.int .i64 0) := BZ13.cell 0
    have cZ1_13 : w13.cell? ⟨w1.heap.size, 1, none⟩ = some (.int .i64 1) := BZ13.cell 1
    have lZ13 : w1.heap.size < w13.heap.size := BZ13.lt
    have mZ13 : w1.heap.size < w13.heap.size + 1 := by omega
    have nZ13 : w1.heap.size < w13.heap.size + 1 + 1 := by omega
    have BP13 : Blk w13 (w10.heap.size) 23 #[.int .i64 3, .int .i64 2] := by
      have h := Blk.kept (g := w10.heap.size) (t := 23) (w' := w13) (by repeat (first | exact BP12 | exact Blk.new _ _ _ | exact Blk.newAt _ _ _ _ (by simp) | exact Blk.newAt _ _ _ _ (by simp only [World.size_alloc, World.drewN, World.drew]) | apply Blk.alloc | apply Blk.drewN | apply Blk.drew | apply Blk.set_ | (apply Blk.far_; (simp only [ne_eq]; omega)))) hb13
      exact h
    have cP0_13 : w13.cell? ⟨w10.heap.size, 0, none⟩ = some (.int .i64 3) := BP13.cell 0
    have cP1_13 : w13.cell? ⟨w10.heap.size, 1, none⟩ = some (.int .i64 2) := BP13.cell 1
    have lP13 : w10.heap.size < w13.heap.size := BP13.lt
    have mP13 : w10.heap.size < w13.heap.size + 1 := by omega
    have nP13 : w10.heap.size < w13.heap.size + 1 + 1 := by omega
    clear BZ12 lZ12 mZ12 nZ12 cZ0_12 cZ1_12 BP12 lP12 mP12 nP12 cP0_12 cP1_12
    go_wp2_with fail
    refine (parse_any _ _ (by decide)).mono ?_
    rintro e w14 ⟨rfl, hb14⟩
    rw [M9.out]
    have BZ14 : Blk w14 (w1.heap.size) 23 #[.int .i64 0, .int .i64 1] := by
      have h := Blk.kept (g := w1.heap.size) (t := 23) (w' := w14) (by repeat (first | exact BZ13 | exact Blk.new _ _ _ | exact Blk.newAt _ _ _ _ (by simp) | exact Blk.newAt _ _ _ _ (by simp only [World.size_alloc, World.drewN, World.drew]) | apply Blk.alloc | apply Blk.drewN | apply Blk.drew | apply Blk.set_ | (apply Blk.far_; (simp only [ne_eq]; omega)))) hb14
      exact h
    have cZ0_14 : w14.cell? ⟨w1.heap.size, 0, none⟩ = some (.int .i64 0) := BZ14.cell 0
    have cZ1_14 : w14.cell? ⟨w1.heap.size, 1, none⟩ = some (.int .i64 1) := BZ14.cell 1
    have lZ14 : w1.heap.size < w14.heap.size := BZ14.lt
    have mZ14 : w1.heap.size < w14.heap.size + 1 := by omega
    have nZ14 : w1.heap.size < w14.heap.size + 1 + 1 := by omega
    have BP14 : Blk w14 (w10.heap.size) 23 #[.int .i64 3, .int .i64 2] := by
      have h := Blk.kept (g := w10.heap.size) (t := 23) (w' := w14) (by repeat (first | exact BP13 | exact Blk.new _ _ _ | exact Blk.newAt _ _ _ _ (by simp) | exact Blk.newAt _ _ _ _ (by simp only [World.size_alloc, World.drewN, World.drew]) | apply Blk.alloc | apply Blk.drewN | apply Blk.drew | apply Blk.set_ | (apply Blk.far_; (simp only [ne_eq]; omega)))) hb14
      exact h
    have cP0_14 : w14.cell? ⟨w10.heap.size, 0, none⟩ = some (.int .i64 3) := BP14.cell 0
    have cP1_14 : w14.cell? ⟨w10.heap.size, 1, none⟩ = some (.int .i64 2) := BP14.cell 1
    have lP14 : w10.heap.size < w14.heap.size := BP14.lt
    have mP14 : w10.heap.size < w14.heap.size + 1 := by omega
    have nP14 : w10.heap.size < w14.heap.size + 1 + 1 := by omega
    clear BZ13 lZ13 mZ13 nZ13 cZ0_13 cZ1_13 BP13 lP13 mP13 nP13 cP0_13 cP1_13
    go_wp2_with fail
    refine wp_region_calm (by kernel_rfl) (by kernel_rfl) ?_
    repeat (go_big_quiet_step (((first | (go_at_call 39; exact calm_call (zero_any _)) | (go_at_call 38; exact calm_call (t_any _ _ _ (by omega) (by omega) (by omega) (by omega)))))))
    refine wpQuiet_nil ?_
    intro w15 hb15
    have BZ15 : Blk w15 (w1.heap.size) 23 #[.int .i64 0, .int .i64 1] := by
      have h := Blk.kept (g := w1.heap.size) (t := 23) (w' := w15) (by repeat (first | exact BZ14 | exact Blk.new _ _ _ | exact Blk.newAt _ _ _ _ (by simp) | exact Blk.newAt _ _ _ _ (by simp only [World.size_alloc, World.drewN, World.drew]) | apply Blk.alloc | apply Blk.drewN | apply Blk.drew | apply Blk.set_ | (apply Blk.far_; (simp only [ne_eq]; omega)))) hb15
      exact h
    have cZ0_15 : w15.cell? ⟨w1.heap.size, 0, none⟩ = some (.int .i64 0) := BZ15.cell 0
    have cZ1_15 : w15.cell? ⟨w1.heap.size, 1, none⟩ = some (.int .i64 1) := BZ15.cell 1
    have lZ15 : w1.heap.size < w15.heap.size := BZ15.lt
    have mZ15 : w1.heap.size < w15.heap.size + 1 := by omega
    have nZ15 : w1.heap.size < w15.heap.size + 1 + 1 := by omega
    have BP15 : Blk w15 (w10.heap.size) 23 #[.int .i64 3, .int .i64 2] := by
      have h := Blk.kept (g := w10.heap.size) (t := 23) (w' := w15) (by repeat (first | exact BP14 | exact Blk.new _ _ _ | exact Blk.newAt _ _ _ _ (by simp) | exact Blk.newAt _ _ _ _ (by simp only [World.size_alloc, World.drewN, World.drew]) | apply Blk.alloc | apply Blk.drewN | apply Blk.drew | apply Blk.set_ | (apply Blk.far_; (simp only [ne_eq]; omega)))) hb15
      exact h
    have cP0_15 : w15.cell? ⟨w10.heap.size, 0, none⟩ = some (.int .i64 3) := BP15.cell 0
    have cP1_15 : w15.cell? ⟨w10.heap.size, 1, none⟩ = some (.int .i64 2) := BP15.cell 1
    have lP15 : w10.heap.size < w15.heap.size := BP15.lt
    have mP15 : w10.heap.size < w15.heap.size + 1 := by omega
    have nP15 : w10.heap.size < w15.heap.size + 1 + 1 := by omega
    have BF15 : Blk w15 (w14.heap.size) 23 #[.int .i64 4, .int .i64 1] := by
      have h := Blk.kept (g := w14.heap.size) (t := 23) (w' := w15) (by repeat (first | exact Blk.new _ _ _ | exact Blk.newAt _ _ _ _ (by simp) | exact Blk.newAt _ _ _ _ (by simp only [World.size_alloc, World.drewN, World.drew]) | apply Blk.alloc | apply Blk.drewN | apply Blk.drew | apply Blk.set_ | (apply Blk.far_; (simp only [ne_eq]; omega)))) hb15
      exact h
    have cF0_15 : w15.cell? ⟨w14.heap.size, 0, none⟩ = some (.int .i64 4) := BF15.cell 0
    have cF1_15 : w15.cell? ⟨w14.heap.size, 1, none⟩ = some (.int .i64 1) := BF15.cell 1
    have lF15 : w14.heap.size < w15.heap.size := BF15.lt
    have mF15 : w14.heap.size < w15.heap.size + 1 := by omega
    have nF15 : w14.heap.size < w15.heap.size + 1 + 1 := by omega
    clear BZ14 lZ14 mZ14 nZ14 cZ0_14 cZ1_14 BP14 lP14 mP14 nP14 cP0_14 cP1_14
    go_wp2_with fail
    refine wp_region_calm (by kernel_rfl) (by kernel_rfl) ?_
    repeat (go_big_quiet_step (((first | (go_at_call 17; exact calm_call (awake_any _)) | (go_at_call 38; exact calm_call (t_any _ _ _ (by omega) (by omega) (by omega) (by omega))) | (go_at_call 40; exact calm_call (fails_any _ _ (by decide) (by decide +kernel))) | (go_at_call 15; exact calm_call (check_any _ _ _))))))
    refine wpQuiet_nil ?_
    intro w16 hb16
    have BZ16 : Blk w16 (w1.heap.size) 23 #[.int .i64 0, .int .i64 1] := by
      have h := Blk.kept (g := w1.heap.size) (t := 23) (w' := w16) (by repeat (first | exact BZ15 | exact Blk.new _ _ _ | exact Blk.newAt _ _ _ _ (by simp) | exact Blk.newAt _ _ _ _ (by simp only [World.size_alloc, World.drewN, World.drew]) | apply Blk.alloc | apply Blk.drewN | apply Blk.drew | apply Blk.set_ | (apply Blk.far_; (simp only [ne_eq]; omega)))) hb16
      exact h
    have cZ0_16 : w16.cell? ⟨w1.heap.size, 0, none⟩ = some (.int .i64 0) := BZ16.cell 0
    have cZ1_16 : w16.cell? ⟨w1.heap.size, 1, none⟩ = some (.int .i64 1) := BZ16.cell 1
    have lZ16 : w1.heap.size < w16.heap.size := BZ16.lt
    have mZ16 : w1.heap.size < w16.heap.size + 1 := by omega
    have nZ16 : w1.heap.size < w16.heap.size + 1 + 1 := by omega
    have BP16 : Blk w16 (w10.heap.size) 23 #[.int .i64 3, .int .i64 2] := by
      have h := Blk.kept (g := w10.heap.size) (t := 23) (w' := w16) (by repeat (first | exact BP15 | exact Blk.new _ _ _ | exact Blk.newAt _ _ _ _ (by simp) | exact Blk.newAt _ _ _ _ (by simp only [World.size_alloc, World.drewN, World.drew]) | apply Blk.alloc | apply Blk.drewN | apply Blk.drew | apply Blk.set_ | (apply Blk.far_; (simp only [ne_eq]; omega)))) hb16
      exact h
    have cP0_16 : w16.cell? ⟨w10.heap.size, 0, none⟩ = some (.int .i64 3) := BP16.cell 0
    have cP1_16 : w16.cell? ⟨w10.heap.size, 1, none⟩ = some (.int .i64 2) := BP16.cell 1
    have lP16 : w10.heap.size < w16.heap.size := BP16.lt
    have mP16 : w10.heap.size < w16.heap.size + 1 := by omega
    have nP16 : w10.heap.size < w16.heap.size + 1 + 1 := by omega
    have BF16 : Blk w16 (w14.heap.size) 23 #[.int .i64 4, .int .i64 1] := by
      have h := Blk.kept (g := w14.heap.size) (t := 23) (w' := w16) (by repeat (first | exact BF15 | exact Blk.new _ _ _ | exact Blk.newAt _ _ _ _ (by simp) | exact Blk.newAt _ _ _ _ (by simp only [World.size_alloc, World.drewN, World.drew]) | apply Blk.alloc | apply Blk.drewN | apply Blk.drew | apply Blk.set_ | (apply Blk.far_; (simp only [ne_eq]; omega)))) hb16
      exact h
    have cF0_16 : w16.cell? ⟨w14.heap.size, 0, none⟩ = some (.int .i64 4) := BF16.cell 0
    have cF1_16 : w16.cell? ⟨w14.heap.size, 1, none⟩ = some (.int .i64 1) := BF16.cell 1
    have lF16 : w14.heap.size < w16.heap.size := BF16.lt
    have mF16 : w14.heap.size < w16.heap.size + 1 := by omega
    have nF16 : w14.heap.size < w16.heap.size + 1 + 1 := by omega
    clear BZ15 lZ15 mZ15 nZ15 cZ0_15 cZ1_15 BP15 lP15 mP15 nP15 cP0_15 cP1_15 BF15 lF15 mF15 nF15 cF0_15 cF1_15
    go_wp2_with fail
    go_ret
    refine ⟨rfl, ?_⟩
    repeat (first | exact Below.refl _ _ | refine below_drewN ?_ _ | refine Below.drew ?_ | refine below_alloc ?_ _ | (refine below_call ?_ (by assumption)) | (refine Below.setCell ?_ ?_ _; rotate_left; (simp; try omega)))
end Go.Proofs.YtfafjdbdpbjklaaDoor
