/- SpanBack holds: sums and products of two small times do not depend on their order, and are taken back by differences and quotients. No condition. -/
import Derived.Test.YtfafjdbdpbjklaaDoorKnown
import Derived.Test.YtfafjdbdpbjklaaDoorDoor
namespace Go.Proofs.YtfafjdbdpbjklaaDoor.spanBack
open Go.ChangeShapes Go.WideShapes Go.ChangeAt Go.RowKit
set_option linter.unusedVariables false
set_option maxRecDepth 100000 in
set_option maxHeartbeats 1000000 in
theorem walk (a b : Int) (w : World) (ha : -9223372036854775808 ≤ a ∧ a ≤ 9223372036854775807) (hb : -9223372036854775808 ≤ b ∧ b ≤ 9223372036854775807) :
    Calls Tryd.prog 9 #[.int .i64 a, .int .i64 b] w fun e w' => e = .returned (.bool true) ∧ Below w.heap.size w w' := by
  obtain ⟨ha0, ha1⟩ := ha
  obtain ⟨hb0, hb1⟩ := hb
  obtain ⟨x1, x2, x3, x4⟩ := spS_ok a
  obtain ⟨y1, y2, y3, y4⟩ := spS_ok b
  obtain ⟨⟨s, s'⟩, ⟨t, t'⟩, h1, h2, h3, h4, h5, h6⟩ := back_facts _ _ x1 x2 x3 x4 y1 y2 y3 y4
  clear x1 x2 x3 x4 y1 y2 y3 y4
  obtain ⟨⟨x, x'⟩, hx⟩ : ∃ z, z = spS a := ⟨_, rfl⟩
  obtain ⟨⟨y, y'⟩, hy⟩ : ∃ z, z = spS b := ⟨_, rfl⟩
  rw [← hx, ← hy] at h1 h2 h3 h4 h5 h6
  have X := Lib.hid hx.symm; have Y := Lib.hid hy.symm
  have E1 := Lib.hid h1; have E2 := Lib.hid h2; have E3 := Lib.hid h3; have E4 := Lib.hid h4; have E5 := Lib.hid h5; have E6 := Lib.hid h6
  clear hx hy h1 h2 h3 h4 h5 h6
  go_enter Tryd.func9, Tryd.ntmps9
  go_wp2_with fail
  refine (known_any _).mono ?_
  rintro e w1 ⟨rfl, hb1⟩
  have hs1 : w.heap.size ≤ w1.heap.size := by have h := hb1.size; (try simp at h); omega
  go_wp2_with fail
  refine (kitSpan_any a _ ha0 ha1).mono ?_
  rintro e w2 ⟨rfl, hb2⟩
  rw [X.out]
  have hs2 : w.heap.size ≤ w2.heap.size := by have h := hb2.size; (try simp at h); omega
  go_wp2_with fail
  refine (kitSpan_any b _ hb0 (by assumption)).mono ?_
  rintro e w3 ⟨rfl, hb3⟩
  rw [Y.out]
  have hs3 : w.heap.size ≤ w3.heap.size := by have h := hb3.size; (try simp at h); omega
  go_wp2_with fail
  refine (add_any (x, x') (y, y') _).mono ?_
  rintro e w4 ⟨rfl, hb4⟩
  rw [E1.out]
  have BX4 : Blk w4 (w3.heap.size) 23 #[.int .i64 x, .int .i64 x'] := by
    have h := Blk.kept (g := w3.heap.size) (t := 23) (w' := w4) (by repeat (first | exact Blk.new _ _ _ | (refine Blk.newAt _ _ _ _ ?_; first | rfl | (simp; done)) | apply Blk.alloc | apply Blk.drewN | apply Blk.drew | apply Blk.set_ | (apply Blk.far_; (simp only [ne_eq]; omega)))) hb4
    exact h
  have cX0_4 : w4.cell? ⟨w3.heap.size, 0, none⟩ = some (.int .i64 x) := BX4.cell 0
  have cX1_4 : w4.cell? ⟨w3.heap.size, 1, none⟩ = some (.int .i64 x') := BX4.cell 1
  have lX4 : w3.heap.size < w4.heap.size := BX4.lt
  have mX4 : w3.heap.size < w4.heap.size + 1 := by omega
  have nX4 : w3.heap.size < w4.heap.size + 1 + 1 := by omega
  have BY4 : Blk w4 (w3.heap.size + 1) 23 #[.int .i64 y, .int .i64 y'] := by
    have h := Blk.kept (g := w3.heap.size + 1) (t := 23) (w' := w4) (by repeat (first | exact Blk.new _ _ _ | (refine Blk.newAt _ _ _ _ ?_; first | rfl | (simp; done)) | apply Blk.alloc | apply Blk.drewN | apply Blk.drew | apply Blk.set_ | (apply Blk.far_; (simp only [ne_eq]; omega)))) hb4
    exact h
  have cY0_4 : w4.cell? ⟨w3.heap.size + 1, 0, none⟩ = some (.int .i64 y) := BY4.cell 0
  have cY1_4 : w4.cell? ⟨w3.heap.size + 1, 1, none⟩ = some (.int .i64 y') := BY4.cell 1
  have lY4 : w3.heap.size + 1 < w4.heap.size := BY4.lt
  have mY4 : w3.heap.size + 1 < w4.heap.size + 1 := by omega
  have nY4 : w3.heap.size + 1 < w4.heap.size + 1 + 1 := by omega
  have hs4 : w.heap.size ≤ w4.heap.size := by have h := hb4.size; (try simp at h); omega
  go_wp2_with fail
  refine (add_any (y, y') (x, x') _).mono ?_
  rintro e w5 ⟨rfl, hb5⟩
  rw [E2.out]
  have BX5 : Blk w5 (w3.heap.size) 23 #[.int .i64 x, .int .i64 x'] := by
    have h := Blk.kept (g := w3.heap.size) (t := 23) (w' := w5) (by repeat (first | exact BX4 | exact Blk.new _ _ _ | (refine Blk.newAt _ _ _ _ ?_; first | rfl | (simp; done)) | apply Blk.alloc | apply Blk.drewN | apply Blk.drew | apply Blk.set_ | (apply Blk.far_; (simp only [ne_eq]; omega)))) hb5
    exact h
  have cX0_5 : w5.cell? ⟨w3.heap.size, 0, none⟩ = some (.int .i64 x) := BX5.cell 0
  have cX1_5 : w5.cell? ⟨w3.heap.size, 1, none⟩ = some (.int .i64 x') := BX5.cell 1
  have lX5 : w3.heap.size < w5.heap.size := BX5.lt
  have mX5 : w3.heap.size < w5.heap.size + 1 := by omega
  have nX5 : w3.heap.size < w5.heap.size + 1 + 1 := by omega
  have BY5 : Blk w5 (w3.heap.size + 1) 23 #[.int .i64 y, .int .i64 y'] := by
    have h := Blk.kept (g := w3.heap.size + 1) (t := 23) (w' := w5) (by repeat (first | exact BY4 | exact Blk.new _ _ _ | (refine Blk.newAt _ _ _ _ ?_; first | rfl | (simp; done)) | apply Blk.alloc | apply Blk.drewN | apply Blk.drew | apply Blk.set_ | (apply Blk.far_; (simp only [ne_eq]; omega)))) hb5
    exact h
  have cY0_5 : w5.cell? ⟨w3.heap.size + 1, 0, none⟩ = some (.int .i64 y) := BY5.cell 0
  have cY1_5 : w5.cell? ⟨w3.heap.size + 1, 1, none⟩ = some (.int .i64 y') := BY5.cell 1
  have lY5 : w3.heap.size + 1 < w5.heap.size := BY5.lt
  have mY5 : w3.heap.size + 1 < w5.heap.size + 1 := by omega
  have nY5 : w3.heap.size + 1 < w5.heap.size + 1 + 1 := by omega
  have BS5 : Blk w5 (w4.heap.size) 23 #[.int .i64 s, .int .i64 s'] := by
    have h := Blk.kept (g := w4.heap.size) (t := 23) (w' := w5) (by repeat (first | exact Blk.new _ _ _ | (refine Blk.newAt _ _ _ _ ?_; first | rfl | (simp; done)) | apply Blk.alloc | apply Blk.drewN | apply Blk.drew | apply Blk.set_ | (apply Blk.far_; (simp only [ne_eq]; omega)))) hb5
    exact h
  have cS0_5 : w5.cell? ⟨w4.heap.size, 0, none⟩ = some (.int .i64 s) := BS5.cell 0
  have cS1_5 : w5.cell? ⟨w4.heap.size, 1, none⟩ = some (.int .i64 s') := BS5.cell 1
  have lS5 : w4.heap.size < w5.heap.size := BS5.lt
  have mS5 : w4.heap.size < w5.heap.size + 1 := by omega
  have nS5 : w4.heap.size < w5.heap.size + 1 + 1 := by omega
  have fS0_5 := BS5.frozen 0
  have fS1_5 := BS5.frozen 1
  have eSX5 : w4.heap.size ≠ w3.heap.size := by omega
  have eXS5 : w3.heap.size ≠ w4.heap.size := by omega
  have eSY5 : w4.heap.size ≠ w3.heap.size + 1 := by omega
  have eYS5 : w3.heap.size + 1 ≠ w4.heap.size := by omega
  clear BX4 lX4 mX4 nX4 cX0_4 cX1_4 BY4 lY4 mY4 nY4 cY0_4 cY1_4
  have hs5 : w.heap.size ≤ w5.heap.size := by have h := hb5.size; (try simp at h); omega
  go_wp2_with fail
  refine (sub_any (s, s') (y, y') _).mono ?_
  rintro e w6 ⟨rfl, hb6⟩
  rw [E3.out]
  have BX6 : Blk w6 (w3.heap.size) 23 #[.int .i64 x, .int .i64 x'] := by
    have h := Blk.kept (g := w3.heap.size) (t := 23) (w' := w6) (by repeat (first | exact BX5 | exact Blk.new _ _ _ | (refine Blk.newAt _ _ _ _ ?_; first | rfl | (simp; done)) | apply Blk.alloc | apply Blk.drewN | apply Blk.drew | apply Blk.set_ | (apply Blk.far_; (simp only [ne_eq]; omega)))) hb6
    exact h
  have cX0_6 : w6.cell? ⟨w3.heap.size, 0, none⟩ = some (.int .i64 x) := BX6.cell 0
  have cX1_6 : w6.cell? ⟨w3.heap.size, 1, none⟩ = some (.int .i64 x') := BX6.cell 1
  have lX6 : w3.heap.size < w6.heap.size := BX6.lt
  have mX6 : w3.heap.size < w6.heap.size + 1 := by omega
  have nX6 : w3.heap.size < w6.heap.size + 1 + 1 := by omega
  have BY6 : Blk w6 (w3.heap.size + 1) 23 #[.int .i64 y, .int .i64 y'] := by
    have h := Blk.kept (g := w3.heap.size + 1) (t := 23) (w' := w6) (by repeat (first | exact BY5 | exact Blk.new _ _ _ | (refine Blk.newAt _ _ _ _ ?_; first | rfl | (simp; done)) | apply Blk.alloc | apply Blk.drewN | apply Blk.drew | apply Blk.set_ | (apply Blk.far_; (simp only [ne_eq]; omega)))) hb6
    exact h
  have cY0_6 : w6.cell? ⟨w3.heap.size + 1, 0, none⟩ = some (.int .i64 y) := BY6.cell 0
  have cY1_6 : w6.cell? ⟨w3.heap.size + 1, 1, none⟩ = some (.int .i64 y') := BY6.cell 1
  have lY6 : w3.heap.size + 1 < w6.heap.size := BY6.lt
  have mY6 : w3.heap.size + 1 < w6.heap.size + 1 := by omega
  have nY6 : w3.heap.size + 1 < w6.heap.size + 1 + 1 := by omega
  have BS6 : Blk w6 (w4.heap.size) 23 #[.int .i64 s, .int .i64 s'] := by
    have h := Blk.kept (g := w4.heap.size) (t := 23) (w' := w6) (by repeat (first | exact BS5 | exact Blk.new _ _ _ | (refine Blk.newAt _ _ _ _ ?_; first | rfl | (simp; done)) | apply Blk.alloc | apply Blk.drewN | apply Blk.drew | apply Blk.set_ | (apply Blk.far_; (simp only [ne_eq]; omega)))) hb6
    exact h
  have cS0_6 : w6.cell? ⟨w4.heap.size, 0, none⟩ = some (.int .i64 s) := BS6.cell 0
  have cS1_6 : w6.cell? ⟨w4.heap.size, 1, none⟩ = some (.int .i64 s') := BS6.cell 1
  have lS6 : w4.heap.size < w6.heap.size := BS6.lt
  have mS6 : w4.heap.size < w6.heap.size + 1 := by omega
  have nS6 : w4.heap.size < w6.heap.size + 1 + 1 := by omega
  have fS0_6 := BS6.frozen 0
  have fS1_6 := BS6.frozen 1
  have BT6 : Blk w6 (w5.heap.size) 23 #[.int .i64 s, .int .i64 s'] := by
    have h := Blk.kept (g := w5.heap.size) (t := 23) (w' := w6) (by repeat (first | exact Blk.new _ _ _ | (refine Blk.newAt _ _ _ _ ?_; first | rfl | (simp; done)) | apply Blk.alloc | apply Blk.drewN | apply Blk.drew | apply Blk.set_ | (apply Blk.far_; (simp only [ne_eq]; omega)))) hb6
    exact h
  have cT0_6 : w6.cell? ⟨w5.heap.size, 0, none⟩ = some (.int .i64 s) := BT6.cell 0
  have cT1_6 : w6.cell? ⟨w5.heap.size, 1, none⟩ = some (.int .i64 s') := BT6.cell 1
  have lT6 : w5.heap.size < w6.heap.size := BT6.lt
  have mT6 : w5.heap.size < w6.heap.size + 1 := by omega
  have nT6 : w5.heap.size < w6.heap.size + 1 + 1 := by omega
  have fT0_6 := BT6.frozen 0
  have fT1_6 := BT6.frozen 1
  have eTX6 : w5.heap.size ≠ w3.heap.size := by omega
  have eXT6 : w3.heap.size ≠ w5.heap.size := by omega
  have eTY6 : w5.heap.size ≠ w3.heap.size + 1 := by omega
  have eYT6 : w3.heap.size + 1 ≠ w5.heap.size := by omega
  have eTS6 : w5.heap.size ≠ w4.heap.size := by omega
  have eST6 : w4.heap.size ≠ w5.heap.size := by omega
  clear BX5 lX5 mX5 nX5 cX0_5 cX1_5 BY5 lY5 mY5 nY5 cY0_5 cY1_5 BS5 lS5 mS5 nS5 cS0_5 cS1_5 fS0_5 fS1_5
  have hs6 : w.heap.size ≤ w6.heap.size := by have h := hb6.size; (try simp at h); omega
  go_wp2_with fail
  refine (mul_any (x, x') (y, y') _).mono ?_
  rintro e w7 ⟨rfl, hb7⟩
  rw [E4.out]
  have BX7 : Blk w7 (w3.heap.size) 23 #[.int .i64 x, .int .i64 x'] := by
    have h := Blk.kept (g := w3.heap.size) (t := 23) (w' := w7) (by repeat (first | exact BX6 | exact Blk.new _ _ _ | (refine Blk.newAt _ _ _ _ ?_; first | rfl | (simp; done)) | apply Blk.alloc | apply Blk.drewN | apply Blk.drew | apply Blk.set_ | (apply Blk.far_; (simp only [ne_eq]; omega)))) hb7
    exact h
  have cX0_7 : w7.cell? ⟨w3.heap.size, 0, none⟩ = some (.int .i64 x) := BX7.cell 0
  have cX1_7 : w7.cell? ⟨w3.heap.size, 1, none⟩ = some (.int .i64 x') := BX7.cell 1
  have lX7 : w3.heap.size < w7.heap.size := BX7.lt
  have mX7 : w3.heap.size < w7.heap.size + 1 := by omega
  have nX7 : w3.heap.size < w7.heap.size + 1 + 1 := by omega
  have BY7 : Blk w7 (w3.heap.size + 1) 23 #[.int .i64 y, .int .i64 y'] := by
    have h := Blk.kept (g := w3.heap.size + 1) (t := 23) (w' := w7) (by repeat (first | exact BY6 | exact Blk.new _ _ _ | (refine Blk.newAt _ _ _ _ ?_; first | rfl | (simp; done)) | apply Blk.alloc | apply Blk.drewN | apply Blk.drew | apply Blk.set_ | (apply Blk.far_; (simp only [ne_eq]; omega)))) hb7
    exact h
  have cY0_7 : w7.cell? ⟨w3.heap.size + 1, 0, none⟩ = some (.int .i64 y) := BY7.cell 0
  have cY1_7 : w7.cell? ⟨w3.heap.size + 1, 1, none⟩ = some (.int .i64 y') := BY7.cell 1
  have lY7 : w3.heap.size + 1 < w7.heap.size := BY7.lt
  have mY7 : w3.heap.size + 1 < w7.heap.size + 1 := by omega
  have nY7 : w3.heap.size + 1 < w7.heap.size + 1 + 1 := by omega
  have BS7 : Blk w7 (w4.heap.size) 23 #[.int .i64 s, .int .i64 s'] := by
    have h := Blk.kept (g := w4.heap.size) (t := 23) (w' := w7) (by repeat (first | exact BS6 | exact Blk.new _ _ _ | (refine Blk.newAt _ _ _ _ ?_; first | rfl | (simp; done)) | apply Blk.alloc | apply Blk.drewN | apply Blk.drew | apply Blk.set_ | (apply Blk.far_; (simp only [ne_eq]; omega)))) hb7
    exact h
  have cS0_7 : w7.cell? ⟨w4.heap.size, 0, none⟩ = some (.int .i64 s) := BS7.cell 0
  have cS1_7 : w7.cell? ⟨w4.heap.size, 1, none⟩ = some (.int .i64 s') := BS7.cell 1
  have lS7 : w4.heap.size < w7.heap.size := BS7.lt
  have mS7 : w4.heap.size < w7.heap.size + 1 := by omega
  have nS7 : w4.heap.size < w7.heap.size + 1 + 1 := by omega
  have fS0_7 := BS7.frozen 0
  have fS1_7 := BS7.frozen 1
  have BT7 : Blk w7 (w5.heap.size) 23 #[.int .i64 s, .int .i64 s'] := by
    have h := Blk.kept (g := w5.heap.size) (t := 23) (w' := w7) (by repeat (first | exact BT6 | exact Blk.new _ _ _ | (refine Blk.newAt _ _ _ _ ?_; first | rfl | (simp; done)) | apply Blk.alloc | apply Blk.drewN | apply Blk.drew | apply Blk.set_ | (apply Blk.far_; (simp only [ne_eq]; omega)))) hb7
    exact h
  have cT0_7 : w7.cell? ⟨w5.heap.size, 0, none⟩ = some (.int .i64 s) := BT7.cell 0
  have cT1_7 : w7.cell? ⟨w5.heap.size, 1, none⟩ = some (.int .i64 s') := BT7.cell 1
  have lT7 : w5.heap.size < w7.heap.size := BT7.lt
  have mT7 : w5.heap.size < w7.heap.size + 1 := by omega
  have nT7 : w5.heap.size < w7.heap.size + 1 + 1 := by omega
  have fT0_7 := BT7.frozen 0
  have fT1_7 := BT7.frozen 1
  have BU7 : Blk w7 (w6.heap.size) 23 #[.int .i64 x, .int .i64 x'] := by
    have h := Blk.kept (g := w6.heap.size) (t := 23) (w' := w7) (by repeat (first | exact Blk.new _ _ _ | (refine Blk.newAt _ _ _ _ ?_; first | rfl | (simp; done)) | apply Blk.alloc | apply Blk.drewN | apply Blk.drew | apply Blk.set_ | (apply Blk.far_; (simp only [ne_eq]; omega)))) hb7
    exact h
  have cU0_7 : w7.cell? ⟨w6.heap.size, 0, none⟩ = some (.int .i64 x) := BU7.cell 0
  have cU1_7 : w7.cell? ⟨w6.heap.size, 1, none⟩ = some (.int .i64 x') := BU7.cell 1
  have lU7 : w6.heap.size < w7.heap.size := BU7.lt
  have mU7 : w6.heap.size < w7.heap.size + 1 := by omega
  have nU7 : w6.heap.size < w7.heap.size + 1 + 1 := by omega
  have fU0_7 := BU7.frozen 0
  have fU1_7 := BU7.frozen 1
  have eUX7 : w6.heap.size ≠ w3.heap.size := by omega
  have eXU7 : w3.heap.size ≠ w6.heap.size := by omega
  have eUY7 : w6.heap.size ≠ w3.heap.size + 1 := by omega
  have eYU7 : w3.heap.size + 1 ≠ w6.heap.size := by omega
  have eUS7 : w6.heap.size ≠ w4.heap.size := by omega
  have eSU7 : w4.heap.size ≠ w6.heap.size := by omega
  have eUT7 : w6.heap.size ≠ w5.heap.size := by omega
  have eTU7 : w5.heap.size ≠ w6.heap.size := by omega
  clear BX6 lX6 mX6 nX6 cX0_6 cX1_6 BY6 lY6 mY6 nY6 cY0_6 cY1_6 BS6 lS6 mS6 nS6 cS0_6 cS1_6 fS0_6 fS1_6 BT6 lT6 mT6 nT6 cT0_6 cT1_6 fT0_6 fT1_6
  have hs7 : w.heap.size ≤ w7.heap.size := by have h := hb7.size; (try simp at h); omega
  go_wp2_with fail
  refine (mul_any (y, y') (x, x') _).mono ?_
  rintro e w8 ⟨rfl, hb8⟩
  rw [E5.out]
  have BX8 : Blk w8 (w3.heap.size) 23 #[.int .i64 x, .int .i64 x'] := by
    have h := Blk.kept (g := w3.heap.size) (t := 23) (w' := w8) (by repeat (first | exact BX7 | exact Blk.new _ _ _ | (refine Blk.newAt _ _ _ _ ?_; first | rfl | (simp; done)) | apply Blk.alloc | apply Blk.drewN | apply Blk.drew | apply Blk.set_ | (apply Blk.far_; (simp only [ne_eq]; omega)))) hb8
    exact h
  have cX0_8 : w8.cell? ⟨w3.heap.size, 0, none⟩ = some (.int .i64 x) := BX8.cell 0
  have cX1_8 : w8.cell? ⟨w3.heap.size, 1, none⟩ = some (.int .i64 x') := BX8.cell 1
  have lX8 : w3.heap.size < w8.heap.size := BX8.lt
  have mX8 : w3.heap.size < w8.heap.size + 1 := by omega
  have nX8 : w3.heap.size < w8.heap.size + 1 + 1 := by omega
  have BY8 : Blk w8 (w3.heap.size + 1) 23 #[.int .i64 y, .int .i64 y'] := by
    have h := Blk.kept (g := w3.heap.size + 1) (t := 23) (w' := w8) (by repeat (first | exact BY7 | exact Blk.new _ _ _ | (refine Blk.newAt _ _ _ _ ?_; first | rfl | (simp; done)) | apply Blk.alloc | apply Blk.drewN | apply Blk.drew | apply Blk.set_ | (apply Blk.far_; (simp only [ne_eq]; omega)))) hb8
    exact h
  have cY0_8 : w8.cell? ⟨w3.heap.size + 1, 0, none⟩ = some (.int .i64 y) := BY8.cell 0
  have cY1_8 : w8.cell? ⟨w3.heap.size + 1, 1, none⟩ = some (.int .i64 y') := BY8.cell 1
  have lY8 : w3.heap.size + 1 < w8.heap.size := BY8.lt
  have mY8 : w3.heap.size + 1 < w8.heap.size + 1 := by omega
  have nY8 : w3.heap.size + 1 < w8.heap.size + 1 + 1 := by omega
  have BS8 : Blk w8 (w4.heap.size) 23 #[.int .i64 t, .int .i64 t'] := by
    have h := Blk.kept (g := w4.heap.size) (t := 23) (w' := w8) (by repeat (first | exact BS7 | exact Blk.new _ _ _ | (refine Blk.newAt _ _ _ _ ?_; first | rfl | (simp; done)) | apply Blk.alloc | apply Blk.drewN | apply Blk.drew | apply Blk.set_ | (apply Blk.far_; (simp only [ne_eq]; omega)))) hb8
    exact h
  have cS0_8 : w8.cell? ⟨w4.heap.size, 0, none⟩ = some (.int .i64 t) := BS8.cell 0
  have cS1_8 : w8.cell? ⟨w4.heap.size, 1, none⟩ = some (.int .i64 t') := BS8.cell 1
  have lS8 : w4.heap.size < w8.heap.size := BS8.lt
  have mS8 : w4.heap.size < w8.heap.size + 1 := by omega
  have nS8 : w4.heap.size < w8.heap.size + 1 + 1 := by omega
  have fS0_8 := BS8.frozen 0
  have fS1_8 := BS8.frozen 1
  have BT8 : Blk w8 (w5.heap.size) 23 #[.int .i64 s, .int .i64 s'] := by
    have h := Blk.kept (g := w5.heap.size) (t := 23) (w' := w8) (by repeat (first | exact BT7 | exact Blk.new _ _ _ | (refine Blk.newAt _ _ _ _ ?_; first | rfl | (simp; done)) | apply Blk.alloc | apply Blk.drewN | apply Blk.drew | apply Blk.set_ | (apply Blk.far_; (simp only [ne_eq]; omega)))) hb8
    exact h
  have cT0_8 : w8.cell? ⟨w5.heap.size, 0, none⟩ = some (.int .i64 s) := BT8.cell 0
  have cT1_8 : w8.cell? ⟨w5.heap.size, 1, none⟩ = some (.int .i64 s') := BT8.cell 1
  have lT8 : w5.heap.size < w8.heap.size := BT8.lt
  have mT8 : w5.heap.size < w8.heap.size + 1 := by omega
  have nT8 : w5.heap.size < w8.heap.size + 1 + 1 := by omega
  have fT0_8 := BT8.frozen 0
  have fT1_8 := BT8.frozen 1
  have BU8 : Blk w8 (w6.heap.size) 23 #[.int .i64 x, .int .i64 x'] := by
    have h := Blk.kept (g := w6.heap.size) (t := 23) (w' := w8) (by repeat (first | exact BU7 | exact Blk.new _ _ _ | (refine Blk.newAt _ _ _ _ ?_; first | rfl | (simp; done)) | apply Blk.alloc | apply Blk.drewN | apply Blk.drew | apply Blk.set_ | (apply Blk.far_; (simp only [ne_eq]; omega)))) hb8
    exact h
  have cU0_8 : w8.cell? ⟨w6.heap.size, 0, none⟩ = some (.int .i64 x) := BU8.cell 0
  have cU1_8 : w8.cell? ⟨w6.heap.size, 1, none⟩ = some (.int .i64 x') := BU8.cell 1
  have lU8 : w6.heap.size < w8.heap.size := BU8.lt
  have mU8 : w6.heap.size < w8.heap.size + 1 := by omega
  have nU8 : w6.heap.size < w8.heap.size + 1 + 1 := by omega
  have fU0_8 := BU8.frozen 0
  have fU1_8 := BU8.frozen 1
  clear BX7 lX7 mX7 nX7 cX0_7 cX1_7 BY7 lY7 mY7 nY7 cY0_7 cY1_7 BS7 lS7 mS7 nS7 cS0_7 cS1_7 fS0_7 fS1_7 BT7 lT7 mT7 nT7 cT0_7 cT1_7 fT0_7 fT1_7 BU7 lU7 mU7 nU7 cU0_7 cU1_7 fU0_7 fU1_7
  have hs8 : w.heap.size ≤ w8.heap.size := by have h := hb8.size; (try simp at h); omega
  go_wp2_with fail
  refine (div_any (t, t') (y, y') _).mono ?_
  rintro e w9 ⟨rfl, hb9⟩
  rw [E6.out]
  have BX9 : Blk w9 (w3.heap.size) 23 #[.int .i64 x, .int .i64 x'] := by
    have h := Blk.kept (g := w3.heap.size) (t := 23) (w' := w9) (by repeat (first | exact BX8 | exact Blk.new _ _ _ | (refine Blk.newAt _ _ _ _ ?_; first | rfl | (simp; done)) | apply Blk.alloc | apply Blk.drewN | apply Blk.drew | apply Blk.set_ | (apply Blk.far_; (simp only [ne_eq]; omega)))) hb9
    exact h
  have cX0_9 : w9.cell? ⟨w3.heap.size, 0, none⟩ = some (.int .i64 x) := BX9.cell 0
  have cX1_9 : w9.cell? ⟨w3.heap.size, 1, none⟩ = some (.int .i64 x') := BX9.cell 1
  have lX9 : w3.heap.size < w9.heap.size := BX9.lt
  have mX9 : w3.heap.size < w9.heap.size + 1 := by omega
  have nX9 : w3.heap.size < w9.heap.size + 1 + 1 := by omega
  have BY9 : Blk w9 (w3.heap.size + 1) 23 #[.int .i64 y, .int .i64 y'] := by
    have h := Blk.kept (g := w3.heap.size + 1) (t := 23) (w' := w9) (by repeat (first | exact BY8 | exact Blk.new _ _ _ | (refine Blk.newAt _ _ _ _ ?_; first | rfl | (simp; done)) | apply Blk.alloc | apply Blk.drewN | apply Blk.drew | apply Blk.set_ | (apply Blk.far_; (simp only [ne_eq]; omega)))) hb9
    exact h
  have cY0_9 : w9.cell? ⟨w3.heap.size + 1, 0, none⟩ = some (.int .i64 y) := BY9.cell 0
  have cY1_9 : w9.cell? ⟨w3.heap.size + 1, 1, none⟩ = some (.int .i64 y') := BY9.cell 1
  have lY9 : w3.heap.size + 1 < w9.heap.size := BY9.lt
  have mY9 : w3.heap.size + 1 < w9.heap.size + 1 := by omega
  have nY9 : w3.heap.size + 1 < w9.heap.size + 1 + 1 := by omega
  have BS9 : Blk w9 (w4.heap.size) 23 #[.int .i64 t, .int .i64 t'] := by
    have h := Blk.kept (g := w4.heap.size) (t := 23) (w' := w9) (by repeat (first | exact BS8 | exact Blk.new _ _ _ | (refine Blk.newAt _ _ _ _ ?_; first | rfl | (simp; done)) | apply Blk.alloc | apply Blk.drewN | apply Blk.drew | apply Blk.set_ | (apply Blk.far_; (simp only [ne_eq]; omega)))) hb9
    exact h
  have cS0_9 : w9.cell? ⟨w4.heap.size, 0, none⟩ = some (.int .i64 t) := BS9.cell 0
  have cS1_9 : w9.cell? ⟨w4.heap.size, 1, none⟩ = some (.int .i64 t') := BS9.cell 1
  have lS9 : w4.heap.size < w9.heap.size := BS9.lt
  have mS9 : w4.heap.size < w9.heap.size + 1 := by omega
  have nS9 : w4.heap.size < w9.heap.size + 1 + 1 := by omega
  have fS0_9 := BS9.frozen 0
  have fS1_9 := BS9.frozen 1
  have BT9 : Blk w9 (w5.heap.size) 23 #[.int .i64 t, .int .i64 t'] := by
    have h := Blk.kept (g := w5.heap.size) (t := 23) (w' := w9) (by repeat (first | exact BT8 | exact Blk.new _ _ _ | (refine Blk.newAt _ _ _ _ ?_; first | rfl | (simp; done)) | apply Blk.alloc | apply Blk.drewN | apply Blk.drew | apply Blk.set_ | (apply Blk.far_; (simp only [ne_eq]; omega)))) hb9
    exact h
  have cT0_9 : w9.cell? ⟨w5.heap.size, 0, none⟩ = some (.int .i64 t) := BT9.cell 0
  have cT1_9 : w9.cell? ⟨w5.heap.size, 1, none⟩ = some (.int .i64 t') := BT9.cell 1
  have lT9 : w5.heap.size < w9.heap.size := BT9.lt
  have mT9 : w5.heap.size < w9.heap.size + 1 := by omega
  have nT9 : w5.heap.size < w9.heap.size + 1 + 1 := by omega
  have fT0_9 := BT9.frozen 0
  have fT1_9 := BT9.frozen 1
  have BU9 : Blk w9 (w6.heap.size) 23 #[.int .i64 x, .int .i64 x'] := by
    have h := Blk.kept (g := w6.heap.size) (t := 23) (w' := w9) (by repeat (first | exact BU8 | exact Blk.new _ _ _ | (refine Blk.newAt _ _ _ _ ?_; first | rfl | (simp; done)) | apply Blk.alloc | apply Blk.drewN | apply Blk.drew | apply Blk.set_ | (apply Blk.far_; (simp only [ne_eq]; omega)))) hb9
    exact h
  have cU0_9 : w9.cell? ⟨w6.heap.size, 0, none⟩ = some (.int .i64 x) := BU9.cell 0
  have cU1_9 : w9.cell? ⟨w6.heap.size, 1, none⟩ = some (.int .i64 x') := BU9.cell 1
  have lU9 : w6.heap.size < w9.heap.size := BU9.lt
  have mU9 : w6.heap.size < w9.heap.size + 1 := by omega
  have nU9 : w6.heap.size < w9.heap.size + 1 + 1 := by omega
  have fU0_9 := BU9.frozen 0
  have fU1_9 := BU9.frozen 1
  clear BX8 lX8 mX8 nX8 cX0_8 cX1_8 BY8 lY8 mY8 nY8 cY0_8 cY1_8 BS8 lS8 mS8 nS8 cS0_8 cS1_8 fS0_8 fS1_8 BT8 lT8 mT8 nT8 cT0_8 cT1_8 fT0_8 fT1_8 BU8 lU8 mU8 nU8 cU0_8 cU1_8 fU0_8 fU1_8
  have hs9 : w.heap.size ≤ w9.heap.size := by have h := hb9.size; (try simp at h); omega
  go_wp2_with fail
  go_ret
  refine ⟨rfl, ?_⟩
  repeat (first | exact Below.refl _ _ | assumption | refine below_drewN ?_ _ | refine Below.drew ?_ | refine below_alloc ?_ _ | (refine below_call ?_ (by assumption)) | (refine Below.setCell ?_ ?_ _; rotate_left; (simp; try omega)))

set_option maxRecDepth 100000 in
theorem lifted (os : Os) (started : os.Started) (H : Type) (enc : TypeId × Value → H) :
    ReturnsInHanded {} Tryd.checked os 9 .any (fun w args => (Rows.spanBackSpec.pre enc Tryd.prog Tryd.f9 [] false w args ∧ laidMetH Tryd.prog laids w) ∧ sizedMet enc Tryd.prog Tryd.f9 (OpenSpec.ofChange Rows.spanBackSpec) false w args) (Rows.spanBackSpec.post enc Tryd.prog Tryd.f9 false true false false) := by
  refine returnsInHanded_of_change_and (C := Tryd.checked) (X := fun w _ => laidMetH Tryd.prog laids w) (fun _ _ _ hh h => h.of_heap hh) own started (by kernel_rfl) Tryd.func9
    (ChangeSpec.witness_shaped (enc := enc) (C := Tryd.checked) (os := os) (X := fun w _ => laidMetH Tryd.prog laids w) false (World.doorLaid Tryd.prog 24 os) #[.int .i64 0, .int .i64 0] 8 rfl (World.shaped_of_RefB (by kernel_rfl) (by kernel_rfl)) (by kernel_rfl) (by kernel_rfl) (by kernel_rfl) (door_met os _)) ?_
  intro W base args ds gs before hval0 hW _ _ hL _
  have hval : ∀ (j : Nat) t v, Tryd.f9.params[j]? = some t → args[j]? = some v → Value.okWide Tryd.prog W .any base t v := hval0
  have hW' := hW
  obtain ⟨p, q, hA0, hV, rfl, hfz, hnd⟩ := hW
  have hA : DataW.TrodAll enc Tryd.prog W 0 (fun _ => true) true Tryd.f9.params.toList args.toList ds p := hA0
  rw [Tryd.params9] at hA hval
  obtain ⟨v0, vs0, d0, ds0, p0, q0, hargs, rfl, rfl, h0, r0⟩ := trodAll_cons hA
  obtain ⟨v1, vs1, d1, ds1, p1, q1, rfl, rfl, rfl, h1, r1⟩ := trodAll_cons r0
  obtain ⟨rfl, rfl, rfl⟩ := trodAll_nil r1
  obtain rfl : args = #[v0, v1] := by cases args; simp_all
  obtain ⟨rfl, rfl⟩ := trodVars_none hV
  have k0 := h0
  have lt0 : ∀ x ∈ p0, x.block < W.heap.size := by obtain ⟨m, hm⟩ := k0; exact DataW.trod_lt m _ _ _ hm
  obtain ⟨a0, rfl, w0⟩ := arg_int (hval 0 3 v0 rfl rfl) h0
  have k1 := h1
  have lt1 : ∀ x ∈ p1, x.block < W.heap.size := by obtain ⟨m, hm⟩ := k1; exact DataW.trod_lt m _ _ _ hm
  obtain ⟨a1, rfl, w1⟩ := arg_int (hval 1 3 v1 rfl rfl) h1
  clear hA0 hval0
  refine (walk a0 a1 W w0 w1).mono fun e W' ⟨he, bel⟩ => ?_
  subst he
  exact ⟨_, rfl, _, _, _, [], _, [], hW', trodAll_mk1 (shut_bool Tryd.underlying4 _), (trodAll_cons_mk (Below.trod laidOut (by kernel_rfl) (of_decide_eq_true (by kernel_rfl)) k0 bel lt0) (trodAll_cons_mk (Below.trod laidOut (by kernel_rfl) (of_decide_eq_true (by kernel_rfl)) k1 bel lt1) trodAll_mk0)), rfl, bel.frame _, fun h => by cases h⟩

theorem over : Rows.SpanBackSaid :=
  OpenClaim.holds_of_wide 9 Tryd.f9 rfl rfl rfl rfl rfl rfl rfl ⟨rfl, rfl, rfl, rfl, rfl⟩ rfl rfl rfl rfl rfl (by kernel_rfl) Tryd.func9 (by kernel_rfl)
    (of_decide_eq_true (by kernel_rfl)) (by unfold Func.isWrapper; first | (rw [if_pos (by decide +kernel)]; kernel_rfl) | (rw [if_neg (by decide +kernel)]; exact ⟨rfl, rfl⟩))
    (fun os started H enc _ => lifted os started H enc)

/-- The card: the row, its variables tied to the program's text. -/
theorem proved : Rows.SpanBackCardSaid :=
  Claim7.holds_tied_plain_at .later [] [.data, .data, .data] true Rows.spanBackCard.stood.harness false
    over (fun _ h => by cases h) (by kernel_rfl) (fun _ h => by cases h) spanBack_row_tie rfl ⟨rfl, rfl⟩ (by kernel_rfl) rfl
    (fun f fn hf hfn => by
      obtain rfl : f = 9 := Option.some.inj ((show Tryd.prog.funcNamed Tryd.f9.name = some 9 by kernel_rfl).symm.trans hf) |>.symm
      obtain rfl : fn = Tryd.f9 := (Option.some.inj (Tryd.func9.symm.trans hfn)).symm
      exact ⟨by kernel_rfl, fun j t ht => by
        rw [Tryd.params9] at ht
        have hm : t ∈ Tryd.f9.params.toList := by rw [Tryd.params9]; simpa using Array.mem_of_getElem? ht
        have hall : (Tryd.f9.params.toList.all fun u => !Tryd.prog.wantsStandIn u) = true := by kernel_rfl
        exact (show Tryd.prog.wantsStandIn t = false by simpa using List.all_eq_true.1 hall t hm)⟩)
    (by kernel_rfl)

end Go.Proofs.YtfafjdbdpbjklaaDoor.spanBack
