/- SpanRests holds: a small time is its whole multiple of another one and a rest that is less than this one. No condition. -/
import Derived.Test.YtfafjdbdpbjklaaDoorKnown
import Derived.Test.YtfafjdbdpbjklaaDoorOrderMath
import Derived.Test.YtfafjdbdpbjklaaDoorDoor
namespace Go.Proofs.YtfafjdbdpbjklaaDoor.spanRests
open Go.ChangeShapes Go.WideShapes Go.ChangeAt Go.RowKit
set_option linter.unusedVariables false
set_option maxRecDepth 100000 in
set_option maxHeartbeats 1000000 in
theorem walk (a b : Int) (w : World) (ha : -9223372036854775808 ≤ a ∧ a ≤ 9223372036854775807) (hb : -9223372036854775808 ≤ b ∧ b ≤ 9223372036854775807) :
    Calls Tryd.prog 12 #[.int .i64 a, .int .i64 b] w fun e w' => e = .returned (.bool true) ∧ Below w.heap.size w w' := by
  obtain ⟨ha0, ha1⟩ := ha
  obtain ⟨hb0, hbd1⟩ := hb
  obtain ⟨q, ⟨r, r'⟩, ⟨m, m'⟩, q0, q1, h1, h2, h3, h4, h5, h6⟩ := rest_facts a b
  obtain ⟨⟨x, x'⟩, hx⟩ : ∃ z, z = spS a := ⟨_, rfl⟩
  obtain ⟨⟨y, y'⟩, hy⟩ : ∃ z, z = spS b := ⟨_, rfl⟩
  rw [← hx, ← hy] at h1
  rw [← hx] at h4
  rw [← hy] at h3 h5 h6
  obtain ⟨⟨s, s'⟩, hs⟩ : ∃ z, z = cmpS (r, r') (y, y') := ⟨_, rfl⟩
  rw [← hs] at h5 h6
  simp only at h5 h6
  subst h6
  have X := Lib.hid hx.symm; have Y := Lib.hid hy.symm
  have E1 := Lib.hid h1; have E2 := Lib.hid h2; have E3 := Lib.hid h3; have E4 := Lib.hid h4; have E5 := Lib.hid hs.symm
  clear hx hy h1 h2 h3 h4 hs
  go_enter Tryd.func12, Tryd.ntmps12
  go_wp2_with fail
  refine (known_any _).mono ?_
  rintro e w1 ⟨rfl, hb1⟩
  have hs1 : w.heap.size ≤ w1.heap.size := by have h := hb1.size; (try simp at h); omega
  go_wp2_with fail
  refine (kitSpan_any a _ ha0 ha1).mono ?_
  rintro e w2 ⟨rfl, hb2⟩
  rw [X.out]
  have hs2 : w.heap.size ≤ w2.heap.size := by have h := hb2.size; (try simp at h); omega
  go_wp2_with fail
  refine (kitSpan_any b _ hb0 hbd1).mono ?_
  rintro e w3 ⟨rfl, hb3⟩
  rw [Y.out]
  have hs3 : w.heap.size ≤ w3.heap.size := by have h := hb3.size; (try simp at h); omega
  go_wp2_with fail
  refine (whole_any (x, x') (y, y') _).mono ?_
  rintro e w4 ⟨rfl, hb4⟩
  rw [E1.out]
  have BX4 : Blk w4 (w3.heap.size) 23 #[.int .i64 x, .int .i64 x'] := by
    refine Blk.kept ?_ hb4
    repeat (first | with_reducible exact Blk.new _ _ _ | (with_reducible refine Blk.newAt _ _ _ _ ?_; first | rfl | (simp; done)) | with_reducible apply Blk.alloc | with_reducible apply Blk.drewN | with_reducible apply Blk.drew | with_reducible apply Blk.set_to | (with_reducible apply Blk.far_; (simp only [ne_eq]; omega)) | rfl)
  have cX0_4 : w4.cell? ⟨w3.heap.size, 0, none⟩ = some (.int .i64 x) := BX4.cell 0
  have cX1_4 : w4.cell? ⟨w3.heap.size, 1, none⟩ = some (.int .i64 x') := BX4.cell 1
  have lX4 : w3.heap.size < w4.heap.size := BX4.lt
  have mX4 : w3.heap.size < w4.heap.size + 1 := by omega
  have nX4 : w3.heap.size < w4.heap.size + 1 + 1 := by omega
  have BY4 : Blk w4 (w3.heap.size + 1) 23 #[.int .i64 y, .int .i64 y'] := by
    refine Blk.kept ?_ hb4
    repeat (first | with_reducible exact Blk.new _ _ _ | (with_reducible refine Blk.newAt _ _ _ _ ?_; first | rfl | (simp; done)) | with_reducible apply Blk.alloc | with_reducible apply Blk.drewN | with_reducible apply Blk.drew | with_reducible apply Blk.set_to | (with_reducible apply Blk.far_; (simp only [ne_eq]; omega)) | rfl)
  have cY0_4 : w4.cell? ⟨w3.heap.size + 1, 0, none⟩ = some (.int .i64 y) := BY4.cell 0
  have cY1_4 : w4.cell? ⟨w3.heap.size + 1, 1, none⟩ = some (.int .i64 y') := BY4.cell 1
  have lY4 : w3.heap.size + 1 < w4.heap.size := BY4.lt
  have mY4 : w3.heap.size + 1 < w4.heap.size + 1 := by omega
  have nY4 : w3.heap.size + 1 < w4.heap.size + 1 + 1 := by omega
  have hs4 : w.heap.size ≤ w4.heap.size := by have h := hb4.size; (try simp at h); omega
  go_wp2_with fail
  have hX : Blk (w4.alloc (.cells #[.int .i64 r, .int .i64 r'] 23)) w3.heap.size 23 #[.int .i64 x, .int .i64 x'] := BX4.alloc _
  have hY : Blk (w4.alloc (.cells #[.int .i64 r, .int .i64 r'] 23)) (w3.heap.size + 1) 23 #[.int .i64 y, .int .i64 y'] := BY4.alloc _
  have hR : Blk (w4.alloc (.cells #[.int .i64 r, .int .i64 r'] 23)) w4.heap.size 23 #[.int .i64 r, .int .i64 r'] := Blk.new _ _ _
  generalize hwx : w4.alloc (.cells #[.int .i64 r, .int .i64 r'] 23) = wx at hX hY hR ⊢
  have hbx : Below w.heap.size w wx := by rw [← hwx]; repeat (first | exact Below.refl _ _ | refine below_drewN ?_ _ | refine Below.drew ?_ | refine below_alloc ?_ _ | (refine below_call ?_ (by assumption)) | (refine Below.setCell ?_ ?_ _; rotate_left; (simp; try omega)))
  have c0 := hY.cell 0
  have c1 := hY.cell 1
  simp only [List.getElem?_toArray, List.getElem?_cons_zero, List.getElem?_cons_succ] at c0 c1
  clear BX4 cX0_4 cX1_4 lX4 mX4 nX4 BY4 cY0_4 cY1_4 lY4 mY4 nY4 hb1 hb2 hb3 hb4
  go_region_held3 (fun w' => w'.cell? ⟨w3.heap.size + 1, 0, none⟩ = some (.int .i64 y) ∧ w'.cell? ⟨w3.heap.size + 1, 1, none⟩ = some (.int .i64 y') ∧ Below wx.heap.size wx w') ((refine (fun hb => ⟨Blk.cell (hY.below hb hY.lt) 0, Blk.cell (hY.below hb hY.lt) 1, hb⟩) ?_; repeat (first | exact Below.refl _ _ | exact hBd | exact hBt | exact (show _ ∧ _ ∧ Below wx.heap.size wx _ by assumption).2.2 | refine Below.drew ?_ | refine below_alloc ?_ _ | (refine Below.setCell ?_ ?_ _; rotate_left; (first | (have hz := hBd.size; have hz' := hBt.size; show wx.heap.size ≤ _; simp only; omega) | (have hz' := hBt.size; show wx.heap.size ≤ _; simp only; omega)))))) (first | (go_at_call 38; refine (t_any _ _ _ (by omega) (by omega) (by omega) (by omega)).mono ?_; rintro e wt ⟨rfl, hbt⟩; rw [E2.out]; have hBt := below_call (show _ ∧ _ ∧ Below wx.heap.size wx _ by assumption).2.2 hbt; have hct := (bcell hbt).1; have hft := (bcell hbt).2; try (have hzt : wx.heap.size < wt.heap.size := by have hz := hbt.size; simp at hz; omega)) | (go_at_call 28; refine (mul_any (q, 1) (y, y') _).mono ?_; rintro e wd ⟨rfl, hbd⟩; rw [E3.out]; have hBd := below_call (show _ ∧ _ ∧ Below wx.heap.size wx _ by assumption).2.2 hbd; have hcd := (bcell hbd).1; have hfd := (bcell hbd).2; try (have hzd : wx.heap.size < wd.heap.size := by have hz := hbd.size; simp at hz; omega)))
  all_goals
    have hB5 := (show _ ∧ _ ∧ Below wx.heap.size wx _ by assumption).2.2
    have BX5 := hX.below hB5 hX.lt
    have BY5 := hY.below hB5 hY.lt
    have BR5 := hR.below hB5 hR.lt
    obtain ⟨wv, hwv⟩ := name_world hB5
    first
      | (refine pick_block (wv := wv) (lo := wx.heap.size) (t := 23) wd.heap.size #[.int .i64 m, .int .i64 m'] ?_ ?_ ?_; (focus (have hz := hBd.size; omega)); (focus (rw [hwv]; repeat (first | with_reducible exact Blk.new _ _ _ | (with_reducible refine Blk.newAt _ _ _ _ ?_; first | rfl | (simp; done)) | with_reducible apply Blk.alloc | with_reducible apply Blk.drewN | with_reducible apply Blk.drew | with_reducible apply Blk.set_to | (with_reducible apply Blk.far_; (simp only [ne_eq]; omega)) | (with_reducible apply Blk.kept (hb := hbd)) | (with_reducible apply Blk.kept (hb := hbt)) | rfl))); intro g hg hgx BM5)
      | (refine pick_block (wv := wv) (lo := wx.heap.size) (t := 23) wt.heap.size #[.int .i64 m, .int .i64 m'] ?_ ?_ ?_; (focus (have hz := hBt.size; omega)); (focus (rw [hwv]; repeat (first | with_reducible exact Blk.new _ _ _ | (with_reducible refine Blk.newAt _ _ _ _ ?_; first | rfl | (simp; done)) | with_reducible apply Blk.alloc | with_reducible apply Blk.drewN | with_reducible apply Blk.drew | with_reducible apply Blk.set_to | (with_reducible apply Blk.far_; (simp only [ne_eq]; omega)) | (with_reducible apply Blk.kept (hb := hbd)) | (with_reducible apply Blk.kept (hb := hbt)) | rfl))); intro g hg hgx BM5)
      | (refine pick_block (wv := wv) (lo := wx.heap.size) (t := 23) wx.heap.size #[.int .i64 m, .int .i64 m'] ?_ ?_ ?_; (focus omega); (focus (rw [hwv]; repeat (first | with_reducible exact Blk.new _ _ _ | (with_reducible refine Blk.newAt _ _ _ _ ?_; first | rfl | (simp; done)) | with_reducible apply Blk.alloc | with_reducible apply Blk.drewN | with_reducible apply Blk.drew | with_reducible apply Blk.set_to | (with_reducible apply Blk.far_; (simp only [ne_eq]; omega)) | (with_reducible apply Blk.kept (hb := hbd)) | (with_reducible apply Blk.kept (hb := hbt)) | rfl))); intro g hg hgx BM5)
    rw [← hwv] at hB5 BX5 BY5 BR5 ⊢
    rw [← hg]
    clear hwv hg
    try clear hct hft hcd hfd hzt hzd hbt hbd hBt hBd
    have cX0 := BX5.cell 0
    have cX1 := BX5.cell 1
    have cY0 := BY5.cell 0
    have cY1 := BY5.cell 1
    have cR0 := BR5.cell 0
    have cR1 := BR5.cell 1
    have cM0 := BM5.cell 0
    have cM1 := BM5.cell 1
    simp only [List.getElem?_toArray, List.getElem?_cons_zero, List.getElem?_cons_succ] at cX0 cX1 cY0 cY1 cR0 cR1 cM0 cM1
    have hb5 : Below w.heap.size w wv := below_call hbx hB5
    have hs5 := hb5.size
    go_wp2_with fail
    refine (add_any (m, m') (r, r') _).mono ?_
    rintro e w6 ⟨rfl, hb6⟩
    rw [E4.out]
    have BX6 : Blk w6 (w3.heap.size) 23 #[.int .i64 x, .int .i64 x'] := by
      refine Blk.kept ?_ hb6
      repeat (first | with_reducible exact BX5 | with_reducible exact Blk.new _ _ _ | (with_reducible refine Blk.newAt _ _ _ _ ?_; first | rfl | (simp; done)) | with_reducible apply Blk.alloc | with_reducible apply Blk.drewN | with_reducible apply Blk.drew | with_reducible apply Blk.set_to | (with_reducible apply Blk.far_; (simp only [ne_eq]; omega)) | rfl)
    have cX0_6 : w6.cell? ⟨w3.heap.size, 0, none⟩ = some (.int .i64 x) := BX6.cell 0
    have cX1_6 : w6.cell? ⟨w3.heap.size, 1, none⟩ = some (.int .i64 x') := BX6.cell 1
    have lX6 : w3.heap.size < w6.heap.size := BX6.lt
    have mX6 : w3.heap.size < w6.heap.size + 1 := by omega
    have nX6 : w3.heap.size < w6.heap.size + 1 + 1 := by omega
    have BY6 : Blk w6 (w3.heap.size + 1) 23 #[.int .i64 y, .int .i64 y'] := by
      refine Blk.kept ?_ hb6
      repeat (first | with_reducible exact BY5 | with_reducible exact Blk.new _ _ _ | (with_reducible refine Blk.newAt _ _ _ _ ?_; first | rfl | (simp; done)) | with_reducible apply Blk.alloc | with_reducible apply Blk.drewN | with_reducible apply Blk.drew | with_reducible apply Blk.set_to | (with_reducible apply Blk.far_; (simp only [ne_eq]; omega)) | rfl)
    have cY0_6 : w6.cell? ⟨w3.heap.size + 1, 0, none⟩ = some (.int .i64 y) := BY6.cell 0
    have cY1_6 : w6.cell? ⟨w3.heap.size + 1, 1, none⟩ = some (.int .i64 y') := BY6.cell 1
    have lY6 : w3.heap.size + 1 < w6.heap.size := BY6.lt
    have mY6 : w3.heap.size + 1 < w6.heap.size + 1 := by omega
    have nY6 : w3.heap.size + 1 < w6.heap.size + 1 + 1 := by omega
    have BR6 : Blk w6 (w4.heap.size) 23 #[.int .i64 r, .int .i64 r'] := by
      refine Blk.kept ?_ hb6
      repeat (first | with_reducible exact BR5 | with_reducible exact Blk.new _ _ _ | (with_reducible refine Blk.newAt _ _ _ _ ?_; first | rfl | (simp; done)) | with_reducible apply Blk.alloc | with_reducible apply Blk.drewN | with_reducible apply Blk.drew | with_reducible apply Blk.set_to | (with_reducible apply Blk.far_; (simp only [ne_eq]; omega)) | rfl)
    have cR0_6 : w6.cell? ⟨w4.heap.size, 0, none⟩ = some (.int .i64 r) := BR6.cell 0
    have cR1_6 : w6.cell? ⟨w4.heap.size, 1, none⟩ = some (.int .i64 r') := BR6.cell 1
    have lR6 : w4.heap.size < w6.heap.size := BR6.lt
    have mR6 : w4.heap.size < w6.heap.size + 1 := by omega
    have nR6 : w4.heap.size < w6.heap.size + 1 + 1 := by omega
    have BM6 : Blk w6 (g) 23 #[.int .i64 m, .int .i64 m'] := by
      refine Blk.kept ?_ hb6
      repeat (first | with_reducible exact BM5 | with_reducible exact Blk.new _ _ _ | (with_reducible refine Blk.newAt _ _ _ _ ?_; first | rfl | (simp; done)) | with_reducible apply Blk.alloc | with_reducible apply Blk.drewN | with_reducible apply Blk.drew | with_reducible apply Blk.set_to | (with_reducible apply Blk.far_; (simp only [ne_eq]; omega)) | rfl)
    have cM0_6 : w6.cell? ⟨g, 0, none⟩ = some (.int .i64 m) := BM6.cell 0
    have cM1_6 : w6.cell? ⟨g, 1, none⟩ = some (.int .i64 m') := BM6.cell 1
    have lM6 : g < w6.heap.size := BM6.lt
    have mM6 : g < w6.heap.size + 1 := by omega
    have nM6 : g < w6.heap.size + 1 + 1 := by omega
    have hs6 : w.heap.size ≤ w6.heap.size := by have h := hb6.size; (try simp at h); omega
    go_wp2_with fail
    refine (cmp_any (r, r') (y, y') _).mono ?_
    rintro e w7 ⟨rfl, hb7⟩
    rw [E5.out]
    have BX7 : Blk w7 (w3.heap.size) 23 #[.int .i64 x, .int .i64 x'] := by
      refine Blk.kept ?_ hb7
      repeat (first | with_reducible exact BX6 | with_reducible exact Blk.new _ _ _ | (with_reducible refine Blk.newAt _ _ _ _ ?_; first | rfl | (simp; done)) | with_reducible apply Blk.alloc | with_reducible apply Blk.drewN | with_reducible apply Blk.drew | with_reducible apply Blk.set_to | (with_reducible apply Blk.far_; (simp only [ne_eq]; omega)) | rfl)
    have cX0_7 : w7.cell? ⟨w3.heap.size, 0, none⟩ = some (.int .i64 x) := BX7.cell 0
    have cX1_7 : w7.cell? ⟨w3.heap.size, 1, none⟩ = some (.int .i64 x') := BX7.cell 1
    have lX7 : w3.heap.size < w7.heap.size := BX7.lt
    have mX7 : w3.heap.size < w7.heap.size + 1 := by omega
    have nX7 : w3.heap.size < w7.heap.size + 1 + 1 := by omega
    have BY7 : Blk w7 (w3.heap.size + 1) 23 #[.int .i64 y, .int .i64 y'] := by
      refine Blk.kept ?_ hb7
      repeat (first | with_reducible exact BY6 | with_reducible exact Blk.new _ _ _ | (with_reducible refine Blk.newAt _ _ _ _ ?_; first | rfl | (simp; done)) | with_reducible apply Blk.alloc | with_reducible apply Blk.drewN | with_reducible apply Blk.drew | with_reducible apply Blk.set_to | (with_reducible apply Blk.far_; (simp only [ne_eq]; omega)) | rfl)
    have cY0_7 : w7.cell? ⟨w3.heap.size + 1, 0, none⟩ = some (.int .i64 y) := BY7.cell 0
    have cY1_7 : w7.cell? ⟨w3.heap.size + 1, 1, none⟩ = some (.int .i64 y') := BY7.cell 1
    have lY7 : w3.heap.size + 1 < w7.heap.size := BY7.lt
    have mY7 : w3.heap.size + 1 < w7.heap.size + 1 := by omega
    have nY7 : w3.heap.size + 1 < w7.heap.size + 1 + 1 := by omega
    have BR7 : Blk w7 (w4.heap.size) 23 #[.int .i64 r, .int .i64 r'] := by
      refine Blk.kept ?_ hb7
      repeat (first | with_reducible exact BR6 | with_reducible exact Blk.new _ _ _ | (with_reducible refine Blk.newAt _ _ _ _ ?_; first | rfl | (simp; done)) | with_reducible apply Blk.alloc | with_reducible apply Blk.drewN | with_reducible apply Blk.drew | with_reducible apply Blk.set_to | (with_reducible apply Blk.far_; (simp only [ne_eq]; omega)) | rfl)
    have cR0_7 : w7.cell? ⟨w4.heap.size, 0, none⟩ = some (.int .i64 r) := BR7.cell 0
    have cR1_7 : w7.cell? ⟨w4.heap.size, 1, none⟩ = some (.int .i64 r') := BR7.cell 1
    have lR7 : w4.heap.size < w7.heap.size := BR7.lt
    have mR7 : w4.heap.size < w7.heap.size + 1 := by omega
    have nR7 : w4.heap.size < w7.heap.size + 1 + 1 := by omega
    have BM7 : Blk w7 (g) 23 #[.int .i64 m, .int .i64 m'] := by
      refine Blk.kept ?_ hb7
      repeat (first | with_reducible exact BM6 | with_reducible exact Blk.new _ _ _ | (with_reducible refine Blk.newAt _ _ _ _ ?_; first | rfl | (simp; done)) | with_reducible apply Blk.alloc | with_reducible apply Blk.drewN | with_reducible apply Blk.drew | with_reducible apply Blk.set_to | (with_reducible apply Blk.far_; (simp only [ne_eq]; omega)) | rfl)
    have cM0_7 : w7.cell? ⟨g, 0, none⟩ = some (.int .i64 m) := BM7.cell 0
    have cM1_7 : w7.cell? ⟨g, 1, none⟩ = some (.int .i64 m') := BM7.cell 1
    have lM7 : g < w7.heap.size := BM7.lt
    have mM7 : g < w7.heap.size + 1 := by omega
    have nM7 : g < w7.heap.size + 1 + 1 := by omega
    have BS7 : Blk w7 (w6.heap.size) 23 #[.int .i64 x, .int .i64 x'] := by
      refine Blk.kept ?_ hb7
      repeat (first | with_reducible exact Blk.new _ _ _ | (with_reducible refine Blk.newAt _ _ _ _ ?_; first | rfl | (simp; done)) | with_reducible apply Blk.alloc | with_reducible apply Blk.drewN | with_reducible apply Blk.drew | with_reducible apply Blk.set_to | (with_reducible apply Blk.far_; (simp only [ne_eq]; omega)) | rfl)
    have cS0_7 : w7.cell? ⟨w6.heap.size, 0, none⟩ = some (.int .i64 x) := BS7.cell 0
    have cS1_7 : w7.cell? ⟨w6.heap.size, 1, none⟩ = some (.int .i64 x') := BS7.cell 1
    have lS7 : w6.heap.size < w7.heap.size := BS7.lt
    have mS7 : w6.heap.size < w7.heap.size + 1 := by omega
    have nS7 : w6.heap.size < w7.heap.size + 1 + 1 := by omega
    clear BX6 lX6 mX6 nX6 cX0_6 cX1_6 BY6 lY6 mY6 nY6 cY0_6 cY1_6 BR6 lR6 mR6 nR6 cR0_6 cR1_6 BM6 lM6 mM6 nM6 cM0_6 cM1_6
    have hs7 : w.heap.size ≤ w7.heap.size := by have h := hb7.size; (try simp at h); omega
    go_wp2_with fail
    go_ret
    refine ⟨rfl, ?_⟩
    repeat (first | exact Below.refl _ _ | assumption | refine below_drewN ?_ _ | refine Below.drew ?_ | refine below_alloc ?_ _ | (refine below_call ?_ (by assumption)) | (refine Below.setCell ?_ ?_ _; rotate_left; (simp; try omega)))

set_option maxRecDepth 100000 in
theorem lifted (os : Os) (started : os.Started) (H : Type) (enc : TypeId × Value → H) :
    ReturnsInHanded {} Tryd.checked os 12 .any (fun w args => (Rows.spanRestsSpec.pre enc Tryd.prog Tryd.f12 [] false w args ∧ laidMetH Tryd.prog laids w) ∧ sizedMet enc Tryd.prog Tryd.f12 (OpenSpec.ofChange Rows.spanRestsSpec) false w args) (Rows.spanRestsSpec.post enc Tryd.prog Tryd.f12 false true false false) := by
  refine returnsInHanded_of_change_and (C := Tryd.checked) (X := fun w _ => laidMetH Tryd.prog laids w) (fun _ _ _ hh h => h.of_heap hh) own started (by kernel_rfl) Tryd.func12
    (ChangeSpec.witness_shaped (enc := enc) (C := Tryd.checked) (os := os) (X := fun w _ => laidMetH Tryd.prog laids w) false (World.doorLaid Tryd.prog 24 os) #[.int .i64 0, .int .i64 0] 8 rfl (World.shaped_of_RefB (by kernel_rfl) (by kernel_rfl)) (by kernel_rfl) (by kernel_rfl) (by kernel_rfl) (door_met os _)) ?_
  intro W base args ds gs before hval0 hW _ _ hL _
  have hval : ∀ (j : Nat) t v, Tryd.f12.params[j]? = some t → args[j]? = some v → Value.okWide Tryd.prog W .any base t v := hval0
  have hW' := hW
  obtain ⟨p, q, hA0, hV, rfl, hfz, hnd⟩ := hW
  have hA : DataW.TrodAll enc Tryd.prog W 0 (fun _ => true) true Tryd.f12.params.toList args.toList ds p := hA0
  rw [Tryd.params12] at hA hval
  obtain ⟨v0, vs0, d0, ds0, p0, q0, hargs, rfl, rfl, h0, r0⟩ := trodAll_cons hA
  obtain ⟨v1, vs1, d1, ds1, p1, q1, rfl, rfl, rfl, h1, r1⟩ := trodAll_cons r0
  obtain ⟨rfl, rfl, rfl⟩ := trodAll_nil r1
  obtain rfl : args = #[v0, v1] := by cases args; simp_all
  obtain ⟨rfl, rfl⟩ := trodVars_none hV
  have k0 := h0
  have lt0 : ∀ x ∈ p0, x.block < W.heap.size := by obtain ⟨m, hm⟩ := k0; exact DataW.trod_lt m _ _ _ hm
  obtain ⟨a0, rfl, w0⟩ := arg_int (hval 0 3 v0 rfl rfl) h0
  have k1 := h1
  have lt1 : ∀ x ∈ p1, x.block < W.heap.size := by obtain ⟨m, hm⟩ := k1; exact DataW.trod_lt m _ _ _ hm
  obtain ⟨a1, rfl, w1⟩ := arg_int (hval 1 3 v1 rfl rfl) h1
  clear hA0 hval0
  refine (walk a0 a1 W w0 w1).mono fun e W' ⟨he, bel⟩ => ?_
  subst he
  exact ⟨_, rfl, _, _, _, [], _, [], hW', trodAll_mk1 (shut_bool Tryd.underlying4 _), (trodAll_cons_mk (Below.trod laidOut (by kernel_rfl) (of_decide_eq_true (by kernel_rfl)) k0 bel lt0) (trodAll_cons_mk (Below.trod laidOut (by kernel_rfl) (of_decide_eq_true (by kernel_rfl)) k1 bel lt1) trodAll_mk0)), rfl, bel.frame _, fun h => by cases h⟩

theorem over : Rows.SpanRestsSaid :=
  OpenClaim.holds_of_wide 12 Tryd.f12 rfl rfl rfl rfl rfl rfl rfl ⟨rfl, rfl, rfl, rfl, rfl⟩ rfl rfl rfl rfl rfl (by kernel_rfl) Tryd.func12 (by kernel_rfl)
    (of_decide_eq_true (by kernel_rfl)) (by unfold Func.isWrapper; first | (rw [if_pos (by decide +kernel)]; kernel_rfl) | (rw [if_neg (by decide +kernel)]; exact ⟨rfl, rfl⟩))
    (fun os started H enc _ => lifted os started H enc)

/-- The card: the row, its variables tied to the program's text. -/
theorem proved : Rows.SpanRestsCardSaid :=
  Claim7.holds_tied_plain_at .later [] [.data, .data, .data] true Rows.spanRestsCard.stood.harness false
    over (fun _ h => by cases h) (by kernel_rfl) (fun _ h => by cases h) spanRests_row_tie rfl ⟨rfl, rfl⟩ (by kernel_rfl) rfl
    (fun f fn hf hfn => by
      obtain rfl : f = 12 := Option.some.inj ((show Tryd.prog.funcNamed Tryd.f12.name = some 12 by kernel_rfl).symm.trans hf) |>.symm
      obtain rfl : fn = Tryd.f12 := (Option.some.inj (Tryd.func12.symm.trans hfn)).symm
      exact ⟨by kernel_rfl, fun j t ht => by
        rw [Tryd.params12] at ht
        have hm : t ∈ Tryd.f12.params.toList := by rw [Tryd.params12]; simpa using Array.mem_of_getElem? ht
        have hall : (Tryd.f12.params.toList.all fun u => !Tryd.prog.wantsStandIn u) = true := by kernel_rfl
        exact (show Tryd.prog.wantsStandIn t = false by simpa using List.all_eq_true.1 hall t hm)⟩)
    (by kernel_rfl)

end Go.Proofs.YtfafjdbdpbjklaaDoor.spanRests
