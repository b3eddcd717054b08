
/- The walk through the reference's height of a pitch, a step at a time. -/
import Derived.Test.YtmlcnmnpkemdpaaDoorChPitch
namespace Go.Proofs.YtmlcnmnpkemdpaaDoor
open Go.RowKit
set_option maxRecDepth 100000 in
set_option maxHeartbeats 4000000 in
theorem refHeight_4 (b c : Int) (h : pchk (4, b, c) = 0) (w : World) :
    Calls Tryd.prog 111 #[vP (4, b, c)] w fun e w' => e = .returned (.tuple #[.int .i64 (htP (4, b, c)), .int .i64 0]) ∧ Below w.heap.size w w' := by
  have r0 : Blk (w.alloc (.cells #[.int .i64 4, .int .i64 b, .int .i64 c] 32)) w.heap.size 32 #[.int .i64 4, .int .i64 b, .int .i64 c] := Blk.new _ _ _
  have k0 : Below w.heap.size w (w.alloc (.cells #[.int .i64 4, .int .i64 b, .int .i64 c] 32)) := by repeat (first | exact Below.refl _ _ | refine below_drewN ?_ _ | refine Below.drew ?_ | refine below_alloc ?_ _ | (refine below_call ?_ (by assumption)) | (refine Below.setCell ?_ ?_ _; rotate_left; (simp; try omega)))
  obtain ⟨h0, h1, h2, h3, h4, h5⟩ := pchk_ok h
  have hb : (pchk (4, b, c) != 0) = false := by simpa using h
  have E := Lib.hid (show htP (4, b, c) = 12 * b + 7 + c by rfl)
  simp only at h0 h1 h2 h3 h4 h5
  clear h
  go_enter Tryd.func111, Tryd.ntmps111
  go_wp2_with (first | (go_at_call 109; refine (refPcheck_any (_, _, _) _).mono ?_; rintro e wn ⟨rfl, hbn⟩; replace rn := Blk.kept (by with_reducible first | exact rn | exact r0 | exact rn.alloc _ | exact r0.alloc _ | exact (rn.alloc _).alloc _ | exact (r0.alloc _).alloc _) hbn; replace en := rn.cell; replace gn := rn.frozen; replace zn := rn.lt; replace kn := below_call (by with_reducible first | exact kn | exact k0 | exact below_alloc kn _ | exact below_alloc k0 _ | exact below_alloc (below_alloc kn _) _ | exact below_alloc (below_alloc k0 _) _) hbn; clear hbn))
  go_region
  go_wp2
  go_ret2
  rw [E.out]
  exact ⟨rfl, by repeat (first | exact Below.refl _ _ | assumption | refine below_drewN ?_ _ | refine Below.drew ?_ | refine below_alloc ?_ _ | (refine below_call ?_ (by assumption)) | (refine Below.setCell ?_ ?_ _; rotate_left; (simp; try omega)))⟩
set_option maxRecDepth 100000 in
set_option maxHeartbeats 4000000 in
theorem refHeight_5 (b c : Int) (h : pchk (5, b, c) = 0) (w : World) :
    Calls Tryd.prog 111 #[vP (5, b, c)] w fun e w' => e = .returned (.tuple #[.int .i64 (htP (5, b, c)), .int .i64 0]) ∧ Below w.heap.size w w' := by
  have r0 : Blk (w.alloc (.cells #[.int .i64 5, .int .i64 b, .int .i64 c] 32)) w.heap.size 32 #[.int .i64 5, .int .i64 b, .int .i64 c] := Blk.new _ _ _
  have k0 : Below w.heap.size w (w.alloc (.cells #[.int .i64 5, .int .i64 b, .int .i64 c] 32)) := by repeat (first | exact Below.refl _ _ | refine below_drewN ?_ _ | refine Below.drew ?_ | refine below_alloc ?_ _ | (refine below_call ?_ (by assumption)) | (refine Below.setCell ?_ ?_ _; rotate_left; (simp; try omega)))
  obtain ⟨h0, h1, h2, h3, h4, h5⟩ := pchk_ok h
  have hb : (pchk (5, b, c) != 0) = false := by simpa using h
  have E := Lib.hid (show htP (5, b, c) = 12 * b + 9 + c by rfl)
  simp only at h0 h1 h2 h3 h4 h5
  clear h
  go_enter Tryd.func111, Tryd.ntmps111
  go_wp2_with (first | (go_at_call 109; refine (refPcheck_any (_, _, _) _).mono ?_; rintro e wn ⟨rfl, hbn⟩; replace rn := Blk.kept (by with_reducible first | exact rn | exact r0 | exact rn.alloc _ | exact r0.alloc _ | exact (rn.alloc _).alloc _ | exact (r0.alloc _).alloc _) hbn; replace en := rn.cell; replace gn := rn.frozen; replace zn := rn.lt; replace kn := below_call (by with_reducible first | exact kn | exact k0 | exact below_alloc kn _ | exact below_alloc k0 _ | exact below_alloc (below_alloc kn _) _ | exact below_alloc (below_alloc k0 _) _) hbn; clear hbn))
  go_region
  go_wp2
  go_ret2
  rw [E.out]
  exact ⟨rfl, by repeat (first | exact Below.refl _ _ | assumption | refine below_drewN ?_ _ | refine Below.drew ?_ | refine below_alloc ?_ _ | (refine below_call ?_ (by assumption)) | (refine Below.setCell ?_ ?_ _; rotate_left; (simp; try omega)))⟩
set_option maxRecDepth 100000 in
set_option maxHeartbeats 4000000 in
theorem refHeight_6 (b c : Int) (h : pchk (6, b, c) = 0) (w : World) :
    Calls Tryd.prog 111 #[vP (6, b, c)] w fun e w' => e = .returned (.tuple #[.int .i64 (htP (6, b, c)), .int .i64 0]) ∧ Below w.heap.size w w' := by
  have r0 : Blk (w.alloc (.cells #[.int .i64 6, .int .i64 b, .int .i64 c] 32)) w.heap.size 32 #[.int .i64 6, .int .i64 b, .int .i64 c] := Blk.new _ _ _
  have k0 : Below w.heap.size w (w.alloc (.cells #[.int .i64 6, .int .i64 b, .int .i64 c] 32)) := by repeat (first | exact Below.refl _ _ | refine below_drewN ?_ _ | refine Below.drew ?_ | refine below_alloc ?_ _ | (refine below_call ?_ (by assumption)) | (refine Below.setCell ?_ ?_ _; rotate_left; (simp; try omega)))
  obtain ⟨h0, h1, h2, h3, h4, h5⟩ := pchk_ok h
  have hb : (pchk (6, b, c) != 0) = false := by simpa using h
  have E := Lib.hid (show htP (6, b, c) = 12 * b + 11 + c by rfl)
  simp only at h0 h1 h2 h3 h4 h5
  clear h
  go_enter Tryd.func111, Tryd.ntmps111
  go_wp2_with (first | (go_at_call 109; refine (refPcheck_any (_, _, _) _).mono ?_; rintro e wn ⟨rfl, hbn⟩; replace rn := Blk.kept (by with_reducible first | exact rn | exact r0 | exact rn.alloc _ | exact r0.alloc _ | exact (rn.alloc _).alloc _ | exact (r0.alloc _).alloc _) hbn; replace en := rn.cell; replace gn := rn.frozen; replace zn := rn.lt; replace kn := below_call (by with_reducible first | exact kn | exact k0 | exact below_alloc kn _ | exact below_alloc k0 _ | exact below_alloc (below_alloc kn _) _ | exact below_alloc (below_alloc k0 _) _) hbn; clear hbn))
  go_region
  go_wp2
  go_ret2
  rw [E.out]
  exact ⟨rfl, by repeat (first | exact Below.refl _ _ | assumption | refine below_drewN ?_ _ | refine Below.drew ?_ | refine below_alloc ?_ _ | (refine below_call ?_ (by assumption)) | (refine Below.setCell ?_ ?_ _; rotate_left; (simp; try omega)))⟩
end Go.Proofs.YtmlcnmnpkemdpaaDoor
