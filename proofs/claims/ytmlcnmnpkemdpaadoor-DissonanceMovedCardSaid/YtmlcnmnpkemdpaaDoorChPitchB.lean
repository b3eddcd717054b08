
/- The walks through numbers and heights of pitches. -/
import Derived.Test.YtmlcnmnpkemdpaaDoorChPitch
namespace Go.Proofs.YtmlcnmnpkemdpaaDoor
open Go.RowKit
theorem numE_ok {p : Int × Int × Int} (h : pchk p = 0) : numE p = (numP p, 0) := by unfold numE; rw [if_neg (by rw [h]; exact fun h => h rfl)]
theorem htE_ok {p : Int × Int × Int} (h : pchk p = 0) : htE p = (htP p, 0) := by unfold htE; rw [if_neg (by rw [h]; exact fun h => h rfl)]
set_option maxRecDepth 100000 in
set_option maxHeartbeats 1000000 in
theorem number_ok (p : Int × Int × Int) (h : pchk p = 0) (w : World) :
    Calls Tryd.prog 89 #[vP p] w fun e w' => e = .returned (.tuple #[.int .i64 (numP p), .int .i64 0]) ∧ Below w.heap.size w w' := by
  have r0 : Blk (w.alloc (.cells #[.int .i64 p.1, .int .i64 p.2.1, .int .i64 p.2.2] 32)) w.heap.size 32 #[.int .i64 p.1, .int .i64 p.2.1, .int .i64 p.2.2] := Blk.new _ _ _
  have k0 : Below w.heap.size w (w.alloc (.cells #[.int .i64 p.1, .int .i64 p.2.1, .int .i64 p.2.2] 32)) := by repeat (first | exact Below.refl _ _ | refine below_drewN ?_ _ | refine Below.drew ?_ | refine below_alloc ?_ _ | (refine below_call ?_ (by assumption)) | (refine Below.setCell ?_ ?_ _; rotate_left; (simp; try omega)))
  obtain ⟨h0, h1, h2, h3, _, _⟩ := pchk_ok h
  have hb : (pchk p != 0) = false := by simpa using h
  have E := Lib.hid (show numP p = 7 * p.2.1 + p.1 by rfl)
  obtain ⟨a, b, c⟩ := p
  simp only at h0 h1 h2 h3 E hb
  clear h
  have hfd : ∀ (w : World) (x y : Value), (Instr.field 148 (.agg #[x, y]) 0).run Tryd.prog w = .ok x w := fun _ _ _ => by kernel_rfl
  go_enter Tryd.func89, Tryd.ntmps89
  go_wp2_with (first | (go_at_call 63; refine (pcheck_any (_, _, _) _).mono ?_; rintro e wn ⟨rfl, hbn⟩; replace rn := Blk.kept (by with_reducible first | exact rn | exact r0 | exact rn.alloc _ | exact r0.alloc _ | exact (rn.alloc _).alloc _ | exact (r0.alloc _).alloc _) hbn; replace en := rn.cell; replace gn := rn.frozen; replace zn := rn.lt; replace kn := below_call (by with_reducible first | exact kn | exact k0 | exact below_alloc kn _ | exact below_alloc k0 _ | exact below_alloc (below_alloc kn _) _ | exact below_alloc (below_alloc k0 _) _) hbn; clear hbn) | (go_at_call 105; refine (of_any' _ _ _ _ h0 h1 h2 h3).mono ?_; rintro e wn ⟨rfl, hbn⟩; replace rn := Blk.kept (by with_reducible first | exact rn | exact r0 | exact rn.alloc _ | exact r0.alloc _ | exact (rn.alloc _).alloc _ | exact (r0.alloc _).alloc _) hbn; replace en := rn.cell; replace gn := rn.frozen; replace zn := rn.lt; replace kn := below_call (by with_reducible first | exact kn | exact k0 | exact below_alloc kn _ | exact below_alloc k0 _ | exact below_alloc (below_alloc kn _) _ | exact below_alloc (below_alloc k0 _) _) hbn; clear hbn))
  go_ret2
  rw [E.out]
  exact ⟨rfl, by repeat (first | exact Below.refl _ _ | assumption | refine below_drewN ?_ _ | refine Below.drew ?_ | refine below_alloc ?_ _ | (refine below_call ?_ (by assumption)) | (refine Below.setCell ?_ ?_ _; rotate_left; (simp; try omega)))⟩
set_option maxRecDepth 100000 in
set_option maxHeartbeats 1000000 in
theorem height_ok (p : Int × Int × Int) (h : pchk p = 0) (w : World) (ht : Tabs w) :
    Calls Tryd.prog 88 #[vP p] w fun e w' => e = .returned (.tuple #[.int .i64 (htP p), .int .i64 0]) ∧ Below w.heap.size w w' := by
  have r0 : Blk (w.alloc (.cells #[.int .i64 p.1, .int .i64 p.2.1, .int .i64 p.2.2] 32)) w.heap.size 32 #[.int .i64 p.1, .int .i64 p.2.1, .int .i64 p.2.2] := Blk.new _ _ _
  have k0 : Below w.heap.size w (w.alloc (.cells #[.int .i64 p.1, .int .i64 p.2.1, .int .i64 p.2.2] 32)) := by repeat (first | exact Below.refl _ _ | refine below_drewN ?_ _ | refine Below.drew ?_ | refine below_alloc ?_ _ | (refine below_call ?_ (by assumption)) | (refine Below.setCell ?_ ?_ _; rotate_left; (simp; try omega)))
  obtain ⟨h0, h1, h2, h3, h4, h5⟩ := pchk_ok h
  have hb : (pchk p != 0) = false := by simpa using h
  obtain ⟨a, b, c⟩ := p
  simp only at h0 h1 h2 h3 h4 h5 hb
  clear h
  go_enter Tryd.func88, Tryd.ntmps88
  go_wp2_with (first | (go_at_call 63; refine (pcheck_any (_, _, _) _).mono ?_; rintro e wn ⟨rfl, hbn⟩; replace rn := Blk.kept (by with_reducible first | exact rn | exact r0 | exact rn.alloc _ | exact r0.alloc _ | exact (rn.alloc _).alloc _ | exact (r0.alloc _).alloc _) hbn; replace en := rn.cell; replace gn := rn.frozen; replace zn := rn.lt; replace kn := below_call (by with_reducible first | exact kn | exact k0 | exact below_alloc kn _ | exact below_alloc k0 _ | exact below_alloc (below_alloc kn _) _ | exact below_alloc (below_alloc k0 _) _) hbn; clear hbn) | (go_at_call 105; refine (of_any' _ _ _ _ h0 h1 h2 h3).mono ?_; rintro e wn ⟨rfl, hbn⟩; replace rn := Blk.kept (by with_reducible first | exact rn | exact r0 | exact rn.alloc _ | exact r0.alloc _ | exact (rn.alloc _).alloc _ | exact (r0.alloc _).alloc _) hbn; replace en := rn.cell; replace gn := rn.frozen; replace zn := rn.lt; replace kn := below_call (by with_reducible first | exact kn | exact k0 | exact below_alloc kn _ | exact below_alloc k0 _ | exact below_alloc (below_alloc kn _) _ | exact below_alloc (below_alloc k0 _) _) hbn; clear hbn) | (go_at_call 106; refine Calls.mono (toneHeight_any _ _ _ _ ?_ h0 h1 h2 h3 h4 h5) ?_; (focus (exact ht.kept kn)); rintro e wm ⟨rfl, hbm⟩; replace kn := below_call kn hbm))
  go_ret2
  exact ⟨rfl, by repeat (first | exact Below.refl _ _ | assumption | refine below_drewN ?_ _ | refine Below.drew ?_ | refine below_alloc ?_ _ | (refine below_call ?_ (by assumption)) | (refine Below.setCell ?_ ?_ _; rotate_left; (simp; try omega)))⟩
end Go.Proofs.YtmlcnmnpkemdpaaDoor
