/- The walks through the functions on pitches, the program's and the reference's: numbers, moved and mirrored pitches. -/
import Derived.Test.YtbljfaocmeeljaaEvent
namespace Go.Proofs.Ytbljfaocmeeljaa
open Go.RowKit
@[reducible] def vPE (x : (Int × Int × Int) × Int) : Value := .tuple #[.agg #[.int .i64 x.1.1, .int .i64 x.1.2.1, .int .i64 x.1.2.2], .int .i64 x.2]
theorem vPE_ret {x : (Int × Int × Int) × Int} {a b c e : Int} (h : ((a, b, c), e) = x) : Ending.returned (.tuple #[.agg #[.int .i64 a, .int .i64 b, .int .i64 c], .int .i64 e]) = .returned (vPE x) := by subst h; rfl
theorem pchk_ok {p : Int × Int × Int} (h : pchk p = 0) : 0 ≤ p.1 ∧ p.1 ≤ 6 ∧ 0 ≤ p.2.1 ∧ p.2.1 ≤ 8 ∧ -1 ≤ p.2.2 ∧ p.2.2 ≤ 1 := by
  unfold pchk at h
  split at h
  · cases h
  · omega
theorem numP_ok {p : Int × Int × Int} (h : pchk p = 0) : 0 ≤ numP p ∧ numP p ≤ 62 := by have := pchk_ok h; unfold numP; omega
set_option maxHeartbeats 400000 in
theorem of_any' (a b c : Int) (w : World) (a0 : 0 ≤ a) (a1 : a ≤ 6) (b0 : 0 ≤ b) (b1 : b ≤ 8) :
    Calls Try.prog 102 #[.agg #[.int .i64 a, .int .i64 b, .int .i64 c]] w fun e w' => e = .returned (.agg #[.int .i64 (7 * b + a), .int .i64 c]) ∧ Below w.heap.size w w' := by
  go_enter Try.func102, Try.ntmps102
  go_wp2
  refine ret_of (by simp [results, Try.results102, go_sem, *]; repeat' (first | rfl | apply And.intro)) rfl ⟨rfl, ?_⟩
  repeat (first | exact Below.refl _ _ | refine below_drewN ?_ _ | refine Below.drew ?_ | refine below_alloc ?_ _ | (refine below_call ?_ (by assumption)) | (refine Below.setCell ?_ ?_ _; rotate_left; (simp; try omega)))
/-- A number and an error. -/
def numE (p : Int × Int × Int) : Int × Int := if pchk p ≠ 0 then (0, pchk p) else (numP p, 0)
set_option maxHeartbeats 400000 in
theorem refNumber_any (p : Int × Int × Int) (w : World) :
    Calls Try.prog 85 #[vP p] w fun e w' => e = .returned (.tuple #[.int .i64 (numE p).1, .int .i64 (numE p).2]) ∧ Below w.heap.size w w' := by
  have r0 : Blk (w.alloc (.cells #[.int .i64 p.1, .int .i64 p.2.1, .int .i64 p.2.2] 65)) w.heap.size 65 #[.int .i64 p.1, .int .i64 p.2.1, .int .i64 p.2.2] := Blk.new _ _ _
  have k0 : Below w.heap.size w (w.alloc (.cells #[.int .i64 p.1, .int .i64 p.2.1, .int .i64 p.2.2] 65)) := by repeat (first | exact Below.refl _ _ | refine below_drewN ?_ _ | refine Below.drew ?_ | refine below_alloc ?_ _ | (refine below_call ?_ (by assumption)) | (refine Below.setCell ?_ ?_ _; rotate_left; (simp; try omega)))
  by_cases h : pchk p = 0
  · obtain ⟨h0, h1, h2, h3, _, _⟩ := pchk_ok h
    have hb : (pchk p != 0) = false := by simpa using h
    have E := Lib.hid (show numE p = (7 * p.2.1 + p.1, 0) by unfold numE numP; rw [if_neg (by rw [h]; exact fun h => h rfl)])
    obtain ⟨a, b, c⟩ := p
    simp only at h0 h1 h2 h3 E hb
    clear h
    go_enter Try.func85, Try.ntmps85
    go_wp2_with (first | (go_at_call 91; refine (refPcheck_any (_, _, _) _).mono ?_; rintro e wn ⟨rfl, hbn⟩; replace rn := Blk.kept (by with_reducible first | exact rn | exact r0 | exact rn.alloc _ | exact r0.alloc _ | exact (rn.alloc _).alloc _ | exact (r0.alloc _).alloc _) hbn; replace en := rn.cell; replace gn := rn.frozen; replace zn := rn.lt; replace kn := below_call (by with_reducible first | exact kn | exact k0 | exact below_alloc kn _ | exact below_alloc k0 _ | exact below_alloc (below_alloc kn _) _ | exact below_alloc (below_alloc k0 _) _) hbn; clear hbn))
    go_ret2
    rw [E.out]
    exact ⟨rfl, by repeat (first | exact Below.refl _ _ | assumption | refine below_drewN ?_ _ | refine Below.drew ?_ | refine below_alloc ?_ _ | (refine below_call ?_ (by assumption)) | (refine Below.setCell ?_ ?_ _; rotate_left; (simp; try omega)))⟩
  · have hb : (pchk p != 0) = true := by simpa using h
    have E := Lib.hid (show numE p = (0, pchk p) by unfold numE; rw [if_pos h])
    obtain ⟨a, b, c⟩ := p
    clear h
    go_enter Try.func85, Try.ntmps85
    go_wp2_with (first | (go_at_call 91; refine (refPcheck_any (_, _, _) _).mono ?_; rintro e wn ⟨rfl, hbn⟩; replace rn := Blk.kept (by with_reducible first | exact rn | exact r0 | exact rn.alloc _ | exact r0.alloc _ | exact (rn.alloc _).alloc _ | exact (r0.alloc _).alloc _) hbn; replace en := rn.cell; replace gn := rn.frozen; replace zn := rn.lt; replace kn := below_call (by with_reducible first | exact kn | exact k0 | exact below_alloc kn _ | exact below_alloc k0 _ | exact below_alloc (below_alloc kn _) _ | exact below_alloc (below_alloc k0 _) _) hbn; clear hbn))
    go_ret2
    rw [E.out]
    exact ⟨rfl, by repeat (first | exact Below.refl _ _ | assumption | refine below_drewN ?_ _ | refine Below.drew ?_ | refine below_alloc ?_ _ | (refine below_call ?_ (by assumption)) | (refine Below.setCell ?_ ?_ _; rotate_left; (simp; try omega)))⟩
end Go.Proofs.Ytbljfaocmeeljaa
