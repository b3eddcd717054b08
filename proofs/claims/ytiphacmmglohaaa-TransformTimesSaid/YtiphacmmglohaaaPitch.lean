/- The walks through the functions on pitches, the program's and the reference's: numbers, moved and mirrored pitches. -/
import Derived.Test.YtiphacmmglohaaaEvent
namespace Go.Proofs.Ytiphacmmglohaaa
open Go.RowKit
@[reducible] def vPE (x : (Int × Int × Int) × Int) : Value := .tuple #[.agg #[.int .i64 x.1.1, .int .i64 x.1.2.1, .int .i64 x.1.2.2], .int .i64 x.2]
theorem vPE_ret {x : (Int × Int × Int) × Int} {a b c e : Int} (h : ((a, b, c), e) = x) : Ending.returned (.tuple #[.agg #[.int .i64 a, .int .i64 b, .int .i64 c], .int .i64 e]) = .returned (vPE x) := by subst h; rfl
theorem pchk_ok {p : Int × Int × Int} (h : pchk p = 0) : 0 ≤ p.1 ∧ p.1 ≤ 6 ∧ 0 ≤ p.2.1 ∧ p.2.1 ≤ 8 ∧ -1 ≤ p.2.2 ∧ p.2.2 ≤ 1 := by
  unfold pchk at h
  split at h
  · cases h
  · omega
theorem numP_ok {p : Int × Int × Int} (h : pchk p = 0) : 0 ≤ numP p ∧ numP p ≤ 62 := by have := pchk_ok h; unfold numP; omega
set_option maxHeartbeats 400000 in
theorem of_any' (a b c : Int) (w : World) (a0 : 0 ≤ a) (a1 : a ≤ 6) (b0 : 0 ≤ b) (b1 : b ≤ 8) :
    Calls Try.prog 81 #[.agg #[.int .i64 a, .int .i64 b, .int .i64 c]] w fun e w' => e = .returned (.agg #[.int .i64 (7 * b + a), .int .i64 c]) ∧ Below w.heap.size w w' := by
  go_enter Try.func81, Try.ntmps81
  go_wp2
  refine ret_of (by simp [results, Try.results81, go_sem, *]; repeat' (first | rfl | apply And.intro)) rfl ⟨rfl, ?_⟩
  repeat (first | exact Below.refl _ _ | refine below_drewN ?_ _ | refine Below.drew ?_ | refine below_alloc ?_ _ | (refine below_call ?_ (by assumption)) | (refine Below.setCell ?_ ?_ _; rotate_left; (simp; try omega)))
set_option maxHeartbeats 400000 in
theorem tone_any (n a : Int) (w : World) :
    Calls Try.prog 82 #[.agg #[.int .i64 n, .int .i64 a]] w fun e w' => e = .returned (vPE (ofP n a)) ∧ Below w.heap.size w w' := by
  go_enter Try.func82, Try.ntmps82
  go_wp2
  all_goals
    refine ret_of (by simp [results, Try.results82, go_sem, *]; repeat' (first | rfl | apply And.intro)) rfl ⟨?_, ?_⟩
    · unfold ofP; first | rw [if_pos (by omega)] | rw [if_neg (by omega)]
    · repeat (first | exact Below.refl _ _ | refine below_drewN ?_ _ | refine Below.drew ?_ | refine below_alloc ?_ _ | (refine below_call ?_ (by assumption)) | (refine Below.setCell ?_ ?_ _; rotate_left; (simp; try omega)))
set_option maxHeartbeats 400000 in
theorem refOf_any (n a : Int) (w : World) :
    Calls Try.prog 84 #[.int .i64 n, .int .i64 a] w fun e w' => e = .returned (vPE (ofP n a)) ∧ Below w.heap.size w w' := by
  go_enter Try.func84, Try.ntmps84
  go_wp2
  all_goals
    refine ret_of (by simp [results, Try.results84, go_sem, *]; repeat' (first | rfl | apply And.intro)) rfl ⟨?_, ?_⟩
    · unfold ofP; first | rw [if_pos (by omega)] | rw [if_neg (by omega)]
    · repeat (first | exact Below.refl _ _ | refine below_drewN ?_ _ | refine Below.drew ?_ | refine below_alloc ?_ _ | (refine below_call ?_ (by assumption)) | (refine Below.setCell ?_ ?_ _; rotate_left; (simp; try omega)))
/-- A number and an error. -/
def numE (p : Int × Int × Int) : Int × Int := if pchk p ≠ 0 then (0, pchk p) else (numP p, 0)
set_option maxHeartbeats 400000 in
theorem refNumber_any (p : Int × Int × Int) (w : World) :
    Calls Try.prog 83 #[vP p] w fun e w' => e = .returned (.tuple #[.int .i64 (numE p).1, .int .i64 (numE p).2]) ∧ Below w.heap.size w w' := by
  have r0 : Blk (w.alloc (.cells #[.int .i64 p.1, .int .i64 p.2.1, .int .i64 p.2.2] 35)) w.heap.size 35 #[.int .i64 p.1, .int .i64 p.2.1, .int .i64 p.2.2] := Blk.new _ _ _
  have k0 : Below w.heap.size w (w.alloc (.cells #[.int .i64 p.1, .int .i64 p.2.1, .int .i64 p.2.2] 35)) := by repeat (first | exact Below.refl _ _ | refine below_drewN ?_ _ | refine Below.drew ?_ | refine below_alloc ?_ _ | (refine below_call ?_ (by assumption)) | (refine Below.setCell ?_ ?_ _; rotate_left; (simp; try omega)))
  by_cases h : pchk p = 0
  · obtain ⟨h0, h1, h2, h3, _, _⟩ := pchk_ok h
    have hb : (pchk p != 0) = false := by simpa using h
    have E := Lib.hid (show numE p = (7 * p.2.1 + p.1, 0) by unfold numE numP; rw [if_neg (by rw [h]; exact fun h => h rfl)])
    obtain ⟨a, b, c⟩ := p
    simp only at h0 h1 h2 h3 E hb
    clear h
    go_enter Try.func83, Try.ntmps83
    go_wp2_with (first | (go_at_call 63; refine (refPcheck_any (_, _, _) _).mono ?_; rintro e wn ⟨rfl, hbn⟩; replace rn := Blk.kept (by with_reducible first | exact rn | exact r0 | exact rn.alloc _ | exact r0.alloc _ | exact (rn.alloc _).alloc _ | exact (r0.alloc _).alloc _) hbn; replace en := rn.cell; replace gn := rn.frozen; replace zn := rn.lt; replace kn := below_call (by with_reducible first | exact kn | exact k0 | exact below_alloc kn _ | exact below_alloc k0 _ | exact below_alloc (below_alloc kn _) _ | exact below_alloc (below_alloc k0 _) _) hbn; clear hbn))
    go_ret2
    rw [E.out]
    exact ⟨rfl, by repeat (first | exact Below.refl _ _ | assumption | refine below_drewN ?_ _ | refine Below.drew ?_ | refine below_alloc ?_ _ | (refine below_call ?_ (by assumption)) | (refine Below.setCell ?_ ?_ _; rotate_left; (simp; try omega)))⟩
  · have hb : (pchk p != 0) = true := by simpa using h
    have E := Lib.hid (show numE p = (0, pchk p) by unfold numE; rw [if_pos h])
    obtain ⟨a, b, c⟩ := p
    clear h
    go_enter Try.func83, Try.ntmps83
    go_wp2_with (first | (go_at_call 63; refine (refPcheck_any (_, _, _) _).mono ?_; rintro e wn ⟨rfl, hbn⟩; replace rn := Blk.kept (by with_reducible first | exact rn | exact r0 | exact rn.alloc _ | exact r0.alloc _ | exact (rn.alloc _).alloc _ | exact (r0.alloc _).alloc _) hbn; replace en := rn.cell; replace gn := rn.frozen; replace zn := rn.lt; replace kn := below_call (by with_reducible first | exact kn | exact k0 | exact below_alloc kn _ | exact below_alloc k0 _ | exact below_alloc (below_alloc kn _) _ | exact below_alloc (below_alloc k0 _) _) hbn; clear hbn))
    go_ret2
    rw [E.out]
    exact ⟨rfl, by repeat (first | exact Below.refl _ _ | assumption | refine below_drewN ?_ _ | refine Below.drew ?_ | refine below_alloc ?_ _ | (refine below_call ?_ (by assumption)) | (refine Below.setCell ?_ ?_ _; rotate_left; (simp; try omega)))⟩
set_option maxRecDepth 100000 in
set_option maxHeartbeats 1000000 in
theorem pmove_any (p : Int × Int × Int) (steps : Int) (w : World) :
    Calls Try.prog 66 #[vP p, .int .i64 steps] w fun e w' => e = .returned (vPE (moveP p steps)) ∧ Below w.heap.size w w' := by
  obtain ⟨a, b, c⟩ := p
  have r0 : Blk ((w.alloc (.cells #[.int .i64 a, .int .i64 b, .int .i64 c] 35)).alloc (.cells #[.int .i64 0, .int .i64 0, .int .i64 0] 35)) w.heap.size 35 #[.int .i64 a, .int .i64 b, .int .i64 c] := (Blk.new _ _ _).alloc _
  have s0 : Blk ((w.alloc (.cells #[.int .i64 a, .int .i64 b, .int .i64 c] 35)).alloc (.cells #[.int .i64 0, .int .i64 0, .int .i64 0] 35)) (w.heap.size + 1) 35 #[.int .i64 0, .int .i64 0, .int .i64 0] := Blk.newAt _ _ _ _ (by simp)
  have k0 : Below w.heap.size w ((w.alloc (.cells #[.int .i64 a, .int .i64 b, .int .i64 c] 35)).alloc (.cells #[.int .i64 0, .int .i64 0, .int .i64 0] 35)) := by repeat (first | exact Below.refl _ _ | refine below_drewN ?_ _ | refine Below.drew ?_ | refine below_alloc ?_ _ | (refine below_call ?_ (by assumption)) | (refine Below.setCell ?_ ?_ _; rotate_left; (simp; try omega)))
  by_cases h : pchk (a, b, c) = 0
  · obtain ⟨h0, h1, h2, h3, _, _⟩ := pchk_ok h
    have hb : (pchk (a, b, c) != 0) = false := by simpa using h
    simp only at h0 h1 h2 h3
    by_cases hs : steps < -62 ∨ 62 < steps
    · have E := Lib.hid (show moveP (a, b, c) steps = ((0, 0, 0), 2) by unfold moveP; rw [h, if_neg (fun h => h rfl), if_pos hs])
      clear h
      go_enter Try.func66, Try.ntmps66
      go_wp2_with (first | (go_at_call 59; refine (pcheck_any (_, _, _) _).mono ?_; rintro e wn ⟨rfl, hbn⟩; replace rn := Blk.kept (by with_reducible first | exact rn | exact r0 | exact rn.alloc _ | exact r0.alloc _ | exact (rn.alloc _).alloc _ | exact (r0.alloc _).alloc _) hbn; replace en := rn.cell; replace gn := rn.frozen; replace zn := rn.lt; replace sn := Blk.kept (by with_reducible first | exact sn | exact s0 | exact sn.alloc _ | exact s0.alloc _ | exact (sn.alloc _).alloc _ | exact (s0.alloc _).alloc _) hbn; replace fn := sn.cell; replace hn := sn.frozen; replace yn := sn.lt; replace kn := below_call (by with_reducible first | exact kn | exact k0 | exact below_alloc kn _ | exact below_alloc k0 _ | exact below_alloc (below_alloc kn _) _ | exact below_alloc (below_alloc k0 _) _) hbn; clear hbn))
      all_goals first | (exfalso; omega) | (refine ret_of (by simp [results, Try.results66, go_sem, *]; repeat' (first | rfl | apply And.intro)) rfl ⟨?_, by repeat (first | exact Below.refl _ _ | assumption | refine below_drewN ?_ _ | refine Below.drew ?_ | refine below_alloc ?_ _ | (refine below_call ?_ (by assumption)) | (refine Below.setCell ?_ ?_ _; rotate_left; (simp; try omega)))⟩; rw [E.out])
    · have E := Lib.hid (show moveP (a, b, c) steps = ofP (7 * b + a + steps) c by unfold moveP numP; rw [h, if_neg (fun h => h rfl), if_neg hs])
      have l0 : -62 ≤ steps := by omega
      have l1 : steps ≤ 62 := by omega
      clear h hs
      go_enter Try.func66, Try.ntmps66
      go_wp2_with (first | (go_at_call 59; refine (pcheck_any (_, _, _) _).mono ?_; rintro e wn ⟨rfl, hbn⟩; replace rn := Blk.kept (by with_reducible first | exact rn | exact r0 | exact rn.alloc _ | exact r0.alloc _ | exact (rn.alloc _).alloc _ | exact (r0.alloc _).alloc _) hbn; replace en := rn.cell; replace gn := rn.frozen; replace zn := rn.lt; replace sn := Blk.kept (by with_reducible first | exact sn | exact s0 | exact sn.alloc _ | exact s0.alloc _ | exact (sn.alloc _).alloc _ | exact (s0.alloc _).alloc _) hbn; replace fn := sn.cell; replace hn := sn.frozen; replace yn := sn.lt; replace kn := below_call (by with_reducible first | exact kn | exact k0 | exact below_alloc kn _ | exact below_alloc k0 _ | exact below_alloc (below_alloc kn _) _ | exact below_alloc (below_alloc k0 _) _) hbn; clear hbn) | (go_at_call 81; refine (of_any' _ _ _ _ h0 h1 h2 h3).mono ?_; rintro e wn ⟨rfl, hbn⟩; replace rn := Blk.kept (by with_reducible first | exact rn | exact r0 | exact rn.alloc _ | exact r0.alloc _ | exact (rn.alloc _).alloc _ | exact (r0.alloc _).alloc _) hbn; replace en := rn.cell; replace gn := rn.frozen; replace zn := rn.lt; replace sn := Blk.kept (by with_reducible first | exact sn | exact s0 | exact sn.alloc _ | exact s0.alloc _ | exact (sn.alloc _).alloc _ | exact (s0.alloc _).alloc _) hbn; replace fn := sn.cell; replace hn := sn.frozen; replace yn := sn.lt; replace kn := below_call (by with_reducible first | exact kn | exact k0 | exact below_alloc kn _ | exact below_alloc k0 _ | exact below_alloc (below_alloc kn _) _ | exact below_alloc (below_alloc k0 _) _) hbn; clear hbn) | (go_at_call 82; refine (tone_any _ _ _).mono ?_; rintro e wn ⟨rfl, hbn⟩; replace rn := Blk.kept (by with_reducible first | exact rn | exact r0 | exact rn.alloc _ | exact r0.alloc _ | exact (rn.alloc _).alloc _ | exact (r0.alloc _).alloc _) hbn; replace en := rn.cell; replace gn := rn.frozen; replace zn := rn.lt; replace sn := Blk.kept (by with_reducible first | exact sn | exact s0 | exact sn.alloc _ | exact s0.alloc _ | exact (sn.alloc _).alloc _ | exact (s0.alloc _).alloc _) hbn; replace fn := sn.cell; replace hn := sn.frozen; replace yn := sn.lt; replace kn := below_call (by with_reducible first | exact kn | exact k0 | exact below_alloc kn _ | exact below_alloc k0 _ | exact below_alloc (below_alloc kn _) _ | exact below_alloc (below_alloc k0 _) _) hbn; clear hbn))
      refine ret_of (by simp [results, Try.results66, go_sem, *]; repeat' (first | rfl | apply And.intro)) rfl ⟨?_, by repeat (first | exact Below.refl _ _ | assumption | refine below_drewN ?_ _ | refine Below.drew ?_ | refine below_alloc ?_ _ | (refine below_call ?_ (by assumption)) | (refine Below.setCell ?_ ?_ _; rotate_left; (simp; try omega)))⟩
      rw [E.out]
  · have hb : (pchk (a, b, c) != 0) = true := by simpa using h
    have E := Lib.hid (show moveP (a, b, c) steps = ((0, 0, 0), pchk (a, b, c)) by unfold moveP; rw [if_pos h])
    clear h
    go_enter Try.func66, Try.ntmps66
    go_wp2_with (first | (go_at_call 59; refine (pcheck_any (_, _, _) _).mono ?_; rintro e wn ⟨rfl, hbn⟩; replace rn := Blk.kept (by with_reducible first | exact rn | exact r0 | exact rn.alloc _ | exact r0.alloc _ | exact (rn.alloc _).alloc _ | exact (r0.alloc _).alloc _) hbn; replace en := rn.cell; replace gn := rn.frozen; replace zn := rn.lt; replace sn := Blk.kept (by with_reducible first | exact sn | exact s0 | exact sn.alloc _ | exact s0.alloc _ | exact (sn.alloc _).alloc _ | exact (s0.alloc _).alloc _) hbn; replace fn := sn.cell; replace hn := sn.frozen; replace yn := sn.lt; replace kn := below_call (by with_reducible first | exact kn | exact k0 | exact below_alloc kn _ | exact below_alloc k0 _ | exact below_alloc (below_alloc kn _) _ | exact below_alloc (below_alloc k0 _) _) hbn; clear hbn))
    refine ret_of (by simp [results, Try.results66, go_sem, *]; repeat' (first | rfl | apply And.intro)) rfl ⟨?_, by repeat (first | exact Below.refl _ _ | assumption | refine below_drewN ?_ _ | refine Below.drew ?_ | refine below_alloc ?_ _ | (refine below_call ?_ (by assumption)) | (refine Below.setCell ?_ ?_ _; rotate_left; (simp; try omega)))⟩
    rw [E.out]
set_option maxRecDepth 100000 in
set_option maxHeartbeats 1000000 in
theorem refMove_any (p : Int × Int × Int) (steps : Int) (w : World) :
    Calls Try.prog 67 #[vP p, .int .i64 steps] w fun e w' => e = .returned (vPE (moveP p steps)) ∧ Below w.heap.size w w' := by
  obtain ⟨a, b, c⟩ := p
  have r0 : Blk ((w.alloc (.cells #[.int .i64 a, .int .i64 b, .int .i64 c] 35)).alloc (.cells #[.int .i64 0, .int .i64 0, .int .i64 0] 35)) w.heap.size 35 #[.int .i64 a, .int .i64 b, .int .i64 c] := (Blk.new _ _ _).alloc _
  have s0 : Blk ((w.alloc (.cells #[.int .i64 a, .int .i64 b, .int .i64 c] 35)).alloc (.cells #[.int .i64 0, .int .i64 0, .int .i64 0] 35)) (w.heap.size + 1) 35 #[.int .i64 0, .int .i64 0, .int .i64 0] := Blk.newAt _ _ _ _ (by simp)
  have k0 : Below w.heap.size w ((w.alloc (.cells #[.int .i64 a, .int .i64 b, .int .i64 c] 35)).alloc (.cells #[.int .i64 0, .int .i64 0, .int .i64 0] 35)) := by repeat (first | exact Below.refl _ _ | refine below_drewN ?_ _ | refine Below.drew ?_ | refine below_alloc ?_ _ | (refine below_call ?_ (by assumption)) | (refine Below.setCell ?_ ?_ _; rotate_left; (simp; try omega)))
  by_cases h : pchk (a, b, c) = 0
  · obtain ⟨h0, h1, h2, h3, _, _⟩ := pchk_ok h
    simp only at h0 h1 h2 h3
    have N := Lib.hid (show numE (a, b, c) = (7 * b + a, 0) by unfold numE numP; rw [h]; rfl)
    by_cases hs : steps < -(7 * b + a) ∨ 62 - (7 * b + a) < steps
    · have E := Lib.hid (show moveP (a, b, c) steps = ((0, 0, 0), 2) by
        unfold moveP numP; rw [h, if_neg (fun h => h rfl)]
        split
        · rfl
        · unfold ofP; rw [if_pos (by simp only; omega)])
      clear h
      go_enter Try.func67, Try.ntmps67
      go_wp2_with (first | (go_at_call 83; have hq := refNumber_any (a, b, c); rw [N.out] at hq; refine (hq _).mono ?_; clear hq; rintro e wn ⟨rfl, hbn⟩; have rn := r0.kept hbn; have en := rn.cell; have gn := rn.frozen; have zn := rn.lt; have sn := s0.kept hbn; have fn := sn.cell; have hn := sn.frozen; have yn := sn.lt; have kn := below_call k0 hbn; clear hbn))
      all_goals first | (exfalso; omega) | (refine ret_of (by simp [results, Try.results67, go_sem, *]; repeat' (first | rfl | apply And.intro)) rfl ⟨?_, by repeat (first | exact Below.refl _ _ | assumption | refine below_drewN ?_ _ | refine Below.drew ?_ | refine below_alloc ?_ _ | (refine below_call ?_ (by assumption)) | (refine Below.setCell ?_ ?_ _; rotate_left; (simp; try omega)))⟩; rw [E.out])
    · have E := Lib.hid (show moveP (a, b, c) steps = ofP (7 * b + a + steps) c by unfold moveP numP; rw [h, if_neg (fun h => h rfl), if_neg (by omega)])
      have l0 : -(7 * b + a) ≤ steps := by omega
      have l1 : steps ≤ 62 - (7 * b + a) := by omega
      clear h hs
      go_enter Try.func67, Try.ntmps67
      go_wp2_with (first | (go_at_call 83; have hq := refNumber_any (a, b, c); rw [N.out] at hq; refine (hq _).mono ?_; clear hq; rintro e wn ⟨rfl, hbn⟩; have rn := r0.kept hbn; have en := rn.cell; have gn := rn.frozen; have zn := rn.lt; have sn := s0.kept hbn; have fn := sn.cell; have hn := sn.frozen; have yn := sn.lt; have kn := below_call k0 hbn; clear hbn) | (go_at_call 84; refine (refOf_any _ _ _).mono ?_; rintro e wn ⟨rfl, hbn⟩; replace rn := Blk.kept (by with_reducible first | exact rn | exact r0 | exact rn.alloc _ | exact r0.alloc _ | exact (rn.alloc _).alloc _ | exact (r0.alloc _).alloc _) hbn; replace en := rn.cell; replace gn := rn.frozen; replace zn := rn.lt; replace sn := Blk.kept (by with_reducible first | exact sn | exact s0 | exact sn.alloc _ | exact s0.alloc _ | exact (sn.alloc _).alloc _ | exact (s0.alloc _).alloc _) hbn; replace fn := sn.cell; replace hn := sn.frozen; replace yn := sn.lt; replace kn := below_call (by with_reducible first | exact kn | exact k0 | exact below_alloc kn _ | exact below_alloc k0 _ | exact below_alloc (below_alloc kn _) _ | exact below_alloc (below_alloc k0 _) _) hbn; clear hbn))
      all_goals first | (exfalso; omega) | (refine ret_of (by simp [results, Try.results67, go_sem, *]; repeat' (first | rfl | apply And.intro)) rfl ⟨?_, by repeat (first | exact Below.refl _ _ | assumption | refine below_drewN ?_ _ | refine Below.drew ?_ | refine below_alloc ?_ _ | (refine below_call ?_ (by assumption)) | (refine Below.setCell ?_ ?_ _; rotate_left; (simp; try omega)))⟩; rw [E.out])
  · have N := Lib.hid (show numE (a, b, c) = (0, pchk (a, b, c)) by unfold numE; rw [if_pos h])
    have hb : (pchk (a, b, c) != 0) = true := by simpa using h
    have E := Lib.hid (show moveP (a, b, c) steps = ((0, 0, 0), pchk (a, b, c)) by unfold moveP; rw [if_pos h])
    clear h
    go_enter Try.func67, Try.ntmps67
    go_wp2_with (first | (go_at_call 83; have hq := refNumber_any (a, b, c); rw [N.out] at hq; refine (hq _).mono ?_; clear hq; rintro e wn ⟨rfl, hbn⟩; have rn := r0.kept hbn; have en := rn.cell; have gn := rn.frozen; have zn := rn.lt; have sn := s0.kept hbn; have fn := sn.cell; have hn := sn.frozen; have yn := sn.lt; have kn := below_call k0 hbn; clear hbn))
    refine ret_of (by simp [results, Try.results67, go_sem, *]; repeat' (first | rfl | apply And.intro)) rfl ⟨?_, by repeat (first | exact Below.refl _ _ | assumption | refine below_drewN ?_ _ | refine Below.drew ?_ | refine below_alloc ?_ _ | (refine below_call ?_ (by assumption)) | (refine Below.setCell ?_ ?_ _; rotate_left; (simp; try omega)))⟩
    rw [E.out]
end Go.Proofs.Ytiphacmmglohaaa
