/- The walks through the mirrored pitches, the program's and the reference's. -/
import Derived.Test.YtiphacmmglohaaaPitch
namespace Go.Proofs.Ytiphacmmglohaaa
open Go.RowKit
theorem mirror_both (p q : Int × Int × Int) (h : pchk p = 0) (h' : pchk q = 0) : mirrorP p q = ofP (2 * numP q - numP p) (-p.2.2) := by
  unfold mirrorP; rw [h, h', if_neg (fun h => h rfl), if_neg (fun h => h rfl)]
theorem mirror_first (p q : Int × Int × Int) (h : pchk p ≠ 0) : mirrorP p q = ((0, 0, 0), pchk p) := by unfold mirrorP; rw [if_pos h]
theorem mirror_second (p q : Int × Int × Int) (h : pchk p = 0) (h' : pchk q ≠ 0) : mirrorP p q = ((0, 0, 0), pchk q) := by
  unfold mirrorP; rw [h, if_neg (fun h => h rfl), if_pos h']
set_option maxRecDepth 100000 in
set_option maxHeartbeats 1000000 in
theorem pmirror_any (p q : Int × Int × Int) (w : World) :
    Calls Try.prog 62 #[vP p, vP q] w fun e w' => e = .returned (vPE (mirrorP p q)) ∧ Below w.heap.size w w' := by
  obtain ⟨a, b, c⟩ := p
  obtain ⟨a', b', c'⟩ := q
  have i0 : ∀ w, (Instr.index 81 (.agg #[.int .i64 a, .int .i64 b, .int .i64 c, .int .i64 a', .int .i64 b', .int .i64 c']) (.int .i64 0)).run Try.prog w = .ok (.agg #[.int .i64 a, .int .i64 b, .int .i64 c]) w := fun _ => by kernel_rfl
  have i1 : ∀ w, (Instr.index 81 (.agg #[.int .i64 a, .int .i64 b, .int .i64 c, .int .i64 a', .int .i64 b', .int .i64 c']) (.int .i64 1)).run Try.prog w = .ok (.agg #[.int .i64 a', .int .i64 b', .int .i64 c']) w := fun _ => by kernel_rfl
  go_enter Try.func62, Try.ntmps62
  go_wp2
  go_loopw [7, 8, 13] (fun _ _ i wr => ∃ k : Nat, k ≤ 2 ∧ i = .int .i64 k ∧ Hid (1 ≤ k → pchk (a, b, c) = 0) ∧ Hid (2 ≤ k → pchk (a', b', c') = 0) ∧ Below w.heap.size w wr ∧ Blk wr w.heap.size 35 #[.int .i64 a, .int .i64 b, .int .i64 c] ∧ Blk wr (w.heap.size + 1) 35 #[.int .i64 a', .int .i64 b', .int .i64 c'] ∧ Blk wr (w.heap.size + 1 + 1) 35 #[.int .i64 0, .int .i64 0, .int .i64 0]) (fun _ _ i _ => 2 - (intOf i).toNat)
  case atStart => exact ⟨0, by omega, rfl, Lib.hid (fun h => absurd h (by omega)), Lib.hid (fun h => absurd h (by omega)), by repeat (first | exact Below.refl _ _ | refine below_drewN ?_ _ | refine Below.drew ?_ | refine below_alloc ?_ _ | (refine below_call ?_ (by assumption)) | (refine Below.setCell ?_ ?_ _; rotate_left; (simp; try omega))), ((Blk.new _ _ _).alloc _).alloc _, Blk.alloc (Blk.newAt _ _ _ _ (by simp)) _, Blk.newAt _ _ _ _ (by simp)⟩
  case round =>
    obtain ⟨k, hk, rfl, g0, g1, k0, r0, s0, q0⟩ := hrel
    have en := r0.cell; have gn := r0.frozen; have zn := r0.lt
    have fn := s0.cell; have hn := s0.frozen; have yn := s0.lt
    have qn := q0.cell; have un := q0.frozen; have vn := q0.lt
    match k, hk with
    | 0, _ =>
      rw [show ((0 : Nat) : Int) = 0 by rfl]
      go_wp2_with (go_at_call 59; refine (pcheck_any (_, _, _) _).mono ?_; rintro e w1 ⟨rfl, hb1⟩; have r2 := (r0.alloc _).kept hb1; have s2 := (s0.alloc _).kept hb1; have q2 := (q0.alloc _).kept hb1; have k2 := below_call (below_alloc k0 _) hb1; have cq := q2.cell; have fq := q2.frozen; have vq := q2.lt)
      · refine ret_of (by simp [results, Try.results62, go_sem, *]; repeat' (first | rfl | apply And.intro)) rfl ⟨vPE_ret ?_, by repeat (first | exact Below.refl _ _ | assumption | refine below_drewN ?_ _ | refine Below.drew ?_ | refine below_alloc ?_ _ | (refine below_call ?_ (by assumption)) | (refine Below.setCell ?_ ?_ _; rotate_left; (simp; try omega)))⟩
        have h0 : (pchk (a, b, c) != 0) = true := by assumption
        rw [mirror_first _ _ (by simpa using h0)]
      · go_roundw
        case rel =>
          have h0 : (pchk (a, b, c) != 0) = false := by assumption
          exact ⟨1, by omega, rfl, Lib.hid (fun _ => by simpa using h0), Lib.hid (fun h => absurd h (by omega)), by repeat (first | exact Below.refl _ _ | assumption | refine below_drewN ?_ _ | refine Below.drew ?_ | refine below_alloc ?_ _ | (refine below_call ?_ (by assumption)) | (refine Below.setCell ?_ ?_ _; rotate_left; (simp; try omega))), r2, s2, q2⟩
        case measure => simp [intOf]
    | 1, _ =>
      rw [show ((1 : Nat) : Int) = 1 by rfl]
      have g0' := g0.out (by omega)
      have G0 := Lib.hid g0'; clear g0'
      go_wp2_with (go_at_call 59; refine (pcheck_any (_, _, _) _).mono ?_; rintro e w1 ⟨rfl, hb1⟩; have r2 := (r0.alloc _).kept hb1; have s2 := (s0.alloc _).kept hb1; have q2 := (q0.alloc _).kept hb1; have k2 := below_call (below_alloc k0 _) hb1; have cq := q2.cell; have fq := q2.frozen; have vq := q2.lt)
      · refine ret_of (by simp [results, Try.results62, go_sem, *]; repeat' (first | rfl | apply And.intro)) rfl ⟨vPE_ret ?_, by repeat (first | exact Below.refl _ _ | assumption | refine below_drewN ?_ _ | refine Below.drew ?_ | refine below_alloc ?_ _ | (refine below_call ?_ (by assumption)) | (refine Below.setCell ?_ ?_ _; rotate_left; (simp; try omega)))⟩
        have h0 : (pchk (a', b', c') != 0) = true := by assumption
        rw [mirror_second _ _ G0.out (by simpa using h0)]
      · go_roundw
        case rel =>
          have h0 : (pchk (a', b', c') != 0) = false := by assumption
          exact ⟨2, by omega, rfl, Lib.hid (fun _ => G0.out), Lib.hid (fun _ => by simpa using h0), by repeat (first | exact Below.refl _ _ | assumption | refine below_drewN ?_ _ | refine Below.drew ?_ | refine below_alloc ?_ _ | (refine below_call ?_ (by assumption)) | (refine Below.setCell ?_ ?_ _; rotate_left; (simp; try omega))), r2, s2, q2⟩
        case measure => simp [intOf]
    | 2, _ =>
      rw [show ((2 : Nat) : Int) = 2 by rfl]
      have E := Lib.hid (mirror_both _ _ (g0.out (by omega)) (g1.out (by omega)))
      obtain ⟨h0, h1, h2, h3, h4, h5⟩ := pchk_ok (g0.out (by omega))
      obtain ⟨h0', h1', h2', h3', _, _⟩ := pchk_ok (g1.out (by omega))
      simp only at h0 h1 h2 h3 h4 h5 h0' h1' h2' h3'
      go_wp2_with (go_at_call 81; refine (of_any' _ _ _ _ h0 h1 h2 h3).mono ?_; rintro e w1 ⟨rfl, hb1⟩; have r2 := r0.kept hb1; have s2 := s0.kept hb1; have q2 := q0.kept hb1; have k2 := below_call k0 hb1)
      have t2 : Blk (w1.alloc (.cells #[.int .i64 (7 * b + a), .int .i64 c] 83)) w1.heap.size 83 #[.int .i64 (7 * b + a), .int .i64 c] := Blk.new _ _ _
      have cs := s2.cell; have fs := s2.frozen; have vs := s2.lt
      have vs' : w.heap.size + 1 < w1.heap.size + 1 := by omega
      have e1 : IntKind.i64.wrap (2 * (7 * b' + a')) = 2 * (7 * b' + a') := IntWalk.i64_in _ (by omega)
      have e2 : IntKind.i64.wrap (2 * (7 * b' + a') - (7 * b + a)) = 2 * (7 * b' + a') - (7 * b + a) := IntWalk.i64_in _ (by omega)
      have e3 : IntKind.i64.wrap (-c) = -c := IntWalk.i64_in _ (by omega)
      have hfd : ∀ (w : World) (x y : Value), (Instr.field 83 (.agg #[x, y]) 0).run Try.prog w = .ok x w := fun _ _ _ => by kernel_rfl
      refine wp_region_calm_tail 14 (by kernel_rfl) (by kernel_rfl) ?_
      simp only [List.take_succ_cons, List.take_zero, List.drop_succ_cons, List.drop_zero]
      repeat (go_big_quiet_step ((first | (go_at_call 81; exact calm_call (of_any' _ _ _ _ h0' h1' h2' h3')) | (go_at_call 82; exact calm_call (tone_any _ _ _)))))
      refine wpQuiet_nil ?_
      intro w2 hb2
      have q3 := (q2.alloc _).kept hb2
      have cq := q3.cell; have fq := q3.frozen; have vq := q3.lt
      go_wp2
      refine ret_of (by simp [results, Try.results62, go_sem, *]; repeat' (first | rfl | apply And.intro)) rfl ⟨?_, by repeat (first | exact Below.refl _ _ | assumption | refine below_drewN ?_ _ | refine Below.drew ?_ | refine below_alloc ?_ _ | (refine below_call ?_ (by assumption)) | (refine Below.setCell ?_ ?_ _; rotate_left; (simp; try omega)))⟩
      rw [E.out]
      rfl
    | k + 3, h => exact absurd h (by omega)
set_option maxRecDepth 100000 in
set_option maxHeartbeats 1000000 in
theorem refMirror_any (p q : Int × Int × Int) (w : World) :
    Calls Try.prog 64 #[vP p, vP q] w fun e w' => e = .returned (vPE (mirrorP p q)) ∧ Below w.heap.size w w' := by
  obtain ⟨a, b, c⟩ := p
  obtain ⟨a', b', c'⟩ := q
  have r0 : Blk (((w.alloc (.cells #[.int .i64 a, .int .i64 b, .int .i64 c] 35)).alloc (.cells #[.int .i64 a', .int .i64 b', .int .i64 c'] 35)).alloc (.cells #[.int .i64 0, .int .i64 0, .int .i64 0] 35)) w.heap.size 35 #[.int .i64 a, .int .i64 b, .int .i64 c] := ((Blk.new _ _ _).alloc _).alloc _
  have s0 : Blk (((w.alloc (.cells #[.int .i64 a, .int .i64 b, .int .i64 c] 35)).alloc (.cells #[.int .i64 a', .int .i64 b', .int .i64 c'] 35)).alloc (.cells #[.int .i64 0, .int .i64 0, .int .i64 0] 35)) (w.heap.size + 1) 35 #[.int .i64 a', .int .i64 b', .int .i64 c'] := Blk.alloc (Blk.newAt _ _ _ _ (by simp)) _
  have t0 : Blk (((w.alloc (.cells #[.int .i64 a, .int .i64 b, .int .i64 c] 35)).alloc (.cells #[.int .i64 a', .int .i64 b', .int .i64 c'] 35)).alloc (.cells #[.int .i64 0, .int .i64 0, .int .i64 0] 35)) (w.heap.size + 1 + 1) 35 #[.int .i64 0, .int .i64 0, .int .i64 0] := Blk.newAt _ _ _ _ (by simp)
  have k0 : Below w.heap.size w (((w.alloc (.cells #[.int .i64 a, .int .i64 b, .int .i64 c] 35)).alloc (.cells #[.int .i64 a', .int .i64 b', .int .i64 c'] 35)).alloc (.cells #[.int .i64 0, .int .i64 0, .int .i64 0] 35)) := by repeat (first | exact Below.refl _ _ | refine below_drewN ?_ _ | refine Below.drew ?_ | refine below_alloc ?_ _ | (refine below_call ?_ (by assumption)) | (refine Below.setCell ?_ ?_ _; rotate_left; (simp; try omega)))
  by_cases h : pchk (a, b, c) = 0
  · have N := Lib.hid (show numE (a, b, c) = (7 * b + a, 0) by unfold numE numP; rw [h]; rfl)
    obtain ⟨h0, h1, h2, h3, h4, h5⟩ := pchk_ok h
    simp only at h0 h1 h2 h3 h4 h5
    by_cases h' : pchk (a', b', c') = 0
    · have M := Lib.hid (show numE (a', b', c') = (7 * b' + a', 0) by unfold numE numP; rw [h']; rfl)
      obtain ⟨h0', h1', h2', h3', _, _⟩ := pchk_ok h'
      simp only at h0' h1' h2' h3'
      have E := Lib.hid (mirror_both _ _ h h')
      clear h h'
      go_enter Try.func64, Try.ntmps64
      go_wp2_with fail
      (go_at_call 83; have hq := refNumber_any (a, b, c); rw [N.out] at hq; refine (hq _).mono ?_; clear hq; rintro e wn ⟨rfl, hbn⟩; have rn := r0.kept hbn; have en := rn.cell; have zn := rn.lt; have sn := s0.kept hbn; have fn := sn.cell; have yn := sn.lt; have tn := t0.kept hbn; have ctn := tn.cell; have ftn := tn.frozen; have vtn := tn.lt; have kn := below_call k0 hbn; clear hbn)
      go_wp2_with fail
      (go_at_call 83; have hq := refNumber_any (a', b', c'); rw [M.out] at hq; refine (hq _).mono ?_; clear hq; rintro e wm ⟨rfl, hbm⟩; have rm := rn.kept hbm; have em := rm.cell; have zm := rm.lt; have tm := tn.kept hbm; have ctm := tm.cell; have ftm := tm.frozen; have vtm := tm.lt; have km := below_call kn hbm; clear hbm)
      go_wp2_with fail
      (go_at_call 84; refine (refOf_any _ _ _).mono ?_; rintro e wo ⟨rfl, hbo⟩; have to := tm.kept hbo; have cto := to.cell; have fto := to.frozen; have vto := to.lt; have ko := below_call km hbo; clear hbo)
      go_wp2_with fail
      refine ret_of (by simp [results, Try.results64, go_sem, *]; repeat' (first | rfl | apply And.intro)) rfl ⟨?_, by repeat (first | exact Below.refl _ _ | assumption | refine below_drewN ?_ _ | refine Below.drew ?_ | refine below_alloc ?_ _ | (refine below_call ?_ (by assumption)) | (refine Below.setCell ?_ ?_ _; rotate_left; (simp; try omega)))⟩
      rw [E.out]
      rfl
    · have M := Lib.hid (show numE (a', b', c') = (0, pchk (a', b', c')) by unfold numE; rw [if_pos h'])
      have hb : (pchk (a', b', c') != 0) = true := by simpa using h'
      have E := Lib.hid (mirror_second _ _ h h')
      clear h h'
      go_enter Try.func64, Try.ntmps64
      go_wp2_with fail
      (go_at_call 83; have hq := refNumber_any (a, b, c); rw [N.out] at hq; refine (hq _).mono ?_; clear hq; rintro e wn ⟨rfl, hbn⟩; have rn := r0.kept hbn; have en := rn.cell; have zn := rn.lt; have sn := s0.kept hbn; have fn := sn.cell; have yn := sn.lt; have tn := t0.kept hbn; have ctn := tn.cell; have ftn := tn.frozen; have vtn := tn.lt; have kn := below_call k0 hbn; clear hbn)
      go_wp2_with fail
      (go_at_call 83; have hq := refNumber_any (a', b', c'); rw [M.out] at hq; refine (hq _).mono ?_; clear hq; rintro e wm ⟨rfl, hbm⟩; have rm := rn.kept hbm; have em := rm.cell; have zm := rm.lt; have tm := tn.kept hbm; have ctm := tm.cell; have ftm := tm.frozen; have vtm := tm.lt; have km := below_call kn hbm; clear hbm)
      go_wp2_with fail
      refine ret_of (by simp [results, Try.results64, go_sem, *]; repeat' (first | rfl | apply And.intro)) rfl ⟨?_, by repeat (first | exact Below.refl _ _ | assumption | refine below_drewN ?_ _ | refine Below.drew ?_ | refine below_alloc ?_ _ | (refine below_call ?_ (by assumption)) | (refine Below.setCell ?_ ?_ _; rotate_left; (simp; try omega)))⟩
      rw [E.out]
  · have N := Lib.hid (show numE (a, b, c) = (0, pchk (a, b, c)) by unfold numE; rw [if_pos h])
    have hb : (pchk (a, b, c) != 0) = true := by simpa using h
    have E := Lib.hid (mirror_first _ (a', b', c') h)
    clear h
    go_enter Try.func64, Try.ntmps64
    go_wp2_with fail
    (go_at_call 83; have hq := refNumber_any (a, b, c); rw [N.out] at hq; refine (hq _).mono ?_; clear hq; rintro e wn ⟨rfl, hbn⟩; have rn := r0.kept hbn; have en := rn.cell; have zn := rn.lt; have sn := s0.kept hbn; have fn := sn.cell; have yn := sn.lt; have tn := t0.kept hbn; have ctn := tn.cell; have ftn := tn.frozen; have vtn := tn.lt; have kn := below_call k0 hbn; clear hbn)
    go_wp2_with fail
    refine ret_of (by simp [results, Try.results64, go_sem, *]; repeat' (first | rfl | apply And.intro)) rfl ⟨?_, by repeat (first | exact Below.refl _ _ | assumption | refine below_drewN ?_ _ | refine Below.drew ?_ | refine below_alloc ?_ _ | (refine below_call ?_ (by assumption)) | (refine Below.setCell ?_ ?_ _; rotate_left; (simp; try omega)))⟩
    rw [E.out]
end Go.Proofs.Ytiphacmmglohaaa
