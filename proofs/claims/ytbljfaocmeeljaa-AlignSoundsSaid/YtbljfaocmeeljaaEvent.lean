/- The walks through the checks of pitches and events, the program's and the reference's. -/
import Derived.Test.YtbljfaocmeeljaaSpan
import Derived.Test.YtbljfaocmeeljaaEvMath
import Derived.Test.YtbljfaocmeeljaaTail
namespace Go.Proofs.Ytbljfaocmeeljaa
open Go.RowKit
@[reducible] def vP (p : Int × Int × Int) : Value := .agg #[.int .i64 p.1, .int .i64 p.2.1, .int .i64 p.2.2]
@[reducible] def vTm (t : Int × Int) : Value := .agg #[.int .i64 t.1, .int .i64 t.2]
@[reducible] def vE (x : Ev) : Value := .agg #[.int .i64 x.at_.1, .int .i64 x.at_.2, .int .i64 x.dur.1, .int .i64 x.dur.2, .int .i64 x.pit.1, .int .i64 x.pit.2.1, .int .i64 x.pit.2.2, .bool x.rest, .int .i64 x.sign, .int .i64 x.pass]
/-- The cells of an event, and of a list of events. -/
def cE (x : Ev) : List Value := [.int .i64 x.at_.1, .int .i64 x.at_.2, .int .i64 x.dur.1, .int .i64 x.dur.2, .int .i64 x.pit.1, .int .i64 x.pit.2.1, .int .i64 x.pit.2.2, .bool x.rest, .int .i64 x.sign, .int .i64 x.pass]
def csE (l : List Ev) : List Value := l.flatMap cE

set_option maxHeartbeats 400000 in
theorem pcheck_any (p : Int × Int × Int) (w : World) :
    Calls Try.prog 90 #[vP p] w fun e w' => e = .returned (.int .i64 (pchk p)) ∧ Below w.heap.size w w' := by
  obtain ⟨a, b, c⟩ := p
  go_enter Try.func90, Try.ntmps90
  go_wp2
  all_goals
    go_ret
    refine ⟨ret_int ?_, ?_⟩
    · unfold pchk; first | rw [if_pos (by simp only; omega)] | rw [if_neg (by simp only; omega)]
    · repeat (first | exact Below.refl _ _ | refine below_drewN ?_ _ | refine Below.drew ?_ | refine below_alloc ?_ _ | (refine below_call ?_ (by assumption)) | (refine Below.setCell ?_ ?_ _; rotate_left; (simp; try omega)))
set_option maxHeartbeats 400000 in
theorem refPcheck_any (p : Int × Int × Int) (w : World) :
    Calls Try.prog 91 #[vP p] w fun e w' => e = .returned (.int .i64 (pchk p)) ∧ Below w.heap.size w w' := by
  obtain ⟨a, b, c⟩ := p
  go_enter Try.func91, Try.ntmps91
  go_wp2
  all_goals
    go_ret
    refine ⟨ret_int ?_, ?_⟩
    · unfold pchk; first | rw [if_pos (by simp only; omega)] | rw [if_neg (by simp only; omega)]
    · repeat (first | exact Below.refl _ _ | refine below_drewN ?_ _ | refine Below.drew ?_ | refine below_alloc ?_ _ | (refine below_call ?_ (by assumption)) | (refine Below.setCell ?_ ?_ _; rotate_left; (simp; try omega)))
set_option maxHeartbeats 400000 in
theorem evZero_any (w : World) : Calls Try.prog 69 #[] w fun e w' => e = .returned (.agg #[.int .i64 0, .int .i64 1]) ∧ Below w.heap.size w w' := by
  go_enter Try.func69, Try.ntmps69
  go_wp2
  refine ret_of (by simp [results, Try.results69, go_sem]; repeat' (first | rfl | apply And.intro)) rfl ⟨rfl, ?_⟩
  repeat (first | exact Below.refl _ _ | refine below_drewN ?_ _ | refine Below.drew ?_ | refine below_alloc ?_ _ | (refine below_call ?_ (by assumption)) | (refine Below.setCell ?_ ?_ _; rotate_left; (simp; try omega)))
set_option maxRecDepth 100000 in
set_option maxHeartbeats 1000000 in
theorem refOne_any (x : Ev) (t : Int × Int) (w : World) :
    Calls Try.prog 71 #[vE x, vTm t] w fun e w' => e = .returned (.int .i64 (stepS t x)) ∧ Below w.heap.size w w' := by
  obtain ⟨⟨a, a'⟩, ⟨d, d'⟩, ⟨p, q, r⟩, rst, sg, ps⟩ := x
  obtain ⟨t, t'⟩ := t
  have r0 : Blk ((w.alloc (.cells #[.int .i64 a, .int .i64 a', .int .i64 d, .int .i64 d', .int .i64 p, .int .i64 q, .int .i64 r, .bool rst, .int .i64 sg, .int .i64 ps] 67)).alloc (.cells #[.int .i64 t, .int .i64 t'] 34)) w.heap.size 67 #[.int .i64 a, .int .i64 a', .int .i64 d, .int .i64 d', .int .i64 p, .int .i64 q, .int .i64 r, .bool rst, .int .i64 sg, .int .i64 ps] := (Blk.new w _ _).alloc _
  have k0 : Below w.heap.size w ((w.alloc (.cells #[.int .i64 a, .int .i64 a', .int .i64 d, .int .i64 d', .int .i64 p, .int .i64 q, .int .i64 r, .bool rst, .int .i64 sg, .int .i64 ps] 67)).alloc (.cells #[.int .i64 t, .int .i64 t'] 34)) := by repeat (first | exact Below.refl _ _ | refine below_drewN ?_ _ | refine Below.drew ?_ | refine below_alloc ?_ _ | (refine below_call ?_ (by assumption)) | (refine Below.setCell ?_ ?_ _; rotate_left; (simp; try omega)))
  have s0 : Blk ((w.alloc (.cells #[.int .i64 a, .int .i64 a', .int .i64 d, .int .i64 d', .int .i64 p, .int .i64 q, .int .i64 r, .bool rst, .int .i64 sg, .int .i64 ps] 67)).alloc (.cells #[.int .i64 t, .int .i64 t'] 34)) (w.heap.size + 1) 34 #[.int .i64 t, .int .i64 t'] := Blk.newAt _ _ _ _ (by simp)
  dsimp only [vE, vTm, vP]
  go_enter Try.func71, Try.ntmps71
  go_wp2_with (first | (go_at_call 59; refine (refCheck_any _ _ _).mono ?_; rintro e wn ⟨rfl, hbn⟩; replace rn := Blk.kept (by with_reducible first | exact rn | exact r0 | exact rn.alloc _ | exact r0.alloc _ | exact (rn.alloc _).alloc _ | exact (r0.alloc _).alloc _) hbn; replace en := rn.cell; replace gn := rn.frozen; replace zn := rn.lt; replace sn := Blk.kept (by with_reducible first | exact sn | exact s0 | exact sn.alloc _ | exact s0.alloc _ | exact (sn.alloc _).alloc _ | exact (s0.alloc _).alloc _) hbn; replace fn := sn.cell; replace hn := sn.frozen; replace yn := sn.lt; replace kn := below_call (by with_reducible first | exact kn | exact k0 | exact below_alloc kn _ | exact below_alloc k0 _ | exact below_alloc (below_alloc kn _) _ | exact below_alloc (below_alloc k0 _) _) hbn; clear hbn) | (go_at_call 91; refine (refPcheck_any (_, _, _) _).mono ?_; rintro e wn ⟨rfl, hbn⟩; replace rn := Blk.kept (by with_reducible first | exact rn | exact r0 | exact rn.alloc _ | exact r0.alloc _ | exact (rn.alloc _).alloc _ | exact (r0.alloc _).alloc _) hbn; replace en := rn.cell; replace gn := rn.frozen; replace zn := rn.lt; replace sn := Blk.kept (by with_reducible first | exact sn | exact s0 | exact sn.alloc _ | exact s0.alloc _ | exact (sn.alloc _).alloc _ | exact (s0.alloc _).alloc _) hbn; replace fn := sn.cell; replace hn := sn.frozen; replace yn := sn.lt; replace kn := below_call (by with_reducible first | exact kn | exact k0 | exact below_alloc kn _ | exact below_alloc k0 _ | exact below_alloc (below_alloc kn _) _ | exact below_alloc (below_alloc k0 _) _) hbn; clear hbn) | (go_at_call 62; refine (refAdd_any (_, _) (_, _) _).mono ?_; rintro e wn ⟨rfl, hbn⟩; replace rn := Blk.kept (by with_reducible first | exact rn | exact r0 | exact rn.alloc _ | exact r0.alloc _ | exact (rn.alloc _).alloc _ | exact (r0.alloc _).alloc _) hbn; replace en := rn.cell; replace gn := rn.frozen; replace zn := rn.lt; replace sn := Blk.kept (by with_reducible first | exact sn | exact s0 | exact sn.alloc _ | exact s0.alloc _ | exact (sn.alloc _).alloc _ | exact (s0.alloc _).alloc _) hbn; replace fn := sn.cell; replace hn := sn.frozen; replace yn := sn.lt; replace kn := below_call (by with_reducible first | exact kn | exact k0 | exact below_alloc kn _ | exact below_alloc k0 _ | exact below_alloc (below_alloc kn _) _ | exact below_alloc (below_alloc k0 _) _) hbn; clear hbn))
  all_goals
    go_ret
    refine ⟨ret_int ?_, by repeat (first | exact Below.refl _ _ | assumption | refine below_drewN ?_ _ | refine Below.drew ?_ | refine below_alloc ?_ _ | (refine below_call ?_ (by assumption)) | (refine Below.setCell ?_ ?_ _; rotate_left; (simp; try omega)))⟩
    · clear r0 s0 k0 rn en gn zn sn fn hn yn kn
      unfold stepS oneS
      grind
set_option maxRecDepth 100000 in
set_option maxHeartbeats 1000000 in
theorem one_any (x : Ev) (w : World) :
    Calls Try.prog 70 #[vE x] w fun e w' => e = .returned (.int .i64 (oneS x)) ∧ Below w.heap.size w w' := by
  obtain ⟨⟨a, a'⟩, ⟨d, d'⟩, ⟨p, q, r⟩, rst, sg, ps⟩ := x
  dsimp only [vE]
  go_enter Try.func70, Try.ntmps70
  go_wp2
  go_loopw [4, 5, 13] (fun _ _ i wr => ∃ k : Nat, k ≤ 2 ∧ i = .int .i64 k ∧ Hid (1 ≤ k → chk a a' = 0) ∧ Hid (2 ≤ k → chk d d' = 0) ∧ Below w.heap.size w wr ∧ Blk wr w.heap.size 67 #[.int .i64 a, .int .i64 a', .int .i64 d, .int .i64 d', .int .i64 p, .int .i64 q, .int .i64 r, .bool rst, .int .i64 sg, .int .i64 ps] ∧ Blk wr (w.heap.size + 1) 34 #[.int .i64 a, .int .i64 a', .int .i64 d, .int .i64 d']) (fun _ _ i _ => 2 - (intOf i).toNat)
  case atStart => exact ⟨0, by omega, rfl, Lib.hid (by omega), Lib.hid (by omega), by repeat (first | exact Below.refl _ _ | refine below_drewN ?_ _ | refine Below.drew ?_ | refine below_alloc ?_ _ | (refine below_call ?_ (by assumption)) | (refine Below.setCell ?_ ?_ _; rotate_left; (simp; try omega))), (Blk.new _ _ _).alloc _, Blk.newAt _ _ _ _ (by simp)⟩
  case round =>
    obtain ⟨k, hk, rfl, h1, h2, k0, r0, s0⟩ := hrel
    have en := r0.cell; have gn := r0.frozen; have zn := r0.lt
    have fn := s0.cell; have hn := s0.frozen; have yn := s0.lt
    obtain rfl | rfl | rfl : k = 0 ∨ k = 1 ∨ k = 2 := by omega
    · go_wp2_with (go_at_call 55; refine (check_any _ _ _).mono ?_; rintro e wn ⟨rfl, hbn⟩; replace rn := Blk.kept (by with_reducible first | exact rn | exact r0 | exact rn.alloc _ | exact r0.alloc _ | exact (rn.alloc _).alloc _ | exact (r0.alloc _).alloc _) hbn; replace en := rn.cell; replace gn := rn.frozen; replace zn := rn.lt; replace sn := Blk.kept (by with_reducible first | exact sn | exact s0 | exact sn.alloc _ | exact s0.alloc _ | exact (sn.alloc _).alloc _ | exact (s0.alloc _).alloc _) hbn; replace fn := sn.cell; replace hn := sn.frozen; replace yn := sn.lt; replace kn := below_call (by with_reducible first | exact kn | exact k0 | exact below_alloc kn _ | exact below_alloc k0 _ | exact below_alloc (below_alloc kn _) _ | exact below_alloc (below_alloc k0 _) _) hbn; clear hbn)
      · go_ret
        refine ⟨ret_int ?_, by repeat (first | exact Below.refl _ _ | assumption | refine below_drewN ?_ _ | refine Below.drew ?_ | refine below_alloc ?_ _ | (refine below_call ?_ (by assumption)) | (refine Below.setCell ?_ ?_ _; rotate_left; (simp; try omega)))⟩
        have hne : (chk a a' != 0) = true := by assumption
        unfold oneS; rw [if_pos (by simpa using hne)]
      · go_roundw
        case rel =>
          have hne : (chk a a' != 0) = false := by assumption
          exact ⟨1, by omega, rfl, Lib.hid (fun _ => by simpa using hne), Lib.hid (by omega), kn, rn, sn⟩
        case measure => simp [intOf]
    · have ha := Lib.hid (h1.out (by omega))
      go_wp2_with (go_at_call 55; refine (check_any _ _ _).mono ?_; rintro e wn ⟨rfl, hbn⟩; replace rn := Blk.kept (by with_reducible first | exact rn | exact r0 | exact rn.alloc _ | exact r0.alloc _ | exact (rn.alloc _).alloc _ | exact (r0.alloc _).alloc _) hbn; replace en := rn.cell; replace gn := rn.frozen; replace zn := rn.lt; replace sn := Blk.kept (by with_reducible first | exact sn | exact s0 | exact sn.alloc _ | exact s0.alloc _ | exact (sn.alloc _).alloc _ | exact (s0.alloc _).alloc _) hbn; replace fn := sn.cell; replace hn := sn.frozen; replace yn := sn.lt; replace kn := below_call (by with_reducible first | exact kn | exact k0 | exact below_alloc kn _ | exact below_alloc k0 _ | exact below_alloc (below_alloc kn _) _ | exact below_alloc (below_alloc k0 _) _) hbn; clear hbn)
      · go_ret
        refine ⟨ret_int ?_, by repeat (first | exact Below.refl _ _ | assumption | refine below_drewN ?_ _ | refine Below.drew ?_ | refine below_alloc ?_ _ | (refine below_call ?_ (by assumption)) | (refine Below.setCell ?_ ?_ _; rotate_left; (simp; try omega)))⟩
        have hne : (chk d d' != 0) = true := by assumption
        unfold oneS; rw [if_neg (by simpa using ha.out), if_pos (by simpa using hne)]
      · go_roundw
        case rel =>
          have hne : (chk d d' != 0) = false := by assumption
          exact ⟨2, by omega, rfl, Lib.hid (fun _ => ha.out), Lib.hid (fun _ => by simpa using hne), kn, rn, sn⟩
        case measure => simp [intOf]
    · have ha := Lib.hid (h1.out (by omega))
      have hd := Lib.hid (h2.out (by omega))
      clear h1 h2
      go_wp2_with (go_at_call 90; refine (pcheck_any (_, _, _) _).mono ?_; rintro e wn ⟨rfl, hbn⟩; replace rn := Blk.kept (by with_reducible first | exact rn | exact r0 | exact rn.alloc _ | exact r0.alloc _ | exact (rn.alloc _).alloc _ | exact (r0.alloc _).alloc _) hbn; replace en := rn.cell; replace gn := rn.frozen; replace zn := rn.lt; replace sn := Blk.kept (by with_reducible first | exact sn | exact s0 | exact sn.alloc _ | exact s0.alloc _ | exact (sn.alloc _).alloc _ | exact (s0.alloc _).alloc _) hbn; replace fn := sn.cell; replace hn := sn.frozen; replace yn := sn.lt; replace kn := below_call (by with_reducible first | exact kn | exact k0 | exact below_alloc kn _ | exact below_alloc k0 _ | exact below_alloc (below_alloc kn _) _ | exact below_alloc (below_alloc k0 _) _) hbn; clear hbn)
      all_goals
        go_ret
        refine ⟨ret_int ?_, by repeat (first | exact Below.refl _ _ | assumption | refine below_drewN ?_ _ | refine Below.drew ?_ | refine below_alloc ?_ _ | (refine below_call ?_ (by assumption)) | (refine Below.setCell ?_ ?_ _; rotate_left; (simp; try omega)))⟩
        replace ha := ha.out
        replace hd := hd.out
        clear r0 s0 k0 en gn zn fn hn yn
        try clear rn sn kn
        unfold oneS
        grind
end Go.Proofs.Ytbljfaocmeeljaa
