
/- Event, EvCheck, EvEnd, EvLists, Pitch: one text. -/
import Derived.Test.YtmlcnmnpkemdpaaDoorSpans
import Derived.Test.YtmlcnmnpkemdpaaDoorPlain
import Derived.Test.YtmlcnmnpkemdpaaDoorGround
/- The walks through the checks of pitches and events, the program's and the reference's. -/

namespace Go.Proofs.YtmlcnmnpkemdpaaDoor
open Go.RowKit
@[reducible] def vP (p : Int × Int × Int) : Value := .agg #[.int .i64 p.1, .int .i64 p.2.1, .int .i64 p.2.2]
@[reducible] def vTm (t : Int × Int) : Value := .agg #[.int .i64 t.1, .int .i64 t.2]
@[reducible] def vE (x : Ev) : Value := .agg #[.int .i64 x.at_.1, .int .i64 x.at_.2, .int .i64 x.dur.1, .int .i64 x.dur.2, .int .i64 x.pit.1, .int .i64 x.pit.2.1, .int .i64 x.pit.2.2, .bool x.rest, .int .i64 x.sign, .int .i64 x.pass]
/-- The cells of an event, and of a list of events. -/
def cE (x : Ev) : List Value := [.int .i64 x.at_.1, .int .i64 x.at_.2, .int .i64 x.dur.1, .int .i64 x.dur.2, .int .i64 x.pit.1, .int .i64 x.pit.2.1, .int .i64 x.pit.2.2, .bool x.rest, .int .i64 x.sign, .int .i64 x.pass]
def csE (l : List Ev) : List Value := l.flatMap cE

set_option maxHeartbeats 400000 in
theorem pcheck_any (p : Int × Int × Int) (w : World) :
    Calls Tryd.prog 63 #[vP p] w fun e w' => e = .returned (.int .i64 (pchk p)) ∧ Below w.heap.size w w' := by
  obtain ⟨a, b, c⟩ := p
  go_enter Tryd.func63, Tryd.ntmps63
  go_wp2
  all_goals
    go_ret
    refine ⟨ret_int ?_, ?_⟩
    · unfold pchk; first | rw [if_pos (by simp only; omega)] | rw [if_neg (by simp only; omega)]
    · repeat (first | exact Below.refl _ _ | refine below_drewN ?_ _ | refine Below.drew ?_ | refine below_alloc ?_ _ | (refine below_call ?_ (by assumption)) | (refine Below.setCell ?_ ?_ _; rotate_left; (simp; try omega)))
set_option maxHeartbeats 400000 in
theorem refPcheck_any (p : Int × Int × Int) (w : World) :
    Calls Tryd.prog 109 #[vP p] w fun e w' => e = .returned (.int .i64 (pchk p)) ∧ Below w.heap.size w w' := by
  obtain ⟨a, b, c⟩ := p
  go_enter Tryd.func109, Tryd.ntmps109
  go_wp2
  all_goals
    go_ret
    refine ⟨ret_int ?_, ?_⟩
    · unfold pchk; first | rw [if_pos (by simp only; omega)] | rw [if_neg (by simp only; omega)]
    · repeat (first | exact Below.refl _ _ | refine below_drewN ?_ _ | refine Below.drew ?_ | refine below_alloc ?_ _ | (refine below_call ?_ (by assumption)) | (refine Below.setCell ?_ ?_ _; rotate_left; (simp; try omega)))
set_option maxHeartbeats 400000 in
theorem evZero_any (w : World) : Calls Tryd.prog 82 #[] w fun e w' => e = .returned (.agg #[.int .i64 0, .int .i64 1]) ∧ Below w.heap.size w w' := by
  go_enter Tryd.func82, Tryd.ntmps82
  go_wp2
  refine ret_of (by simp [results, Tryd.results82, go_sem]; repeat' (first | rfl | apply And.intro)) rfl ⟨rfl, ?_⟩
  repeat (first | exact Below.refl _ _ | refine below_drewN ?_ _ | refine Below.drew ?_ | refine below_alloc ?_ _ | (refine below_call ?_ (by assumption)) | (refine Below.setCell ?_ ?_ _; rotate_left; (simp; try omega)))
set_option maxRecDepth 100000 in
set_option maxHeartbeats 1000000 in
theorem refOne_any (x : Ev) (t : Int × Int) (w : World) :
    Calls Tryd.prog 91 #[vE x, vTm t] w fun e w' => e = .returned (.int .i64 (stepS t x)) ∧ Below w.heap.size w w' := by
  obtain ⟨⟨a, a'⟩, ⟨d, d'⟩, ⟨p, q, r⟩, rst, sg, ps⟩ := x
  obtain ⟨t, t'⟩ := t
  have r0 : Blk ((w.alloc (.cells #[.int .i64 a, .int .i64 a', .int .i64 d, .int .i64 d', .int .i64 p, .int .i64 q, .int .i64 r, .bool rst, .int .i64 sg, .int .i64 ps] 54)).alloc (.cells #[.int .i64 t, .int .i64 t'] 52)) w.heap.size 54 #[.int .i64 a, .int .i64 a', .int .i64 d, .int .i64 d', .int .i64 p, .int .i64 q, .int .i64 r, .bool rst, .int .i64 sg, .int .i64 ps] := (Blk.new w _ _).alloc _
  have k0 : Below w.heap.size w ((w.alloc (.cells #[.int .i64 a, .int .i64 a', .int .i64 d, .int .i64 d', .int .i64 p, .int .i64 q, .int .i64 r, .bool rst, .int .i64 sg, .int .i64 ps] 54)).alloc (.cells #[.int .i64 t, .int .i64 t'] 52)) := by repeat (first | exact Below.refl _ _ | refine below_drewN ?_ _ | refine Below.drew ?_ | refine below_alloc ?_ _ | (refine below_call ?_ (by assumption)) | (refine Below.setCell ?_ ?_ _; rotate_left; (simp; try omega)))
  have s0 : Blk ((w.alloc (.cells #[.int .i64 a, .int .i64 a', .int .i64 d, .int .i64 d', .int .i64 p, .int .i64 q, .int .i64 r, .bool rst, .int .i64 sg, .int .i64 ps] 54)).alloc (.cells #[.int .i64 t, .int .i64 t'] 52)) (w.heap.size + 1) 52 #[.int .i64 t, .int .i64 t'] := Blk.newAt _ _ _ _ (by simp)
  dsimp only [vE, vTm, vP]
  go_enter Tryd.func91, Tryd.ntmps91
  go_wp2_with (first | (go_at_call 93; refine (refCheck_any _ _ _).mono ?_; rintro e wn ⟨rfl, hbn⟩; replace rn := Blk.kept (by with_reducible first | exact rn | exact r0 | exact rn.alloc _ | exact r0.alloc _ | exact (rn.alloc _).alloc _ | exact (r0.alloc _).alloc _) hbn; replace en := rn.cell; replace gn := rn.frozen; replace zn := rn.lt; replace sn := Blk.kept (by with_reducible first | exact sn | exact s0 | exact sn.alloc _ | exact s0.alloc _ | exact (sn.alloc _).alloc _ | exact (s0.alloc _).alloc _) hbn; replace fn := sn.cell; replace hn := sn.frozen; replace yn := sn.lt; replace kn := below_call (by with_reducible first | exact kn | exact k0 | exact below_alloc kn _ | exact below_alloc k0 _ | exact below_alloc (below_alloc kn _) _ | exact below_alloc (below_alloc k0 _) _) hbn; clear hbn) | (go_at_call 109; refine (refPcheck_any (_, _, _) _).mono ?_; rintro e wn ⟨rfl, hbn⟩; replace rn := Blk.kept (by with_reducible first | exact rn | exact r0 | exact rn.alloc _ | exact r0.alloc _ | exact (rn.alloc _).alloc _ | exact (r0.alloc _).alloc _) hbn; replace en := rn.cell; replace gn := rn.frozen; replace zn := rn.lt; replace sn := Blk.kept (by with_reducible first | exact sn | exact s0 | exact sn.alloc _ | exact s0.alloc _ | exact (sn.alloc _).alloc _ | exact (s0.alloc _).alloc _) hbn; replace fn := sn.cell; replace hn := sn.frozen; replace yn := sn.lt; replace kn := below_call (by with_reducible first | exact kn | exact k0 | exact below_alloc kn _ | exact below_alloc k0 _ | exact below_alloc (below_alloc kn _) _ | exact below_alloc (below_alloc k0 _) _) hbn; clear hbn) | (go_at_call 92; refine (refAdd_any (_, _) (_, _) _).mono ?_; rintro e wn ⟨rfl, hbn⟩; replace rn := Blk.kept (by with_reducible first | exact rn | exact r0 | exact rn.alloc _ | exact r0.alloc _ | exact (rn.alloc _).alloc _ | exact (r0.alloc _).alloc _) hbn; replace en := rn.cell; replace gn := rn.frozen; replace zn := rn.lt; replace sn := Blk.kept (by with_reducible first | exact sn | exact s0 | exact sn.alloc _ | exact s0.alloc _ | exact (sn.alloc _).alloc _ | exact (s0.alloc _).alloc _) hbn; replace fn := sn.cell; replace hn := sn.frozen; replace yn := sn.lt; replace kn := below_call (by with_reducible first | exact kn | exact k0 | exact below_alloc kn _ | exact below_alloc k0 _ | exact below_alloc (below_alloc kn _) _ | exact below_alloc (below_alloc k0 _) _) hbn; clear hbn))
  all_goals
    go_ret
    refine ⟨ret_int ?_, by repeat (first | exact Below.refl _ _ | assumption | refine below_drewN ?_ _ | refine Below.drew ?_ | refine below_alloc ?_ _ | (refine below_call ?_ (by assumption)) | (refine Below.setCell ?_ ?_ _; rotate_left; (simp; try omega)))⟩
    · clear r0 s0 k0 rn en gn zn sn fn hn yn kn
      unfold stepS oneS
      grind
set_option maxRecDepth 100000 in
set_option maxHeartbeats 1000000 in
theorem one_any (x : Ev) (w : World) :
    Calls Tryd.prog 85 #[vE x] w fun e w' => e = .returned (.int .i64 (oneS x)) ∧ Below w.heap.size w w' := by
  obtain ⟨⟨a, a'⟩, ⟨d, d'⟩, ⟨p, q, r⟩, rst, sg, ps⟩ := x
  dsimp only [vE]
  go_enter Tryd.func85, Tryd.ntmps85
  go_wp2
  go_loopw [4, 5, 13] (fun _ _ i wr => ∃ k : Nat, k ≤ 2 ∧ i = .int .i64 k ∧ Hid (1 ≤ k → chk a a' = 0) ∧ Hid (2 ≤ k → chk d d' = 0) ∧ Below w.heap.size w wr ∧ Blk wr w.heap.size 54 #[.int .i64 a, .int .i64 a', .int .i64 d, .int .i64 d', .int .i64 p, .int .i64 q, .int .i64 r, .bool rst, .int .i64 sg, .int .i64 ps] ∧ Blk wr (w.heap.size + 1) 52 #[.int .i64 a, .int .i64 a', .int .i64 d, .int .i64 d']) (fun _ _ i _ => 2 - (intOf i).toNat)
  case atStart => exact ⟨0, by omega, rfl, Lib.hid (by omega), Lib.hid (by omega), by repeat (first | exact Below.refl _ _ | refine below_drewN ?_ _ | refine Below.drew ?_ | refine below_alloc ?_ _ | (refine below_call ?_ (by assumption)) | (refine Below.setCell ?_ ?_ _; rotate_left; (simp; try omega))), (Blk.new _ _ _).alloc _, Blk.newAt _ _ _ _ (by simp)⟩
  case round =>
    obtain ⟨k, hk, rfl, h1, h2, k0, r0, s0⟩ := hrel
    have en := r0.cell; have gn := r0.frozen; have zn := r0.lt
    have fn := s0.cell; have hn := s0.frozen; have yn := s0.lt
    obtain rfl | rfl | rfl : k = 0 ∨ k = 1 ∨ k = 2 := by omega
    · go_wp2_with (go_at_call 103; refine (check_any _ _ _).mono ?_; rintro e wn ⟨rfl, hbn⟩; replace rn := Blk.kept (by with_reducible first | exact rn | exact r0 | exact rn.alloc _ | exact r0.alloc _ | exact (rn.alloc _).alloc _ | exact (r0.alloc _).alloc _) hbn; replace en := rn.cell; replace gn := rn.frozen; replace zn := rn.lt; replace sn := Blk.kept (by with_reducible first | exact sn | exact s0 | exact sn.alloc _ | exact s0.alloc _ | exact (sn.alloc _).alloc _ | exact (s0.alloc _).alloc _) hbn; replace fn := sn.cell; replace hn := sn.frozen; replace yn := sn.lt; replace kn := below_call (by with_reducible first | exact kn | exact k0 | exact below_alloc kn _ | exact below_alloc k0 _ | exact below_alloc (below_alloc kn _) _ | exact below_alloc (below_alloc k0 _) _) hbn; clear hbn)
      · go_ret
        refine ⟨ret_int ?_, by repeat (first | exact Below.refl _ _ | assumption | refine below_drewN ?_ _ | refine Below.drew ?_ | refine below_alloc ?_ _ | (refine below_call ?_ (by assumption)) | (refine Below.setCell ?_ ?_ _; rotate_left; (simp; try omega)))⟩
        have hne : (chk a a' != 0) = true := by assumption
        unfold oneS; rw [if_pos (by simpa using hne)]
      · go_roundw
        case rel =>
          have hne : (chk a a' != 0) = false := by assumption
          exact ⟨1, by omega, rfl, Lib.hid (fun _ => by simpa using hne), Lib.hid (by omega), kn, rn, sn⟩
        case measure => simp [intOf]
    · have ha := Lib.hid (h1.out (by omega))
      go_wp2_with (go_at_call 103; refine (check_any _ _ _).mono ?_; rintro e wn ⟨rfl, hbn⟩; replace rn := Blk.kept (by with_reducible first | exact rn | exact r0 | exact rn.alloc _ | exact r0.alloc _ | exact (rn.alloc _).alloc _ | exact (r0.alloc _).alloc _) hbn; replace en := rn.cell; replace gn := rn.frozen; replace zn := rn.lt; replace sn := Blk.kept (by with_reducible first | exact sn | exact s0 | exact sn.alloc _ | exact s0.alloc _ | exact (sn.alloc _).alloc _ | exact (s0.alloc _).alloc _) hbn; replace fn := sn.cell; replace hn := sn.frozen; replace yn := sn.lt; replace kn := below_call (by with_reducible first | exact kn | exact k0 | exact below_alloc kn _ | exact below_alloc k0 _ | exact below_alloc (below_alloc kn _) _ | exact below_alloc (below_alloc k0 _) _) hbn; clear hbn)
      · go_ret
        refine ⟨ret_int ?_, by repeat (first | exact Below.refl _ _ | assumption | refine below_drewN ?_ _ | refine Below.drew ?_ | refine below_alloc ?_ _ | (refine below_call ?_ (by assumption)) | (refine Below.setCell ?_ ?_ _; rotate_left; (simp; try omega)))⟩
        have hne : (chk d d' != 0) = true := by assumption
        unfold oneS; rw [if_neg (by simpa using ha.out), if_pos (by simpa using hne)]
      · go_roundw
        case rel =>
          have hne : (chk d d' != 0) = false := by assumption
          exact ⟨2, by omega, rfl, Lib.hid (fun _ => ha.out), Lib.hid (fun _ => by simpa using hne), kn, rn, sn⟩
        case measure => simp [intOf]
    · have ha := Lib.hid (h1.out (by omega))
      have hd := Lib.hid (h2.out (by omega))
      clear h1 h2
      go_wp2_with (go_at_call 63; refine (pcheck_any (_, _, _) _).mono ?_; rintro e wn ⟨rfl, hbn⟩; replace rn := Blk.kept (by with_reducible first | exact rn | exact r0 | exact rn.alloc _ | exact r0.alloc _ | exact (rn.alloc _).alloc _ | exact (r0.alloc _).alloc _) hbn; replace en := rn.cell; replace gn := rn.frozen; replace zn := rn.lt; replace sn := Blk.kept (by with_reducible first | exact sn | exact s0 | exact sn.alloc _ | exact s0.alloc _ | exact (sn.alloc _).alloc _ | exact (s0.alloc _).alloc _) hbn; replace fn := sn.cell; replace hn := sn.frozen; replace yn := sn.lt; replace kn := below_call (by with_reducible first | exact kn | exact k0 | exact below_alloc kn _ | exact below_alloc k0 _ | exact below_alloc (below_alloc kn _) _ | exact below_alloc (below_alloc k0 _) _) hbn; clear hbn)
      all_goals
        go_ret
        refine ⟨ret_int ?_, by repeat (first | exact Below.refl _ _ | assumption | refine below_drewN ?_ _ | refine Below.drew ?_ | refine below_alloc ?_ _ | (refine below_call ?_ (by assumption)) | (refine Below.setCell ?_ ?_ _; rotate_left; (simp; try omega)))⟩
        replace ha := ha.out
        replace hd := hd.out
        clear r0 s0 k0 en gn zn fn hn yn
        try clear rn sn kn
        unfold oneS
        grind
end Go.Proofs.YtmlcnmnpkemdpaaDoor

/- The walks through the checks of voices and their ends, the program's and the reference's. -/
namespace Go.Proofs.YtmlcnmnpkemdpaaDoor
open Go.RowKit
theorem ten {w : World} {b o : Nat} {x : Ev} (h : ∀ j u, (cE x)[j]? = some u → w.cell? ⟨b, o + j, none⟩ = some u) :
    w.cell? ⟨b, o, none⟩ = some (.int .i64 x.at_.1) ∧ w.cell? ⟨b, o + 1, none⟩ = some (.int .i64 x.at_.2) ∧ w.cell? ⟨b, o + 2, none⟩ = some (.int .i64 x.dur.1) ∧ w.cell? ⟨b, o + 3, none⟩ = some (.int .i64 x.dur.2) ∧ w.cell? ⟨b, o + 4, none⟩ = some (.int .i64 x.pit.1) ∧
    w.cell? ⟨b, o + 5, none⟩ = some (.int .i64 x.pit.2.1) ∧ w.cell? ⟨b, o + 6, none⟩ = some (.int .i64 x.pit.2.2) ∧ w.cell? ⟨b, o + 7, none⟩ = some (.bool x.rest) ∧ w.cell? ⟨b, o + 8, none⟩ = some (.int .i64 x.sign) ∧ w.cell? ⟨b, o + 9, none⟩ = some (.int .i64 x.pass) :=
  ⟨h 0 _ rfl, h 1 _ rfl, h 2 _ rfl, h 3 _ rfl, h 4 _ rfl, h 5 _ rfl, h 6 _ rfl, h 7 _ rfl, h 8 _ rfl, h 9 _ rfl⟩
/-- Element k of a slice of events. -/
theorem Reads.ev {w W : World} {B n : Nat} {A : Option Addr} {l : List Ev} (h : Reads w B 10 A n (csE l)) (hB : B ≤ w.heap.size) (hb : Below w.heap.size w W) {k : Nat} {x : Ev} (hk : k < n) (hx : l[k]? = some x) :
    ∃ b off, A = some ⟨b, off, none⟩ ∧ b < W.heap.size ∧ ∀ j u, (cE x)[j]? = some u → W.cell? ⟨b, off + k * 10 + j, none⟩ = some u := by
  obtain ⟨b, off, hA, hbB, hc⟩ := h.elem (f := cE) (fun _ => rfl) hk hx
  refine ⟨b, off, hA, by have := hb.size; omega, fun j u hj => ?_⟩
  rw [hb.cell (by simp; omega), Nat.add_assoc]
  exact hc j u hj
theorem Reads.evlen {w : World} {B n : Nat} {A : Option Addr} {l : List Ev} (h : Reads w B 10 A n (csE l)) : l.length = n := h.len (size := 10) (l := l) (f := cE) (fun _ => rfl) (by decide)
set_option maxRecDepth 100000 in
set_option maxHeartbeats 1000000 in
theorem evCheck_any (A : Option Addr) (n c : Nat) (l : List Ev) (B : Nat) (w : World) (h : Reads w B 10 A n (csE l)) (hB : B ≤ w.heap.size) (hn : n ≤ 9223372036854775807) :
    Calls Tryd.prog 60 #[.slice A n c] w fun e w' => e = .returned (.tuple #[.int .i64 (checkS l).1, .int .i64 (checkS l).2]) ∧ Below w.heap.size w w' := by
  have hl := h.evlen
  by_cases hbig : 2000 < n
  · have hbig' : (2000 : Int) < (n : Int) := by omega
    have E := Lib.hid (show checkS l = (11, 0) by unfold checkS; rw [if_pos (by omega)])
    clear hl
    go_enter Tryd.func60, Tryd.ntmps60
    go_wp2
    go_ret2
    rw [E.out]
    exact ⟨rfl, Below.refl _ _⟩
  · have hbig' : ¬ ((2000 : Int) < (n : Int)) := by omega
    have E := Lib.hid (show checkS l = checkFrom (0, 1) 0 l by unfold checkS; rw [if_neg (by omega)])
    have HL := Lib.hid hl; clear hl hbig
    go_enter Tryd.func60, Tryd.ntmps60
    go_wp2_with (go_at_call 82; refine (evZero_any _).mono ?_; rintro e w1 ⟨rfl, hb1⟩)
    go_loopw [5, 6, 7, 8, 9, 16] (fun _ _ _ _ _ i wr => ∃ (k : Nat) (t t' : Int), k ≤ n ∧ i = .int .i64 k ∧ Hid (checkFrom (t, t') k (l.drop k) = checkFrom (0, 1) 0 l) ∧ Below w1.heap.size w1 wr ∧ Blk wr w1.heap.size 52 #[.int .i64 t, .int .i64 t']) (fun _ _ _ _ _ i _ => n - (intOf i).toNat)
    case atStart => exact ⟨0, 0, 1, by omega, rfl, Lib.hid rfl, by repeat (first | exact Below.refl _ _ | refine below_drewN ?_ _ | refine Below.drew ?_ | refine below_alloc ?_ _ | (refine below_call ?_ (by assumption)) | (refine Below.setCell ?_ ?_ _; rotate_left; (simp; try omega))), Blk.new _ _ _⟩
    case round =>
      obtain ⟨k, t, t', hk, rfl, hs, k0, r0⟩ := hrel
      have en := r0.cell; have gn := r0.frozen; have zn := r0.lt
      by_cases hlt : k < n
      · have hlt' : (k : Int) < (n : Int) := by omega
        obtain ⟨x, hx⟩ := get_some (l := l) (k := k) (by have := HL.out; omega)
        have HD := Lib.hid (drop_get hx)
        obtain ⟨b, off, rfl, hab, hc⟩ := h.ev hB (below_call hb1 k0) hlt hx
        obtain ⟨⟨a, a'⟩, ⟨d, d'⟩, ⟨p, q, r⟩, rst, sg, ps⟩ := x
        obtain ⟨c0, c1, c2, c3, c4, c5, c6, c7, c8, c9⟩ := ten hc
        clear hc hx
        simp only at c0 c1 c2 c3 c4 c5 c6 c7 c8 c9
        have s0 : Blk (wr.alloc (.cells #[.int .i64 a, .int .i64 a', .int .i64 d, .int .i64 d', .int .i64 p, .int .i64 q, .int .i64 r, .bool rst, .int .i64 sg, .int .i64 ps] 54)) wr.heap.size 54 #[.int .i64 a, .int .i64 a', .int .i64 d, .int .i64 d', .int .i64 p, .int .i64 q, .int .i64 r, .bool rst, .int .i64 sg, .int .i64 ps] := Blk.new _ _ _
        go_wp2_with (first | (go_at_call 85; refine (one_any ⟨(_, _), (_, _), (_, _, _), _, _, _⟩ _).mono ?_; rintro e wn ⟨rfl, hbn⟩; replace rn := Blk.kept (by with_reducible first | exact rn | exact r0 | exact rn.alloc _ | exact r0.alloc _ | exact (rn.alloc _).alloc _ | exact (r0.alloc _).alloc _) hbn; replace en := rn.cell; replace gn := rn.frozen; replace zn := rn.lt; replace sn := Blk.kept (by with_reducible first | exact sn | exact s0 | exact sn.alloc _ | exact s0.alloc _ | exact (sn.alloc _).alloc _ | exact (s0.alloc _).alloc _) hbn; replace fn := sn.cell; replace hn := sn.frozen; replace yn := sn.lt; replace kn := below_call (by with_reducible first | exact kn | exact k0 | exact below_alloc kn _ | exact below_alloc k0 _ | exact below_alloc (below_alloc kn _) _ | exact below_alloc (below_alloc k0 _) _) hbn; clear hbn) | (go_at_call 83; refine (add_any (_, _) (_, _) _).mono ?_; rintro e wn ⟨rfl, hbn⟩; replace rn := Blk.kept (by with_reducible first | exact rn | exact r0 | exact rn.alloc _ | exact r0.alloc _ | exact (rn.alloc _).alloc _ | exact (r0.alloc _).alloc _) hbn; replace en := rn.cell; replace gn := rn.frozen; replace zn := rn.lt; replace sn := Blk.kept (by with_reducible first | exact sn | exact s0 | exact sn.alloc _ | exact s0.alloc _ | exact (sn.alloc _).alloc _ | exact (s0.alloc _).alloc _) hbn; replace fn := sn.cell; replace hn := sn.frozen; replace yn := sn.lt; replace kn := below_call (by with_reducible first | exact kn | exact k0 | exact below_alloc kn _ | exact below_alloc k0 _ | exact below_alloc (below_alloc kn _) _ | exact below_alloc (below_alloc k0 _) _) hbn; clear hbn))
        · go_ret2
          have hne : (oneS ⟨(a, a'), (d, d'), (p, q, r), rst, sg, ps⟩ != 0) = true := by assumption
          have hr := hs.out
          rw [HD.out, cf_one (by simpa using hne)] at hr
          rw [E.out, ← hr]
          exact ⟨rfl, below_call hb1 kn⟩
        · go_ret2
          have h1 : (oneS ⟨(a, a'), (d, d'), (p, q, r), rst, sg, ps⟩ != 0) = false := by assumption
          have e1 : a = t := by assumption
          have e2 : a' = t' := by assumption
          have hne : ((addS (t, t') (d, d')).2.2 != 0) = true := by assumption
          have hr := hs.out
          subst e1 e2
          rw [HD.out, cf_add (now := (a, a')) (by simpa using h1) rfl (by simpa using hne)] at hr
          rw [E.out, ← hr]
          exact ⟨rfl, below_call hb1 (by repeat (first | exact Below.refl _ _ | assumption | refine below_drewN ?_ _ | refine Below.drew ?_ | refine below_alloc ?_ _ | (refine below_call ?_ (by assumption)) | (refine Below.setCell ?_ ?_ _; rotate_left; (simp; try omega))))⟩
        · go_roundw
          case rel =>
            have h1 : (oneS ⟨(a, a'), (d, d'), (p, q, r), rst, sg, ps⟩ != 0) = false := by assumption
            have e1 : a = t := by assumption
            have e2 : a' = t' := by assumption
            have hne : ((addS (t, t') (d, d')).2.2 != 0) = false := by assumption
            refine ⟨k + 1, (addS (t, t') (d, d')).1, (addS (t, t') (d, d')).2.1, by omega, by go_num, ?_, by repeat (first | exact Below.refl _ _ | assumption | refine below_drewN ?_ _ | refine Below.drew ?_ | refine below_alloc ?_ _ | (refine below_call ?_ (by assumption)) | (refine Below.setCell ?_ ?_ _; rotate_left; (simp; try omega))), ?_⟩
            rotate_left
            · repeat (first | with_reducible exact rn | with_reducible exact Blk.new _ _ _ | (with_reducible refine Blk.newAt _ _ _ _ ?_; first | rfl | (simp; done)) | with_reducible apply Blk.alloc | with_reducible apply Blk.drewN | with_reducible apply Blk.drew | with_reducible apply Blk.set_to | (with_reducible apply Blk.far_; (simp only [ne_eq]; omega)) | rfl)
            have hr := hs.out
            subst e1 e2
            rw [HD.out, cf_next (now := (a, a')) (by simpa using h1) rfl (by simpa using hne)] at hr
            exact Lib.hid hr
          case measure => simp [intOf]; omega
        all_goals
          go_ret2
          have h1 : (oneS ⟨(a, a'), (d, d'), (p, q, r), rst, sg, ps⟩ != 0) = false := by assumption
          have hr := hs.out
          rw [HD.out, cf_at (by simpa using h1) (by simp only [ne_eq, Prod.mk.injEq]; first | (rintro ⟨e1, e2⟩; contradiction) | (rintro ⟨e1, e2⟩; have hx : ¬ a = t := by assumption; exact hx e1) | (rintro ⟨e1, e2⟩; have hx : ¬ a' = t' := by assumption; exact hx e2))] at hr
          rw [E.out, ← hr]
          exact ⟨rfl, below_call hb1 (by repeat (first | exact Below.refl _ _ | assumption | refine below_drewN ?_ _ | refine Below.drew ?_ | refine below_alloc ?_ _ | (refine below_call ?_ (by assumption)) | (refine Below.setCell ?_ ?_ _; rotate_left; (simp; try omega))))⟩
      · go_wp2
        go_ret2
        rw [E.out, ← hs.out, List.drop_eq_nil_of_le (by have := HL.out; omega)]
        exact ⟨rfl, below_call hb1 k0⟩
set_option maxRecDepth 100000 in
set_option maxHeartbeats 1000000 in
theorem refEvCheck_any (A : Option Addr) (n c : Nat) (l : List Ev) (B : Nat) (w : World) (h : Reads w B 10 A n (csE l)) (hB : B ≤ w.heap.size) (hn : n ≤ 9223372036854775807) :
    Calls Tryd.prog 67 #[.slice A n c] w fun e w' => e = .returned (.tuple #[.int .i64 (checkS l).1, .int .i64 (checkS l).2]) ∧ Below w.heap.size w w' := by
  have hl := h.evlen
  by_cases hbig : 2000 < n
  · have hbig' : (2000 : Int) < (n : Int) := by omega
    have E := Lib.hid (show checkS l = (11, 0) by unfold checkS; rw [if_pos (by omega)])
    clear hl
    go_enter Tryd.func67, Tryd.ntmps67
    go_wp2
    go_ret2
    rw [E.out]
    exact ⟨rfl, Below.refl _ _⟩
  · have hbig' : ¬ ((2000 : Int) < (n : Int)) := by omega
    have E := Lib.hid (show checkS l = checkFrom (0, 1) 0 l by unfold checkS; rw [if_neg (by omega)])
    have HL := Lib.hid hl; clear hl hbig
    go_enter Tryd.func67, Tryd.ntmps67
    go_wp2
    go_loopw [5, 6] (fun i _ wr => ∃ (k : Nat) (t t' : Int), k ≤ n ∧ i = .int .i64 k ∧ Hid (checkFrom (t, t') k (l.drop k) = checkFrom (0, 1) 0 l) ∧ Below w.heap.size w wr ∧ Blk wr w.heap.size 52 #[.int .i64 t, .int .i64 t']) (fun i _ _ => n - (intOf i).toNat)
    case atStart => exact ⟨0, 0, 1, by omega, rfl, Lib.hid rfl, by repeat (first | exact Below.refl _ _ | refine below_drewN ?_ _ | refine Below.drew ?_ | refine below_alloc ?_ _ | (refine below_call ?_ (by assumption)) | (refine Below.setCell ?_ ?_ _; rotate_left; (simp; try omega))), Blk.new _ _ _⟩
    case round =>
      obtain ⟨k, t, t', hk, rfl, hs, k0, r0⟩ := hrel
      have en := r0.cell; have gn := r0.frozen; have zn := r0.lt
      by_cases hlt : k < n
      · have hlt' : (k : Int) < (n : Int) := by omega
        obtain ⟨x, hx⟩ := get_some (l := l) (k := k) (by have := HL.out; omega)
        have HD := Lib.hid (drop_get hx)
        obtain ⟨b, off, rfl, hab, hc⟩ := h.ev hB k0 hlt hx
        have hbne : w.heap.size ≠ b := by
          obtain ⟨b', off', e', hb', _⟩ := h.2 (by omega)
          cases e'
          omega
        obtain ⟨⟨a, a'⟩, ⟨d, d'⟩, ⟨p, q, r⟩, rst, sg, ps⟩ := x
        obtain ⟨c0, c1, c2, c3, c4, c5, c6, c7, c8, c9⟩ := ten hc
        clear hc hx
        simp only at c0 c1 c2 c3 c4 c5 c6 c7 c8 c9
        have e0 : wr.cell? ⟨w.heap.size, 0, none⟩ = some (.int .i64 t) := en 0
        have e1 : wr.cell? ⟨w.heap.size, 1, none⟩ = some (.int .i64 t') := en 1
        obtain ⟨y, hy⟩ : ∃ y, y = stepS (t, t') ⟨(a, a'), (d, d'), (p, q, r), rst, sg, ps⟩ := ⟨_, rfl⟩
        have Y := Lib.hid hy.symm; clear hy
        go_wp2_with fail
        refine wp_region_calm (by kernel_rfl) (by kernel_rfl) ?_
        repeat (go_big_quiet_step ((go_at_call 91; have hq := refOne_any ⟨(a, a'), (d, d'), (p, q, r), rst, sg, ps⟩ (t, t'); rw [Y.out] at hq; exact calm_call (hq _))))
        refine wpQuiet_nil ?_
        intro w1 hb1
        have r1 := r0.kept hb1
        have hb := below_call k0 hb1
        have z1 := r1.lt
        have g0 := r1.frozen 0
        have g1 := r1.frozen 1
        replace e0 := r1.cell 0
        replace e1 := r1.cell 1
        simp only [List.getElem?_toArray, List.getElem?_cons_zero, List.getElem?_cons_succ] at e0 e1
        have hcc := bcell hb1
        rw [← hcc.1 _ _ hab] at c0 c1 c2 c3
        replace hab := Nat.lt_of_lt_of_le hab hb1.size
        clear hcc c4 c5 c6 c7 c8 c9 en gn zn r0 k0
        go_wp2_with fail
        · go_ret2
          have hne : (y != 0) = true := by assumption
          have hr := hs.out
          rw [HD.out, checkFrom, Y.out, if_pos (by simpa using hne)] at hr
          rw [E.out, ← hr]
          exact ⟨rfl, hb⟩
        · have hne : (y != 0) = false := by assumption
          have hbw : w.heap.size ≠ b := hbne
          go_region_held3 (fun w' => w'.cell? ⟨b, off + k * 10, none⟩ = some (.int .i64 a) ∧ w'.cell? ⟨b, off + k * 10 + 1, none⟩ = some (.int .i64 a') ∧ w'.cell? ⟨b, off + k * 10 + 2, none⟩ = some (.int .i64 d) ∧ w'.cell? ⟨b, off + k * 10 + 3, none⟩ = some (.int .i64 d')) ((first | exact ⟨c0, c1, c2, c3⟩ | exact ⟨(hcc _ _ hab).trans c0, (hcc _ _ hab).trans c1, (hcc _ _ hab).trans c2, (hcc _ _ hab).trans c3⟩ | (refine ⟨?_, ?_, ?_, ?_⟩ <;> (rw [World.cell?_setCell_far _ _ _ _ hbw, World.cell?_setCell_far _ _ _ _ hbw]; first | exact (hcc _ _ hab).trans c0 | exact (hcc _ _ hab).trans c1 | exact (hcc _ _ hab).trans c2 | exact (hcc _ _ hab).trans c3)))) (first | (go_at_call 92; refine (refAdd_any (_, _) (_, _) _).mono ?_; rintro e w2 ⟨rfl, hb2⟩; have hcc := (bcell hb2).1; have r2 := r1.drew.kept hb2; have kb := below_call hb.drew hb2; have q0 := r2.cell 0; have q1 := r2.cell 1; have f0 := r2.frozen 0; have f1 := r2.frozen 1; simp only [List.getElem?_toArray, List.getElem?_cons_zero, List.getElem?_cons_succ] at q0 q1))
          go_wp2_with fail
          go_roundw
          case rel =>
            refine ⟨k + 1, (addS (a, a') (d, d')).1, (addS (a, a') (d, d')).2.1, by omega, by go_num, ?_, by repeat (first | exact Below.refl _ _ | assumption | refine below_drewN ?_ _ | refine Below.drew ?_ | refine below_alloc ?_ _ | (refine below_call ?_ (by assumption)) | (refine Below.setCell ?_ ?_ _; rotate_left; (simp; try omega))), ?_⟩
            rotate_left
            · repeat (first | with_reducible exact r2 | with_reducible exact Blk.new _ _ _ | (with_reducible refine Blk.newAt _ _ _ _ ?_; first | rfl | (simp; done)) | with_reducible apply Blk.alloc | with_reducible apply Blk.drewN | with_reducible apply Blk.drew | with_reducible apply Blk.set_to | (with_reducible apply Blk.far_; (simp only [ne_eq]; omega)) | rfl)
            have hr := hs.out
            rw [HD.out, checkFrom, Y.out, if_neg (by simpa using hne)] at hr
            exact Lib.hid hr
          case measure => simp [intOf]; omega
      · go_wp2
        go_ret2
        rw [E.out, ← hs.out, List.drop_eq_nil_of_le (by have := HL.out; omega)]
        exact ⟨rfl, k0⟩
end Go.Proofs.YtmlcnmnpkemdpaaDoor

/- The walks through the ends of voices, the program's and the reference's. -/
namespace Go.Proofs.YtmlcnmnpkemdpaaDoor
open Go.RowKit
theorem getLast_at {α : Type} {l : List α} {n : Nat} (h : l.length = n + 1) {x : α} (hx : l[n]? = some x) : l.getLast? = some x := by
  rw [List.getLast?_eq_getElem?, h]; simpa using hx
set_option maxRecDepth 100000 in
set_option maxHeartbeats 1000000 in
theorem evEnd_any (A : Option Addr) (n c : Nat) (l : List Ev) (B : Nat) (w : World) (h : Reads w B 10 A n (csE l)) (hB : B ≤ w.heap.size) (hn : n ≤ 9223372036854775807) :
    Calls Tryd.prog 57 #[.slice A n c] w fun e w' => e = .returned (vT (endS l)) ∧ Below w.heap.size w w' := by
  have hl := h.evlen
  have r0 : Blk (w.alloc (.cells #[.int .i64 0, .int .i64 0] 52)) w.heap.size 52 #[.int .i64 0, .int .i64 0] := Blk.new _ _ _
  have k0 : Below w.heap.size w (w.alloc (.cells #[.int .i64 0, .int .i64 0] 52)) := by repeat (first | exact Below.refl _ _ | refine below_drewN ?_ _ | refine Below.drew ?_ | refine below_alloc ?_ _ | (refine below_call ?_ (by assumption)) | (refine Below.setCell ?_ ?_ _; rotate_left; (simp; try omega)))
  obtain ⟨⟨y, z⟩, hy⟩ : ∃ y, y = checkS l := ⟨_, rfl⟩
  have hc := evCheck_any A n c l B _ (h.below hB k0) (by simp; omega) hn
  rw [← hy] at hc
  by_cases hz : y = 0
  · subst hz
    cases n with
    | zero =>
      have E := Lib.hid (show endS l = (0, 1, 0) by unfold endS; rw [← hy, if_neg (fun h => h rfl), List.eq_nil_of_length_eq_zero hl]; rfl)
      clear hy hl
      go_enter Tryd.func57, Tryd.ntmps57
      go_wp2_with (first | (go_at_call 60; refine (hc).mono ?_; rintro e wn ⟨rfl, hbn⟩; replace rn := Blk.kept (by with_reducible first | exact rn | exact r0 | exact rn.alloc _ | exact r0.alloc _ | exact (rn.alloc _).alloc _ | exact (r0.alloc _).alloc _) hbn; replace en := rn.cell; replace gn := rn.frozen; replace zn := rn.lt; replace kn := below_call (by with_reducible first | exact kn | exact k0 | exact below_alloc kn _ | exact below_alloc k0 _ | exact below_alloc (below_alloc kn _) _ | exact below_alloc (below_alloc k0 _) _) hbn; clear hbn) | (go_at_call 82; refine (evZero_any _).mono ?_; rintro e wn ⟨rfl, hbn⟩; replace rn := Blk.kept (by with_reducible first | exact rn | exact r0 | exact rn.alloc _ | exact r0.alloc _ | exact (rn.alloc _).alloc _ | exact (r0.alloc _).alloc _) hbn; replace en := rn.cell; replace gn := rn.frozen; replace zn := rn.lt; replace kn := below_call (by with_reducible first | exact kn | exact k0 | exact below_alloc kn _ | exact below_alloc k0 _ | exact below_alloc (below_alloc kn _) _ | exact below_alloc (below_alloc k0 _) _) hbn; clear hbn))
      refine ret_of (by simp [results, Tryd.results57, go_sem, *]; repeat' (first | rfl | apply And.intro)) rfl ⟨?_, by repeat (first | exact Below.refl _ _ | assumption | refine below_drewN ?_ _ | refine Below.drew ?_ | refine below_alloc ?_ _ | (refine below_call ?_ (by assumption)) | (refine Below.setCell ?_ ?_ _; rotate_left; (simp; try omega)))⟩
      rw [E.out]
    | succ m =>
      obtain ⟨x, hx⟩ := get_some (l := l) (k := m) (by omega)
      have E := Lib.hid (show endS l = addS x.at_ x.dur by unfold endS; rw [← hy, if_neg (fun h => h rfl), getLast_at hl hx])
      clear hy hl
      obtain ⟨b, off, rfl, hab, hcl⟩ := h.ev hB (Below.refl _ _) (Nat.lt_succ_self m) hx
      obtain ⟨⟨a, a'⟩, ⟨d, d'⟩, ⟨p, q, r⟩, rst, sg, ps⟩ := x
      obtain ⟨c0, c1, c2, c3, c4, c5, c6, c7, c8, c9⟩ := ten hcl
      clear hcl hx
      simp only at c0 c1 c2 c3 c4 c5 c6 c7 c8 c9 E
      go_enter Tryd.func57, Tryd.ntmps57
      go_wp2_with fail
      refine hc.mono ?_
      rintro e w1 ⟨rfl, hb1⟩
      have r1 := r0.kept hb1
      have k1 := below_call k0 hb1
      rw [← k1.cell (p := ⟨_, _, none⟩) hab] at c0 c1 c2 c3 c4 c5 c6 c7 c8 c9
      have hbz : b < w1.heap.size := Nat.lt_of_lt_of_le hab k1.size
      go_wp2_with fail
      have s1 : Blk (w1.alloc (.cells #[.int .i64 a, .int .i64 a', .int .i64 d, .int .i64 d', .int .i64 p, .int .i64 q, .int .i64 r, .bool rst, .int .i64 sg, .int .i64 ps] 54)) w1.heap.size 54 #[.int .i64 a, .int .i64 a', .int .i64 d, .int .i64 d', .int .i64 p, .int .i64 q, .int .i64 r, .bool rst, .int .i64 sg, .int .i64 ps] := Blk.new _ _ _
      refine (add_any (a, a') (d, d') _).mono ?_
      rintro e w2 ⟨rfl, hb2⟩
      have r2 := (r1.alloc _).kept hb2
      have e0 := r2.cell 0
      have e1 := r2.cell 1
      have f0 := r2.frozen 0
      have f1 := r2.frozen 1
      have z2 := r2.lt
      simp only [List.getElem?_toArray, List.getElem?_cons_zero, List.getElem?_cons_succ] at e0 e1
      have k2 := below_call (below_alloc k1 _) hb2
      go_wp2_with fail
      refine ret_of (by simp [results, Tryd.results57, go_sem, *]; repeat' (first | rfl | apply And.intro)) rfl ⟨?_, by repeat (first | exact Below.refl _ _ | assumption | refine below_drewN ?_ _ | refine Below.drew ?_ | refine below_alloc ?_ _ | (refine below_call ?_ (by assumption)) | (refine Below.setCell ?_ ?_ _; rotate_left; (simp; try omega)))⟩
      rw [E.out]
  · have hz' : (y == 0) = false := by simpa using hz
    have E := Lib.hid (show endS l = (0, 0, y) by unfold endS; rw [← hy, if_pos hz])
    clear hy hl hz
    go_enter Tryd.func57, Tryd.ntmps57
    go_wp2_with (first | (go_at_call 60; refine (hc).mono ?_; rintro e wn ⟨rfl, hbn⟩; replace rn := Blk.kept (by with_reducible first | exact rn | exact r0 | exact rn.alloc _ | exact r0.alloc _ | exact (rn.alloc _).alloc _ | exact (r0.alloc _).alloc _) hbn; replace en := rn.cell; replace gn := rn.frozen; replace zn := rn.lt; replace kn := below_call (by with_reducible first | exact kn | exact k0 | exact below_alloc kn _ | exact below_alloc k0 _ | exact below_alloc (below_alloc kn _) _ | exact below_alloc (below_alloc k0 _) _) hbn; clear hbn))
    refine ret_of (by simp [results, Tryd.results57, go_sem, *]; repeat' (first | rfl | apply And.intro)) rfl ⟨?_, by repeat (first | exact Below.refl _ _ | assumption | refine below_drewN ?_ _ | refine Below.drew ?_ | refine below_alloc ?_ _ | (refine below_call ?_ (by assumption)) | (refine Below.setCell ?_ ?_ _; rotate_left; (simp; try omega)))⟩
    rw [E.out]
end Go.Proofs.YtmlcnmnpkemdpaaDoor

/- Lists of events: the kit's copies and comparisons; slices of events of the call's own. -/

namespace Go.Proofs.YtmlcnmnpkemdpaaDoor
open Go.RowKit
theorem event_info : (Tryd.prog.info? 54).map (fun i => (i.zero, i.size, i.bytes)) = some (some (vE ⟨(0, 0), (0, 0), (0, 0, 0), false, 0, 0⟩), 10, 80) := by kernel_rfl
theorem one_csE (l : List Ev) : ∀ u ∈ csE l, u.oneCell' = true := by
  intro u hu
  obtain ⟨t, _, ht⟩ := List.mem_flatMap.1 hu
  simp [cE] at ht
  rcases ht with rfl | rfl | rfl | rfl | rfl | rfl | rfl | rfl | rfl | rfl <;> rfl
theorem csE_append (l m : List Ev) : csE (l ++ m) = csE l ++ csE m := by unfold csE; rw [List.flatMap_append]
theorem csE_len (l : List Ev) : (csE l).length = l.length * 10 := flat_len cE 10 (fun _ => rfl) l
theorem own_call {w w' : World} {base size n : Nat} {e : TypeId} {v : Value} {xs : List Value} (h : w.ownsRow base e size v n xs) (hb : Below w.heap.size w w') : w'.ownsRow base e size v n xs := by
  have hl := h.lt
  obtain ⟨h1, h2⟩ := h
  refine ⟨h1, ?_⟩
  rcases h2 with h2 | ⟨g, cap, cur, h2, h3, h4, h5⟩
  · exact .inl h2
  · refine .inr ⟨g, cap, cur, h2, h3, ?_, h5⟩
    rw [hb.block g (hl g (by rw [h2]; rfl)).2]; exact h4
/-- A slice of events of the call's own. -/
def OwnE (w : World) (base n : Nat) (A : Option Addr) (c : Nat) (l : List Ev) : Prop := w.ownsRow base 54 10 (.slice A n c) n (csE l) ∧ Reads w w.heap.size 10 A n (csE l) ∧ n ≤ c
theorem ownE_form {w : World} {base n : Nat} {v : Value} {l : List Ev} (h : w.ownsRow base 54 10 v n (csE l)) : ∃ A c, v = .slice A n c ∧ OwnE w base n A c l := by
  obtain ⟨A, c, e, hr, hc, _⟩ := own_reads h
  subst e
  exact ⟨A, c, rfl, h, hr, hc⟩
theorem OwnE.kept {w w' : World} {base n c : Nat} {A : Option Addr} {l : List Ev} (h : OwnE w base n A c l) (hb : Below w.heap.size w w') : OwnE w' base n A c l :=
  ⟨own_call h.1 hb, (h.2.1.below (Nat.le_refl _) hb).more hb.size, h.2.2⟩
end Go.Proofs.YtmlcnmnpkemdpaaDoor

/- The walks through the functions on pitches, the program's and the reference's: numbers, moved and mirrored pitches. -/
namespace Go.Proofs.YtmlcnmnpkemdpaaDoor
open Go.RowKit
@[reducible] def vPE (x : (Int × Int × Int) × Int) : Value := .tuple #[.agg #[.int .i64 x.1.1, .int .i64 x.1.2.1, .int .i64 x.1.2.2], .int .i64 x.2]
theorem vPE_ret {x : (Int × Int × Int) × Int} {a b c e : Int} (h : ((a, b, c), e) = x) : Ending.returned (.tuple #[.agg #[.int .i64 a, .int .i64 b, .int .i64 c], .int .i64 e]) = .returned (vPE x) := by subst h; rfl
theorem pchk_ok {p : Int × Int × Int} (h : pchk p = 0) : 0 ≤ p.1 ∧ p.1 ≤ 6 ∧ 0 ≤ p.2.1 ∧ p.2.1 ≤ 8 ∧ -1 ≤ p.2.2 ∧ p.2.2 ≤ 1 := by
  unfold pchk at h
  split at h
  · cases h
  · omega
theorem numP_ok {p : Int × Int × Int} (h : pchk p = 0) : 0 ≤ numP p ∧ numP p ≤ 62 := by have := pchk_ok h; unfold numP; omega
set_option maxHeartbeats 400000 in
theorem of_any' (a b c : Int) (w : World) (a0 : 0 ≤ a) (a1 : a ≤ 6) (b0 : 0 ≤ b) (b1 : b ≤ 8) :
    Calls Tryd.prog 105 #[.agg #[.int .i64 a, .int .i64 b, .int .i64 c]] w fun e w' => e = .returned (.agg #[.int .i64 (7 * b + a), .int .i64 c]) ∧ Below w.heap.size w w' := by
  go_enter Tryd.func105, Tryd.ntmps105
  go_wp2
  refine ret_of (by simp [results, Tryd.results105, go_sem, *]; repeat' (first | rfl | apply And.intro)) rfl ⟨rfl, ?_⟩
  repeat (first | exact Below.refl _ _ | refine below_drewN ?_ _ | refine Below.drew ?_ | refine below_alloc ?_ _ | (refine below_call ?_ (by assumption)) | (refine Below.setCell ?_ ?_ _; rotate_left; (simp; try omega)))
/-- A number and an error. -/
def numE (p : Int × Int × Int) : Int × Int := if pchk p ≠ 0 then (0, pchk p) else (numP p, 0)
set_option maxHeartbeats 400000 in
theorem refNumber_any (p : Int × Int × Int) (w : World) :
    Calls Tryd.prog 110 #[vP p] w fun e w' => e = .returned (.tuple #[.int .i64 (numE p).1, .int .i64 (numE p).2]) ∧ Below w.heap.size w w' := by
  have r0 : Blk (w.alloc (.cells #[.int .i64 p.1, .int .i64 p.2.1, .int .i64 p.2.2] 32)) w.heap.size 32 #[.int .i64 p.1, .int .i64 p.2.1, .int .i64 p.2.2] := Blk.new _ _ _
  have k0 : Below w.heap.size w (w.alloc (.cells #[.int .i64 p.1, .int .i64 p.2.1, .int .i64 p.2.2] 32)) := by repeat (first | exact Below.refl _ _ | refine below_drewN ?_ _ | refine Below.drew ?_ | refine below_alloc ?_ _ | (refine below_call ?_ (by assumption)) | (refine Below.setCell ?_ ?_ _; rotate_left; (simp; try omega)))
  by_cases h : pchk p = 0
  · obtain ⟨h0, h1, h2, h3, _, _⟩ := pchk_ok h
    have hb : (pchk p != 0) = false := by simpa using h
    have E := Lib.hid (show numE p = (7 * p.2.1 + p.1, 0) by unfold numE numP; rw [if_neg (by rw [h]; exact fun h => h rfl)])
    obtain ⟨a, b, c⟩ := p
    simp only at h0 h1 h2 h3 E hb
    clear h
    go_enter Tryd.func110, Tryd.ntmps110
    go_wp2_with (first | (go_at_call 109; refine (refPcheck_any (_, _, _) _).mono ?_; rintro e wn ⟨rfl, hbn⟩; replace rn := Blk.kept (by with_reducible first | exact rn | exact r0 | exact rn.alloc _ | exact r0.alloc _ | exact (rn.alloc _).alloc _ | exact (r0.alloc _).alloc _) hbn; replace en := rn.cell; replace gn := rn.frozen; replace zn := rn.lt; replace kn := below_call (by with_reducible first | exact kn | exact k0 | exact below_alloc kn _ | exact below_alloc k0 _ | exact below_alloc (below_alloc kn _) _ | exact below_alloc (below_alloc k0 _) _) hbn; clear hbn))
    go_ret2
    rw [E.out]
    exact ⟨rfl, by repeat (first | exact Below.refl _ _ | assumption | refine below_drewN ?_ _ | refine Below.drew ?_ | refine below_alloc ?_ _ | (refine below_call ?_ (by assumption)) | (refine Below.setCell ?_ ?_ _; rotate_left; (simp; try omega)))⟩
  · have hb : (pchk p != 0) = true := by simpa using h
    have E := Lib.hid (show numE p = (0, pchk p) by unfold numE; rw [if_pos h])
    obtain ⟨a, b, c⟩ := p
    clear h
    go_enter Tryd.func110, Tryd.ntmps110
    go_wp2_with (first | (go_at_call 109; refine (refPcheck_any (_, _, _) _).mono ?_; rintro e wn ⟨rfl, hbn⟩; replace rn := Blk.kept (by with_reducible first | exact rn | exact r0 | exact rn.alloc _ | exact r0.alloc _ | exact (rn.alloc _).alloc _ | exact (r0.alloc _).alloc _) hbn; replace en := rn.cell; replace gn := rn.frozen; replace zn := rn.lt; replace kn := below_call (by with_reducible first | exact kn | exact k0 | exact below_alloc kn _ | exact below_alloc k0 _ | exact below_alloc (below_alloc kn _) _ | exact below_alloc (below_alloc k0 _) _) hbn; clear hbn))
    go_ret2
    rw [E.out]
    exact ⟨rfl, by repeat (first | exact Below.refl _ _ | assumption | refine below_drewN ?_ _ | refine Below.drew ?_ | refine below_alloc ?_ _ | (refine below_call ?_ (by assumption)) | (refine Below.setCell ?_ ?_ _; rotate_left; (simp; try omega)))⟩
end Go.Proofs.YtmlcnmnpkemdpaaDoor

