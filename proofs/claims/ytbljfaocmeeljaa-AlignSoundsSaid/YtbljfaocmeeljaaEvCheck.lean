/- The walks through the checks of voices and their ends, the program's and the reference's. -/
import Derived.Test.YtbljfaocmeeljaaEvent
namespace Go.Proofs.Ytbljfaocmeeljaa
open Go.RowKit
theorem ten {w : World} {b o : Nat} {x : Ev} (h : ∀ j u, (cE x)[j]? = some u → w.cell? ⟨b, o + j, none⟩ = some u) :
    w.cell? ⟨b, o, none⟩ = some (.int .i64 x.at_.1) ∧ w.cell? ⟨b, o + 1, none⟩ = some (.int .i64 x.at_.2) ∧ w.cell? ⟨b, o + 2, none⟩ = some (.int .i64 x.dur.1) ∧ w.cell? ⟨b, o + 3, none⟩ = some (.int .i64 x.dur.2) ∧ w.cell? ⟨b, o + 4, none⟩ = some (.int .i64 x.pit.1) ∧
    w.cell? ⟨b, o + 5, none⟩ = some (.int .i64 x.pit.2.1) ∧ w.cell? ⟨b, o + 6, none⟩ = some (.int .i64 x.pit.2.2) ∧ w.cell? ⟨b, o + 7, none⟩ = some (.bool x.rest) ∧ w.cell? ⟨b, o + 8, none⟩ = some (.int .i64 x.sign) ∧ w.cell? ⟨b, o + 9, none⟩ = some (.int .i64 x.pass) :=
  ⟨h 0 _ rfl, h 1 _ rfl, h 2 _ rfl, h 3 _ rfl, h 4 _ rfl, h 5 _ rfl, h 6 _ rfl, h 7 _ rfl, h 8 _ rfl, h 9 _ rfl⟩
/-- Element k of a slice of events. -/
theorem Reads.ev {w W : World} {B n : Nat} {A : Option Addr} {l : List Ev} (h : Reads w B 10 A n (csE l)) (hB : B ≤ w.heap.size) (hb : Below w.heap.size w W) {k : Nat} {x : Ev} (hk : k < n) (hx : l[k]? = some x) :
    ∃ b off, A = some ⟨b, off, none⟩ ∧ b < W.heap.size ∧ ∀ j u, (cE x)[j]? = some u → W.cell? ⟨b, off + k * 10 + j, none⟩ = some u := by
  obtain ⟨b, off, hA, hbB, hc⟩ := h.elem (f := cE) (fun _ => rfl) hk hx
  refine ⟨b, off, hA, by have := hb.size; omega, fun j u hj => ?_⟩
  rw [hb.cell (by simp; omega), Nat.add_assoc]
  exact hc j u hj
theorem Reads.evlen {w : World} {B n : Nat} {A : Option Addr} {l : List Ev} (h : Reads w B 10 A n (csE l)) : l.length = n := h.len (size := 10) (l := l) (f := cE) (fun _ => rfl) (by decide)
set_option maxRecDepth 100000 in
set_option maxHeartbeats 1000000 in
theorem evCheck_any (A : Option Addr) (n c : Nat) (l : List Ev) (B : Nat) (w : World) (h : Reads w B 10 A n (csE l)) (hB : B ≤ w.heap.size) (hn : n ≤ 9223372036854775807) :
    Calls Try.prog 43 #[.slice A n c] w fun e w' => e = .returned (.tuple #[.int .i64 (checkS l).1, .int .i64 (checkS l).2]) ∧ Below w.heap.size w w' := by
  have hl := h.evlen
  by_cases hbig : 2000 < n
  · have hbig' : (2000 : Int) < (n : Int) := by omega
    have E := Lib.hid (show checkS l = (11, 0) by unfold checkS; rw [if_pos (by omega)])
    clear hl
    go_enter Try.func43, Try.ntmps43
    go_wp2
    go_ret2
    rw [E.out]
    exact ⟨rfl, Below.refl _ _⟩
  · have hbig' : ¬ ((2000 : Int) < (n : Int)) := by omega
    have E := Lib.hid (show checkS l = checkFrom (0, 1) 0 l by unfold checkS; rw [if_neg (by omega)])
    have HL := Lib.hid hl; clear hl hbig
    go_enter Try.func43, Try.ntmps43
    go_wp2_with (go_at_call 69; refine (evZero_any _).mono ?_; rintro e w1 ⟨rfl, hb1⟩)
    go_loopw [5, 6, 7, 8, 9, 16] (fun _ _ _ _ _ i wr => ∃ (k : Nat) (t t' : Int), k ≤ n ∧ i = .int .i64 k ∧ Hid (checkFrom (t, t') k (l.drop k) = checkFrom (0, 1) 0 l) ∧ Below w1.heap.size w1 wr ∧ Blk wr w1.heap.size 34 #[.int .i64 t, .int .i64 t']) (fun _ _ _ _ _ i _ => n - (intOf i).toNat)
    case atStart => exact ⟨0, 0, 1, by omega, rfl, Lib.hid rfl, by repeat (first | exact Below.refl _ _ | refine below_drewN ?_ _ | refine Below.drew ?_ | refine below_alloc ?_ _ | (refine below_call ?_ (by assumption)) | (refine Below.setCell ?_ ?_ _; rotate_left; (simp; try omega))), Blk.new _ _ _⟩
    case round =>
      obtain ⟨k, t, t', hk, rfl, hs, k0, r0⟩ := hrel
      have en := r0.cell; have gn := r0.frozen; have zn := r0.lt
      by_cases hlt : k < n
      · have hlt' : (k : Int) < (n : Int) := by omega
        obtain ⟨x, hx⟩ := get_some (l := l) (k := k) (by have := HL.out; omega)
        have HD := Lib.hid (drop_get hx)
        obtain ⟨b, off, rfl, hab, hc⟩ := h.ev hB (below_call hb1 k0) hlt hx
        obtain ⟨⟨a, a'⟩, ⟨d, d'⟩, ⟨p, q, r⟩, rst, sg, ps⟩ := x
        obtain ⟨c0, c1, c2, c3, c4, c5, c6, c7, c8, c9⟩ := ten hc
        clear hc hx
        simp only at c0 c1 c2 c3 c4 c5 c6 c7 c8 c9
        have s0 : Blk (wr.alloc (.cells #[.int .i64 a, .int .i64 a', .int .i64 d, .int .i64 d', .int .i64 p, .int .i64 q, .int .i64 r, .bool rst, .int .i64 sg, .int .i64 ps] 67)) wr.heap.size 67 #[.int .i64 a, .int .i64 a', .int .i64 d, .int .i64 d', .int .i64 p, .int .i64 q, .int .i64 r, .bool rst, .int .i64 sg, .int .i64 ps] := Blk.new _ _ _
        go_wp2_with (first | (go_at_call 70; refine (one_any ⟨(_, _), (_, _), (_, _, _), _, _, _⟩ _).mono ?_; rintro e wn ⟨rfl, hbn⟩; replace rn := Blk.kept (by with_reducible first | exact rn | exact r0 | exact rn.alloc _ | exact r0.alloc _ | exact (rn.alloc _).alloc _ | exact (r0.alloc _).alloc _) hbn; replace en := rn.cell; replace gn := rn.frozen; replace zn := rn.lt; replace sn := Blk.kept (by with_reducible first | exact sn | exact s0 | exact sn.alloc _ | exact s0.alloc _ | exact (sn.alloc _).alloc _ | exact (s0.alloc _).alloc _) hbn; replace fn := sn.cell; replace hn := sn.frozen; replace yn := sn.lt; replace kn := below_call (by with_reducible first | exact kn | exact k0 | exact below_alloc kn _ | exact below_alloc k0 _ | exact below_alloc (below_alloc kn _) _ | exact below_alloc (below_alloc k0 _) _) hbn; clear hbn) | (go_at_call 36; refine (add_any (_, _) (_, _) _).mono ?_; rintro e wn ⟨rfl, hbn⟩; replace rn := Blk.kept (by with_reducible first | exact rn | exact r0 | exact rn.alloc _ | exact r0.alloc _ | exact (rn.alloc _).alloc _ | exact (r0.alloc _).alloc _) hbn; replace en := rn.cell; replace gn := rn.frozen; replace zn := rn.lt; replace sn := Blk.kept (by with_reducible first | exact sn | exact s0 | exact sn.alloc _ | exact s0.alloc _ | exact (sn.alloc _).alloc _ | exact (s0.alloc _).alloc _) hbn; replace fn := sn.cell; replace hn := sn.frozen; replace yn := sn.lt; replace kn := below_call (by with_reducible first | exact kn | exact k0 | exact below_alloc kn _ | exact below_alloc k0 _ | exact below_alloc (below_alloc kn _) _ | exact below_alloc (below_alloc k0 _) _) hbn; clear hbn))
        · go_ret2
          have hne : (oneS ⟨(a, a'), (d, d'), (p, q, r), rst, sg, ps⟩ != 0) = true := by assumption
          have hr := hs.out
          rw [HD.out, cf_one (by simpa using hne)] at hr
          rw [E.out, ← hr]
          exact ⟨rfl, below_call hb1 kn⟩
        · go_ret2
          have h1 : (oneS ⟨(a, a'), (d, d'), (p, q, r), rst, sg, ps⟩ != 0) = false := by assumption
          have e1 : a = t := by assumption
          have e2 : a' = t' := by assumption
          have hne : ((addS (t, t') (d, d')).2.2 != 0) = true := by assumption
          have hr := hs.out
          subst e1 e2
          rw [HD.out, cf_add (now := (a, a')) (by simpa using h1) rfl (by simpa using hne)] at hr
          rw [E.out, ← hr]
          exact ⟨rfl, below_call hb1 (by repeat (first | exact Below.refl _ _ | assumption | refine below_drewN ?_ _ | refine Below.drew ?_ | refine below_alloc ?_ _ | (refine below_call ?_ (by assumption)) | (refine Below.setCell ?_ ?_ _; rotate_left; (simp; try omega))))⟩
        · go_roundw
          case rel =>
            have h1 : (oneS ⟨(a, a'), (d, d'), (p, q, r), rst, sg, ps⟩ != 0) = false := by assumption
            have e1 : a = t := by assumption
            have e2 : a' = t' := by assumption
            have hne : ((addS (t, t') (d, d')).2.2 != 0) = false := by assumption
            refine ⟨k + 1, (addS (t, t') (d, d')).1, (addS (t, t') (d, d')).2.1, by omega, by go_num, ?_, by repeat (first | exact Below.refl _ _ | assumption | refine below_drewN ?_ _ | refine Below.drew ?_ | refine below_alloc ?_ _ | (refine below_call ?_ (by assumption)) | (refine Below.setCell ?_ ?_ _; rotate_left; (simp; try omega))), ?_⟩
            rotate_left
            · repeat (first | with_reducible exact rn | with_reducible exact Blk.new _ _ _ | (with_reducible refine Blk.newAt _ _ _ _ ?_; first | rfl | (simp; done)) | with_reducible apply Blk.alloc | with_reducible apply Blk.drewN | with_reducible apply Blk.drew | with_reducible apply Blk.set_to | (with_reducible apply Blk.far_; (simp only [ne_eq]; omega)) | rfl)
            have hr := hs.out
            subst e1 e2
            rw [HD.out, cf_next (now := (a, a')) (by simpa using h1) rfl (by simpa using hne)] at hr
            exact Lib.hid hr
          case measure => simp [intOf]; omega
        all_goals
          go_ret2
          have h1 : (oneS ⟨(a, a'), (d, d'), (p, q, r), rst, sg, ps⟩ != 0) = false := by assumption
          have hr := hs.out
          rw [HD.out, cf_at (by simpa using h1) (by simp only [ne_eq, Prod.mk.injEq]; first | (rintro ⟨e1, e2⟩; contradiction) | (rintro ⟨e1, e2⟩; have hx : ¬ a = t := by assumption; exact hx e1) | (rintro ⟨e1, e2⟩; have hx : ¬ a' = t' := by assumption; exact hx e2))] at hr
          rw [E.out, ← hr]
          exact ⟨rfl, below_call hb1 (by repeat (first | exact Below.refl _ _ | assumption | refine below_drewN ?_ _ | refine Below.drew ?_ | refine below_alloc ?_ _ | (refine below_call ?_ (by assumption)) | (refine Below.setCell ?_ ?_ _; rotate_left; (simp; try omega))))⟩
      · go_wp2
        go_ret2
        rw [E.out, ← hs.out, List.drop_eq_nil_of_le (by have := HL.out; omega)]
        exact ⟨rfl, below_call hb1 k0⟩
set_option maxRecDepth 100000 in
set_option maxHeartbeats 1000000 in
theorem refEvCheck_any (A : Option Addr) (n c : Nat) (l : List Ev) (B : Nat) (w : World) (h : Reads w B 10 A n (csE l)) (hB : B ≤ w.heap.size) (hn : n ≤ 9223372036854775807) :
    Calls Try.prog 44 #[.slice A n c] w fun e w' => e = .returned (.tuple #[.int .i64 (checkS l).1, .int .i64 (checkS l).2]) ∧ Below w.heap.size w w' := by
  have hl := h.evlen
  by_cases hbig : 2000 < n
  · have hbig' : (2000 : Int) < (n : Int) := by omega
    have E := Lib.hid (show checkS l = (11, 0) by unfold checkS; rw [if_pos (by omega)])
    clear hl
    go_enter Try.func44, Try.ntmps44
    go_wp2
    go_ret2
    rw [E.out]
    exact ⟨rfl, Below.refl _ _⟩
  · have hbig' : ¬ ((2000 : Int) < (n : Int)) := by omega
    have E := Lib.hid (show checkS l = checkFrom (0, 1) 0 l by unfold checkS; rw [if_neg (by omega)])
    have HL := Lib.hid hl; clear hl hbig
    go_enter Try.func44, Try.ntmps44
    go_wp2
    go_loopw [5, 6] (fun i _ wr => ∃ (k : Nat) (t t' : Int), k ≤ n ∧ i = .int .i64 k ∧ Hid (checkFrom (t, t') k (l.drop k) = checkFrom (0, 1) 0 l) ∧ Below w.heap.size w wr ∧ Blk wr w.heap.size 34 #[.int .i64 t, .int .i64 t']) (fun i _ _ => n - (intOf i).toNat)
    case atStart => exact ⟨0, 0, 1, by omega, rfl, Lib.hid rfl, by repeat (first | exact Below.refl _ _ | refine below_drewN ?_ _ | refine Below.drew ?_ | refine below_alloc ?_ _ | (refine below_call ?_ (by assumption)) | (refine Below.setCell ?_ ?_ _; rotate_left; (simp; try omega))), Blk.new _ _ _⟩
    case round =>
      obtain ⟨k, t, t', hk, rfl, hs, k0, r0⟩ := hrel
      have en := r0.cell; have gn := r0.frozen; have zn := r0.lt
      by_cases hlt : k < n
      · have hlt' : (k : Int) < (n : Int) := by omega
        obtain ⟨x, hx⟩ := get_some (l := l) (k := k) (by have := HL.out; omega)
        have HD := Lib.hid (drop_get hx)
        obtain ⟨b, off, rfl, hab, hc⟩ := h.ev hB k0 hlt hx
        have hbne : w.heap.size ≠ b := by
          obtain ⟨b', off', e', hb', _⟩ := h.2 (by omega)
          cases e'
          omega
        obtain ⟨⟨a, a'⟩, ⟨d, d'⟩, ⟨p, q, r⟩, rst, sg, ps⟩ := x
        obtain ⟨c0, c1, c2, c3, c4, c5, c6, c7, c8, c9⟩ := ten hc
        clear hc hx
        simp only at c0 c1 c2 c3 c4 c5 c6 c7 c8 c9
        have e0 : wr.cell? ⟨w.heap.size, 0, none⟩ = some (.int .i64 t) := en 0
        have e1 : wr.cell? ⟨w.heap.size, 1, none⟩ = some (.int .i64 t') := en 1
        obtain ⟨y, hy⟩ : ∃ y, y = stepS (t, t') ⟨(a, a'), (d, d'), (p, q, r), rst, sg, ps⟩ := ⟨_, rfl⟩
        have Y := Lib.hid hy.symm; clear hy
        go_wp2_with fail
        refine wp_region_calm (by kernel_rfl) (by kernel_rfl) ?_
        repeat (go_big_quiet_step ((go_at_call 71; have hq := refOne_any ⟨(a, a'), (d, d'), (p, q, r), rst, sg, ps⟩ (t, t'); rw [Y.out] at hq; exact calm_call (hq _))))
        refine wpQuiet_nil ?_
        intro w1 hb1
        have r1 := r0.kept hb1
        have hb := below_call k0 hb1
        have z1 := r1.lt
        have g0 := r1.frozen 0
        have g1 := r1.frozen 1
        replace e0 := r1.cell 0
        replace e1 := r1.cell 1
        simp only [List.getElem?_toArray, List.getElem?_cons_zero, List.getElem?_cons_succ] at e0 e1
        have hcc := bcell hb1
        rw [← hcc.1 _ _ hab] at c0 c1 c2 c3
        replace hab := Nat.lt_of_lt_of_le hab hb1.size
        clear hcc c4 c5 c6 c7 c8 c9 en gn zn r0 k0
        go_wp2_with fail
        · go_ret2
          have hne : (y != 0) = true := by assumption
          have hr := hs.out
          rw [HD.out, checkFrom, Y.out, if_pos (by simpa using hne)] at hr
          rw [E.out, ← hr]
          exact ⟨rfl, hb⟩
        · have hne : (y != 0) = false := by assumption
          have hbw : w.heap.size ≠ b := hbne
          go_region_held3 (fun w' => w'.cell? ⟨b, off + k * 10, none⟩ = some (.int .i64 a) ∧ w'.cell? ⟨b, off + k * 10 + 1, none⟩ = some (.int .i64 a') ∧ w'.cell? ⟨b, off + k * 10 + 2, none⟩ = some (.int .i64 d) ∧ w'.cell? ⟨b, off + k * 10 + 3, none⟩ = some (.int .i64 d')) ((first | exact ⟨c0, c1, c2, c3⟩ | exact ⟨(hcc _ _ hab).trans c0, (hcc _ _ hab).trans c1, (hcc _ _ hab).trans c2, (hcc _ _ hab).trans c3⟩ | (refine ⟨?_, ?_, ?_, ?_⟩ <;> (rw [World.cell?_setCell_far _ _ _ _ hbw, World.cell?_setCell_far _ _ _ _ hbw]; first | exact (hcc _ _ hab).trans c0 | exact (hcc _ _ hab).trans c1 | exact (hcc _ _ hab).trans c2 | exact (hcc _ _ hab).trans c3)))) (first | (go_at_call 62; refine (refAdd_any (_, _) (_, _) _).mono ?_; rintro e w2 ⟨rfl, hb2⟩; have hcc := (bcell hb2).1; have r2 := r1.drew.kept hb2; have kb := below_call hb.drew hb2; have q0 := r2.cell 0; have q1 := r2.cell 1; have f0 := r2.frozen 0; have f1 := r2.frozen 1; simp only [List.getElem?_toArray, List.getElem?_cons_zero, List.getElem?_cons_succ] at q0 q1))
          go_wp2_with fail
          go_roundw
          case rel =>
            refine ⟨k + 1, (addS (a, a') (d, d')).1, (addS (a, a') (d, d')).2.1, by omega, by go_num, ?_, by repeat (first | exact Below.refl _ _ | assumption | refine below_drewN ?_ _ | refine Below.drew ?_ | refine below_alloc ?_ _ | (refine below_call ?_ (by assumption)) | (refine Below.setCell ?_ ?_ _; rotate_left; (simp; try omega))), ?_⟩
            rotate_left
            · repeat (first | with_reducible exact r2 | with_reducible exact Blk.new _ _ _ | (with_reducible refine Blk.newAt _ _ _ _ ?_; first | rfl | (simp; done)) | with_reducible apply Blk.alloc | with_reducible apply Blk.drewN | with_reducible apply Blk.drew | with_reducible apply Blk.set_to | (with_reducible apply Blk.far_; (simp only [ne_eq]; omega)) | rfl)
            have hr := hs.out
            rw [HD.out, checkFrom, Y.out, if_neg (by simpa using hne)] at hr
            exact Lib.hid hr
          case measure => simp [intOf]; omega
      · go_wp2
        go_ret2
        rw [E.out, ← hs.out, List.drop_eq_nil_of_le (by have := HL.out; omega)]
        exact ⟨rfl, k0⟩
end Go.Proofs.Ytbljfaocmeeljaa
