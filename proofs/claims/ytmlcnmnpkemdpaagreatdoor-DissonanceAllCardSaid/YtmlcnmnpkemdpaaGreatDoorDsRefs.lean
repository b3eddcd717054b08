
/- DsRefA, DsRefB, DsRefC, DsRefD, DsRefE, DsMadeR: one text. -/
import Derived.Test.YtmlcnmnpkemdpaaGreatDoorDsPro
import Derived.Test.YtmlcnmnpkemdpaaGreatDoorChRefKind
import Derived.Test.YtmlcnmnpkemdpaaGreatDoorSteps
import Derived.Test.YtmlcnmnpkemdpaaGreatDoorChMade
import Derived.Test.YtmlcnmnpkemdpaaGreatDoorDsAllP
/- The reference's questions of a voice: the step, short, passing, turning. -/

namespace Go.Proofs.YtmlcnmnpkemdpaaGreatDoor
open Go.RowKit
theorem rstep_neg {v : List Ev} {i : Int} (h : i < 0) : stepD v i = 0 := by unfold stepD; rw [if_pos h]
theorem rstep_end {v : List Ev} {k : Nat} (h : v.length ≤ k + 1) : stepD v k = 0 := by
  unfold stepD
  rw [if_neg (by omega), Int.toNat_natCast, List.getElem?_eq_none (show v.length ≤ k + 1 by omega)]
  cases v[k]? <;> rfl
set_option maxRecDepth 100000 in
set_option maxHeartbeats 4000000 in
theorem rstep_ok (A : Option Addr) (n c : Nat) (v : List Ev) (w : World) (hre : Reads w w.heap.size 10 A n (csE v)) (hvn : v.length = n) (hp : PitsV v) {i : Int} (hi : -10 ≤ i) (hi' : i ≤ 100000) :
    Calls Tryz.prog 76 #[.slice A n c, .int .i64 i] w fun e w' => e = .returned (.int .i64 (stepD v i)) ∧ Below w.heap.size w w' := by
  have wk : IntKind.i64.wrap (i + 1) = i + 1 := IntWalk.i64_in _ (by omega)
  by_cases h0 : i < 0
  · have E := Lib.hid (rstep_neg (v := v) h0)
    clear hre hvn hp
    go_enter Tryz.func76, Tryz.ntmps76
    go_wp2
    refine ret_of (by simp [results, Tryz.results76, go_sem, *]; repeat' (first | rfl | apply And.intro)) rfl ⟨?_, by repeat (first | with_reducible exact Below.refl _ _ | with_reducible assumption | with_reducible refine below_drewN ?_ _ | with_reducible refine Below.drew ?_ | with_reducible refine below_alloc ?_ _ | (with_reducible refine Below.setCell ?_ ?_ _; rotate_left; ((try simp only); omega)))⟩
    rw [E.out]
  · obtain ⟨k, rfl⟩ : ∃ k : Nat, i = (k : Int) := ⟨i.toNat, by omega⟩
    obtain ⟨k1, hk1⟩ : ∃ z, z = k + 1 := ⟨_, rfl⟩
    replace wk : IntKind.i64.wrap ((k : Int) + 1) = (k1 : Int) := by rw [wk]; omega
    by_cases h1 : n ≤ k + 1
    · have E := Lib.hid (rstep_end (v := v) (k := k) (by omega))
      have d1 : decide (n ≤ k1) = true := by simp; omega
      clear hre hvn hp h1 hk1
      go_enter Tryz.func76, Tryz.ntmps76
      go_wp2
      refine ret_of (by simp [results, Tryz.results76, go_sem, *]; repeat' (first | rfl | apply And.intro)) rfl ⟨?_, by repeat (first | with_reducible exact Below.refl _ _ | with_reducible assumption | with_reducible refine below_drewN ?_ _ | with_reducible refine Below.drew ?_ | with_reducible refine below_alloc ?_ _ | (with_reducible refine Below.setCell ?_ ?_ _; rotate_left; ((try simp only); omega)))⟩
      rw [E.out]
    · have d1 : decide (n ≤ k1) = false := by simp; omega
      have d2 : (k : Int) < (n : Int) := by omega
      have d3 : (k1 : Int) < (n : Int) := by omega
      obtain ⟨x, hx⟩ := get_some (l := v) (k := k) (by omega)
      obtain ⟨y, hy⟩ := get_some (l := v) (k := k + 1) (by omega)
      have E := Lib.hid (step_two hx hy)
      rw [← hk1] at hy
      obtain ⟨bx, ox, rfl, hbx, hcx⟩ := hre.ev (Nat.le_refl _) (Below.refl _ _) (k := k) (by omega) hx
      obtain ⟨by_, oy, hA, hby, hcy⟩ := hre.ev (Nat.le_refl _) (Below.refl _ _) (k := k1) (by omega) hy
      cases hA
      obtain ⟨_, _, _, _, c4, c5, c6, c7, _, _⟩ := ten hcx
      obtain ⟨_, _, _, _, f4, f5, f6, f7, _, _⟩ := ten hcy
      have px := hp x (List.mem_of_getElem? hx)
      have py := hp y (List.mem_of_getElem? hy)
      obtain ⟨_, _, ⟨p0, p1, p2⟩, xr, _, _⟩ := x
      obtain ⟨_, _, ⟨q0, q1, q2⟩, yr, _, _⟩ := y
      simp only at c4 c5 c6 c7 f4 f5 f6 f7 px py E
      clear hx hy hcx hcy hre hvn hp h0 h1 hk1
      cases xr with
      | true =>
        clear px py f4 f5 f6 f7
        go_enter Tryz.func76, Tryz.ntmps76
        go_wp2
        refine ret_of (by simp [results, Tryz.results76, go_sem, *]; repeat' (first | rfl | apply And.intro)) rfl ⟨?_, by repeat (first | with_reducible exact Below.refl _ _ | with_reducible assumption | with_reducible refine below_drewN ?_ _ | with_reducible refine Below.drew ?_ | with_reducible refine below_alloc ?_ _ | (with_reducible refine Below.setCell ?_ ?_ _; rotate_left; ((try simp only); omega)))⟩
        rw [E.out]
        rfl
      | false =>
        cases yr with
        | true =>
          clear px py
          go_enter Tryz.func76, Tryz.ntmps76
          go_wp2
          refine ret_of (by simp [results, Tryz.results76, go_sem, *]; repeat' (first | rfl | apply And.intro)) rfl ⟨?_, by repeat (first | with_reducible exact Below.refl _ _ | with_reducible assumption | with_reducible refine below_drewN ?_ _ | with_reducible refine Below.drew ?_ | with_reducible refine below_alloc ?_ _ | (with_reducible refine Below.setCell ?_ ?_ _; rotate_left; ((try simp only); omega)))⟩
          rw [E.out]
          rfl
        | false =>
          have n1 := refNumber_any (p0, p1, p2)
          have n2 := refNumber_any (q0, q1, q2)
          rw [numE_ok (px rfl)] at n1
          rw [numE_ok (py rfl)] at n2
          rw [if_neg (by simp)] at E
          have b1 := numP_bd (px rfl)
          have b2 := numP_bd (py rfl)
          obtain ⟨nx, hnx⟩ : ∃ s, s = numP (p0, p1, p2) := ⟨_, rfl⟩
          obtain ⟨ny, hny⟩ : ∃ s, s = numP (q0, q1, q2) := ⟨_, rfl⟩
          rw [← hnx] at n1 E b1
          rw [← hny] at n2 E b2
          simp only at n1 n2
          have wd : IntKind.i64.wrap (ny - nx) = ny - nx := IntWalk.i64_in _ (by omega)
          clear px py hnx hny
          go_enter Tryz.func76, Tryz.ntmps76
          go_wp2_with fail
          refine (n1 _).mono ?_
          rintro e w1 ⟨rfl, k1⟩
          have f4' := (k1.cell (p := ⟨bx, ox + _ * 10 + 4, none⟩) hbx).trans f4
          have f5' := (k1.cell (p := ⟨bx, ox + _ * 10 + 5, none⟩) hbx).trans f5
          have f6' := (k1.cell (p := ⟨bx, ox + _ * 10 + 6, none⟩) hbx).trans f6
          have l1 : bx < w1.heap.size := by have := k1.size; omega
          clear c4 c5 c6 c7 f4 f5 f6 f7 hbx
          go_wp2_with fail
          refine (n2 _).mono ?_
          rintro e w2 ⟨rfl, k2⟩
          have k3 := below_call k1 k2
          go_wp2
          refine ret_of (by simp [results, Tryz.results76, go_sem, *]; repeat' (first | rfl | apply And.intro)) rfl ⟨?_, k3⟩
          rw [E.out]
set_option maxRecDepth 100000 in
set_option maxHeartbeats 2000000 in
theorem rshort_any (x : Ev) (w : World) :
    Calls Tryz.prog 77 #[vE x] w fun e w' => e = .returned (.bool (shortB x)) ∧ Below w.heap.size w w' := by
  have q1 := refCmp_any x.dur (1, 1)
  obtain ⟨⟨z, r⟩, hz⟩ : ∃ t, t = cmpS x.dur (1, 1) := ⟨_, rfl⟩
  have E := Lib.hid (show shortB x = decide (z ≤ 0) by unfold shortB; rw [← hz])
  rw [← hz] at q1
  obtain ⟨⟨a0, a1⟩, ⟨d0, d1⟩, ⟨p0, p1, p2⟩, rst, sg, ps⟩ := x
  simp only at q1 E
  dsimp only [vE]
  clear hz
  go_enter Tryz.func77, Tryz.ntmps77
  go_wp2_with fail
  refine (q1 _).mono ?_
  rintro e w1 ⟨rfl, k1⟩
  have k2 : Below w.heap.size w w1 := below_call (by repeat (first | with_reducible exact Below.refl _ _ | with_reducible assumption | with_reducible refine below_drewN ?_ _ | with_reducible refine Below.drew ?_ | with_reducible refine below_alloc ?_ _ | (with_reducible refine Below.setCell ?_ ?_ _; rotate_left; ((try simp only); omega)))) k1
  go_wp2
  refine ret_of (by simp [results, Tryz.results77, go_sem, *]; repeat' (first | rfl | apply And.intro)) rfl ⟨?_, k2⟩
  rw [E.out]
set_option maxRecDepth 100000 in
set_option maxHeartbeats 4000000 in
theorem rpassing_ok (A : Option Addr) (n c : Nat) (v : List Ev) (w : World) (hre : Reads w w.heap.size 10 A n (csE v)) (hvn : v.length = n) (hp : PitsV v) {j : Nat} {x : Ev} (hx : v[j]? = some x) (hj : j ≤ 100000) :
    Calls Tryz.prog 53 #[.slice A n c, .int .i64 j] w fun e w' => e = .returned (.bool (passB v j)) ∧ Below w.heap.size w w' := by
  have q1 := fun W (hW : Below w.heap.size w W) => rstep_ok A n c v W (rd1 hre hW) hvn hp (i := (j : Int) - 1) (by omega) (by omega)
  have q2 := fun W (hW : Below w.heap.size w W) => rstep_ok A n c v W (rd1 hre hW) hvn hp (i := (j : Int)) (by omega) (by omega)
  have wj : IntKind.i64.wrap ((j : Int) - 1) = (j : Int) - 1 := IntWalk.i64_in _ (by omega)
  have hjn : j < n := by have := (List.getElem?_eq_some_iff.1 hx).1; omega
  have d0 : (j : Int) < (n : Int) := by omega
  have hE : passB v j = (shortB x && (decide (oneD (stepD v ((j : Int) - 1)) ≠ 0) && decide (stepD v j = stepD v ((j : Int) - 1)))) := by unfold passB; rw [short_at hx]
  obtain ⟨d1, hd1⟩ : ∃ z, z = stepD v ((j : Int) - 1) := ⟨_, rfl⟩
  obtain ⟨d2, hd2⟩ : ∃ z, z = stepD v (j : Int) := ⟨_, rfl⟩
  rw [← hd1] at q1 hE
  rw [← hd2] at q2 hE
  obtain ⟨bx, ox, rfl, hbx, hcx⟩ := hre.ev (Nat.le_refl _) (Below.refl _ _) (k := j) hjn hx
  obtain ⟨c0, c1, c2, c3, c4, c5, c6, c7, c8, c9⟩ := ten hcx
  obtain ⟨⟨a0, a1⟩, ⟨e0, e1⟩, ⟨p0, p1, p2⟩, xr, sg, ps⟩ := x
  simp only at c0 c1 c2 c3 c4 c5 c6 c7 c8 c9
  have HX := Lib.hid (show ∀ W, Below w.heap.size w W → bx < W.heap.size ∧ W.cell? ⟨bx, ox + j * 10, none⟩ = some (.int .i64 a0) ∧ W.cell? ⟨bx, ox + j * 10 + 1, none⟩ = some (.int .i64 a1) ∧ W.cell? ⟨bx, ox + j * 10 + 2, none⟩ = some (.int .i64 e0) ∧ W.cell? ⟨bx, ox + j * 10 + 3, none⟩ = some (.int .i64 e1) ∧ W.cell? ⟨bx, ox + j * 10 + 4, none⟩ = some (.int .i64 p0) ∧ W.cell? ⟨bx, ox + j * 10 + 5, none⟩ = some (.int .i64 p1) ∧ W.cell? ⟨bx, ox + j * 10 + 6, none⟩ = some (.int .i64 p2) ∧ W.cell? ⟨bx, ox + j * 10 + 7, none⟩ = some (.bool xr) ∧ W.cell? ⟨bx, ox + j * 10 + 8, none⟩ = some (.int .i64 sg) ∧ W.cell? ⟨bx, ox + j * 10 + 9, none⟩ = some (.int .i64 ps) from fun W hW => by
    have hz := hW.size
    exact ⟨by omega, (hW.cell (p := ⟨_, _, none⟩) hbx).trans c0, (hW.cell (p := ⟨_, _, none⟩) hbx).trans c1, (hW.cell (p := ⟨_, _, none⟩) hbx).trans c2, (hW.cell (p := ⟨_, _, none⟩) hbx).trans c3, (hW.cell (p := ⟨_, _, none⟩) hbx).trans c4, (hW.cell (p := ⟨_, _, none⟩) hbx).trans c5, (hW.cell (p := ⟨_, _, none⟩) hbx).trans c6, (hW.cell (p := ⟨_, _, none⟩) hbx).trans c7, (hW.cell (p := ⟨_, _, none⟩) hbx).trans c8, (hW.cell (p := ⟨_, _, none⟩) hbx).trans c9⟩)
  have qs := rshort_any ⟨(a0, a1), (e0, e1), (p0, p1, p2), xr, sg, ps⟩
  dsimp only [vE] at qs
  obtain ⟨bs, hbs⟩ : ∃ z, z = shortB ⟨(a0, a1), (e0, e1), (p0, p1, p2), xr, sg, ps⟩ := ⟨_, rfl⟩
  rw [← hbs] at qs hE
  have HE := Lib.hid hE
  have k0 := Below.refl w.heap.size w
  clear hre hvn hp hx hd1 hd2 hE hbs c0 c1 c2 c3 c4 c5 c6 c7 c8 c9
  rcases (show bs = false ∨ (bs = true ∧ (d1 = 1 ∨ d1 = -1 ∨ ((d1 == 1) = false ∧ (d1 == -1) = false))) by
    cases bs with
    | false => exact .inl rfl
    | true =>
      refine .inr ⟨rfl, ?_⟩
      by_cases z1 : d1 = 1
      · exact .inl z1
      · by_cases z2 : d1 = -1
        · exact .inr (.inl z2)
        · exact .inr (.inr ⟨by simpa using z1, by simpa using z2⟩)) with rfl | ⟨rfl, rfl | rfl | ⟨z1, z2⟩⟩
  all_goals
    go_enter Tryz.func53, Tryz.ntmps53
    go_wp2_with fail
    refine (q1 _ k0).mono ?_
    rintro e w1 ⟨rfl, b1⟩
    go_wp2_with fail
    refine (q2 _ b1).mono ?_
    rintro e w2 ⟨rfl, b2⟩
    have k2 := below_call b1 b2
    obtain ⟨hbx2, f0, f1, f2, f3, f4, f5, f6, f7, f8, f9⟩ := HX.out w2 k2
    go_wp2_with fail
    refine (qs _).mono ?_
    rintro e w3 ⟨rfl, b3⟩
    have k3 := below_call k2 b3
    go_wp2
    refine ret_of (by simp [results, Tryz.results53, go_sem, *]; repeat' (first | rfl | apply And.intro)) rfl ⟨?_, k3⟩
    rw [HE.out]
  · rfl
  · rw [show decide (d2 = 1) = ((1 : Int) == d2) by rw [Bool.eq_iff_iff]; simp; omega]; rfl
  · rw [show decide (d2 = -1) = ((-1 : Int) == d2) by rw [Bool.eq_iff_iff]; simp; omega]; rfl
  · unfold oneD
    rw [if_neg]
    · rfl
    · rintro (rfl | rfl)
      · cases z1
      · cases z2
set_option maxRecDepth 100000 in
set_option maxHeartbeats 4000000 in
theorem rturning_ok (A : Option Addr) (n c : Nat) (v : List Ev) (w : World) (hre : Reads w w.heap.size 10 A n (csE v)) (hvn : v.length = n) (hp : PitsV v) {j : Nat} {x : Ev} (hx : v[j]? = some x) (hj : j ≤ 100000) :
    Calls Tryz.prog 54 #[.slice A n c, .int .i64 j] w fun e w' => e = .returned (.bool (turnB v j)) ∧ Below w.heap.size w w' := by
  have q1 := fun W (hW : Below w.heap.size w W) => rstep_ok A n c v W (rd1 hre hW) hvn hp (i := (j : Int) - 1) (by omega) (by omega)
  have wj : IntKind.i64.wrap ((j : Int) - 1) = (j : Int) - 1 := IntWalk.i64_in _ (by omega)
  have hjn : j < n := by have := (List.getElem?_eq_some_iff.1 hx).1; omega
  have d0 : (j : Int) < (n : Int) := by omega
  have hE : turnB v j = (shortB x && (decide (oneD (stepD v ((j : Int) - 1)) ≠ 0) && sameB v j)) := by unfold turnB; rw [short_at hx]
  have HST := Lib.hid (step_notes (v := v) (i := (j : Int) - 1))
  obtain ⟨d1, hd1⟩ : ∃ z, z = stepD v ((j : Int) - 1) := ⟨_, rfl⟩
  rw [← hd1] at q1 hE HST
  obtain ⟨bx, ox, rfl, hbx, hcx⟩ := hre.ev (Nat.le_refl _) (Below.refl _ _) (k := j) hjn hx
  obtain ⟨c0, c1, c2, c3, c4, c5, c6, c7, c8, c9⟩ := ten hcx
  obtain ⟨⟨a0, a1⟩, ⟨e0, e1⟩, ⟨p0, p1, p2⟩, xr, sg, ps⟩ := x
  simp only at c0 c1 c2 c3 c4 c5 c6 c7 c8 c9
  have HX := Lib.hid (show ∀ W, Below w.heap.size w W → bx < W.heap.size ∧ W.cell? ⟨bx, ox + j * 10, none⟩ = some (.int .i64 a0) ∧ W.cell? ⟨bx, ox + j * 10 + 1, none⟩ = some (.int .i64 a1) ∧ W.cell? ⟨bx, ox + j * 10 + 2, none⟩ = some (.int .i64 e0) ∧ W.cell? ⟨bx, ox + j * 10 + 3, none⟩ = some (.int .i64 e1) ∧ W.cell? ⟨bx, ox + j * 10 + 4, none⟩ = some (.int .i64 p0) ∧ W.cell? ⟨bx, ox + j * 10 + 5, none⟩ = some (.int .i64 p1) ∧ W.cell? ⟨bx, ox + j * 10 + 6, none⟩ = some (.int .i64 p2) ∧ W.cell? ⟨bx, ox + j * 10 + 7, none⟩ = some (.bool xr) ∧ W.cell? ⟨bx, ox + j * 10 + 8, none⟩ = some (.int .i64 sg) ∧ W.cell? ⟨bx, ox + j * 10 + 9, none⟩ = some (.int .i64 ps) from fun W hW => by
    have hz := hW.size
    exact ⟨by omega, (hW.cell (p := ⟨_, _, none⟩) hbx).trans c0, (hW.cell (p := ⟨_, _, none⟩) hbx).trans c1, (hW.cell (p := ⟨_, _, none⟩) hbx).trans c2, (hW.cell (p := ⟨_, _, none⟩) hbx).trans c3, (hW.cell (p := ⟨_, _, none⟩) hbx).trans c4, (hW.cell (p := ⟨_, _, none⟩) hbx).trans c5, (hW.cell (p := ⟨_, _, none⟩) hbx).trans c6, (hW.cell (p := ⟨_, _, none⟩) hbx).trans c7, (hW.cell (p := ⟨_, _, none⟩) hbx).trans c8, (hW.cell (p := ⟨_, _, none⟩) hbx).trans c9⟩)
  have qs := rshort_any ⟨(a0, a1), (e0, e1), (p0, p1, p2), xr, sg, ps⟩
  dsimp only [vE] at qs
  obtain ⟨bs, hbs⟩ : ∃ z, z = shortB ⟨(a0, a1), (e0, e1), (p0, p1, p2), xr, sg, ps⟩ := ⟨_, rfl⟩
  rw [← hbs] at qs hE
  have HE := Lib.hid hE
  have k0 := Below.refl w.heap.size w
  clear hx hd1 hE hbs c0 c1 c2 c3 c4 c5 c6 c7 c8 c9
  cases bs with
  | false =>
    have E := Lib.hid (show turnB v j = false by rw [HE.out]; rfl)
    clear HE HST hre hvn hp
    go_enter Tryz.func54, Tryz.ntmps54
    go_wp2_with fail
    refine (q1 _ k0).mono ?_
    rintro e w1 ⟨rfl, b1⟩
    obtain ⟨hbx2, f0, f1, f2, f3, f4, f5, f6, f7, f8, f9⟩ := HX.out w1 b1
    go_wp2_with fail
    refine wp_region_calm (by kernel_rfl) (by kernel_rfl) ?_
    repeat (go_big_quiet_step ((go_at_call 77; with_reducible exact calm_call (qs _))))
    refine wpQuiet_nil ?_
    intro wd gd
    have kd := below_call b1 gd
    go_wp2
    refine ret_of (by simp [results, Tryz.results54, go_sem, *]; repeat' (first | rfl | apply And.intro)) rfl ⟨?_, kd⟩
    rw [E.out]
  | true =>
    rcases (show (d1 = 1 ∨ d1 = -1) ∨ ((d1 == 1) = false ∧ (d1 == -1) = false) by
      by_cases z1 : d1 = 1
      · exact .inl (.inl z1)
      · by_cases z2 : d1 = -1
        · exact .inl (.inr z2)
        · exact .inr ⟨by simpa using z1, by simpa using z2⟩) with hd | ⟨z1, z2⟩
    · have h0 : oneD d1 ≠ 0 := by rcases hd with rfl | rfl <;> decide
      obtain ⟨hj0, z, _, hz, _⟩ := HST.out h0
      obtain ⟨p, hpj⟩ : ∃ p, j = p + 1 := ⟨j - 1, by omega⟩
      rw [show ((j : Int) - 1).toNat = p by omega] at hz
      replace wj : IntKind.i64.wrap ((j : Int) - 1) = (p : Int) := by rw [wj]; omega
      replace q1 := fun W (hW : Below w.heap.size w W) => by have h := q1 W hW; rw [show (j : Int) - 1 = (p : Int) by omega] at h; exact h
      have HE2 := Lib.hid (show turnB v j = sameB v j by rw [HE.out, decide_eq_true h0]; rfl)
      obtain ⟨j1, hj1⟩ : ∃ j1, j1 = j + 1 := ⟨_, rfl⟩
      have wj1 : IntKind.i64.wrap ((j : Int) + 1) = (j1 : Int) := by rw [IntWalk.i64_in _ (by omega)]; omega
      by_cases hn : n ≤ j1
      · have E := Lib.hid (show turnB v j = false by rw [HE2.out, same_none (by omega)])
        have dd : decide (j1 < n) = false := by simp; omega
        clear HE HE2 HST hre hvn hz hpj hj1 hn h0 hj0 hp
        rcases hd with rfl | rfl
        all_goals
          go_enter Tryz.func54, Tryz.ntmps54
          go_wp2_with fail
          refine (q1 _ k0).mono ?_
          rintro e w1 ⟨rfl, b1⟩
          obtain ⟨hbx2, f0, f1, f2, f3, f4, f5, f6, f7, f8, f9⟩ := HX.out w1 b1
          go_wp2_with fail
          refine wp_region_calm (by kernel_rfl) (by kernel_rfl) ?_
          repeat (go_big_quiet_step ((go_at_call 77; with_reducible exact calm_call (qs _))))
          refine wpQuiet_nil ?_
          intro wd gd
          have kd := below_call b1 gd
          go_wp2
          refine ret_of (by simp [results, Tryz.results54, go_sem, *]; repeat' (first | rfl | apply And.intro)) rfl ⟨?_, kd⟩
          rw [E.out]
      · have dd : decide (j1 < n) = true := by simp; omega
        have dd2 : (j1 : Int) < (n : Int) := by omega
        have dd3 : (p : Int) < (n : Int) := by omega
        obtain ⟨y, hy⟩ := get_some (l := v) (k := j + 1) (by omega)
        have HE3 := Lib.hid (show turnB v j = (!y.rest && decide (y.pit = z.pit)) by rw [HE2.out, same_two hpj hy hz])
        rw [← hj1] at hy
        obtain ⟨_, _, hA, hby, hcx⟩ := hre.ev (Nat.le_refl _) (Below.refl _ _) (k := j1) (by omega) hy
        cases hA
        obtain ⟨_, _, hA, hbz, hcy⟩ := hre.ev (Nat.le_refl _) (Below.refl _ _) (k := p) (by omega) hz
        cases hA
        obtain ⟨_, _, _, _, c4, c5, c6, c7, _, _⟩ := ten hcx
        obtain ⟨_, _, _, _, f4, f5, f6, f7, _, _⟩ := ten hcy
        obtain ⟨_, _, ⟨s0, s1, s2⟩, yr, _, _⟩ := y
        obtain ⟨_, _, ⟨r0, r1, r2⟩, zr, _, _⟩ := z
        simp only at c4 c5 c6 c7 f4 f5 f6 f7 HE3
        have HR := Lib.hid (show ∀ W, Below w.heap.size w W → W.cell? ⟨bx, ox + j1 * 10 + 7, none⟩ = some (.bool yr) ∧ W.cell? ⟨bx, ox + j1 * 10 + 4, none⟩ = some (.int .i64 s0) ∧ W.cell? ⟨bx, ox + j1 * 10 + 5, none⟩ = some (.int .i64 s1) ∧ W.cell? ⟨bx, ox + j1 * 10 + 6, none⟩ = some (.int .i64 s2) ∧ W.cell? ⟨bx, ox + p * 10 + 4, none⟩ = some (.int .i64 r0) ∧ W.cell? ⟨bx, ox + p * 10 + 5, none⟩ = some (.int .i64 r1) ∧ W.cell? ⟨bx, ox + p * 10 + 6, none⟩ = some (.int .i64 r2) from fun W hW =>
          ⟨(hW.cell (p := ⟨_, _, none⟩) hbx).trans c7, (hW.cell (p := ⟨_, _, none⟩) hbx).trans c4, (hW.cell (p := ⟨_, _, none⟩) hbx).trans c5, (hW.cell (p := ⟨_, _, none⟩) hbx).trans c6, (hW.cell (p := ⟨_, _, none⟩) hbx).trans f4, (hW.cell (p := ⟨_, _, none⟩) hbx).trans f5, (hW.cell (p := ⟨_, _, none⟩) hbx).trans f6⟩)
        clear HE HE2 HST hre hvn hy hz hpj hj1 hn h0 hj0 hcx hcy c4 c5 c6 c7 f4 f5 f6 f7 hby hbz hp hbx
        cases yr with
        | true =>
          have E := Lib.hid (show turnB v j = false by rw [HE3.out]; rfl)
          clear HE3
          rcases hd with rfl | rfl
          all_goals
            go_enter Tryz.func54, Tryz.ntmps54
            go_wp2_with fail
            refine (q1 _ k0).mono ?_
            rintro e w1 ⟨rfl, b1⟩
            obtain ⟨hbx2, f0, f1, f2, f3, f4, f5, f6, f7, f8, f9⟩ := HX.out w1 b1
            obtain ⟨u7, u4, u5, u6, z4, z5, z6⟩ := HR.out w1 b1
            go_wp2_with fail
            refine wp_region_calm (by kernel_rfl) (by kernel_rfl) ?_
            repeat (go_big_quiet_step ((go_at_call 77; with_reducible exact calm_call (qs _))))
            refine wpQuiet_nil ?_
            intro wd gd
            have kd := below_call b1 gd
            go_wp2
            refine ret_of (by simp [results, Tryz.results54, go_sem, *]; repeat' (first | rfl | apply And.intro)) rfl ⟨?_, kd⟩
            rw [E.out]
        | false =>
          rcases three_parts s0 s1 s2 r0 r1 r2 with ⟨rfl, rfl, rfl⟩ | g0 | ⟨rfl, g1⟩ | ⟨rfl, rfl, g2⟩
          · have E := Lib.hid (show turnB v j = true by rw [HE3.out]; simp)
            clear HE3
            rcases hd with rfl | rfl
            all_goals
              go_enter Tryz.func54, Tryz.ntmps54
              go_wp2_with fail
              refine (q1 _ k0).mono ?_
              rintro e w1 ⟨rfl, b1⟩
              obtain ⟨hbx2, f0, f1, f2, f3, f4, f5, f6, f7, f8, f9⟩ := HX.out w1 b1
              obtain ⟨u7, u4, u5, u6, z4, z5, z6⟩ := HR.out w1 b1
              go_wp2_with fail
              refine wp_region_calm (by kernel_rfl) (by kernel_rfl) ?_
              repeat (go_big_quiet_step ((go_at_call 77; with_reducible exact calm_call (qs _))))
              refine wpQuiet_nil ?_
              intro wd gd
              have kd := below_call b1 gd
              go_wp2
              refine ret_of (by simp [results, Tryz.results54, go_sem, *]; repeat' (first | rfl | apply And.intro)) rfl ⟨?_, kd⟩
              rw [E.out]
          · have E := Lib.hid (show turnB v j = false by rw [HE3.out]; simp [g0])
            have g0' : (s0 == r0) = false := by simpa using g0
            clear HE3
            rcases hd with rfl | rfl
            all_goals
              go_enter Tryz.func54, Tryz.ntmps54
              go_wp2_with fail
              refine (q1 _ k0).mono ?_
              rintro e w1 ⟨rfl, b1⟩
              obtain ⟨hbx2, f0, f1, f2, f3, f4, f5, f6, f7, f8, f9⟩ := HX.out w1 b1
              obtain ⟨u7, u4, u5, u6, z4, z5, z6⟩ := HR.out w1 b1
              go_wp2_with fail
              refine wp_region_calm (by kernel_rfl) (by kernel_rfl) ?_
              repeat (go_big_quiet_step ((go_at_call 77; with_reducible exact calm_call (qs _))))
              refine wpQuiet_nil ?_
              intro wd gd
              have kd := below_call b1 gd
              go_wp2
              refine ret_of (by simp [results, Tryz.results54, go_sem, *]; repeat' (first | rfl | apply And.intro)) rfl ⟨?_, kd⟩
              rw [E.out]
          · have E := Lib.hid (show turnB v j = false by rw [HE3.out]; simp [g1])
            have g1' : (s1 == r1) = false := by simpa using g1
            clear HE3
            rcases hd with rfl | rfl
            all_goals
              go_enter Tryz.func54, Tryz.ntmps54
              go_wp2_with fail
              refine (q1 _ k0).mono ?_
              rintro e w1 ⟨rfl, b1⟩
              obtain ⟨hbx2, f0, f1, f2, f3, f4, f5, f6, f7, f8, f9⟩ := HX.out w1 b1
              obtain ⟨u7, u4, u5, u6, z4, z5, z6⟩ := HR.out w1 b1
              go_wp2_with fail
              refine wp_region_calm (by kernel_rfl) (by kernel_rfl) ?_
              repeat (go_big_quiet_step ((go_at_call 77; with_reducible exact calm_call (qs _))))
              refine wpQuiet_nil ?_
              intro wd gd
              have kd := below_call b1 gd
              go_wp2
              refine ret_of (by simp [results, Tryz.results54, go_sem, *]; repeat' (first | rfl | apply And.intro)) rfl ⟨?_, kd⟩
              rw [E.out]
          · have E := Lib.hid (show turnB v j = false by rw [HE3.out]; simp [g2])
            have g2' : (s2 == r2) = false := by simpa using g2
            clear HE3
            rcases hd with rfl | rfl
            all_goals
              go_enter Tryz.func54, Tryz.ntmps54
              go_wp2_with fail
              refine (q1 _ k0).mono ?_
              rintro e w1 ⟨rfl, b1⟩
              obtain ⟨hbx2, f0, f1, f2, f3, f4, f5, f6, f7, f8, f9⟩ := HX.out w1 b1
              obtain ⟨u7, u4, u5, u6, z4, z5, z6⟩ := HR.out w1 b1
              go_wp2_with fail
              refine wp_region_calm (by kernel_rfl) (by kernel_rfl) ?_
              repeat (go_big_quiet_step ((go_at_call 77; with_reducible exact calm_call (qs _))))
              refine wpQuiet_nil ?_
              intro wd gd
              have kd := below_call b1 gd
              go_wp2
              refine ret_of (by simp [results, Tryz.results54, go_sem, *]; repeat' (first | rfl | apply And.intro)) rfl ⟨?_, kd⟩
              rw [E.out]
    · have E := Lib.hid (show turnB v j = false by
        rw [HE.out]
        unfold oneD
        rw [if_neg]
        · rfl
        · rintro (rfl | rfl)
          · cases z1
          · cases z2)
      clear HE HST hre hvn hp
      go_enter Tryz.func54, Tryz.ntmps54
      go_wp2_with fail
      refine (q1 _ k0).mono ?_
      rintro e w1 ⟨rfl, b1⟩
      obtain ⟨hbx2, f0, f1, f2, f3, f4, f5, f6, f7, f8, f9⟩ := HX.out w1 b1
      go_wp2_with fail
      refine wp_region_calm (by kernel_rfl) (by kernel_rfl) ?_
      repeat (go_big_quiet_step ((go_at_call 77; with_reducible exact calm_call (qs _))))
      refine wpQuiet_nil ?_
      intro wd gd
      have kd := below_call b1 gd
      go_wp2
      refine ret_of (by simp [results, Tryz.results54, go_sem, *]; repeat' (first | rfl | apply And.intro)) rfl ⟨?_, kd⟩
      rw [E.out]
end Go.Proofs.YtmlcnmnpkemdpaaGreatDoor

/- The reference's chord, and which voice starts in a slice. -/

namespace Go.Proofs.YtmlcnmnpkemdpaaGreatDoor
open Go.RowKit
@[reducible] def vSl (t : Tm) (d0 d1 : Int) (be oe n ce : Nat) : Value := .agg #[.int .i64 t.1, .int .i64 t.2, .int .i64 d0, .int .i64 d1, .slice (some ⟨be, oe, none⟩) n ce]
/-- The events of slice k. -/
structure EvR (w : World) (be oe n : Nat) (l : List (List Ev)) (k : Nat) : Prop where
  lt : be < w.heap.size
  at_ : ∀ i, i < n → w.cell? ⟨be, oe + i, none⟩ = some (.int .i64 (evI l (momS l) k i))
theorem EvR.kept {w W : World} {be oe n : Nat} {l : List (List Ev)} {k : Nat} (h : EvR w be oe n l k) (hb : Below w.heap.size w W) : EvR W be oe n l k :=
  ⟨by have := hb.size; have := h.lt; omega, fun i hi => (hb.cell (p := ⟨be, oe + i, none⟩) h.lt).trans (h.at_ i hi)⟩
/-- Slice k in memory. -/
theorem Stg.sl {w W : World} {A S : Option Addr} {n K : Nat} {l : List (List Ev)} (h : Stg w A S n K l) (hb : Below w.heap.size w W) {k : Nat} (hk : k < K) (hn : 0 < n) :
    ∃ bs os be oe ce d0 d1, S = some ⟨bs, os, none⟩ ∧ bs < W.heap.size ∧ W.cell? ⟨bs, os + k * 5, none⟩ = some (.int .i64 (mAt (momS l) k).1) ∧ W.cell? ⟨bs, os + k * 5 + 1, none⟩ = some (.int .i64 (mAt (momS l) k).2) ∧
      W.cell? ⟨bs, os + k * 5 + 2, none⟩ = some (.int .i64 d0) ∧ W.cell? ⟨bs, os + k * 5 + 3, none⟩ = some (.int .i64 d1) ∧ W.cell? ⟨bs, os + k * 5 + 4, none⟩ = some (.slice (some ⟨be, oe, none⟩) n ce) ∧ EvR W be oe n l k := by
  have hg : ((List.range K).map (slOf l (momS l)))[k]? = some (slOf l (momS l) k) := by rw [List.getElem?_map, List.getElem?_range hk]; rfl
  obtain ⟨bs, os, p, q, ce, hS, hbs, hq, hr, c0, c1, c2, c3, c4⟩ := h.slices.el (Nat.le_refl _) hb hk hg
  have hqn : q = n := by rw [← hq]; show (l.map _).length = n; rw [List.length_map]; exact h.len
  subst hqn
  have key : ∀ i, i < q → ∃ be oe, p = some ⟨be, oe, none⟩ ∧ be < W.heap.size ∧ W.cell? ⟨be, oe + i, none⟩ = some (.int .i64 (evI l (momS l) k i)) := fun i hi => by
    obtain ⟨v, hv⟩ := get_some (l := l) (k := i) (by have := h.len; omega)
    obtain ⟨be, oe, hp, hbe, hce⟩ := Reads.elem (f := cI) (fun _ => rfl) hr (k := i) hi (x := onS v (mAt (momS l) k)) (by show (l.map _)[i]? = _; rw [List.getElem?_map, hv]; rfl)
    have h0 := hce 0 _ rfl
    unfold evI
    rw [getD_at hv]
    exact ⟨be, oe, hp, hbe, by simpa using h0⟩
  obtain ⟨be, oe, hp, hbe, _⟩ := key 0 hn
  refine ⟨bs, os, be, oe, ce, _, _, hS, hbs, c0, c1, c2, c3, by rw [← hp]; exact c4, hbe, fun i hi => ?_⟩
  obtain ⟨be', oe', hp', _, h1⟩ := key i hi
  rw [hp] at hp'
  cases hp'
  exact h1
/-- Voice i in memory. -/
theorem Stg.vo {w W : World} {A S : Option Addr} {n K : Nat} {l : List (List Ev)} (h : Stg w A S n K l) (hb : Below w.heap.size w W) {i : Nat} (hi : i < n) :
    ∃ v ba oa A' n' c', l[i]? = some v ∧ l.getD i [] = v ∧ A = some ⟨ba, oa, none⟩ ∧ ba < W.heap.size ∧ W.cell? ⟨ba, oa + i, none⟩ = some (.slice A' n' c') ∧ Reads W W.heap.size 10 A' n' (csE v) ∧ v.length = n' ∧ n' ≤ 2000 := by
  obtain ⟨v, hv⟩ := get_some (l := l) (k := i) (by have := h.len; omega)
  obtain ⟨ba, oa, A', n', c', hA, hba, cv, hre, _, hvn⟩ := h.voices.voice (Nat.le_refl _) hb hi hv
  have h2 := ((set_facts h.good).2.1 v (List.mem_of_getElem? hv)).2.2
  exact ⟨v, ba, oa, A', n', c', hv, getD_at hv, hA, hba, cv, hre.more hb.size, hvn, by omega⟩
theorem Stg.pits {w : World} {A S : Option Addr} {n K : Nat} {l : List (List Ev)} (h : Stg w A S n K l) : ∀ v ∈ l, PitsV v := fun v hv => val_pits ((checkA_all h.good).2 v hv)
theorem Stg.evs {w : World} {A S : Option Addr} {n K : Nat} {l : List (List Ev)} (h : Stg w A S n K l) {k : Nat} (hk : k < K) (i : Nat) : -1 ≤ evI l (momS l) k i ∧ evI l (momS l) k i ≤ 2000 := ev_bd h.good (by have := h.many; omega) i
set_option maxRecDepth 100000 in
set_option maxHeartbeats 2000000 in
theorem rstarts_ok {w : World} {A S : Option Addr} {n K : Nat} {l : List (List Ev)} (h : Stg w A S n K l) (c : Nat) {k i be oe : Nat} (hk : k < K) (hi : i < n) (he : EvR w be oe n l k) (d0 d1 : Int) (ce : Nat) :
    Calls Tryz.prog 52 #[.slice A n c, vSl (mAt (momS l) k) d0 d1 be oe n ce, .int .i64 i] w fun e w' => e = .returned (.bool (startB (l.getD i []) (mAt (momS l) k))) ∧ Below w.heap.size w w' := by
  obtain ⟨v, ba, oa, A', n', c', hv, hd, rfl, hba, z0, hre, hvn, _⟩ := h.vo (Below.refl _ _) hi
  have hon := h.onK hk hv
  have y0 := he.at_ i hi
  have hev : evI l (momS l) k i = onS v (mAt (momS l) k) := by unfold evI; rw [hd]
  rw [hev] at y0
  rw [hd]
  have hbe := he.lt
  have hik : (i : Int) < (n : Int) := by omega
  obtain ⟨⟨t0, t1⟩, ht⟩ : ∃ t, t = mAt (momS l) k := ⟨_, rfl⟩
  rw [← ht] at hon y0 ⊢
  rcases hon with ho | ⟨j, x, ho, hx⟩
  · have E := Lib.hid (start_neg (v := v) (t := (t0, t1)) (by omega))
    rw [ho] at y0
    clear ho h hre hvn hv hd he hev ht
    go_enter Tryz.func52, Tryz.ntmps52
    go_wp2_with fail
    obtain ⟨wq, hwq⟩ : ∃ y, y = w.alloc (.cells #[.int .i64 t0, .int .i64 t1, .int .i64 d0, .int .i64 d1, .slice (some ⟨be, oe, none⟩) n ce] 73) := ⟨_, rfl⟩
    have BX : Blk wq w.heap.size 73 #[.int .i64 t0, .int .i64 t1, .int .i64 d0, .int .i64 d1, .slice (some ⟨be, oe, none⟩) n ce] := by rw [hwq]; exact Blk.new _ _ _
    have kq : Below w.heap.size w wq := by rw [hwq]; exact below_alloc (Below.refl _ _) _
    rw [← hwq]
    have x0 := BX.cell 0
    have x1 := BX.cell 1
    have x4 := BX.cell 4
    have xl := BX.lt
    have z0' := (kq.cell (p := ⟨ba, oa + i, none⟩) hba).trans z0
    have y0' := (kq.cell (p := ⟨be, oe + i, none⟩) hbe).trans y0
    have l1 : be < wq.heap.size := by have := kq.size; omega
    have l2 : ba < wq.heap.size := by have := kq.size; omega
    clear hwq z0 y0 hba hbe
    refine wp_region_calm (by kernel_rfl) (by kernel_rfl) ?_
    repeat (go_big_quiet_step (fail))
    refine wpQuiet_nil ?_
    intro wd gd
    have kd := below_call kq gd
    go_wp2
    refine ret_of (by simp [results, Tryz.results52, go_sem, *]; repeat' (first | rfl | apply And.intro)) rfl ⟨?_, kd⟩
    rw [E.out]
  · rw [ho] at y0
    have hjn : j < n' := by have := (List.getElem?_eq_some_iff.1 hx).1; omega
    have hjn' : (j : Int) < (n' : Int) := by omega
    obtain ⟨bx, ox, rfl, hbx, hcx⟩ := hre.ev (Nat.le_refl _) (Below.refl _ _) hjn hx
    obtain ⟨c0, c1, _, _, _, _, _, _, _, _⟩ := ten hcx
    have E := Lib.hid (start_ev (t := (t0, t1)) ho hx)
    obtain ⟨⟨a0, a1⟩, _, _, _, _, _⟩ := x
    simp only at c0 c1 E
    have E2 := Lib.hid (show decide ((a0, a1) = (t0, t1)) = ((a0 == t0) && (a1 == t1)) by
      rw [Bool.eq_iff_iff]; simp)
    clear ho h hre hvn hv hcx hx ht he hd hev
    rcases (show ((a0 == t0) = true ∧ (a1 == t1) = true) ∨ ((a0 == t0) = true ∧ (a1 == t1) = false) ∨ (a0 == t0) = false by
      cases (a0 == t0) <;> cases (a1 == t1) <;> simp) with ⟨g0, g1⟩ | ⟨g0, g1⟩ | g0
    all_goals
      go_enter Tryz.func52, Tryz.ntmps52
      go_wp2_with fail
      obtain ⟨wq, hwq⟩ : ∃ y, y = w.alloc (.cells #[.int .i64 t0, .int .i64 t1, .int .i64 d0, .int .i64 d1, .slice (some ⟨be, oe, none⟩) n ce] 73) := ⟨_, rfl⟩
      have BX : Blk wq w.heap.size 73 #[.int .i64 t0, .int .i64 t1, .int .i64 d0, .int .i64 d1, .slice (some ⟨be, oe, none⟩) n ce] := by rw [hwq]; exact Blk.new _ _ _
      have kq : Below w.heap.size w wq := by rw [hwq]; exact below_alloc (Below.refl _ _) _
      rw [← hwq]
      have x0 := BX.cell 0
      have x1 := BX.cell 1
      have x4 := BX.cell 4
      have xl := BX.lt
      have z0' := (kq.cell (p := ⟨ba, oa + i, none⟩) hba).trans z0
      have y0' := (kq.cell (p := ⟨be, oe + i, none⟩) hbe).trans y0
      have l1 : be < wq.heap.size := by have := kq.size; omega
      have l2 : ba < wq.heap.size := by have := kq.size; omega
      have c0' := (kq.cell (p := ⟨bx, ox + j * 10, none⟩) hbx).trans c0
      have c1' := (kq.cell (p := ⟨bx, ox + j * 10 + 1, none⟩) hbx).trans c1
      have l3 : bx < wq.heap.size := by have := kq.size; omega
      clear hwq z0 y0 hba hbe c0 c1 hbx
      refine wp_region_calm (by kernel_rfl) (by kernel_rfl) ?_
      repeat (go_big_quiet_step (fail))
      refine wpQuiet_nil ?_
      intro wd gd
      have kd := below_call kq gd
      go_wp2
      refine ret_of (by simp [results, Tryz.results52, go_sem, *]; repeat' (first | rfl | apply And.intro)) rfl ⟨?_, kd⟩
      rw [E.out, E2.out, g0]
      try rw [g1]
      try rfl
theorem reads_i {w : World} {g : Nat} {t : TypeId} {j : Int} (h : Blk w g t #[.int .i64 j]) : Reads w w.heap.size 1 (some ⟨g, 0, none⟩) 1 (csN [j]) := by
  refine ⟨rfl, fun _ => ⟨g, 0, rfl, h.lt, fun j' u hu => ?_⟩⟩
  rw [Nat.zero_add, h.cell]
  simpa [csN, cI] using hu
theorem reads_blk {w : World} {g : Nat} {t : TypeId} {p0 p1 p2 : Int} (h : Blk w g t #[.int .i64 p0, .int .i64 p1, .int .i64 p2]) : Reads w w.heap.size 3 (some ⟨g, 0, none⟩) 1 (csP [(p0, p1, p2)]) := by
  refine ⟨rfl, fun _ => ⟨g, 0, rfl, h.lt, fun j' u hu => ?_⟩⟩
  rw [Nat.zero_add, h.cell]
  simpa [csP, cP] using hu
theorem lay3 {W w' : World} {row : Option Nat} {t : TypeId} {cs : Array Value} {G : Prop} (hg : W.grownBy w' row) (g : Nat) (hB : Blk W g t cs) (hne : some g ≠ row) (k : Blk w' g t cs → G) : G := k (Blk.grown_ hB hg hne)
set_option maxRecDepth 100000 in
set_option maxHeartbeats 8000000 in
theorem rchord_ok {w : World} {A S : Option Addr} {n K : Nat} {l : List (List Ev)} (h : Stg w A S n K l) (c : Nat) {k be oe : Nat} (hk : k < K) (he : EvR w be oe n l k) (d0 d1 : Int) (ce : Nat) :
    Calls Tryz.prog 50 #[.slice A n c, vSl (mAt (momS l) k) d0 d1 be oe n ce] w fun e w' => ChordRet l (mAt (momS l) k) w e w' := by
  have hn8 := h.big.2
  have HL := Lib.hid h.len
  have HON := Lib.hid (fun i v (hi : l[i]? = some v) => h.onK hk hi)
  have HV0 := Lib.hid (fun W (hW : Below w.heap.size w W) i (hi : i < n) => h.vo hW hi)
  have HE0 := he
  obtain ⟨t, ht⟩ : ∃ t, t = mAt (momS l) k := ⟨_, rfl⟩
  have HEV := Lib.hid (show ∀ i v, l[i]? = some v → evI l (momS l) k i = onS v t from fun i v hv => by unfold evI; rw [getD_at hv, ht])
  rw [← ht] at HON ⊢
  obtain ⟨i0, hi0, hz0, hz1, hz2⟩ := info_parts num_info
  obtain ⟨j0, hj0, yz0, yz1, yz2⟩ := info_parts pitch_info
  have HNE : 54 ≠ 3 := by decide
  have HNE2 : 3 ≠ 54 := by decide
  obtain ⟨t0, t1⟩ := t
  clear h he ht
  go_enter Tryz.func50, Tryz.ntmps50
  go_wp2_with fail
  obtain ⟨wq, hwq⟩ : ∃ y, y = w.alloc (.cells #[.int .i64 t0, .int .i64 t1, .int .i64 d0, .int .i64 d1, .slice (some ⟨be, oe, none⟩) n ce] 73) := ⟨_, rfl⟩
  have BX : Blk wq w.heap.size 73 #[.int .i64 t0, .int .i64 t1, .int .i64 d0, .int .i64 d1, .slice (some ⟨be, oe, none⟩) n ce] := by rw [hwq]; exact Blk.new _ _ _
  have kq : Below w.heap.size w wq := by rw [hwq]; exact below_alloc (Below.refl _ _) _
  rw [← hwq]
  have HV := Lib.hid (fun i (hi : i < n) => HV0.out wq kq i hi)
  have HE := Lib.hid (HE0.kept kq)
  clear hwq HV0 HE0
  go_loopg [6, 7, 8, 9] n (fun gh a b i _ wr => ∃ j : Nat, j + gh = n ∧ i = .int .i64 (j : Int) ∧ wr.ownsRow wq.heap.size 3 1 a (whoK l (t0, t1) j).length (csN (whoI l (t0, t1) j)) ∧ wr.ownsRow wq.heap.size 54 3 b (whoK l (t0, t1) j).length (csP (whatK l (t0, t1) j)) ∧ Below wq.heap.size wq wr)
  case atStart => exact ⟨0, by omega, rfl, ⟨rfl, .inl ⟨rfl, rfl⟩⟩, ⟨rfl, .inl ⟨rfl, rfl⟩⟩, Below.refl _ _⟩
  case round =>
    obtain ⟨j, hjg, rfl, hwho, hwhat, kr⟩ := hrel
    have wk : IntKind.i64.wrap ((j : Int) + 1) = (j : Int) + 1 := IntWalk.i64_in _ (by omega)
    have BR := BX.kept kr
    have x4 := BR.cell 4
    have xl := BR.lt
    cases gk with
    | zero =>
      have hj : j = n := by omega
      subst hj
      have d2 : ¬ ((j : Int) < (j : Int)) := by omega
      obtain ⟨A1, c1, rfl, r1, _, _⟩ := own_reads hwho
      obtain ⟨A2, c2, rfl, r2, _, _⟩ := own_reads hwhat
      have E1 := Lib.hid (show whoK l (t0, t1) j = whoC l (t0, t1) by rw [← HL.out]; exact whoK_all l _)
      have E2 := Lib.hid (show whatK l (t0, t1) j = whatC l (t0, t1) by unfold whatK; rw [E1.out]; rfl)
      have kw := below_call kq kr
      clear hjg BR x4 xl
      go_wp2
      go_ret2
      refine ⟨A1, c1, A2, c2, by rw [E1.out]; rfl, ?_, ?_, kw⟩
      · rw [HL.out, ← E1.out]; exact r1
      · rw [← E2.out, ← E1.out]; exact r2
    | succ gh =>
      have hjq : j < n := by omega
      have d2 : (j : Int) < (n : Int) := by omega
      obtain ⟨v, ba, oa, A', n', c', hv, _, hA, hba, cv, hre, hvn, _⟩ := HV.out j hjq
      subst hA
      have hlen := whoK_len l (t0, t1) j
      have ce1 := (kr.cell (p := ⟨be, oe + j, none⟩) HE.out.lt).trans (HE.out.at_ j hjq)
      rw [HEV.out j v hv] at ce1
      have zr := kr.size
      have hbe := HE.out.lt
      have lbe : be < wr.heap.size := by omega
      have lba : ba < wr.heap.size := by omega
      have cv1 := (kr.cell (p := ⟨ba, oa + j, none⟩) hba).trans cv
      rcases HON.out j v hv with ho | ⟨e, x, ho, hx⟩
      · have HN := Lib.hid (whoK_no (l := l) (t := (t0, t1)) (j := j) (by rw [getD_at hv]; exact snd_neg (by omega)))
        have HNI := Lib.hid (show whoI l (t0, t1) (j + 1) = whoI l (t0, t1) j by unfold whoI; rw [HN.out])
        have HN2 := Lib.hid (show whatK l (t0, t1) (j + 1) = whatK l (t0, t1) j by unfold whatK; rw [HN.out])
        rw [ho] at ce1
        clear ho hv
        go_wp2_with fail
        go_roundg gh
        case measure => omega
        case rel => exact ⟨j + 1, by omega, by go_num, by rw [HN.out, HNI.out]; exact hwho, by rw [HN.out, HN2.out]; exact hwhat, kr⟩
      · obtain ⟨bx, ox, rfl, hbx, hcx⟩ := hre.ev (Nat.le_refl _) (Below.refl _ _) (k := e) (by rw [← hvn]; exact (List.getElem?_eq_some_iff.1 hx).1) hx
        obtain ⟨f0, f1, f2, f3, f4, f5, f6, f7, f8, f9⟩ := ten hcx
        have hen : (e : Int) < (n' : Int) := by have := (List.getElem?_eq_some_iff.1 hx).1; omega
        rw [ho] at ce1
        have g7 := (kr.cell (p := ⟨bx, ox + e * 10 + 7, none⟩) hbx).trans f7
        have lbx : bx < wr.heap.size := by omega
        cases hrr : x.rest with
        | true =>
          have HN := Lib.hid (whoK_no (l := l) (t := (t0, t1)) (j := j) (by rw [getD_at hv]; exact snd_rest ho hx hrr))
          have HNI := Lib.hid (show whoI l (t0, t1) (j + 1) = whoI l (t0, t1) j by unfold whoI; rw [HN.out])
          have HN2 := Lib.hid (show whatK l (t0, t1) (j + 1) = whatK l (t0, t1) j by unfold whatK; rw [HN.out])
          rw [hrr] at g7
          clear ho hv hx hrr f0 f1 f2 f3 f4 f5 f6 f7 f8 f9 hcx hre
          go_wp2_with fail
          go_roundg gh
          case measure => omega
          case rel => exact ⟨j + 1, by omega, by go_num, by rw [HN.out, HNI.out]; exact hwho, by rw [HN.out, HN2.out]; exact hwhat, kr⟩
        | false =>
          obtain ⟨s1, s2⟩ := snd_note ho hx hrr
          obtain ⟨y1, y2, y3⟩ := whoK_yes (l := l) (t := (t0, t1)) (j := j) (by rw [getD_at hv]; exact s1)
          rw [getD_at hv, s2] at y2
          have Y1 := Lib.hid y1
          have Y2 := Lib.hid y2
          have Y3 := Lib.hid y3
          rw [hrr] at g7
          obtain ⟨_, _, ⟨p0, p1, p2⟩, _, _, _⟩ := x
          simp only at f4 f5 f6 Y2
          obtain ⟨N, hN⟩ : ∃ z, z = (whoK l (t0, t1) j).length := ⟨_, rfl⟩
          obtain ⟨WI, hWI⟩ : ∃ z, z = whoI l (t0, t1) j := ⟨_, rfl⟩
          obtain ⟨WP, hWP⟩ : ∃ z, z = whatK l (t0, t1) j := ⟨_, rfl⟩
          rw [← hN] at hwho hwhat hlen Y3
          rw [← hWI] at hwho Y1
          rw [← hWP] at hwhat Y2
          have NE0 : some wr.heap.size ≠ u6.ownBlock := fun e => absurd (hwho.lt _ e.symm).2 (Nat.lt_irrefl _)
          have NE1 : some (wr.heap.size + 1) ≠ u6.ownBlock := fun e => absurd (hwho.lt _ e.symm).2 (Nat.not_lt.2 (Nat.le_succ _))
          clear ho hv hx hrr f0 f1 f2 f3 f7 f8 f9 hcx hre s1 s2 y1 y2 y3 hN hWI hWP
          go_wp2_with fail
          go_region_held3 (fun w' => w'.cell? ⟨ba, oa + j, none⟩ = some (.slice (some ⟨bx, ox, none⟩) n' c') ∧ w'.cell? ⟨bx, ox + e * 10 + 4, none⟩ = some (.int .i64 p0) ∧ w'.cell? ⟨bx, ox + e * 10 + 5, none⟩ = some (.int .i64 p1) ∧ w'.cell? ⟨bx, ox + e * 10 + 6, none⟩ = some (.int .i64 p2) ∧ Below wq.heap.size wq w') ((refine (fun hb => ⟨(hb.cell (p := ⟨_, _, none⟩) hba).trans cv, (hb.cell (p := ⟨_, _, none⟩) hbx).trans f4, (hb.cell (p := ⟨_, _, none⟩) hbx).trans f5, (hb.cell (p := ⟨_, _, none⟩) hbx).trans f6, hb⟩) ?_; repeat (first | with_reducible exact Below.refl _ _ | with_reducible exact hB4 | with_reducible exact hB3 | with_reducible exact kr | with_reducible refine Below.drew ?_ | with_reducible refine below_alloc ?_ _))) ((first | ((refine step_guard (.tmp 34) (.tmp 36) 30 u6 ?_ ?_ ?_); (focus rfl); (focus rfl); (refine step_append_any _ (by rfl) (.tmp 34) (.tmp 36) 30 (by rfl) wq.heap.size 3 i0 _ 1 8 Tryz.underlying30 hi0 hz0 hz1 hz2 rfl (by omega) u6 N (csN WI) (by rfl) (own_call hwho (by (repeat (first | with_reducible exact Below.refl _ _ | with_reducible refine Below.drew ?_ | with_reducible refine below_drewN ?_ _ | with_reducible refine below_alloc ?_ _)); done)) _ _ 1 1 (csN [(j : Int)]) (by rfl) (reads_i (by (repeat (first | with_reducible exact Blk.new _ _ _ | (with_reducible refine Blk.newAt _ _ _ _ ?_; first | rfl | (simp; done)) | with_reducible apply Blk.alloc | with_reducible apply Blk.drewN | with_reducible apply Blk.drew | with_reducible assumption)); done)) (one_csN _) (by simp only [maxLen]; omega) (by omega) ((show _ ∧ _ ∧ _ ∧ _ ∧ Below wq.heap.size wq _ by assumption).2.2.2.2).size ?_); intro v1 w3 hown3 hg3 hat3; have hB3 : Below wq.heap.size wq w3 := Below.grown (B := wq.heap.size) (a := wq) (show _ ∧ _ ∧ _ ∧ _ ∧ Below wq.heap.size wq _ by assumption).2.2.2.2 hg3 ((show _ ∧ _ ∧ _ ∧ _ ∧ Below wq.heap.size wq _ by assumption).2.2.2.2).size (fun q hq => (hwho.lt q hq).1); have hwhat3 := own_far (own_call hwhat (show Below wr.heap.size wr _ by (repeat (first | with_reducible exact Below.refl _ _ | with_reducible refine Below.drew ?_ | with_reducible refine below_drewN ?_ _ | with_reducible refine below_alloc ?_ _)); done)) (own_call hwho (show Below wr.heap.size wr _ by (repeat (first | with_reducible exact Below.refl _ _ | with_reducible refine Below.drew ?_ | with_reducible refine below_drewN ?_ _ | with_reducible refine below_alloc ?_ _)); done)) hg3 HNE; (try (refine lay3 hg3 (wr.heap.size) (t := 54) (cs := #[.int .i64 p0, .int .i64 p1, .int .i64 p2]) ?_ ?_ ?_; (focus ((repeat (first | with_reducible exact Blk.new _ _ _ | (with_reducible refine Blk.newAt _ _ _ _ ?_; first | rfl | (simp; done)) | with_reducible apply Blk.alloc | with_reducible apply Blk.drewN | with_reducible apply Blk.drew | with_reducible assumption)); done)); (focus (exact NE0)); intro hbB)); (try (refine lay3 hg3 (wr.heap.size + 1) (t := 54) (cs := #[.int .i64 p0, .int .i64 p1, .int .i64 p2]) ?_ ?_ ?_; (focus ((repeat (first | with_reducible exact Blk.new _ _ _ | (with_reducible refine Blk.newAt _ _ _ _ ?_; first | rfl | (simp; done)) | with_reducible apply Blk.alloc | with_reducible apply Blk.drewN | with_reducible apply Blk.drew | with_reducible assumption)); done)); (focus (exact NE1)); intro hbB))) | ((refine step_guard (.tmp 38) (.tmp 47) 61 u7 ?_ ?_ ?_); (focus rfl); (focus rfl); (refine step_append_any _ (by rfl) (.tmp 38) (.tmp 47) 61 (by rfl) wq.heap.size 54 j0 _ 3 24 Tryz.underlying61 hj0 yz0 yz1 yz2 rfl (by omega) u7 N (csP WP) (by rfl) (by first | exact hwhat3 | exact own_call hwhat3 (below_alloc (Below.refl _ _) _)) _ _ 1 1 (csP [(p0, p1, p2)]) (by rfl) (reads_blk (by first | exact Blk.new _ _ _ | exact hbB)) (one_csP _) (by simp only [maxLen]; omega) (by omega) ((show _ ∧ _ ∧ _ ∧ _ ∧ Below wq.heap.size wq _ by assumption).2.2.2.2).size ?_); intro v2 w4 hown4 hg4 hat4; have hB4 : Below wq.heap.size wq w4 := Below.grown (B := wq.heap.size) (a := wq) (show _ ∧ _ ∧ _ ∧ _ ∧ Below wq.heap.size wq _ by assumption).2.2.2.2 hg4 ((show _ ∧ _ ∧ _ ∧ _ ∧ Below wq.heap.size wq _ by assumption).2.2.2.2).size (fun q hq => (hwhat3.lt q hq).1); (first | (have hwho4 := own_far hown3 hwhat3 hg4 HNE2) | (have hwho4 := own_far (own_call hown3 (below_alloc (Below.refl _ _) _)) (own_call hwhat3 (below_alloc (Below.refl _ _) _)) hg4 HNE2)))))
          all_goals
            go_wp2_with fail
            go_roundg gh
            case measure => omega
            case rel => exact ⟨j + 1, by omega, by go_num, by rw [Y1.out, Y3.out, csN_append]; exact hwho4, by rw [Y2.out, Y3.out, csP_append]; exact hown4, hB4⟩
end Go.Proofs.YtmlcnmnpkemdpaaGreatDoor

/- The reference's clash of two voices in a slice. -/

namespace Go.Proofs.YtmlcnmnpkemdpaaGreatDoor
open Go.RowKit
theorem firstK_drop {L : List Pit3} {a b : Int} {j : Nat} {c : Pit3} (h : L[j]? = some c) : firstK (L.drop j) a b = if c.1 = a ∧ c.2.1 = b then c.2.2 else firstK (L.drop (j + 1)) a b := by
  obtain ⟨h1, rfl⟩ := List.getElem?_eq_some_iff.1 h
  rw [List.drop_eq_getElem_cons h1]
  rfl
set_option maxRecDepth 100000 in
set_option maxHeartbeats 8000000 in
theorem rclash_ok {w : World} {A S : Option Addr} {n K : Nat} {l : List (List Ev)} (h : Stg w A S n K l) (c : Nat) {k be oe : Nat} (hk : k < K) (he : EvR w be oe n l k) (d0 d1 : Int) (ce : Nat) {a b : Nat} (hab : a < b) :
    Calls Tryz.prog 34 #[.slice A n c, vSl (mAt (momS l) k) d0 d1 be oe n ce, .int .i64 a, .int .i64 b] w fun e w' => e = .returned (.int .i64 (clE l (mAt (momS l) k) a b)) ∧ Below w.heap.size w w' := by
  have hn8 := h.big.2
  have hlen := h.len
  have q1 := fun W (hW : Below w.heap.size w W) => rchord_ok (h.kept hW) c hk (he.kept hW) d0 d1 ce
  have hp := h.pits
  obtain ⟨t, ht⟩ : ∃ t, t = mAt (momS l) k := ⟨_, rfl⟩
  rw [← ht] at q1 ⊢
  obtain ⟨R, hR⟩ : ∃ z, z = clE l t a b := ⟨_, rfl⟩
  have HR := Lib.hid (show firstK ((kindsC l t).drop 0) a b = R by rw [hR, List.drop_zero]; exact first_kinds l t hab)
  have hwl : (whoC l t).length ≤ 8 := by have := who_le l t; omega
  have q2 := fun (A2 : Option Addr) (c2 : Nat) (W : World) (hr : Reads W W.heap.size 3 A2 (whoC l t).length (csP (whatC l t))) => made_ok A2 (whoC l t).length c2 (whatC l t) W.heap.size W hr (Nat.le_refl _) (by omega) (what_ok hp t)
  have HC := Lib.hid (fun j x (hx : (fullC (whatC l t))[j]? = some x) => full_at hx)
  have HWI := Lib.hid (fun i (hi : i < (whoC l t).length) => whoI_at (l := l) (t := t) hi)
  have hKL := Lib.hid (show (kindsC l t).length = (fullC (whatC l t)).length by unfold kindsC; rw [List.length_map])
  rw [← hR]
  obtain ⟨t0, t1⟩ := t
  clear h he hp ht hR hlen
  go_enter Tryz.func34, Tryz.ntmps34
  go_wp2_with fail
  obtain ⟨wq, hwq⟩ : ∃ y, y = w.alloc (.cells #[.int .i64 t0, .int .i64 t1, .int .i64 d0, .int .i64 d1, .slice (some ⟨be, oe, none⟩) n ce] 73) := ⟨_, rfl⟩
  have BX : Blk wq w.heap.size 73 #[.int .i64 t0, .int .i64 t1, .int .i64 d0, .int .i64 d1, .slice (some ⟨be, oe, none⟩) n ce] := by rw [hwq]; exact Blk.new _ _ _
  have kq : Below w.heap.size w wq := by rw [hwq]; exact below_alloc (Below.refl _ _) _
  rw [← hwq]
  clear hwq
  refine (q1 wq kq).mono ?_
  rintro e w1 ⟨A1, c1, A2, c2, rfl, r1, r2, b1⟩
  have k1 := below_call kq b1
  go_wp2_with fail
  refine (q2 A2 c2 w1 r2).mono ?_
  rintro e w2 ⟨A3, c3, rfl, o3, b2⟩
  have k2 := below_call k1 b2
  replace r1 := rd1 r1 b2
  have r3 := o3.2.1
  obtain ⟨C, hC⟩ : ∃ C, C = (fullC (whatC l (t0, t1))).length := ⟨_, rfl⟩
  have HCL := Lib.hid hC
  rw [← hC] at r3 hKL ⊢
  clear hC o3 q1 q2 r2 b1 b2 kq k1 BX
  go_wp2_with fail
  go_loopg [12] C (fun gh x wr => ∃ j : Nat, j + gh = C ∧ x = .int .i64 (j : Int) ∧ Below w2.heap.size w2 wr ∧ Hid (firstK ((kindsC l (t0, t1)).drop j) a b = R))
  case atStart => exact ⟨0, by omega, by simp, Below.refl _ _, HR⟩
  case round =>
    clear HR
    obtain ⟨j, hjg, rfl, kr, hres⟩ := hrel
    have wk : IntKind.i64.wrap ((j : Int) + 1) = (j : Int) + 1 := IntWalk.i64_in _ (by have := fullC_len (whatC l (t0, t1)); rw [what_len, ← HCL.out] at this; have := Nat.mul_le_mul hwl hwl; omega)
    cases gk with
    | zero =>
      have hj : j = C := by omega
      have d2 : ¬ ((j : Int) < (C : Int)) := by omega
      have E := Lib.hid (show R = 0 by rw [← hres.out, List.drop_eq_nil_of_le (by rw [hKL.out]; omega)]; rfl)
      have kw := below_call k2 kr
      clear hj hjg hres
      go_wp2
      refine ret_of (by simp [results, Tryz.results34, go_sem, *]; repeat' (first | rfl | apply And.intro)) rfl ⟨?_, kw⟩
      rw [E.out]
    | succ gh =>
      have hjC : j < C := by omega
      have d2 : (j : Int) < (C : Int) := by omega
      obtain ⟨x, hx⟩ := get_some (l := fullC (whatC l (t0, t1))) (k := j) (by have := HCL.out; omega)
      obtain ⟨i1, i2, e1, e2, h1, h2, hkj, _⟩ := HC.out j x hx
      obtain ⟨bc, oc, hA, hbc, y0, y1, y2⟩ := r3.pt (Nat.le_refl _) kr hjC hx
      obtain ⟨ba, oa, hA1, hba, u0⟩ := r1.elem (f := cI) (fun _ => rfl) (k := i1) h1 (HWI.out i1 h1)
      obtain ⟨bb, ob, hA2, hbb, v0⟩ := r1.elem (f := cI) (fun _ => rfl) (k := i2) h2 (HWI.out i2 h2)
      subst hA hA1
      cases hA2
      have u1 := u0 0 _ rfl
      have v1 := v0 0 _ rfl
      simp only [Nat.mul_one, Nat.add_zero] at u1 v1
      have u2 := (kr.cell (p := ⟨ba, oa + i1, none⟩) hba).trans u1
      have v2 := (kr.cell (p := ⟨ba, oa + i2, none⟩) hba).trans v1
      have hnx := firstK_drop (a := (a : Int)) (b := (b : Int)) hkj
      simp only at hnx
      rw [hres.out] at hnx
      obtain ⟨x0, x1, x2⟩ := x
      simp only at e1 e2 y0 y1 y2 hnx
      rw [e1] at y0
      rw [e2] at y1
      obtain ⟨va, hva⟩ : ∃ z : Int, z = (((whoC l (t0, t1)).getD i1 0 : Nat) : Int) := ⟨_, rfl⟩
      obtain ⟨vb, hvb⟩ : ∃ z : Int, z = (((whoC l (t0, t1)).getD i2 0 : Nat) : Int) := ⟨_, rfl⟩
      rw [← hva] at u2 hnx
      rw [← hvb] at v2 hnx
      have HNX := Lib.hid hnx
      have da : (i1 : Int) < ((whoC l (t0, t1)).length : Int) := by omega
      have db : (i2 : Int) < ((whoC l (t0, t1)).length : Int) := by omega
      have zy := kr.size
      have lba : ba < wr.heap.size := by omega
      have kw := below_call k2 kr
      clear hkj hx e1 e2 u0 u1 v0 v1 hva hvb h1 h2 hres hnx
      by_cases g1 : va = (a : Int)
      · have f1 : (va == (a : Int)) = true := by simpa using g1
        by_cases g2 : vb = (b : Int)
        · have f2 : (vb == (b : Int)) = true := by simpa using g2
          have E := Lib.hid (show R = x2 by rw [HNX.out, if_pos ⟨g1, g2⟩])
          clear HNX g1 g2
          go_wp2
          refine ret_of (by simp [results, Tryz.results34, go_sem, *]; repeat' (first | rfl | apply And.intro)) rfl ⟨?_, kw⟩
          rw [E.out]
        · have f2 : (vb == (b : Int)) = false := by simpa using g2
          have HN := Lib.hid (show firstK ((kindsC l (t0, t1)).drop (j + 1)) a b = R by rw [HNX.out, if_neg (fun hh => g2 hh.2)])
          clear HNX g1 g2
          go_wp2_with fail
          go_roundg gh
          case measure => omega
          case rel => exact ⟨j + 1, by omega, by go_num, kr, HN⟩
      · have f1 : (va == (a : Int)) = false := by simpa using g1
        have HN := Lib.hid (show firstK ((kindsC l (t0, t1)).drop (j + 1)) a b = R by rw [HNX.out, if_neg (fun hh => g1 hh.1)])
        clear HNX g1
        go_wp2_with fail
        go_roundg gh
        case measure => omega
        case rel => exact ⟨j + 1, by omega, by go_num, kr, HN⟩
end Go.Proofs.YtmlcnmnpkemdpaaGreatDoor

/- The reference's suspended. -/
namespace Go.Proofs.YtmlcnmnpkemdpaaGreatDoor
open Go.RowKit
theorem Stg.sl2 {w W : World} {A : Option Addr} {bs os n K : Nat} {l : List (List Ev)} (h : Stg w A (some ⟨bs, os, none⟩) n K l) (hb : Below w.heap.size w W) {k : Nat} (hk : k < K) (hn : 0 < n) :
    ∃ be oe ce d0 d1, bs < W.heap.size ∧ W.cell? ⟨bs, os + k * 5, none⟩ = some (.int .i64 (mAt (momS l) k).1) ∧ W.cell? ⟨bs, os + k * 5 + 1, none⟩ = some (.int .i64 (mAt (momS l) k).2) ∧
      W.cell? ⟨bs, os + k * 5 + 2, none⟩ = some (.int .i64 d0) ∧ W.cell? ⟨bs, os + k * 5 + 3, none⟩ = some (.int .i64 d1) ∧ W.cell? ⟨bs, os + k * 5 + 4, none⟩ = some (.slice (some ⟨be, oe, none⟩) n ce) ∧ EvR W be oe n l k := by
  obtain ⟨bs', os', be, oe, ce, d0, d1, hS, r⟩ := h.sl hb hk hn
  cases hS
  exact ⟨be, oe, ce, d0, d1, r⟩
theorem rsusp_no {l : List (List Ev)} {m : List Tm} {n a b : Nat} (h : evI l m n b ≠ evI l m (n + 1) b ∨ clE l (mAt m n) a b ≠ 0 ∨ stepD (l.getD b []) (evI l m (n + 1) b) ≠ -1) : suspB l m (n + 1) a b = false := by
  unfold suspB
  rw [if_pos]
  rcases h with h | h | h
  · exact .inr (.inl h)
  · exact .inr (.inr (.inl h))
  · exact .inr (.inr (.inr h))
theorem rsusp_yes {l : List (List Ev)} {m : List Tm} {n a b : Nat} (h1 : evI l m n b = evI l m (n + 1) b) (h2 : clE l (mAt m n) a b = 0) (h3 : stepD (l.getD b []) (evI l m (n + 1) b) = -1) :
    suspB l m (n + 1) a b = susF l m a b (evI l m (n + 1) a) (evI l m (n + 1) b) (n + 2) (m.length - 1 - (n + 2)) := by
  unfold suspB
  rw [if_neg]
  rintro (h | h | h | h)
  · omega
  · exact h h1
  · exact h h2
  · exact h h3
set_option maxRecDepth 100000 in
set_option maxHeartbeats 8000000 in
theorem rsusp_ok {w : World} {A S : Option Addr} {n K : Nat} {l : List (List Ev)} (h : Stg w A S n K l) (c d : Nat) {m a b : Nat} (hm : m < K) (ha : a < n) (hb : b < n) (hne : a ≠ b) :
    Calls Tryz.prog 55 #[.slice A n c, .slice S K d, .int .i64 m, .int .i64 a, .int .i64 b] w fun e w' => e = .returned (.bool (suspB l (momS l) m a b)) ∧ Below w.heap.size w w' := by
  obtain ⟨hK8, hn8⟩ := h.big
  have hn : 0 < n := by omega
  have hp := h.pits
  obtain ⟨bs, os, be, oe, ce, d0, d1, rfl, hbs, _, _, _, _, x4, he⟩ := h.sl (Below.refl _ _) hm hn
  have y1 := he.at_ b hb
  have y2 := he.at_ a ha
  have hbe := he.lt
  have ei := h.evs hm a
  have ek := h.evs hm b
  have HS := Lib.hid (fun k (hk : k < K) => h.sl2 (Below.refl _ _) hk hn)
  have hmany := Lib.hid h.many
  obtain ⟨v, ba, oa, A', n', c', _, hd, rfl, hba, cv, hre, hvn, _⟩ := h.vo (Below.refl _ _) hb
  have HST := Lib.hid (fun W (hW : Below w.heap.size w W) (i : Int) (hi : -10 ≤ i) (hi' : i ≤ 100000) => rstep_ok A' n' c' v W (rd1 hre hW) hvn (fun x hx hr => pits_getD hp b x (by rw [hd]; exact hx) hr) hi hi')
  have dm : (m : Int) < (K : Int) := by omega
  have da : (a : Int) < (n : Int) := by omega
  have db : (b : Int) < (n : Int) := by omega
  have HC : ∃ lo hi : Nat, ((a < b ∧ a = lo ∧ b = hi) ∨ (b < a ∧ b = lo ∧ a = hi)) ∧ ∀ W, Below w.heap.size w W → ∀ k be oe, k < K → EvR W be oe n l k → ∀ d0 d1 ce, Calls Tryz.prog 34 #[.slice (some ⟨ba, oa, none⟩) n c, vSl (mAt (momS l) k) d0 d1 be oe n ce, .int .i64 lo, .int .i64 hi] W fun e w' => e = .returned (.int .i64 (clE l (mAt (momS l) k) a b)) ∧ Below W.heap.size W w' := by
    rcases Nat.lt_or_gt_of_ne hne with hlt | hlt
    · exact ⟨a, b, .inl ⟨hlt, rfl, rfl⟩, fun W hW k be oe hk he d0 d1 ce => rclash_ok (h.kept hW) c hk he d0 d1 ce hlt⟩
    · refine ⟨b, a, .inr ⟨hlt, rfl, rfl⟩, fun W hW k be oe hk he d0 d1 ce => ?_⟩
      rw [clE_comm hp]
      exact rclash_ok (h.kept hW) c hk he d0 d1 ce hlt
  obtain ⟨lo, hi, hlh, HC0⟩ := HC
  have HC := Lib.hid HC0
  clear HC0 he h hp
  cases m with
  | zero =>
    have E := Lib.hid (susp_first (l := l) (m := momS l) (a := a) (b := b))
    obtain ⟨i, hii⟩ : ∃ z, z = evI l (momS l) 0 a := ⟨_, rfl⟩
    obtain ⟨k, hkk⟩ : ∃ z, z = evI l (momS l) 0 b := ⟨_, rfl⟩
    rw [← hkk] at y1
    rw [← hii] at y2
    clear hii hkk ei ek hre cv hba
    rcases hlh with ⟨hlt, rfl, rfl⟩ | ⟨hlt, rfl, rfl⟩
    all_goals
      go_enter Tryz.func55, Tryz.ntmps55
      go_wp2_with fail
      refine wp_region_calm (by kernel_rfl) (by kernel_rfl) ?_
      repeat (go_big_quiet_step (fail))
      refine wpQuiet_nil ?_
      intro w1 k1
      go_wp2
      refine ret_of (by simp [results, Tryz.results55, go_sem, *]; repeat' (first | rfl | apply And.intro)) rfl ⟨?_, k1⟩
      rw [E.out]
  | succ m =>
    obtain ⟨bf, of, cf, g0, g1, _, s0, s1, s2, s3, s4, hev⟩ := HS.out m (by omega)
    have hmK' : m < K := by omega
    have HNO := Lib.hid (rsusp_no (l := l) (m := momS l) (n := m) (a := a) (b := b))
    have HYES := Lib.hid (rsusp_yes (l := l) (m := momS l) (n := m) (a := a) (b := b))
    rw [hd] at HNO HYES
    obtain ⟨i, hi⟩ : ∃ z, z = evI l (momS l) (m + 1) a := ⟨_, rfl⟩
    obtain ⟨k, hk⟩ : ∃ z, z = evI l (momS l) (m + 1) b := ⟨_, rfl⟩
    obtain ⟨k0, hk0⟩ : ∃ z, z = evI l (momS l) m b := ⟨_, rfl⟩
    obtain ⟨cl, hcl⟩ : ∃ z, z = clE l (mAt (momS l) m) a b := ⟨_, rfl⟩
    obtain ⟨sp, hsp⟩ : ∃ z, z = stepD v k := ⟨_, rfl⟩
    rw [← hk] at HNO HYES y1 ek
    rw [← hi] at HYES y2 ei
    rw [← hsp, ← hk0, ← hcl] at HNO HYES
    have HK0 := Lib.hid hk0
    have HCL := Lib.hid hcl
    have HSP := Lib.hid hsp
    have wm : IntKind.i64.wrap (((m + 1 : Nat) : Int) - 1) = (m : Int) := by rw [IntWalk.i64_in _ (by omega)]; omega
    have wk2 : IntKind.i64.wrap (k + 1) = k + 1 := IntWalk.i64_in _ (by omega)
    have dm2 : (m : Int) < (K : Int) := by omega
    obtain ⟨m1, hm1⟩ : ∃ z, z = m + 1 := ⟨_, rfl⟩
    have wm2 : IntKind.i64.wrap ((m1 : Int) + 1) = (m1 : Int) + 1 := IntWalk.i64_in _ (by omega)
    have dn : ((m1 : Int) == 0) = false := by simp; omega
    have hmK : m1 < K := by omega
    have HM1 := Lib.hid hm1
    rw [← hm1] at wm dm x4 ⊢
    clear hi hk hk0 hcl hsp hm1 hd hre hm
    by_cases e1 : k0 = k
    · have f1 : (k0 != k) = false := by simpa using e1
      by_cases e2 : cl = 0
      · have f2 : (cl != 0) = false := by simpa using e2
        by_cases e3 : sp = -1
        · have f3 : (sp != -1) = false := by simpa using e3
          have E0 := Lib.hid (show suspB l (momS l) m1 a b = susF l (momS l) a b i k (m1 + 1) (K - (m1 + 1)) by rw [HM1.out, hmany.out]; exact HYES.out e1 e2 e3)
          obtain ⟨R, hR⟩ : ∃ z, z = suspB l (momS l) m1 a b := ⟨_, rfl⟩
          rw [← hR] at E0 ⊢
          have HR := Lib.hid E0.out.symm
          clear HNO HYES e1 e2 e3 E0 hR
          rcases hlh with ⟨hlt, rfl, rfl⟩ | ⟨hlt, rfl, rfl⟩
          all_goals
            go_enter Tryz.func55, Tryz.ntmps55
            go_wp2_with fail
            refine wp_region_calm (by kernel_rfl) (by kernel_rfl) ?_
            repeat (go_big_quiet_step (fail))
            refine wpQuiet_nil ?_
            intro w1 k1
            have z1 := k1.size
            have u4 := (k1.cell (p := ⟨bs, os + m * 5 + 4, none⟩) hbs).trans s4
            have u0 := (k1.cell (p := ⟨bs, os + m * 5, none⟩) hbs).trans s0
            have u1 := (k1.cell (p := ⟨bs, os + m * 5 + 1, none⟩) hbs).trans s1
            have u2 := (k1.cell (p := ⟨bs, os + m * 5 + 2, none⟩) hbs).trans s2
            have u3 := (k1.cell (p := ⟨bs, os + m * 5 + 3, none⟩) hbs).trans s3
            have v1 := ((hev.kept k1).at_ b hb)
            rw [← HK0.out] at v1
            have hev1 := hev.kept k1
            have lev := hev1.lt
            have lbs : bs < w1.heap.size := by omega
            have lba : ba < w1.heap.size := by omega
            have cv1 := (k1.cell (p := ⟨ba, oa + b, none⟩) hba).trans cv
            clear x4 y1 y2 z1 s0 s1 s2 s3 s4
            go_wp2_with fail
            refine (HC.out w1 k1 m _ _ hmK' hev1 _ _ _).mono ?_
            rw [← HCL.out]
            rintro e w2 ⟨rfl, b2⟩
            have k2 := below_call k1 b2
            have cv2 := (b2.cell (p := ⟨ba, oa + b, none⟩) lba).trans cv1
            have lba2 : ba < w2.heap.size := by have := b2.size; omega
            go_wp2_with fail
            refine (HST.out w2 k2 k (by omega) (by omega)).mono ?_
            rw [← HSP.out]
            rintro e w3 ⟨rfl, b3⟩
            have k3 := below_call k2 b3
            clear u0 u1 u2 u3 u4 v1 hev1 lev lbs lba cv1 cv2 lba2 b2 b3 k1 k2
            go_wp2_with fail
            go_loopg [15] (K - (m1 + 1)) (fun gh x wr => ∃ nn : Nat, nn + gh = K ∧ x = .int .i64 (nn : Int) ∧ Below w.heap.size w wr ∧ Hid (susF l (momS l) a b i k nn (K - nn) = R))
            case atStart => exact ⟨m1 + 1, by omega, by go_num, k3, HR⟩
            case round =>
              obtain ⟨nn, hg, rfl, kr, hsus⟩ := hrel
              have wn : IntKind.i64.wrap ((nn : Int) + 1) = (nn : Int) + 1 := IntWalk.i64_in _ (by omega)
              cases gk with
              | zero =>
                have hn2 : nn = K := by omega
                have dK : ¬ ((nn : Int) < (K : Int)) := by omega
                have E := Lib.hid (show R = false by rw [← hsus.out, hn2, Nat.sub_self]; rfl)
                clear hg hsus hn2
                go_wp2
                refine ret_of (by simp [results, Tryz.results55, go_sem, *]; repeat' (first | rfl | apply And.intro)) rfl ⟨?_, kr⟩
                rw [E.out]
              | succ gh =>
                have hnK : nn < K := by omega
                have dK : (nn : Int) < (K : Int) := by omega
                obtain ⟨b2, o2, c2, t0, t1, _, s0, s1, s2, s3, s4, hv2⟩ := HS.out nn hnK
                have zr := kr.size
                have u4 := (kr.cell (p := ⟨bs, os + nn * 5 + 4, none⟩) hbs).trans s4
                have u0 := (kr.cell (p := ⟨bs, os + nn * 5, none⟩) hbs).trans s0
                have u1 := (kr.cell (p := ⟨bs, os + nn * 5 + 1, none⟩) hbs).trans s1
                have u2 := (kr.cell (p := ⟨bs, os + nn * 5 + 2, none⟩) hbs).trans s2
                have u3 := (kr.cell (p := ⟨bs, os + nn * 5 + 3, none⟩) hbs).trans s3
                have hvr := hv2.kept kr
                have v1 := hvr.at_ b hb
                have v2 := hvr.at_ a ha
                have lev := hvr.lt
                have lbs : bs < wr.heap.size := by omega
                obtain ⟨eb, heb⟩ : ∃ z, z = evI l (momS l) nn b := ⟨_, rfl⟩
                obtain ⟨ea, hea⟩ : ∃ z, z = evI l (momS l) nn a := ⟨_, rfl⟩
                obtain ⟨cn, hcn⟩ : ∃ z, z = clE l (mAt (momS l) nn) a b := ⟨_, rfl⟩
                have q1 := HC.out wr kr nn b2 o2 hnK hvr t0 t1 c2
                have HN := Lib.hid (show (if eb = k + 1 then decide (ea = i) && decide (cn = 0) else susF l (momS l) a b i k (nn + 1) (K - (nn + 1))) = R by
                  rw [← hsus.out, show K - nn = (K - (nn + 1)) + 1 by omega, susF, ← heb, ← hea, ← hcn])
                rw [← heb] at v1
                rw [← hea] at v2
                rw [← hcn] at q1
                clear heb hea hcn hsus s0 s1 s2 s3 s4 hv2 zr
                by_cases e1 : eb = k + 1
                · have f1 : (eb == k + 1) = true := by simpa using e1
                  have E := Lib.hid (show R = (decide (ea = i) && decide (cn = 0)) by rw [← HN.out, if_pos e1])
                  have E2 := Lib.hid (show decide (ea = i) = (ea == i) by rw [Bool.eq_iff_iff]; simp)
                  have E3 := Lib.hid (show decide (cn = 0) = (cn == 0) by rw [Bool.eq_iff_iff]; simp)
                  clear HN e1
                  by_cases e2 : ea = i
                  · have f2 : (ea == i) = true := by simpa using e2
                    clear e2
                    go_wp2_with fail
                    refine q1.mono ?_
                    rintro e w5 ⟨rfl, b5⟩
                    have k5 := below_call kr b5
                    go_wp2
                    refine ret_of (by simp [results, Tryz.results55, go_sem, *]; repeat' (first | rfl | apply And.intro)) rfl ⟨?_, k5⟩
                    rw [E.out, E2.out, E3.out, f2]
                    try rfl
                  · have f2 : (ea == i) = false := by simpa using e2
                    clear e2 q1
                    go_wp2
                    refine ret_of (by simp [results, Tryz.results55, go_sem, *]; repeat' (first | rfl | apply And.intro)) rfl ⟨?_, kr⟩
                    rw [E.out, E2.out, E3.out, f2]
                    try rfl
                · have f1 : (eb == k + 1) = false := by simpa using e1
                  have HN2 := Lib.hid (show susF l (momS l) a b i k (nn + 1) (K - (nn + 1)) = R by rw [← HN.out, if_neg e1])
                  clear HN e1 q1
                  go_wp2_with fail
                  go_roundg gh
                  case measure => omega
                  case rel => exact ⟨nn + 1, by omega, by go_num, kr, HN2⟩
        · have f3 : (sp != -1) = true := by simpa using e3
          have E := Lib.hid (show suspB l (momS l) m1 a b = false by rw [HM1.out]; exact HNO.out (.inr (.inr e3)))
          clear HNO HYES e1 e2 e3
          rcases hlh with ⟨hlt, rfl, rfl⟩ | ⟨hlt, rfl, rfl⟩
          all_goals
            go_enter Tryz.func55, Tryz.ntmps55
            go_wp2_with fail
            refine wp_region_calm (by kernel_rfl) (by kernel_rfl) ?_
            repeat (go_big_quiet_step (fail))
            refine wpQuiet_nil ?_
            intro w1 k1
            have z1 := k1.size
            have u4 := (k1.cell (p := ⟨bs, os + m * 5 + 4, none⟩) hbs).trans s4
            have u0 := (k1.cell (p := ⟨bs, os + m * 5, none⟩) hbs).trans s0
            have u1 := (k1.cell (p := ⟨bs, os + m * 5 + 1, none⟩) hbs).trans s1
            have u2 := (k1.cell (p := ⟨bs, os + m * 5 + 2, none⟩) hbs).trans s2
            have u3 := (k1.cell (p := ⟨bs, os + m * 5 + 3, none⟩) hbs).trans s3
            have v1 := ((hev.kept k1).at_ b hb)
            rw [← HK0.out] at v1
            have hev1 := hev.kept k1
            have lev := hev1.lt
            have lbs : bs < w1.heap.size := by omega
            have lba : ba < w1.heap.size := by omega
            have cv1 := (k1.cell (p := ⟨ba, oa + b, none⟩) hba).trans cv
            clear x4 y1 y2 z1 s0 s1 s2 s3 s4
            go_wp2_with fail
            refine (HC.out w1 k1 m _ _ hmK' hev1 _ _ _).mono ?_
            rw [← HCL.out]
            rintro e w2 ⟨rfl, b2⟩
            have k2 := below_call k1 b2
            have cv2 := (b2.cell (p := ⟨ba, oa + b, none⟩) lba).trans cv1
            have lba2 : ba < w2.heap.size := by have := b2.size; omega
            go_wp2_with fail
            refine (HST.out w2 k2 k (by omega) (by omega)).mono ?_
            rw [← HSP.out]
            rintro e w3 ⟨rfl, b3⟩
            have k3 := below_call k2 b3
            go_wp2
            refine ret_of (by simp [results, Tryz.results55, go_sem, *]; repeat' (first | rfl | apply And.intro)) rfl ⟨?_, k3⟩
            rw [E.out]
      · have f2 : (cl != 0) = true := by simpa using e2
        have E := Lib.hid (show suspB l (momS l) m1 a b = false by rw [HM1.out]; exact HNO.out (.inr (.inl e2)))
        clear HNO HYES e1 e2
        rcases hlh with ⟨hlt, rfl, rfl⟩ | ⟨hlt, rfl, rfl⟩
        all_goals
          go_enter Tryz.func55, Tryz.ntmps55
          go_wp2_with fail
          refine wp_region_calm (by kernel_rfl) (by kernel_rfl) ?_
          repeat (go_big_quiet_step (fail))
          refine wpQuiet_nil ?_
          intro w1 k1
          have z1 := k1.size
          have u4 := (k1.cell (p := ⟨bs, os + m * 5 + 4, none⟩) hbs).trans s4
          have u0 := (k1.cell (p := ⟨bs, os + m * 5, none⟩) hbs).trans s0
          have u1 := (k1.cell (p := ⟨bs, os + m * 5 + 1, none⟩) hbs).trans s1
          have u2 := (k1.cell (p := ⟨bs, os + m * 5 + 2, none⟩) hbs).trans s2
          have u3 := (k1.cell (p := ⟨bs, os + m * 5 + 3, none⟩) hbs).trans s3
          have v1 := ((hev.kept k1).at_ b hb)
          rw [← HK0.out] at v1
          have hev1 := hev.kept k1
          have lev := hev1.lt
          have lbs : bs < w1.heap.size := by omega
          have lba : ba < w1.heap.size := by omega
          have cv1 := (k1.cell (p := ⟨ba, oa + b, none⟩) hba).trans cv
          clear x4 y1 y2 z1 s0 s1 s2 s3 s4
          go_wp2_with fail
          refine (HC.out w1 k1 m _ _ hmK' hev1 _ _ _).mono ?_
          rw [← HCL.out]
          rintro e w2 ⟨rfl, b2⟩
          have k2 := below_call k1 b2
          have cv2 := (b2.cell (p := ⟨ba, oa + b, none⟩) lba).trans cv1
          have lba2 : ba < w2.heap.size := by have := b2.size; omega
          go_wp2
          refine ret_of (by simp [results, Tryz.results55, go_sem, *]; repeat' (first | rfl | apply And.intro)) rfl ⟨?_, k2⟩
          rw [E.out]
    · have f1 : (k0 != k) = true := by simpa using e1
      have E := Lib.hid (show suspB l (momS l) m1 a b = false by rw [HM1.out]; exact HNO.out (.inl e1))
      clear HNO HYES e1
      rcases hlh with ⟨hlt, rfl, rfl⟩ | ⟨hlt, rfl, rfl⟩
      all_goals
        go_enter Tryz.func55, Tryz.ntmps55
        go_wp2_with fail
        refine wp_region_calm (by kernel_rfl) (by kernel_rfl) ?_
        repeat (go_big_quiet_step (fail))
        refine wpQuiet_nil ?_
        intro w1 k1
        have z1 := k1.size
        have u4 := (k1.cell (p := ⟨bs, os + m * 5 + 4, none⟩) hbs).trans s4
        have u0 := (k1.cell (p := ⟨bs, os + m * 5, none⟩) hbs).trans s0
        have u1 := (k1.cell (p := ⟨bs, os + m * 5 + 1, none⟩) hbs).trans s1
        have u2 := (k1.cell (p := ⟨bs, os + m * 5 + 2, none⟩) hbs).trans s2
        have u3 := (k1.cell (p := ⟨bs, os + m * 5 + 3, none⟩) hbs).trans s3
        have v1 := ((hev.kept k1).at_ b hb)
        rw [← HK0.out] at v1
        have hev1 := hev.kept k1
        have lev := hev1.lt
        have lbs : bs < w1.heap.size := by omega
        have lba : ba < w1.heap.size := by omega
        have cv1 := (k1.cell (p := ⟨ba, oa + b, none⟩) hba).trans cv
        clear x4 y1 y2 z1 s0 s1 s2 s3 s4
        go_wp2
        refine ret_of (by simp [results, Tryz.results55, go_sem, *]; repeat' (first | rfl | apply And.intro)) rfl ⟨?_, k1⟩
        rw [E.out]
end Go.Proofs.YtmlcnmnpkemdpaaGreatDoor

/- The reference's treat. -/

namespace Go.Proofs.YtmlcnmnpkemdpaaGreatDoor
open Go.RowKit
set_option maxRecDepth 100000 in
set_option maxHeartbeats 4000000 in
theorem rtreat_same {w : World} {A S : Option Addr} {n K : Nat} {l : List (List Ev)} (h : Stg w A S n K l) (c d : Nat) {a b k : Nat} (hk : k < K) (ha : a < n) (hb : b < n) (hs : startB (l.getD a []) (mAt (momS l) k) = startB (l.getD b []) (mAt (momS l) k)) :
    Calls Tryz.prog 35 #[.slice A n c, .slice S K d, .int .i64 k, .int .i64 a, .int .i64 b] w fun e w' => e = .returned (.int .i64 (treatD l (momS l) k a b)) ∧ Below w.heap.size w w' := by
  have hn : 0 < n := by omega
  obtain ⟨bs, os, be, oe, ce, d0, d1, rfl, hbs, s0, s1, s2, s3, s4, he⟩ := h.sl (Below.refl _ _) hk hn
  have qa := fun W (hW : Below w.heap.size w W) => rstarts_ok (h.kept hW) c hk ha (he.kept hW) d0 d1 ce
  have qb := fun W (hW : Below w.heap.size w W) => rstarts_ok (h.kept hW) c hk hb (he.kept hW) d0 d1 ce
  have hkK : (k : Int) < (K : Int) := by omega
  have E := Lib.hid (show treatD l (momS l) k a b = 4 by unfold treatD; rw [if_pos hs])
  rw [← hs] at qb
  obtain ⟨sa, hsa⟩ : ∃ z, z = startB (l.getD a []) (mAt (momS l) k) := ⟨_, rfl⟩
  rw [← hsa] at qa qb
  obtain ⟨⟨t0, t1⟩, ht⟩ : ∃ t, t = mAt (momS l) k := ⟨_, rfl⟩
  rw [← ht] at qa qb s0 s1
  simp only [vSl] at qa qb s0 s1
  clear h hs hsa he ht
  cases sa
  all_goals
    go_enter Tryz.func35, Tryz.ntmps35
    go_wp2_with fail
    refine wp_region_calm (by kernel_rfl) (by kernel_rfl) ?_
    repeat (go_big_quiet_step ((go_at_call 52; with_reducible (first | exact calm_call (qa _ (Calm.h _)) | exact calm_call (qb _ (Calm.h _))))))
    refine wpQuiet_nil ?_
    intro wd kd
    go_wp2
    refine ret_of (by simp [results, Tryz.results35, go_sem, *]; repeat' (first | rfl | apply And.intro)) rfl ⟨?_, kd⟩
    rw [E.out]
set_option maxRecDepth 100000 in
set_option maxHeartbeats 4000000 in
theorem rtreat_a {w : World} {A S : Option Addr} {n K : Nat} {l : List (List Ev)} (h : Stg w A S n K l) (c d : Nat) {a b k : Nat} (hk : k < K) (ha : a < n) (hb : b < n) (hsa : startB (l.getD a []) (mAt (momS l) k) = true) (hsb : startB (l.getD b []) (mAt (momS l) k) = false) :
    Calls Tryz.prog 35 #[.slice A n c, .slice S K d, .int .i64 k, .int .i64 a, .int .i64 b] w fun e w' => e = .returned (.int .i64 (treatD l (momS l) k a b)) ∧ Below w.heap.size w w' := by
  have hn : 0 < n := by omega
  obtain ⟨bs, os, be, oe, ce, d0, d1, rfl, hbs, s0, s1, s2, s3, s4, he⟩ := h.sl (Below.refl _ _) hk hn
  have qa := fun W (hW : Below w.heap.size w W) => rstarts_ok (h.kept hW) c hk ha (he.kept hW) d0 d1 ce
  have qb := fun W (hW : Below w.heap.size w W) => rstarts_ok (h.kept hW) c hk hb (he.kept hW) d0 d1 ce
  have hkK : (k : Int) < (K : Int) := by omega
  have hne : a ≠ b := fun e => by subst e; rw [hsa] at hsb; cases hsb
  have E1 : treatD l (momS l) k a b = treatM l (momS l) k a b := by unfold treatD; rw [hsa, hsb]; rfl
  obtain ⟨jm, x, hj, hx⟩ := start_val hsa
  have hjb := (h.evs hk a).2
  rw [hsa] at qa
  rw [hsb] at qb
  have hej : evI l (momS l) k a = (jm : Int) := hj
  obtain ⟨v, ba, oa, A', n', c', _, hd, rfl, hba, cv, hre, hvn, _⟩ := h.vo (Below.refl _ _) ha
  rw [hd] at hx
  have hp := fun x (hx : x ∈ v) hr => pits_getD h.pits a x (by rw [hd]; exact hx) hr
  have qp := fun W (hW : Below w.heap.size w W) => rpassing_ok A' n' c' v W (rd1 hre hW) hvn hp hx (by omega)
  have qt := fun W (hW : Below w.heap.size w W) => rturning_ok A' n' c' v W (rd1 hre hW) hvn hp hx (by omega)
  have qs := fun W (hW : Below w.heap.size w W) => rsusp_ok (h.kept hW) c d hk ha hb hne
  have ym := he.at_ a ha
  rw [hej] at ym
  obtain ⟨bp, hbp⟩ : ∃ z, z = passB v jm := ⟨_, rfl⟩
  obtain ⟨bt, hbt⟩ : ∃ z, z = turnB v jm := ⟨_, rfl⟩
  obtain ⟨bu, hbu⟩ : ∃ z, z = suspB l (momS l) k a b := ⟨_, rfl⟩
  have HE := Lib.hid (show treatD l (momS l) k a b = (if bp = true then 1 else if bt = true then 2 else if bu = true then 3 else 4) by rw [E1]; unfold treatM; rw [hej, hbp, hbt, hbu, hd])
  rw [← hbp] at qp
  rw [← hbt] at qt
  rw [← hbu] at qs
  obtain ⟨⟨t0, t1⟩, ht⟩ : ∃ t, t = mAt (momS l) k := ⟨_, rfl⟩
  rw [← ht] at qa qb s0 s1
  simp only [vSl] at qa qb s0 s1
  have hbe := he.lt
  have hmn : (a : Int) < (n : Int) := by omega
  clear h hsa hsb E1 hj hx hjb hej hbp hbt hbu ht he hre hd hp
  go_enter Tryz.func35, Tryz.ntmps35
  go_wp2_with fail
  refine wp_region_calm (by kernel_rfl) (by kernel_rfl) ?_
  repeat (go_big_quiet_step ((go_at_call 52; with_reducible (first | exact calm_call (qa _ (Calm.h _)) | exact calm_call (qb _ (Calm.h _))))))
  refine wpQuiet_nil ?_
  intro wd kd
  have zd := kd.size
  have u4 := (kd.cell (p := ⟨bs, os + k * 5 + 4, none⟩) hbs).trans s4
  have v1 := (kd.cell (p := ⟨be, oe + a, none⟩) hbe).trans ym
  have c1 := (kd.cell (p := ⟨ba, oa + a, none⟩) hba).trans cv
  have l1 : bs < wd.heap.size := by omega
  have l2 : be < wd.heap.size := by omega
  have l3 : ba < wd.heap.size := by omega
  clear s0 s1 s2 s3 s4 ym cv zd
  go_wp2_with fail
  refine (qp wd kd).mono ?_
  rintro e w4 ⟨rfl, b4⟩
  have k4 := below_call kd b4
  cases bp with
  | true =>
    go_wp2
    refine ret_of (by simp [results, Tryz.results35, go_sem, *]; repeat' (first | rfl | apply And.intro)) rfl ⟨?_, k4⟩
    rw [HE.out]; rfl
  | false =>
    have c2 := (b4.cell (p := ⟨ba, oa + a, none⟩) l3).trans c1
    have l4 : ba < w4.heap.size := by have := b4.size; omega
    clear u4 v1 c1 l1 l2 l3 b4
    go_wp2_with fail
    refine (qt w4 k4).mono ?_
    rintro e w5 ⟨rfl, b5⟩
    have k5 := below_call k4 b5
    cases bt with
    | true =>
      go_wp2
      refine ret_of (by simp [results, Tryz.results35, go_sem, *]; repeat' (first | rfl | apply And.intro)) rfl ⟨?_, k5⟩
      rw [HE.out]; rfl
    | false =>
      clear c2 l4 b5
      go_wp2_with fail
      refine (qs w5 k5).mono ?_
      rintro e w6 ⟨rfl, b6⟩
      have k6 := below_call k5 b6
      cases bu with
      | true =>
        go_wp2
        refine ret_of (by simp [results, Tryz.results35, go_sem, *]; repeat' (first | rfl | apply And.intro)) rfl ⟨?_, k6⟩
        rw [HE.out]; rfl
      | false =>
        go_wp2
        refine ret_of (by simp [results, Tryz.results35, go_sem, *]; repeat' (first | rfl | apply And.intro)) rfl ⟨?_, k6⟩
        rw [HE.out]; rfl
set_option maxRecDepth 100000 in
set_option maxHeartbeats 4000000 in
theorem rtreat_b {w : World} {A S : Option Addr} {n K : Nat} {l : List (List Ev)} (h : Stg w A S n K l) (c d : Nat) {a b k : Nat} (hk : k < K) (ha : a < n) (hb : b < n) (hsa : startB (l.getD a []) (mAt (momS l) k) = false) (hsb : startB (l.getD b []) (mAt (momS l) k) = true) :
    Calls Tryz.prog 35 #[.slice A n c, .slice S K d, .int .i64 k, .int .i64 a, .int .i64 b] w fun e w' => e = .returned (.int .i64 (treatD l (momS l) k a b)) ∧ Below w.heap.size w w' := by
  have hn : 0 < n := by omega
  obtain ⟨bs, os, be, oe, ce, d0, d1, rfl, hbs, s0, s1, s2, s3, s4, he⟩ := h.sl (Below.refl _ _) hk hn
  have qa := fun W (hW : Below w.heap.size w W) => rstarts_ok (h.kept hW) c hk ha (he.kept hW) d0 d1 ce
  have qb := fun W (hW : Below w.heap.size w W) => rstarts_ok (h.kept hW) c hk hb (he.kept hW) d0 d1 ce
  have hkK : (k : Int) < (K : Int) := by omega
  have hne : b ≠ a := fun e => by subst e; rw [hsa] at hsb; cases hsb
  have E1 : treatD l (momS l) k a b = treatM l (momS l) k b a := by unfold treatD; rw [hsa, hsb]; rfl
  obtain ⟨jm, x, hj, hx⟩ := start_val hsb
  have hjb := (h.evs hk b).2
  rw [hsa] at qa
  rw [hsb] at qb
  have hej : evI l (momS l) k b = (jm : Int) := hj
  obtain ⟨v, ba, oa, A', n', c', _, hd, rfl, hba, cv, hre, hvn, _⟩ := h.vo (Below.refl _ _) hb
  rw [hd] at hx
  have hp := fun x (hx : x ∈ v) hr => pits_getD h.pits b x (by rw [hd]; exact hx) hr
  have qp := fun W (hW : Below w.heap.size w W) => rpassing_ok A' n' c' v W (rd1 hre hW) hvn hp hx (by omega)
  have qt := fun W (hW : Below w.heap.size w W) => rturning_ok A' n' c' v W (rd1 hre hW) hvn hp hx (by omega)
  have qs := fun W (hW : Below w.heap.size w W) => rsusp_ok (h.kept hW) c d hk hb ha hne
  have ym := he.at_ b hb
  rw [hej] at ym
  obtain ⟨bp, hbp⟩ : ∃ z, z = passB v jm := ⟨_, rfl⟩
  obtain ⟨bt, hbt⟩ : ∃ z, z = turnB v jm := ⟨_, rfl⟩
  obtain ⟨bu, hbu⟩ : ∃ z, z = suspB l (momS l) k b a := ⟨_, rfl⟩
  have HE := Lib.hid (show treatD l (momS l) k a b = (if bp = true then 1 else if bt = true then 2 else if bu = true then 3 else 4) by rw [E1]; unfold treatM; rw [hej, hbp, hbt, hbu, hd])
  rw [← hbp] at qp
  rw [← hbt] at qt
  rw [← hbu] at qs
  obtain ⟨⟨t0, t1⟩, ht⟩ : ∃ t, t = mAt (momS l) k := ⟨_, rfl⟩
  rw [← ht] at qa qb s0 s1
  simp only [vSl] at qa qb s0 s1
  have hbe := he.lt
  have hmn : (b : Int) < (n : Int) := by omega
  clear h hsa hsb E1 hj hx hjb hej hbp hbt hbu ht he hre hd hp
  go_enter Tryz.func35, Tryz.ntmps35
  go_wp2_with fail
  refine wp_region_calm (by kernel_rfl) (by kernel_rfl) ?_
  repeat (go_big_quiet_step ((go_at_call 52; with_reducible (first | exact calm_call (qa _ (Calm.h _)) | exact calm_call (qb _ (Calm.h _))))))
  refine wpQuiet_nil ?_
  intro wd kd
  have zd := kd.size
  have u4 := (kd.cell (p := ⟨bs, os + k * 5 + 4, none⟩) hbs).trans s4
  have v1 := (kd.cell (p := ⟨be, oe + b, none⟩) hbe).trans ym
  have c1 := (kd.cell (p := ⟨ba, oa + b, none⟩) hba).trans cv
  have l1 : bs < wd.heap.size := by omega
  have l2 : be < wd.heap.size := by omega
  have l3 : ba < wd.heap.size := by omega
  clear s0 s1 s2 s3 s4 ym cv zd
  go_wp2_with fail
  refine (qp wd kd).mono ?_
  rintro e w4 ⟨rfl, b4⟩
  have k4 := below_call kd b4
  cases bp with
  | true =>
    go_wp2
    refine ret_of (by simp [results, Tryz.results35, go_sem, *]; repeat' (first | rfl | apply And.intro)) rfl ⟨?_, k4⟩
    rw [HE.out]; rfl
  | false =>
    have c2 := (b4.cell (p := ⟨ba, oa + b, none⟩) l3).trans c1
    have l4 : ba < w4.heap.size := by have := b4.size; omega
    clear u4 v1 c1 l1 l2 l3 b4
    go_wp2_with fail
    refine (qt w4 k4).mono ?_
    rintro e w5 ⟨rfl, b5⟩
    have k5 := below_call k4 b5
    cases bt with
    | true =>
      go_wp2
      refine ret_of (by simp [results, Tryz.results35, go_sem, *]; repeat' (first | rfl | apply And.intro)) rfl ⟨?_, k5⟩
      rw [HE.out]; rfl
    | false =>
      clear c2 l4 b5
      go_wp2_with fail
      refine (qs w5 k5).mono ?_
      rintro e w6 ⟨rfl, b6⟩
      have k6 := below_call k5 b6
      cases bu with
      | true =>
        go_wp2
        refine ret_of (by simp [results, Tryz.results35, go_sem, *]; repeat' (first | rfl | apply And.intro)) rfl ⟨?_, k6⟩
        rw [HE.out]; rfl
      | false =>
        go_wp2
        refine ret_of (by simp [results, Tryz.results35, go_sem, *]; repeat' (first | rfl | apply And.intro)) rfl ⟨?_, k6⟩
        rw [HE.out]; rfl
theorem rtreat_ok {w : World} {A S : Option Addr} {n K : Nat} {l : List (List Ev)} (h : Stg w A S n K l) (c d : Nat) {a b k : Nat} (hk : k < K) (ha : a < n) (hb : b < n) :
    Calls Tryz.prog 35 #[.slice A n c, .slice S K d, .int .i64 k, .int .i64 a, .int .i64 b] w fun e w' => e = .returned (.int .i64 (treatD l (momS l) k a b)) ∧ Below w.heap.size w w' := by
  cases hsa : startB (l.getD a []) (mAt (momS l) k) with
  | true =>
    cases hsb : startB (l.getD b []) (mAt (momS l) k) with
    | true => exact rtreat_same h c d hk ha hb (by rw [hsa, hsb])
    | false => exact rtreat_a h c d hk ha hb hsa hsb
  | false =>
    cases hsb : startB (l.getD b []) (mAt (momS l) k) with
    | true => exact rtreat_b h c d hk ha hb hsa hsb
    | false => exact rtreat_same h c d hk ha hb (by rw [hsa, hsb])
end Go.Proofs.YtmlcnmnpkemdpaaGreatDoor

/- The reference's list of all dissonances. -/

namespace Go.Proofs.YtmlcnmnpkemdpaaGreatDoor
open Go.RowKit
theorem boolmap_row {w : World} {K : TypeId} {c b n : Nat} {f : List Int → Bool} (h : BoolMap w K c b n f) {base size m : Nat} {e : TypeId} {v : Value} {xs : List Value} (ho : w.ownsRow base e size v m xs) : some b ≠ v.ownBlock := by
  obtain ⟨D, ⟨es, clock, hb, _⟩, _⟩ := h
  rcases ho.2 with ⟨rfl, _⟩ | ⟨g, cap, cur, rfl, _, hg, _⟩
  · intro h; cases h
  · intro h
    have : b = g := by simpa [Value.ownBlock] using h
    subst this
    rw [hb] at hg; cases hg
/-- What the map of met events says of the list so far. -/
def SeenB (l : List (List Ev)) (m : List Tm) (f : List Int → Bool) (o : List Dis) : Prop := ∀ (a b : Nat) (i k : Int), f [(a : Int), (b : Int), i, k] = true ↔ ∃ d ∈ o, d.a = a ∧ d.b = b ∧ evI l m d.n.toNat a = i ∧ evI l m d.n.toNat b = k
theorem SeenB.met {l : List (List Ev)} {m : List Tm} {f : List Int → Bool} {o : List Dis} (h : SeenB l m f o) (n a b : Nat) : metB l m n a b o = f [(a : Int), (b : Int), evI l m n a, evI l m n b] := by
  rw [Bool.eq_iff_iff, h]
  unfold metB
  rw [List.any_eq_true]
  constructor
  · rintro ⟨d, hd, hb⟩; exact ⟨d, hd, (metd_iff l m).1 hb⟩
  · rintro ⟨d, hd, hb⟩; exact ⟨d, hd, (metd_iff l m).2 hb⟩
theorem SeenB.next {l : List (List Ev)} {m : List Tm} {f : List Int → Bool} {o : List Dis} (h : SeenB l m f o) (n a b : Nat) (x y : Int) : SeenB l m (upd f [(a : Int), (b : Int), evI l m n a, evI l m n b] true) (o ++ [⟨n, a, b, x, y⟩]) := by
  intro a' b' i k
  unfold upd
  by_cases he : [(a' : Int), (b' : Int), i, k] = [(a : Int), (b : Int), evI l m n a, evI l m n b]
  · rw [if_pos he]
    simp only [List.cons.injEq, and_true] at he
    obtain ⟨h1, h3, h2, h4⟩ := he
    obtain rfl : a' = a := by omega
    obtain rfl : b' = b := by omega
    exact ⟨fun _ => ⟨⟨n, a', b', x, y⟩, by simp, rfl, rfl, by simp [h2], by simp [h4]⟩, fun _ => rfl⟩
  · rw [if_neg he, h]
    constructor
    · rintro ⟨d, hd, hr⟩; exact ⟨d, List.mem_append_left _ hd, hr⟩
    · rintro ⟨d, hd, h1, h2, h3, h4⟩
      rcases List.mem_append.1 hd with hd | hd
      · exact ⟨d, hd, h1, h2, h3, h4⟩
      · exfalso
        rw [List.mem_singleton] at hd
        subst hd
        simp only [Int.toNat_natCast] at h1 h2 h3 h4
        refine he ?_
        have e1 : a' = a := by omega
        have e2 : b' = b := by omega
        subst e1 e2
        rw [h3, h4]
/-- What the loops keep: the list so far at v, what the map says of it. -/
structure MadeInv (w wr : World) (l : List (List Ev)) (v : Value) (o : List Dis) : Prop where
  low : Below w.heap.size w wr
  row : wr.ownsRow (w.heap.size + 1) 50 5 v o.length (csDis o)
  map : ∃ f, BoolMap wr 86 4 w.heap.size o.length f ∧ SeenB l (momS l) f o
theorem MadeInv.call {w wr wx : World} {l : List (List Ev)} {v : Value} {o : List Dis} (h : MadeInv w wr l v o) (hb : Below wr.heap.size wr wx) : MadeInv w wx l v o := by
  obtain ⟨f, m1, m2⟩ := h.map
  exact ⟨below_call h.low hb, own_call h.row hb, f, m1.call hb, m2⟩
set_option maxRecDepth 100000 in
set_option maxHeartbeats 8000000 in
theorem rmade_any {w : World} {A S : Option Addr} {n K : Nat} {l : List (List Ev)} (h : Stg w A S n K l) (c d : Nat) :
    Calls Tryz.prog 23 #[.slice A n c, .slice S K d] w fun e w' => DissRet (allD l (momS l)) w e w' := by
  have hmm := @run_makeMap Tryz.prog
  obtain ⟨hK8, hn8⟩ := h.big
  have HLN := Lib.hid h.len
  have HC := Lib.hid (fun W (hW : Below w.heap.size w W) k be oe a b (hk : k < K) (hab : a < b) (he : EvR W be oe n l k) d0 d1 ce => rclash_ok (h.kept hW) c hk he d0 d1 ce hab)
  have HTR := Lib.hid (fun W (hW : Below w.heap.size w W) k a b (hk : k < K) (ha : a < n) (hb : b < n) => rtreat_ok (h.kept hW) c d hk ha hb)
  have HSL := Lib.hid (fun k (hk : k < K) (hn : 0 < n) => h.sl (Below.refl _ _) hk hn)
  have HEV := Lib.hid (fun k (hk : k < K) i => h.evs hk i)
  obtain ⟨R, hR⟩ : ∃ z, z = allD l (momS l) := ⟨_, rfl⟩
  have HR := Lib.hid (show slicesD l (momS l) 0 (K - 0) [] = R by rw [hR, h.many]; rfl)
  rw [← hR]
  obtain ⟨i0, hi0, hz0, hz1, hz2⟩ := info_parts dis_info
  clear h hR
  go_enter Tryz.func23, Tryz.ntmps23
  go_wp2_with fail
  obtain ⟨w0, hw0⟩ : ∃ x, x = w.alloc (.map #[] 0) := ⟨_, rfl⟩
  have inv0 : MadeInv w w0 l (.slice none 0 0) [] := by
    rw [hw0]
    exact ⟨below_alloc (Below.refl _ _) _, ⟨rfl, .inl ⟨rfl, rfl⟩⟩, _, BoolMap.made _ _ _, fun a b i k => ⟨fun h => by simp at h, fun ⟨d, hd, _⟩ => by cases hd⟩⟩
  rw [← hw0]
  clear hw0
  go_loopg [5, 7, 8, 9, 10, 11] K (fun gh v x _ _ _ _ wr => ∃ (k : Nat) (o : List Dis), k + gh = K ∧ x = .int .i64 (k : Int) ∧ MadeInv w wr l v o ∧ Hid (slicesD l (momS l) k (K - k) o = R) ∧ o.length ≤ k * 64)
  case atStart => exact ⟨0, [], by omega, by simp, inv0, HR, by simp⟩
  case round =>
    clear inv0 HR
    obtain ⟨k, o, hkg, rfl, inv, hres, hol⟩ := hrel
    have wk : IntKind.i64.wrap ((k : Int) + 1) = (k : Int) + 1 := IntWalk.i64_in _ (by omega)
    cases gk with
    | zero =>
      have hk : k = K := by omega
      have d0 : ¬ ((k : Int) < (K : Int)) := by omega
      obtain ⟨A1, c1, rfl, r1, _, _⟩ := own_reads inv.row
      have E := Lib.hid (show o = R by rw [← hres.out, hk, Nat.sub_self]; rfl)
      have low := inv.low
      clear hkg hres hol inv hk
      go_wp2
      refine ret_of (by simp [results, Tryz.results23, go_sem, *]; repeat' (first | rfl | apply And.intro)) rfl ?_
      rw [← E.out]
      exact ⟨A1, c1, rfl, r1, low⟩
    | succ gh =>
      have hkK : k < K := by omega
      have d0 : (k : Int) < (K : Int) := by omega
      have hres2 := Lib.hid (show slicesD l (momS l) (k + 1) (K - (k + 1)) (voicesD l (momS l) k 0 (n - 0) o) = R by rw [← hres.out, slices_next l (momS l) hkK, HLN.out]; rfl)
      clear hres
      go_wp2_with fail
      go_loopg [5, 8, 9, 10, 11] n (fun g2 v x _ _ _ wy => ∃ (a : Nat) (o' : List Dis), a + g2 = n ∧ x = .int .i64 (a : Int) ∧ MadeInv w wy l v o' ∧ Hid (slicesD l (momS l) (k + 1) (K - (k + 1)) (voicesD l (momS l) k a (n - a) o') = R) ∧ o'.length ≤ k * 64 + a * 8)
      case atStart => exact ⟨0, o, by omega, by simp, inv, hres2, by omega⟩
      case round =>
        clear inv hres2 hol
        obtain ⟨a, o, hag, rfl, inv, hres, hol⟩ := hrel
        have wa : IntKind.i64.wrap ((a : Int) + 1) = (a : Int) + 1 := IntWalk.i64_in _ (by omega)
        cases gk with
        | zero =>
          have ha : a = n := by omega
          have d1 : ¬ ((a : Int) < (n : Int)) := by omega
          have HN := Lib.hid (show slicesD l (momS l) (k + 1) (K - (k + 1)) o = R by rw [← hres.out, ha, Nat.sub_self]; rfl)
          clear hres ha
          go_wp2
          go_roundg gh
          case measure => omega
          case rel => exact ⟨k + 1, o, by omega, by go_num, inv, HN, by omega⟩
        | succ g2 =>
          have han : a < n := by omega
          have d1 : (a : Int) < (n : Int) := by omega
          have hres2 := Lib.hid (show slicesD l (momS l) (k + 1) (K - (k + 1)) (voicesD l (momS l) k (a + 1) (n - (a + 1)) (rowD l (momS l) k a (a + 1) (n - (a + 1)) o)) = R by rw [← hres.out, voices_next l (momS l) k HLN.out han])
          clear hres
          go_wp2_with fail
          go_loopg [5, 9, 10, 11] (n - (a + 1)) (fun g3 v x _ _ wz => ∃ (b : Nat) (o' : List Dis), b + g3 = n ∧ a < b ∧ x = .int .i64 (b : Int) ∧ MadeInv w wz l v o' ∧ Hid (slicesD l (momS l) (k + 1) (K - (k + 1)) (voicesD l (momS l) k (a + 1) (n - (a + 1)) (rowD l (momS l) k a b (n - b) o')) = R) ∧ o'.length ≤ k * 64 + a * 8 + b)
          case atStart => exact ⟨a + 1, o, by omega, by omega, by go_num, inv, hres2, by omega⟩
          case round =>
            clear inv hres2 hol
            obtain ⟨b, o, hbg, hab, rfl, inv, hres, hol⟩ := hrel
            have wb : IntKind.i64.wrap ((b : Int) + 1) = (b : Int) + 1 := IntWalk.i64_in _ (by omega)
            cases gk with
            | zero =>
              have hb : b = n := by omega
              have d2 : ¬ ((b : Int) < (n : Int)) := by omega
              have HN := Lib.hid (show slicesD l (momS l) (k + 1) (K - (k + 1)) (voicesD l (momS l) k (a + 1) (n - (a + 1)) o) = R by rw [← hres.out, hb, Nat.sub_self]; rfl)
              clear hres hb
              go_wp2
              go_roundg g2
              case measure => omega
              case rel => exact ⟨a + 1, o, by omega, by go_num, inv, HN, by omega⟩
            | succ g3 =>
              have hbn : b < n := by omega
              have d2 : (b : Int) < (n : Int) := by omega
              obtain ⟨bs, os, be, oe, ce, t0, t1, hS, hbs, s0, s1, s2, s3, s4, he⟩ := HSL.out k hkK (by omega)
              subst hS
              have low := inv.low
              have hz := low.size
              have u0 := (low.cell (p := ⟨bs, os + k * 5, none⟩) hbs).trans s0
              have u1 := (low.cell (p := ⟨bs, os + k * 5 + 1, none⟩) hbs).trans s1
              have u2 := (low.cell (p := ⟨bs, os + k * 5 + 2, none⟩) hbs).trans s2
              have u3 := (low.cell (p := ⟨bs, os + k * 5 + 3, none⟩) hbs).trans s3
              have u4 := (low.cell (p := ⟨bs, os + k * 5 + 4, none⟩) hbs).trans s4
              have he2 := he.kept low
              have ea0 := he.at_ a han
              have eb0 := he.at_ b hbn
              have hbe := he.lt
              have lbs : bs < wr.heap.size := by omega
              have qc := HC.out wr low k be oe a b hkK hab he2 t0 t1 ce
              have qt := fun W (hW : Below w.heap.size w W) => HTR.out W hW k a b hkK han hbn
              have hres2 := Lib.hid (show slicesD l (momS l) (k + 1) (K - (k + 1)) (voicesD l (momS l) k (a + 1) (n - (a + 1)) (rowD l (momS l) k a (b + 1) (n - (b + 1)) (addD l (momS l) k a b o))) = R by rw [← hres.out, row_next l (momS l) k a hbn])
              obtain ⟨ea, hea⟩ : ∃ z, z = evI l (momS l) k a := ⟨_, rfl⟩
              obtain ⟨eb, heb⟩ : ∃ z, z = evI l (momS l) k b := ⟨_, rfl⟩
              rw [← hea] at ea0
              rw [← heb] at eb0
              have eb1 := HEV.out k hkK a
              have eb2 := HEV.out k hkK b
              rw [← hea] at eb1
              rw [← heb] at eb2
              obtain ⟨f, mp, sn⟩ := inv.map
              have HMET := Lib.hid (show metB l (momS l) k a b o = f [(a : Int), (b : Int), ea, eb] by rw [sn.met, ← hea, ← heb])
              have HNX := Lib.hid (fun x y => sn.next k a b x y)
              rw [← hea, ← heb] at HNX
              have HADD := Lib.hid (show addD l (momS l) k a b o = if clE l (mAt (momS l) k) a b = 0 ∨ metB l (momS l) k a b o = true then o else o ++ [⟨k, a, b, clE l (mAt (momS l) k) a b, treatD l (momS l) k a b⟩] from rfl)
              obtain ⟨cl, hcl⟩ : ∃ z, z = clE l (mAt (momS l) k) a b := ⟨_, rfl⟩
              obtain ⟨tr, htr⟩ : ∃ z, z = treatD l (momS l) k a b := ⟨_, rfl⟩
              rw [← hcl] at qc HADD
              rw [← htr] at qt HADD
              obtain ⟨⟨m0, m1⟩, hm0⟩ : ∃ t, t = mAt (momS l) k := ⟨_, rfl⟩
              rw [← hm0] at qc u0 u1
              simp only [vSl] at qc u0 u1
              have HSN := Lib.hid sn
              have row := inv.row
              clear hea heb hcl htr hres sn inv he he2 hm0 s0 s1 s2 s3
              go_wp2_with fail
              refine qc.mono ?_
              rintro e w5 ⟨rfl, b5⟩
              have low5 := below_call low b5
              replace mp := mp.call b5
              have row5 := own_call row b5
              have hz5 := low5.size
              have x4 := (low5.cell (p := ⟨bs, os + k * 5 + 4, none⟩) hbs).trans s4
              have xa := (low5.cell (p := ⟨be, oe + a, none⟩) hbe).trans ea0
              have xb := (low5.cell (p := ⟨be, oe + b, none⟩) hbe).trans eb0
              have l1 : bs < w5.heap.size := by omega
              have l2 : be < w5.heap.size := by omega
              clear u0 u1 u2 u3 u4 lbs b5 row qc s4 ea0 eb0
              go_wp2_with fail
              go_region
              obtain ⟨w4, hw4⟩ : ∃ x, x = (w5.alloc (.cells #[.int .i64 (a : Int), .int .i64 (b : Int), .int .i64 ea, .int .i64 eb] 86)).drew := ⟨_, rfl⟩
              have BK : Blk w4 w5.heap.size 86 #[.int .i64 (a : Int), .int .i64 (b : Int), .int .i64 ea, .int .i64 eb] := by rw [hw4]; exact (Blk.new _ _ _).drew
              have b4 : Below w5.heap.size w5 w4 := by rw [hw4]; exact (below_alloc (Below.refl _ _) _).drew
              rw [← hw4]
              replace mp := mp.call b4
              have low4 := below_call low5 b4
              have row4 := own_call row5 b4
              clear hw4 b4 low5 row5 x4 xa xb l1 l2 hz5
              by_cases hc : cl = 0
              · have HN := Lib.hid (show slicesD l (momS l) (k + 1) (K - (k + 1)) (voicesD l (momS l) k (a + 1) (n - (a + 1)) (rowD l (momS l) k a (b + 1) (n - (b + 1)) o)) = R by rw [← hres2.out, HADD.out, if_pos (.inl hc)])
                subst hc
                clear qt HADD HNX HMET hres2 BK
                go_wp2
                go_roundg g3
                case measure => omega
                case rel => exact ⟨b + 1, o, by omega, by omega, by go_num, ⟨low4, row4, f, mp, HSN.out⟩, HN, by omega⟩
              · have fc : (cl == 0) = false := by simpa using hc
                have HO := Lib.hid (show okK 4 [(a : Int), (b : Int), ea, eb] from ⟨rfl, by
                  intro z hz
                  simp only [List.mem_cons, List.not_mem_nil, or_false] at hz
                  unfold okI
                  rcases hz with rfl | rfl | rfl | rfl <;> omega⟩)
                have lk := mp.look key_four Tryz.underlying84 (ks := [(a : Int), (b : Int), ea, eb]) HO.out
                unfold keyV at lk
                simp only [List.map_cons, List.map_nil, List.toArray] at lk
                obtain ⟨fv, hfv⟩ : ∃ z, z = f [(a : Int), (b : Int), ea, eb] := ⟨_, rfl⟩
                rw [← hfv] at lk HMET
                have k0 := BK.cell 0
                have k1 := BK.cell 1
                have k2 := BK.cell 2
                have k3 := BK.cell 3
                have kl := BK.lt
                clear hfv
                by_cases hf : fv = true
                · have HN := Lib.hid (show slicesD l (momS l) (k + 1) (K - (k + 1)) (voicesD l (momS l) k (a + 1) (n - (a + 1)) (rowD l (momS l) k a (b + 1) (n - (b + 1)) o)) = R by rw [← hres2.out, HADD.out, if_pos (.inr (by rw [HMET.out]; exact hf))])
                  rw [hf] at lk
                  clear qt HADD HNX HMET hres2 BK hf
                  go_wp2
                  go_roundg g3
                  case measure => omega
                  case rel => exact ⟨b + 1, o, by omega, by omega, by go_num, ⟨low4, row4, f, mp, HSN.out⟩, HN, by omega⟩
                · have HN := Lib.hid (show slicesD l (momS l) (k + 1) (K - (k + 1)) (voicesD l (momS l) k (a + 1) (n - (a + 1)) (rowD l (momS l) k a (b + 1) (n - (b + 1)) (o ++ [⟨k, a, b, cl, tr⟩]))) = R by
                    rw [← hres2.out, HADD.out, if_neg]
                    rintro (h | h)
                    · exact hc h
                    · rw [HMET.out] at h; exact hf h)
                  have hff : fv = false := by simpa using hf
                  rw [hff] at lk
                  clear HADD HMET hres2 hf hff
                  have hM : o.length < maxLen := by simp only [maxLen]; omega
                  go_wp2_with (refine wpList_putB (T := 84) rfl (.tmp 67) (.tmp 68) (.const (.bool true)) rfl mp key_four Tryz.underlying84 hM [(a : Int), (b : Int), ea, eb] HO.out true rfl rfl rfl ?_
                               intro w6 m6 hg6)
                  have low6 : Below w.heap.size w w6 := Below.grown (B := w.heap.size) low4 hg6 low4.size (fun x hx => by cases hx; exact Nat.le_refl _)
                  have row6 := own_map row4 (fun e => by have := (row4.lt _ e.symm).1; omega) hg6
                  clear BK k0 k1 k2 k3 kl lk mp low4 row4 hg6
                  refine (qt w6 low6).mono ?_
                  rintro e w8 ⟨rfl, b8⟩
                  have low8 := below_call low6 b8
                  have row8 := own_call row6 b8
                  have m8 := m6.call b8
                  have sn8 := HNX.out cl tr
                  clear b8 low6 row6 m6 qt HNX
                  obtain ⟨N, hN2⟩ : ∃ N, N = o.length := ⟨_, rfl⟩
                  have HNN := Lib.hid hN2
                  rw [← hN2] at row8 hol m8 hM
                  have kz := low8.size
                  clear hN2
                  go_wp2_with (at_builtin; (refine wpList_append_any _ rfl (.tmp 69) (.tmp 81) 26 rfl (w.heap.size + 1) 50 i0 _ 5 40 Tryz.underlying26 hi0 hz0 hz1 hz2 rfl (by omega) u5 N (csDis o) rfl (own_call row8 (below_alloc (Below.refl _ _) _)) (w8.heap.size + 1) (some ⟨w8.heap.size, 0, none⟩) 1 1 (csDis [⟨k, a, b, cl, tr⟩]) rfl (Reads.newAt _ _ _ 1 5 _ rfl rfl) (one_csDis _) (by simp only [maxLen]; omega) (by omega) (by simp; omega) ?_); intro v9 w9 hown9 hg9 hat9)
                  have rowA := own_call row8 (below_alloc (Below.refl w8.heap.size w8) (.cells #[.int .i64 (k : Int), .int .i64 (a : Int), .int .i64 (b : Int), .int .i64 cl, .int .i64 tr] 50))
                  have low9 : Below w.heap.size w w9 := Below.grown (B := w.heap.size) (low8.alloc (by omega) _) hg9 (by simp; omega) (fun x hx => by have := (row8.lt x hx).1; omega)
                  have mA := m8.call (below_alloc (Below.refl w8.heap.size w8) (.cells #[.int .i64 (k : Int), .int .i64 (a : Int), .int .i64 (b : Int), .int .i64 cl, .int .i64 tr] 50))
                  have m9 := mA.grown hg9 (boolmap_row mA rowA)
                  go_roundg g3
                  case measure => omega
                  case rel => exact ⟨b + 1, o ++ [⟨k, a, b, cl, tr⟩], by omega, by omega, by go_num, ⟨low9, by rw [List.length_append, List.length_singleton, ← HNN.out, csDis_append]; exact hown9, _, by rw [List.length_append, List.length_singleton, ← HNN.out]; exact m9, sn8⟩, HN, by rw [List.length_append, List.length_singleton, ← HNN.out]; omega⟩
end Go.Proofs.YtmlcnmnpkemdpaaGreatDoor

