/- The chapter's examples of layer 25: the shown voice, the test of an event, tactuslaw25.awake. -/
import Derived.Test.YtiphacmmglohaaaCut
import Derived.Test.YtiphacmmglohaaaLenMath
namespace Go.Proofs.Ytiphacmmglohaaa
open Go.RowKit
deriving instance DecidableEq for Ev
def ev (a d : Int × Int) (p : Int × Int × Int) (r : Bool) (s : Int) : Ev := ⟨a, d, p, r, s, 0⟩
def showL : List Ev := [ev (0, 1) (2, 1) (0, 4, 0) false 0, ev (2, 1) (1, 1) (1, 4, 0) false 1, ev (3, 1) (3, 1) (0, 0, 0) true 2]
set_option maxRecDepth 100000 in
set_option maxHeartbeats 1000000 in
theorem shown_any (w : World) : Calls Try.prog 27 #[] w fun e w' => ∃ A, e = .returned (.slice A 3 3) ∧ Reads w' w'.heap.size 10 A 3 (csE showL) ∧ Below w.heap.size w w' := by
  have t01 : tS 0 1 = (0, 1) := by decide +kernel
  have t21 : tS 2 1 = (2, 1) := by decide +kernel
  have t11 : tS 1 1 = (1, 1) := by decide +kernel
  have t31 : tS 3 1 = (3, 1) := by decide +kernel
  have q01 := fun w => t_any 0 1 w (by omega) (by omega) (by omega) (by omega)
  have q21 := fun w => t_any 2 1 w (by omega) (by omega) (by omega) (by omega)
  have q11 := fun w => t_any 1 1 w (by omega) (by omega) (by omega) (by omega)
  have q31 := fun w => t_any 3 1 w (by omega) (by omega) (by omega) (by omega)
  rw [t01] at q01
  rw [t21] at q21
  rw [t11] at q11
  rw [t31] at q31
  have k0 := Below.refl w.heap.size w
  clear t01 t21 t11 t31
  go_enter Try.func27, Try.ntmps27
  go_wp2_with (first | ((with_reducible refine (q01 _).mono ?_); rintro e w1 ⟨rfl, hb1⟩; replace k0 := below_call k0 hb1; clear hb1) | ((with_reducible refine (q21 _).mono ?_); rintro e w1 ⟨rfl, hb1⟩; replace k0 := below_call k0 hb1; clear hb1) | ((with_reducible refine (q11 _).mono ?_); rintro e w1 ⟨rfl, hb1⟩; replace k0 := below_call k0 hb1; clear hb1) | ((with_reducible refine (q31 _).mono ?_); rintro e w1 ⟨rfl, hb1⟩; replace k0 := below_call k0 hb1; clear hb1))
  go_ret
  exact ⟨_, rfl, (Reads.new _ _ _ 3 10 rfl).more (by simp), below_alloc k0 _⟩
set_option maxRecDepth 100000 in
set_option maxHeartbeats 1000000 in
theorem is_rest (A : Option Addr) (n c : Nat) (l : List Ev) (i : Nat) (at_ dur : Int) (x : Ev) (w : World) (h : Reads w w.heap.size 10 A n (csE l)) (hi : l[i]? = some x) (ha : x.at_ = tS at_ 2) (hd : x.dur = tS dur 2) (hr : x.rest = true) (a0 : 0 ≤ at_) (a1 : at_ ≤ 10000) (d0 : 0 ≤ dur) (d1 : dur ≤ 10000) :
    Calls Try.prog 29 #[.slice A n c, .int .i64 i, .int .i64 at_, .int .i64 dur, .int .i64 (-1)] w fun e w' => e = .returned (.bool true) ∧ Below w.heap.size w w' := by
  have hl := h.evlen
  have hin : i < n := by have := (List.getElem?_eq_some_iff.1 hi).1; omega
  have hin' : (i : Int) < (n : Int) := by omega
  have hd1 : decide (n ≤ i) = false := by simp; omega
  have hd2 : decide ((n : Int) ≤ (i : Int)) = false := by simp; omega
  obtain ⟨b, off, rfl, hab, hc⟩ := h.ev (Nat.le_refl _) (Below.refl _ _) hin hi
  obtain ⟨⟨a, a'⟩, ⟨d, d'⟩, ⟨p, q, r⟩, rst, sg, ps⟩ := x
  obtain ⟨c0, c1, c2, c3, c4, c5, c6, c7, c8, c9⟩ := ten hc
  simp only at c0 c1 c2 c3 c4 c5 c6 c7 c8 c9 ha hd hr
  subst hr
  obtain rfl : a = (tS at_ 2).1 := by rw [← ha]
  obtain rfl : a' = (tS at_ 2).2 := by rw [← ha]
  obtain rfl : d = (tS dur 2).1 := by rw [← hd]
  obtain rfl : d' = (tS dur 2).2 := by rw [← hd]
  clear hc hi hl ha hd
  go_enter Try.func29, Try.ntmps29
  go_wp2
  refine wp_region_calm (by kernel_rfl) (by kernel_rfl) ?_
  repeat (go_big_quiet_step ((go_at_call 28; exact calm_call (t_any _ _ _ (by omega) (by omega) (by omega) (by omega)))))
  refine wpQuiet_nil ?_
  intro w1 hb1
  go_wp2
  go_ret
  exact ⟨rfl, hb1⟩
set_option maxRecDepth 100000 in
set_option maxHeartbeats 1000000 in
theorem is_note (A : Option Addr) (n c : Nat) (l : List Ev) (i : Nat) (at_ dur step : Int) (x : Ev) (w : World) (h : Reads w w.heap.size 10 A n (csE l)) (hi : l[i]? = some x) (ha : x.at_ = tS at_ 2) (hd : x.dur = tS dur 2) (hr : x.rest = false) (a0 : 0 ≤ at_) (a1 : at_ ≤ 10000) (d0 : 0 ≤ dur) (d1 : dur ≤ 10000) (s0 : 0 ≤ step) (s1 : step ≤ 10000) (hp : x.pit = (step, 4, 0)) :
    Calls Try.prog 29 #[.slice A n c, .int .i64 i, .int .i64 at_, .int .i64 dur, .int .i64 step] w fun e w' => e = .returned (.bool true) ∧ Below w.heap.size w w' := by
  have hl := h.evlen
  have hin : i < n := by have := (List.getElem?_eq_some_iff.1 hi).1; omega
  have hin' : (i : Int) < (n : Int) := by omega
  have hd1 : decide (n ≤ i) = false := by simp; omega
  have hd2 : decide ((n : Int) ≤ (i : Int)) = false := by simp; omega
  obtain ⟨b, off, rfl, hab, hc⟩ := h.ev (Nat.le_refl _) (Below.refl _ _) hin hi
  obtain ⟨⟨a, a'⟩, ⟨d, d'⟩, ⟨p, q, r⟩, rst, sg, ps⟩ := x
  obtain ⟨c0, c1, c2, c3, c4, c5, c6, c7, c8, c9⟩ := ten hc
  simp only at c0 c1 c2 c3 c4 c5 c6 c7 c8 c9 ha hd hr hp
  subst hr
  cases hp
  obtain rfl : a = (tS at_ 2).1 := by rw [← ha]
  obtain rfl : a' = (tS at_ 2).2 := by rw [← ha]
  obtain rfl : d = (tS dur 2).1 := by rw [← hd]
  obtain rfl : d' = (tS dur 2).2 := by rw [← hd]
  clear hc hi hl ha hd
  go_enter Try.func29, Try.ntmps29
  go_wp2
  refine wp_region_calm (by kernel_rfl) (by kernel_rfl) ?_
  repeat (go_big_quiet_step ((go_at_call 28; exact calm_call (t_any _ _ _ (by omega) (by omega) (by omega) (by omega)))))
  refine wpQuiet_nil ?_
  intro w1 hb1
  have hcc := (bcell hb1).1
  rw [← hcc _ _ hab] at c4 c5 c6
  have hab1 : b < w1.heap.size := Nat.lt_of_lt_of_le hab hb1.size
  clear hcc
  go_wp2
  go_ret
  exact ⟨rfl, hb1⟩
theorem rdk {w w' : World} {A : Option Addr} {n : Nat} {xs : List Value} (h : Reads w w.heap.size 10 A n xs) (hb : Below w.heap.size w w') : Reads w' w'.heap.size 10 A n xs := (h.below (Nat.le_refl _) hb).more hb.size
def showR : List Ev := [ev (0, 1) (3, 1) (0, 0, 0) true 2, ev (3, 1) (1, 1) (1, 4, 0) false 1, ev (4, 1) (2, 1) (0, 4, 0) false 0]
def showS : List Ev := [ev (0, 1) (3, 1) (0, 4, 0) false 0, ev (3, 1) (3, 2) (1, 4, 0) false 1, ev (9, 2) (9, 2) (0, 0, 0) true 2]
def showC : List Ev := [ev (0, 1) (1, 1) (0, 4, 0) false 0, ev (1, 1) (1, 1) (1, 4, 0) false 1, ev (2, 1) (1, 1) (0, 0, 0) true 2]
theorem retro_show : retroS showL = (showR, 0) := by decide +kernel
theorem stretch_show : stretchS showL (3, 2) = (showS, 0) := by decide +kernel
theorem cut_show : cutS showL (1, 1) (4, 1) = (showC, 0) := by decide +kernel
set_option maxRecDepth 100000 in
set_option maxHeartbeats 1000000 in
theorem awake_any (w : World) : Calls Try.prog 10 #[] w fun e w' => e = .returned (.bool true) ∧ Below w.heap.size w w' := by
  have k0 := Below.refl w.heap.size w
  have q32 := fun w => t_any 3 2 w (by omega) (by omega) (by omega) (by omega)
  have q11 := fun w => t_any 1 1 w (by omega) (by omega) (by omega) (by omega)
  have q41 := fun w => t_any 4 1 w (by omega) (by omega) (by omega) (by omega)
  rw [show tS 3 2 = (3, 2) by decide +kernel] at q32
  rw [show tS 1 1 = (1, 1) by decide +kernel] at q11
  rw [show tS 4 1 = (4, 1) by decide +kernel] at q41
  go_enter Try.func10, Try.ntmps10
  go_wp2_with fail
  refine (shown_any _).mono ?_
  rintro e w1 ⟨A1, rfl, h1, hb⟩
  replace k0 := below_call k0 hb
  clear hb
  have c1 := retro_any A1 3 3 showL w1.heap.size w1 h1 (Nat.le_refl _) (by omega)
  rw [retro_show] at c1
  go_wp2_with fail
  refine c1.mono ?_
  rintro e w2 ⟨A2, n2, rfl, ho, hb⟩
  replace k0 := below_call k0 hb
  have hR := ho.2.1
  clear c1 h1 hb ho
  go_wp2_with fail
  refine (shown_any _).mono ?_
  rintro e w3 ⟨A3, rfl, h3, hb⟩
  replace k0 := below_call k0 hb
  replace hR := rdk hR hb
  clear hb
  go_wp2_with fail
  refine (q32 _).mono ?_
  rintro e w4 ⟨rfl, hb⟩
  replace k0 := below_call k0 hb
  replace hR := rdk hR hb
  replace h3 := rdk h3 hb
  clear hb
  have c3 := stretch_any A3 3 3 showL (3, 2) w4.heap.size w4 h3 (Nat.le_refl _) (by omega)
  rw [stretch_show] at c3
  go_wp2_with fail
  refine c3.mono ?_
  rintro e w5 ⟨A5, n5, rfl, ho, hb⟩
  replace k0 := below_call k0 hb
  replace hR := rdk hR hb
  have hS := ho.2.1
  clear c3 h3 hb ho
  go_wp2_with fail
  refine (shown_any _).mono ?_
  rintro e w6 ⟨A6, rfl, h6, hb⟩
  replace k0 := below_call k0 hb
  replace hR := rdk hR hb
  replace hS := rdk hS hb
  clear hb
  go_wp2_with fail
  refine (q11 _).mono ?_
  rintro e w7 ⟨rfl, hb⟩
  replace k0 := below_call k0 hb
  replace hR := rdk hR hb
  replace hS := rdk hS hb
  replace h6 := rdk h6 hb
  clear hb
  go_wp2_with fail
  refine (q41 _).mono ?_
  rintro e w8 ⟨rfl, hb⟩
  replace k0 := below_call k0 hb
  replace hR := rdk hR hb
  replace hS := rdk hS hb
  replace h6 := rdk h6 hb
  clear hb
  have c6 := cut_any A6 3 3 showL (1, 1) (4, 1) w8.heap.size w8 h6 (Nat.le_refl _) (by omega)
  rw [cut_show] at c6
  go_wp2_with fail
  refine c6.mono ?_
  rintro e w9 ⟨A9, n9, rfl, ho, hb⟩
  replace k0 := below_call k0 hb
  replace hR := rdk hR hb
  replace hS := rdk hS hb
  have hC := ho.2.1
  clear c6 h6 hb ho q32 q11 q41
  go_wp2_with fail
  refine (is_rest _ _ _ showR (0) 0 6 _ _ hR (by rfl) (by decide +kernel) (by decide +kernel) rfl (by omega) (by omega) (by omega) (by omega)).mono ?_
  rintro e w10 ⟨rfl, hb⟩
  replace k0 := below_call k0 hb
  replace hR := rdk hR hb
  replace hS := rdk hS hb
  replace hC := rdk hC hb
  clear hb
  go_wp2_with fail
  refine (is_note _ _ _ showR (1) 6 2 1 _ _ hR (by rfl) (by decide +kernel) (by decide +kernel) rfl (by omega) (by omega) (by omega) (by omega) (by omega) (by omega) rfl).mono ?_
  rintro e w11 ⟨rfl, hb⟩
  replace k0 := below_call k0 hb
  replace hR := rdk hR hb
  replace hS := rdk hS hb
  replace hC := rdk hC hb
  clear hb
  go_wp2_with fail
  refine (is_note _ _ _ showR (2) 8 4 0 _ _ hR (by rfl) (by decide +kernel) (by decide +kernel) rfl (by omega) (by omega) (by omega) (by omega) (by omega) (by omega) rfl).mono ?_
  rintro e w12 ⟨rfl, hb⟩
  replace k0 := below_call k0 hb
  replace hR := rdk hR hb
  replace hS := rdk hS hb
  replace hC := rdk hC hb
  clear hb
  go_wp2_with fail
  refine (is_note _ _ _ showS (1) 6 3 1 _ _ hS (by rfl) (by decide +kernel) (by decide +kernel) rfl (by omega) (by omega) (by omega) (by omega) (by omega) (by omega) rfl).mono ?_
  rintro e w13 ⟨rfl, hb⟩
  replace k0 := below_call k0 hb
  replace hR := rdk hR hb
  replace hS := rdk hS hb
  replace hC := rdk hC hb
  clear hb
  go_wp2_with fail
  refine (is_rest _ _ _ showS (2) 9 9 _ _ hS (by rfl) (by decide +kernel) (by decide +kernel) rfl (by omega) (by omega) (by omega) (by omega)).mono ?_
  rintro e w14 ⟨rfl, hb⟩
  replace k0 := below_call k0 hb
  replace hR := rdk hR hb
  replace hS := rdk hS hb
  replace hC := rdk hC hb
  clear hb
  go_wp2_with fail
  refine (is_note _ _ _ showC (0) 0 2 0 _ _ hC (by rfl) (by decide +kernel) (by decide +kernel) rfl (by omega) (by omega) (by omega) (by omega) (by omega) (by omega) rfl).mono ?_
  rintro e w15 ⟨rfl, hb⟩
  replace k0 := below_call k0 hb
  replace hR := rdk hR hb
  replace hS := rdk hS hb
  replace hC := rdk hC hb
  clear hb
  go_wp2_with fail
  refine (is_note _ _ _ showC (1) 2 2 1 _ _ hC (by rfl) (by decide +kernel) (by decide +kernel) rfl (by omega) (by omega) (by omega) (by omega) (by omega) (by omega) rfl).mono ?_
  rintro e w16 ⟨rfl, hb⟩
  replace k0 := below_call k0 hb
  replace hR := rdk hR hb
  replace hS := rdk hS hb
  replace hC := rdk hC hb
  clear hb
  go_wp2_with fail
  refine (is_rest _ _ _ showC (2) 4 2 _ _ hC (by rfl) (by decide +kernel) (by decide +kernel) rfl (by omega) (by omega) (by omega) (by omega)).mono ?_
  rintro e w17 ⟨rfl, hb⟩
  replace k0 := below_call k0 hb
  replace hR := rdk hR hb
  replace hS := rdk hS hb
  replace hC := rdk hC hb
  clear hb
  go_wp2_with fail
  go_ret
  exact ⟨rfl, k0⟩
end Go.Proofs.Ytiphacmmglohaaa
