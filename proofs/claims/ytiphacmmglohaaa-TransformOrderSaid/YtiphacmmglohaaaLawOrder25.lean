/- TransformOrder holds: a voice made of numbers may be turned round, stretched and moved in either order; upside down and moved. No condition. -/
import Derived.Test.YtiphacmmglohaaaArgsI
import Derived.Test.YtiphacmmglohaaaKnownE
import Derived.Test.YtiphacmmglohaaaBackFacts
import Derived.Test.YtiphacmmglohaaaDoorP
import Derived.Deep.RegionHeld3
namespace Go.Proofs.Ytiphacmmglohaaa.transformOrder
open Go.ChangeShapes Go.WideShapes Go.ChangeAt Go.RowKit Go.Deep
set_option linter.unusedVariables false
set_option maxRecDepth 100000 in
set_option maxHeartbeats 2000000 in
theorem walk (A : Option Addr) (n c : Nat) (l : List Int) (axis steps num : Int) (w : World) (h : Reads w w.heap.size 1 A n (csI l)) (hn : n ≤ 9223372036854775807) (hl : ∀ x ∈ l, -9223372036854775808 ≤ x ∧ x ≤ 9223372036854775807) (ha : -9223372036854775808 ≤ axis ∧ axis ≤ 9223372036854775807) (hs : -9223372036854775808 ≤ steps ∧ steps ≤ 9223372036854775807) (hu : -9223372036854775808 ≤ num ∧ num ≤ 9223372036854775807) :
    Calls Try.prog 8 #[.slice A n c, .int .i64 axis, .int .i64 steps, .int .i64 num] w fun e w' => e = .returned (.bool true) ∧ Below w.heap.size w w' := by
  obtain ⟨ha0, ha1⟩ := ha
  obtain ⟨hs0, hs1⟩ := hs
  obtain ⟨hu0, hu1⟩ := hu
  have hk0 := Int.emod_nonneg axis (show (7 : Int) ≠ 0 by omega)
  have hk1 := Int.emod_lt_of_pos axis (show (0 : Int) < 7 by omega)
  have hj0 := Int.emod_nonneg steps (show (21 : Int) ≠ 0 by omega)
  have hj1 := Int.emod_lt_of_pos steps (show (0 : Int) < 21 by omega)
  have HV := Lib.hid (fun W hW => voice_any A n c l 20 W hW hn hl (by omega)); clear hl
  have hvl := voice_le 20 l
  have HM := Lib.hid (fun W => mod_any axis 7 W (by omega) (by omega) ha0 ha1)
  have HJ := Lib.hid (fun W => mod_any steps 21 W (by omega) (by omega) hs0 hs1)
  have HS := Lib.hid (fun W => kitSpan_any num W hu0 hu1)
  obtain ⟨R, S, RS, W, RW, MW, M, l1, l2, l3, l4, l5, l6, l7, e1, e2, e3, e4, e5, e6, e7, e8, e9, e10⟩ := order_facts25 l (axis % 7) (steps % 21 - 10) num hk0 hk1 (by omega) (by omega)
  generalize voiceS 20 l = V at HV hvl e1 e3 e6 e9
  generalize axis % 7 = k at hk0 hk1 HM e8 e9
  generalize steps % 21 = j at hj0 hj1 HJ e5 e6 e10
  obtain ⟨s, hs⟩ : ∃ s, s = j - 10 := ⟨_, rfl⟩
  have hss0 : -20 ≤ s := by omega
  have hss1 : s ≤ 20 := by omega
  rw [← hs] at e5 e6 e10
  have SS := Lib.hid hs.symm; clear hs
  generalize spS num = z at HS e2 e3
  obtain ⟨N, D⟩ := z
  dsimp only at HS e2 e3
  have E1 := Lib.hid e1; clear e1
  have E2 := Lib.hid e2; clear e2
  have E3 := Lib.hid e3; clear e3
  have E4 := Lib.hid e4; clear e4
  have E5 := Lib.hid e5; clear e5
  have E6 := Lib.hid e6; clear e6
  have E7 := Lib.hid e7; clear e7
  have E8 := Lib.hid e8; clear e8
  have E9 := Lib.hid e9; clear e9
  have E10 := Lib.hid e10; clear e10
  have k0 := Below.refl w.heap.size w
  go_enter Try.func8, Try.ntmps8
  go_wp2_with fail
  refine (known_any _).mono ?_
  rintro e w1 ⟨rfl, hb0⟩
  have hb : Below w.heap.size w w1 := below_call (by repeat (first | with_reducible exact Below.refl _ _ | with_reducible assumption | with_reducible refine below_drewN ?_ _ | with_reducible refine Below.drew ?_ | with_reducible refine below_alloc ?_ _ | (with_reducible refine Below.setCell ?_ ?_ _; rotate_left; ((try simp only); omega)))) hb0
  replace k0 := below_call k0 hb
  replace h := rdi h hb
  clear hb hb0
  go_wp2_with fail
  refine (HV.out w1 h).mono ?_
  rintro e w2 ⟨A1, c1, rfl, ho, hb0⟩
  have hb : Below w1.heap.size w1 w2 := below_call (by repeat (first | with_reducible exact Below.refl _ _ | with_reducible assumption | with_reducible refine below_drewN ?_ _ | with_reducible refine Below.drew ?_ | with_reducible refine below_alloc ?_ _ | (with_reducible refine Below.setCell ?_ ?_ _; rotate_left; ((try simp only); omega)))) hb0
  replace k0 := below_call k0 hb
  replace h := rdi h hb
  have hV := ho.2.1
  clear ho
  clear hb hb0
  clear h
  go_wp2_with (first | (go_at_call 31; (with_reducible refine (HM.out _).mono ?_); rintro e wm ⟨rfl, rfl⟩) | (go_at_call 31; (with_reducible refine (HJ.out _).mono ?_); rintro e wm ⟨rfl, rfl⟩))
  rw [SS.out]
  have rP : Blk (w2.alloc (.cells #[.int .i64 k, .int .i64 4, .int .i64 0] 35)) w2.heap.size 35 #[.int .i64 k, .int .i64 4, .int .i64 0] := Blk.new _ _ _
  have cP := rP.cell; have zP := rP.lt
  refine (HS.out _).mono ?_
  rintro e w3 ⟨rfl, hb0⟩
  have hb : Below w2.heap.size w2 w3 := below_call (by repeat (first | with_reducible exact Below.refl _ _ | with_reducible assumption | with_reducible refine below_drewN ?_ _ | with_reducible refine Below.drew ?_ | with_reducible refine below_alloc ?_ _ | (with_reducible refine Below.setCell ?_ ?_ _; rotate_left; ((try simp only); omega)))) hb0
  replace k0 := below_call k0 hb
  replace hV := rdk hV hb
  replace rP : Blk w3 (w2.heap.size) 35 #[.int .i64 k, .int .i64 4, .int .i64 0] := Blk.kept (by repeat (first | with_reducible exact rP | with_reducible exact Blk.new _ _ _ | (with_reducible refine Blk.newAt _ _ _ _ ?_; first | rfl | (simp; done)) | with_reducible apply Blk.alloc | with_reducible apply Blk.drewN | with_reducible apply Blk.drew | with_reducible apply Blk.set_to | (with_reducible apply Blk.far_; (simp only [ne_eq]; omega)) | rfl)) hb0
  replace cP := rP.cell; replace zP := rP.lt
  clear hb hb0
  have rY : Blk (w3.alloc (.cells #[.int .i64 N, .int .i64 D] 24)) w3.heap.size 24 #[.int .i64 N, .int .i64 D] := Blk.new _ _ _
  have cY := rY.cell; have zY := rY.lt
  have qR := fun ww hW => retro_any A1 V.length c1 V ww.heap.size ww hW (Nat.le_refl _) (by omega)
  rw [E1.out] at qR
  dsimp only at qR
  go_wp2_with fail
  refine (qR _ (rdk hV (by repeat (first | with_reducible exact Below.refl _ _ | with_reducible assumption | with_reducible refine below_drewN ?_ _ | with_reducible refine Below.drew ?_ | with_reducible refine below_alloc ?_ _ | (with_reducible refine Below.setCell ?_ ?_ _; rotate_left; ((try simp only); omega)))))).mono ?_
  rintro e w4 ⟨AR, cR, rfl, ho, hb0⟩
  have hb : Below w3.heap.size w3 w4 := below_call (by repeat (first | with_reducible exact Below.refl _ _ | with_reducible assumption | with_reducible refine below_drewN ?_ _ | with_reducible refine Below.drew ?_ | with_reducible refine below_alloc ?_ _ | (with_reducible refine Below.setCell ?_ ?_ _; rotate_left; ((try simp only); omega)))) hb0
  replace k0 := below_call k0 hb
  replace hV := rdk hV hb
  replace rP : Blk w4 (w2.heap.size) 35 #[.int .i64 k, .int .i64 4, .int .i64 0] := Blk.kept (by repeat (first | with_reducible exact rP | with_reducible exact Blk.new _ _ _ | (with_reducible refine Blk.newAt _ _ _ _ ?_; first | rfl | (simp; done)) | with_reducible apply Blk.alloc | with_reducible apply Blk.drewN | with_reducible apply Blk.drew | with_reducible apply Blk.set_to | (with_reducible apply Blk.far_; (simp only [ne_eq]; omega)) | rfl)) hb0
  replace cP := rP.cell; replace zP := rP.lt
  replace rY : Blk w4 (w3.heap.size) 24 #[.int .i64 N, .int .i64 D] := Blk.kept (by repeat (first | with_reducible exact rY | with_reducible exact Blk.new _ _ _ | (with_reducible refine Blk.newAt _ _ _ _ ?_; first | rfl | (simp; done)) | with_reducible apply Blk.alloc | with_reducible apply Blk.drewN | with_reducible apply Blk.drew | with_reducible apply Blk.set_to | (with_reducible apply Blk.far_; (simp only [ne_eq]; omega)) | rfl)) hb0
  replace cY := rY.cell; replace zY := rY.lt
  have hR := ho.2.1
  clear ho qR
  clear hb hb0
  have qB := fun ww hW => stretch_any AR R.length cR R (N, D) ww.heap.size ww hW (Nat.le_refl _) (by omega)
  rw [E2.out] at qB
  dsimp only at qB
  go_wp2_with fail
  refine (qB _ (rdk hR (by repeat (first | with_reducible exact Below.refl _ _ | with_reducible assumption | with_reducible refine below_drewN ?_ _ | with_reducible refine Below.drew ?_ | with_reducible refine below_alloc ?_ _ | (with_reducible refine Below.setCell ?_ ?_ _; rotate_left; ((try simp only); omega)))))).mono ?_
  rintro e w5 ⟨AB, cB, rfl, ho, hb0⟩
  have hb : Below w4.heap.size w4 w5 := below_call (by repeat (first | with_reducible exact Below.refl _ _ | with_reducible assumption | with_reducible refine below_drewN ?_ _ | with_reducible refine Below.drew ?_ | with_reducible refine below_alloc ?_ _ | (with_reducible refine Below.setCell ?_ ?_ _; rotate_left; ((try simp only); omega)))) hb0
  replace k0 := below_call k0 hb
  replace hV := rdk hV hb
  replace hR := rdk hR hb
  replace rP : Blk w5 (w2.heap.size) 35 #[.int .i64 k, .int .i64 4, .int .i64 0] := Blk.kept (by repeat (first | with_reducible exact rP | with_reducible exact Blk.new _ _ _ | (with_reducible refine Blk.newAt _ _ _ _ ?_; first | rfl | (simp; done)) | with_reducible apply Blk.alloc | with_reducible apply Blk.drewN | with_reducible apply Blk.drew | with_reducible apply Blk.set_to | (with_reducible apply Blk.far_; (simp only [ne_eq]; omega)) | rfl)) hb0
  replace cP := rP.cell; replace zP := rP.lt
  replace rY : Blk w5 (w3.heap.size) 24 #[.int .i64 N, .int .i64 D] := Blk.kept (by repeat (first | with_reducible exact rY | with_reducible exact Blk.new _ _ _ | (with_reducible refine Blk.newAt _ _ _ _ ?_; first | rfl | (simp; done)) | with_reducible apply Blk.alloc | with_reducible apply Blk.drewN | with_reducible apply Blk.drew | with_reducible apply Blk.set_to | (with_reducible apply Blk.far_; (simp only [ne_eq]; omega)) | rfl)) hb0
  replace cY := rY.cell; replace zY := rY.lt
  have hB := ho.2.1
  clear ho qB
  clear hb hb0
  have qC := fun ww hW => stretch_any A1 V.length c1 V (N, D) ww.heap.size ww hW (Nat.le_refl _) (by omega)
  rw [E3.out] at qC
  dsimp only at qC
  go_wp2_with fail
  refine (qC _ (rdk hV (by repeat (first | with_reducible exact Below.refl _ _ | with_reducible assumption | with_reducible refine below_drewN ?_ _ | with_reducible refine Below.drew ?_ | with_reducible refine below_alloc ?_ _ | (with_reducible refine Below.setCell ?_ ?_ _; rotate_left; ((try simp only); omega)))))).mono ?_
  rintro e w6 ⟨AC, cC, rfl, ho, hb0⟩
  have hb : Below w5.heap.size w5 w6 := below_call (by repeat (first | with_reducible exact Below.refl _ _ | with_reducible assumption | with_reducible refine below_drewN ?_ _ | with_reducible refine Below.drew ?_ | with_reducible refine below_alloc ?_ _ | (with_reducible refine Below.setCell ?_ ?_ _; rotate_left; ((try simp only); omega)))) hb0
  replace k0 := below_call k0 hb
  replace hV := rdk hV hb
  replace hR := rdk hR hb
  replace hB := rdk hB hb
  replace rP : Blk w6 (w2.heap.size) 35 #[.int .i64 k, .int .i64 4, .int .i64 0] := Blk.kept (by repeat (first | with_reducible exact rP | with_reducible exact Blk.new _ _ _ | (with_reducible refine Blk.newAt _ _ _ _ ?_; first | rfl | (simp; done)) | with_reducible apply Blk.alloc | with_reducible apply Blk.drewN | with_reducible apply Blk.drew | with_reducible apply Blk.set_to | (with_reducible apply Blk.far_; (simp only [ne_eq]; omega)) | rfl)) hb0
  replace cP := rP.cell; replace zP := rP.lt
  replace rY : Blk w6 (w3.heap.size) 24 #[.int .i64 N, .int .i64 D] := Blk.kept (by repeat (first | with_reducible exact rY | with_reducible exact Blk.new _ _ _ | (with_reducible refine Blk.newAt _ _ _ _ ?_; first | rfl | (simp; done)) | with_reducible apply Blk.alloc | with_reducible apply Blk.drewN | with_reducible apply Blk.drew | with_reducible apply Blk.set_to | (with_reducible apply Blk.far_; (simp only [ne_eq]; omega)) | rfl)) hb0
  replace cY := rY.cell; replace zY := rY.lt
  have hC := ho.2.1
  clear ho qC
  clear hb hb0
  have qD := fun ww hW => retro_any AC S.length cC S ww.heap.size ww hW (Nat.le_refl _) (by omega)
  rw [E4.out] at qD
  dsimp only at qD
  go_wp2_with fail
  refine (qD _ (rdk hC (by repeat (first | with_reducible exact Below.refl _ _ | with_reducible assumption | with_reducible refine below_drewN ?_ _ | with_reducible refine Below.drew ?_ | with_reducible refine below_alloc ?_ _ | (with_reducible refine Below.setCell ?_ ?_ _; rotate_left; ((try simp only); omega)))))).mono ?_
  rintro e w7 ⟨AD, cD, rfl, ho, hb0⟩
  have hb : Below w6.heap.size w6 w7 := below_call (by repeat (first | with_reducible exact Below.refl _ _ | with_reducible assumption | with_reducible refine below_drewN ?_ _ | with_reducible refine Below.drew ?_ | with_reducible refine below_alloc ?_ _ | (with_reducible refine Below.setCell ?_ ?_ _; rotate_left; ((try simp only); omega)))) hb0
  replace k0 := below_call k0 hb
  replace hV := rdk hV hb
  replace hR := rdk hR hb
  replace hB := rdk hB hb
  replace hC := rdk hC hb
  replace rP : Blk w7 (w2.heap.size) 35 #[.int .i64 k, .int .i64 4, .int .i64 0] := Blk.kept (by repeat (first | with_reducible exact rP | with_reducible exact Blk.new _ _ _ | (with_reducible refine Blk.newAt _ _ _ _ ?_; first | rfl | (simp; done)) | with_reducible apply Blk.alloc | with_reducible apply Blk.drewN | with_reducible apply Blk.drew | with_reducible apply Blk.set_to | (with_reducible apply Blk.far_; (simp only [ne_eq]; omega)) | rfl)) hb0
  replace cP := rP.cell; replace zP := rP.lt
  replace rY : Blk w7 (w3.heap.size) 24 #[.int .i64 N, .int .i64 D] := Blk.kept (by repeat (first | with_reducible exact rY | with_reducible exact Blk.new _ _ _ | (with_reducible refine Blk.newAt _ _ _ _ ?_; first | rfl | (simp; done)) | with_reducible apply Blk.alloc | with_reducible apply Blk.drewN | with_reducible apply Blk.drew | with_reducible apply Blk.set_to | (with_reducible apply Blk.far_; (simp only [ne_eq]; omega)) | rfl)) hb0
  replace cY := rY.cell; replace zY := rY.lt
  have hD := ho.2.1
  clear ho qD
  clear hb hb0
  go_wp2_with fail
  refine (sameEvents_any AB AD _ cB cD RS w7.heap.size w7.heap.size w7 hB (Nat.le_refl _) hD (Nat.le_refl _) (by omega)).mono ?_
  rintro e w8 ⟨rfl, hb0⟩
  have hb : Below w7.heap.size w7 w8 := below_call (by repeat (first | with_reducible exact Below.refl _ _ | with_reducible assumption | with_reducible refine below_drewN ?_ _ | with_reducible refine Below.drew ?_ | with_reducible refine below_alloc ?_ _ | (with_reducible refine Below.setCell ?_ ?_ _; rotate_left; ((try simp only); omega)))) hb0
  replace k0 := below_call k0 hb
  replace hV := rdk hV hb
  replace hR := rdk hR hb
  replace hB := rdk hB hb
  replace hC := rdk hC hb
  replace hD := rdk hD hb
  replace rP : Blk w8 (w2.heap.size) 35 #[.int .i64 k, .int .i64 4, .int .i64 0] := Blk.kept (by repeat (first | with_reducible exact rP | with_reducible exact Blk.new _ _ _ | (with_reducible refine Blk.newAt _ _ _ _ ?_; first | rfl | (simp; done)) | with_reducible apply Blk.alloc | with_reducible apply Blk.drewN | with_reducible apply Blk.drew | with_reducible apply Blk.set_to | (with_reducible apply Blk.far_; (simp only [ne_eq]; omega)) | rfl)) hb0
  replace cP := rP.cell; replace zP := rP.lt
  replace rY : Blk w8 (w3.heap.size) 24 #[.int .i64 N, .int .i64 D] := Blk.kept (by repeat (first | with_reducible exact rY | with_reducible exact Blk.new _ _ _ | (with_reducible refine Blk.newAt _ _ _ _ ?_; first | rfl | (simp; done)) | with_reducible apply Blk.alloc | with_reducible apply Blk.drewN | with_reducible apply Blk.drew | with_reducible apply Blk.set_to | (with_reducible apply Blk.far_; (simp only [ne_eq]; omega)) | rfl)) hb0
  replace cY := rY.cell; replace zY := rY.lt
  clear hb hb0
  clear hR hB hC hD
  clear rY cY zY
  have qR := fun ww hW => retro_any A1 V.length c1 V ww.heap.size ww hW (Nat.le_refl _) (by omega)
  rw [E1.out] at qR
  dsimp only at qR
  go_wp2_with fail
  refine (qR _ (rdk hV (by repeat (first | with_reducible exact Below.refl _ _ | with_reducible assumption | with_reducible refine below_drewN ?_ _ | with_reducible refine Below.drew ?_ | with_reducible refine below_alloc ?_ _ | (with_reducible refine Below.setCell ?_ ?_ _; rotate_left; ((try simp only); omega)))))).mono ?_
  rintro e w9 ⟨AR, cR, rfl, ho, hb0⟩
  have hb : Below w8.heap.size w8 w9 := below_call (by repeat (first | with_reducible exact Below.refl _ _ | with_reducible assumption | with_reducible refine below_drewN ?_ _ | with_reducible refine Below.drew ?_ | with_reducible refine below_alloc ?_ _ | (with_reducible refine Below.setCell ?_ ?_ _; rotate_left; ((try simp only); omega)))) hb0
  replace k0 := below_call k0 hb
  replace hV := rdk hV hb
  replace rP : Blk w9 (w2.heap.size) 35 #[.int .i64 k, .int .i64 4, .int .i64 0] := Blk.kept (by repeat (first | with_reducible exact rP | with_reducible exact Blk.new _ _ _ | (with_reducible refine Blk.newAt _ _ _ _ ?_; first | rfl | (simp; done)) | with_reducible apply Blk.alloc | with_reducible apply Blk.drewN | with_reducible apply Blk.drew | with_reducible apply Blk.set_to | (with_reducible apply Blk.far_; (simp only [ne_eq]; omega)) | rfl)) hb0
  replace cP := rP.cell; replace zP := rP.lt
  have hR := ho.2.1
  clear ho qR
  clear hb hb0
  have qB := fun ww hW => move_any AR R.length cR R s ww.heap.size ww hW (Nat.le_refl _) (by omega)
  rw [E5.out] at qB
  dsimp only at qB
  go_wp2_with fail
  refine (qB _ (rdk hR (by repeat (first | with_reducible exact Below.refl _ _ | with_reducible assumption | with_reducible refine below_drewN ?_ _ | with_reducible refine Below.drew ?_ | with_reducible refine below_alloc ?_ _ | (with_reducible refine Below.setCell ?_ ?_ _; rotate_left; ((try simp only); omega)))))).mono ?_
  rintro e w10 ⟨AB, cB, rfl, ho, hb0⟩
  have hb : Below w9.heap.size w9 w10 := below_call (by repeat (first | with_reducible exact Below.refl _ _ | with_reducible assumption | with_reducible refine below_drewN ?_ _ | with_reducible refine Below.drew ?_ | with_reducible refine below_alloc ?_ _ | (with_reducible refine Below.setCell ?_ ?_ _; rotate_left; ((try simp only); omega)))) hb0
  replace k0 := below_call k0 hb
  replace hV := rdk hV hb
  replace hR := rdk hR hb
  replace rP : Blk w10 (w2.heap.size) 35 #[.int .i64 k, .int .i64 4, .int .i64 0] := Blk.kept (by repeat (first | with_reducible exact rP | with_reducible exact Blk.new _ _ _ | (with_reducible refine Blk.newAt _ _ _ _ ?_; first | rfl | (simp; done)) | with_reducible apply Blk.alloc | with_reducible apply Blk.drewN | with_reducible apply Blk.drew | with_reducible apply Blk.set_to | (with_reducible apply Blk.far_; (simp only [ne_eq]; omega)) | rfl)) hb0
  replace cP := rP.cell; replace zP := rP.lt
  have hB := ho.2.1
  clear ho qB
  clear hb hb0
  have qC := fun ww hW => move_any A1 V.length c1 V s ww.heap.size ww hW (Nat.le_refl _) (by omega)
  rw [E6.out] at qC
  dsimp only at qC
  go_wp2_with fail
  refine (qC _ (rdk hV (by repeat (first | with_reducible exact Below.refl _ _ | with_reducible assumption | with_reducible refine below_drewN ?_ _ | with_reducible refine Below.drew ?_ | with_reducible refine below_alloc ?_ _ | (with_reducible refine Below.setCell ?_ ?_ _; rotate_left; ((try simp only); omega)))))).mono ?_
  rintro e w11 ⟨AC, cC, rfl, ho, hb0⟩
  have hb : Below w10.heap.size w10 w11 := below_call (by repeat (first | with_reducible exact Below.refl _ _ | with_reducible assumption | with_reducible refine below_drewN ?_ _ | with_reducible refine Below.drew ?_ | with_reducible refine below_alloc ?_ _ | (with_reducible refine Below.setCell ?_ ?_ _; rotate_left; ((try simp only); omega)))) hb0
  replace k0 := below_call k0 hb
  replace hV := rdk hV hb
  replace hR := rdk hR hb
  replace hB := rdk hB hb
  replace rP : Blk w11 (w2.heap.size) 35 #[.int .i64 k, .int .i64 4, .int .i64 0] := Blk.kept (by repeat (first | with_reducible exact rP | with_reducible exact Blk.new _ _ _ | (with_reducible refine Blk.newAt _ _ _ _ ?_; first | rfl | (simp; done)) | with_reducible apply Blk.alloc | with_reducible apply Blk.drewN | with_reducible apply Blk.drew | with_reducible apply Blk.set_to | (with_reducible apply Blk.far_; (simp only [ne_eq]; omega)) | rfl)) hb0
  replace cP := rP.cell; replace zP := rP.lt
  have hC := ho.2.1
  clear ho qC
  clear hb hb0
  have qD := fun ww hW => retro_any AC W.length cC W ww.heap.size ww hW (Nat.le_refl _) (by omega)
  rw [E7.out] at qD
  dsimp only at qD
  go_wp2_with fail
  refine (qD _ (rdk hC (by repeat (first | with_reducible exact Below.refl _ _ | with_reducible assumption | with_reducible refine below_drewN ?_ _ | with_reducible refine Below.drew ?_ | with_reducible refine below_alloc ?_ _ | (with_reducible refine Below.setCell ?_ ?_ _; rotate_left; ((try simp only); omega)))))).mono ?_
  rintro e w12 ⟨AD, cD, rfl, ho, hb0⟩
  have hb : Below w11.heap.size w11 w12 := below_call (by repeat (first | with_reducible exact Below.refl _ _ | with_reducible assumption | with_reducible refine below_drewN ?_ _ | with_reducible refine Below.drew ?_ | with_reducible refine below_alloc ?_ _ | (with_reducible refine Below.setCell ?_ ?_ _; rotate_left; ((try simp only); omega)))) hb0
  replace k0 := below_call k0 hb
  replace hV := rdk hV hb
  replace hR := rdk hR hb
  replace hB := rdk hB hb
  replace hC := rdk hC hb
  replace rP : Blk w12 (w2.heap.size) 35 #[.int .i64 k, .int .i64 4, .int .i64 0] := Blk.kept (by repeat (first | with_reducible exact rP | with_reducible exact Blk.new _ _ _ | (with_reducible refine Blk.newAt _ _ _ _ ?_; first | rfl | (simp; done)) | with_reducible apply Blk.alloc | with_reducible apply Blk.drewN | with_reducible apply Blk.drew | with_reducible apply Blk.set_to | (with_reducible apply Blk.far_; (simp only [ne_eq]; omega)) | rfl)) hb0
  replace cP := rP.cell; replace zP := rP.lt
  have hD := ho.2.1
  clear ho qD
  clear hb hb0
  go_wp2_with fail
  refine (sameEvents_any AB AD _ cB cD RW w12.heap.size w12.heap.size w12 hB (Nat.le_refl _) hD (Nat.le_refl _) (by omega)).mono ?_
  rintro e w13 ⟨rfl, hb0⟩
  have hb : Below w12.heap.size w12 w13 := below_call (by repeat (first | with_reducible exact Below.refl _ _ | with_reducible assumption | with_reducible refine below_drewN ?_ _ | with_reducible refine Below.drew ?_ | with_reducible refine below_alloc ?_ _ | (with_reducible refine Below.setCell ?_ ?_ _; rotate_left; ((try simp only); omega)))) hb0
  replace k0 := below_call k0 hb
  replace hV := rdk hV hb
  replace hR := rdk hR hb
  replace hB := rdk hB hb
  replace hC := rdk hC hb
  replace hD := rdk hD hb
  replace rP : Blk w13 (w2.heap.size) 35 #[.int .i64 k, .int .i64 4, .int .i64 0] := Blk.kept (by repeat (first | with_reducible exact rP | with_reducible exact Blk.new _ _ _ | (with_reducible refine Blk.newAt _ _ _ _ ?_; first | rfl | (simp; done)) | with_reducible apply Blk.alloc | with_reducible apply Blk.drewN | with_reducible apply Blk.drew | with_reducible apply Blk.set_to | (with_reducible apply Blk.far_; (simp only [ne_eq]; omega)) | rfl)) hb0
  replace cP := rP.cell; replace zP := rP.lt
  clear hb hb0
  clear hR hB hD
  have qE := fun ww hW => mirror_any AC W.length cC W (k, 4, 0) ww.heap.size ww hW (Nat.le_refl _) (by omega)
  rw [E8.out] at qE
  dsimp only at qE
  go_wp2_with fail
  refine (qE _ (rdk hC (by repeat (first | with_reducible exact Below.refl _ _ | with_reducible assumption | with_reducible refine below_drewN ?_ _ | with_reducible refine Below.drew ?_ | with_reducible refine below_alloc ?_ _ | (with_reducible refine Below.setCell ?_ ?_ _; rotate_left; ((try simp only); omega)))))).mono ?_
  rintro e w14 ⟨AE, cE, rfl, ho, hb0⟩
  have hb : Below w13.heap.size w13 w14 := below_call (by repeat (first | with_reducible exact Below.refl _ _ | with_reducible assumption | with_reducible refine below_drewN ?_ _ | with_reducible refine Below.drew ?_ | with_reducible refine below_alloc ?_ _ | (with_reducible refine Below.setCell ?_ ?_ _; rotate_left; ((try simp only); omega)))) hb0
  replace k0 := below_call k0 hb
  replace hV := rdk hV hb
  replace hC := rdk hC hb
  replace rP : Blk w14 (w2.heap.size) 35 #[.int .i64 k, .int .i64 4, .int .i64 0] := Blk.kept (by repeat (first | with_reducible exact rP | with_reducible exact Blk.new _ _ _ | (with_reducible refine Blk.newAt _ _ _ _ ?_; first | rfl | (simp; done)) | with_reducible apply Blk.alloc | with_reducible apply Blk.drewN | with_reducible apply Blk.drew | with_reducible apply Blk.set_to | (with_reducible apply Blk.far_; (simp only [ne_eq]; omega)) | rfl)) hb0
  replace cP := rP.cell; replace zP := rP.lt
  have hE := ho.2.1
  clear ho qE
  clear hb hb0
  have qF := fun ww hW => mirror_any A1 V.length c1 V (k, 4, 0) ww.heap.size ww hW (Nat.le_refl _) (by omega)
  rw [E9.out] at qF
  dsimp only at qF
  go_wp2_with fail
  refine (qF _ (rdk hV (by repeat (first | with_reducible exact Below.refl _ _ | with_reducible assumption | with_reducible refine below_drewN ?_ _ | with_reducible refine Below.drew ?_ | with_reducible refine below_alloc ?_ _ | (with_reducible refine Below.setCell ?_ ?_ _; rotate_left; ((try simp only); omega)))))).mono ?_
  rintro e w15 ⟨AF, cF, rfl, ho, hb0⟩
  have hb : Below w14.heap.size w14 w15 := below_call (by repeat (first | with_reducible exact Below.refl _ _ | with_reducible assumption | with_reducible refine below_drewN ?_ _ | with_reducible refine Below.drew ?_ | with_reducible refine below_alloc ?_ _ | (with_reducible refine Below.setCell ?_ ?_ _; rotate_left; ((try simp only); omega)))) hb0
  replace k0 := below_call k0 hb
  replace hV := rdk hV hb
  replace hC := rdk hC hb
  replace hE := rdk hE hb
  replace rP : Blk w15 (w2.heap.size) 35 #[.int .i64 k, .int .i64 4, .int .i64 0] := Blk.kept (by repeat (first | with_reducible exact rP | with_reducible exact Blk.new _ _ _ | (with_reducible refine Blk.newAt _ _ _ _ ?_; first | rfl | (simp; done)) | with_reducible apply Blk.alloc | with_reducible apply Blk.drewN | with_reducible apply Blk.drew | with_reducible apply Blk.set_to | (with_reducible apply Blk.far_; (simp only [ne_eq]; omega)) | rfl)) hb0
  replace cP := rP.cell; replace zP := rP.lt
  have hF := ho.2.1
  clear ho qF
  clear hb hb0
  clear rP cP zP
  have qG := fun ww hW => move_any AF M.length cF M (-s) ww.heap.size ww hW (Nat.le_refl _) (by omega)
  rw [E10.out] at qG
  dsimp only at qG
  go_wp2_with fail
  refine (qG _ (rdk hF (by repeat (first | with_reducible exact Below.refl _ _ | with_reducible assumption | with_reducible refine below_drewN ?_ _ | with_reducible refine Below.drew ?_ | with_reducible refine below_alloc ?_ _ | (with_reducible refine Below.setCell ?_ ?_ _; rotate_left; ((try simp only); omega)))))).mono ?_
  rintro e w16 ⟨AG, cG, rfl, ho, hb0⟩
  have hb : Below w15.heap.size w15 w16 := below_call (by repeat (first | with_reducible exact Below.refl _ _ | with_reducible assumption | with_reducible refine below_drewN ?_ _ | with_reducible refine Below.drew ?_ | with_reducible refine below_alloc ?_ _ | (with_reducible refine Below.setCell ?_ ?_ _; rotate_left; ((try simp only); omega)))) hb0
  replace k0 := below_call k0 hb
  replace hV := rdk hV hb
  replace hC := rdk hC hb
  replace hE := rdk hE hb
  replace hF := rdk hF hb
  have hG := ho.2.1
  clear ho qG
  clear hb hb0
  go_wp2_with fail
  refine (sameEvents_any AE AG _ cE cG MW w16.heap.size w16.heap.size w16 hE (Nat.le_refl _) hG (Nat.le_refl _) (by omega)).mono ?_
  rintro e w17 ⟨rfl, hb0⟩
  have hb : Below w16.heap.size w16 w17 := below_call (by repeat (first | with_reducible exact Below.refl _ _ | with_reducible assumption | with_reducible refine below_drewN ?_ _ | with_reducible refine Below.drew ?_ | with_reducible refine below_alloc ?_ _ | (with_reducible refine Below.setCell ?_ ?_ _; rotate_left; ((try simp only); omega)))) hb0
  replace k0 := below_call k0 hb
  replace hV := rdk hV hb
  replace hC := rdk hC hb
  replace hE := rdk hE hb
  replace hF := rdk hF hb
  replace hG := rdk hG hb
  clear hb hb0
  go_wp2_with fail
  go_ret
  exact ⟨rfl, k0⟩

set_option maxRecDepth 100000 in
theorem lifted (os : Os) (started : os.Started) (H : Type) (enc : TypeId × Value → H) :
    ReturnsInHanded {} Try.checked os 8 .any (Rows.transformOrderSpec.pre6 enc Try.prog Try.f8 Rows.transformOrderRow.domain false) (Rows.transformOrderSpec.post enc Try.prog Try.f8 false true false false) := by
  refine returnsInHanded_of_change (C := Try.checked) own started (by kernel_rfl) Try.func8
    (ChangeSpec.witness6 (enc := enc) (C := Try.checked) false ⟨#[], #[.slice none 0 0, .int .i64 0, .int .i64 0, .int .i64 0], []⟩ 8 (by kernel_rfl) (by kernel_rfl) (by kernel_rfl) (by kernel_rfl)) ?_
  intro W base args ds gs before hval0 hW hcnd _
  have hval : ∀ (j : Nat) t v, Try.f8.params[j]? = some t → args[j]? = some v → Value.okWide Try.prog W .any base t v := hval0
  have hW' := hW
  obtain ⟨p, q, hA0, hV, rfl, hfz, hnd⟩ := hW
  have hA : DataW.TrodAll enc Try.prog W 0 (fun _ => true) true Try.f8.params.toList args.toList ds p := hA0
  rw [Try.params8] at hA hval
  obtain ⟨v0, vs0, d0, ds0, p0, q0, hargs, rfl, rfl, h0, r0⟩ := trodAll_cons hA
  obtain ⟨v1, vs1, d1, ds1, p1, q1, rfl, rfl, rfl, h1, r1⟩ := trodAll_cons r0
  obtain ⟨v2, vs2, d2, ds2, p2, q2, rfl, rfl, rfl, h2, r2⟩ := trodAll_cons r1
  obtain ⟨v3, vs3, d3, ds3, p3, q3, rfl, rfl, rfl, h3, r3⟩ := trodAll_cons r2
  obtain ⟨rfl, rfl, rfl⟩ := trodAll_nil r3
  obtain rfl : args = #[v0, v1, v2, v3] := by cases args; simp_all
  obtain ⟨rfl, rfl⟩ := trodVars_none hV
  have k0 := h0
  have lt0 : ∀ x ∈ p0, x.block < W.heap.size := by obtain ⟨m, hm⟩ := k0; exact DataW.trod_lt m _ _ _ hm
  obtain ⟨A0, n0, c0, l0, rfl, w0⟩ := arg_ints (hval 0 43 v0 rfl rfl) h0
  have k1 := h1
  have lt1 : ∀ x ∈ p1, x.block < W.heap.size := by obtain ⟨m, hm⟩ := k1; exact DataW.trod_lt m _ _ _ hm
  obtain ⟨a1, rfl, w1⟩ := arg_int (hval 1 3 v1 rfl rfl) h1
  have k2 := h2
  have lt2 : ∀ x ∈ p2, x.block < W.heap.size := by obtain ⟨m, hm⟩ := k2; exact DataW.trod_lt m _ _ _ hm
  obtain ⟨a2, rfl, w2⟩ := arg_int (hval 2 3 v2 rfl rfl) h2
  have k3 := h3
  have lt3 : ∀ x ∈ p3, x.block < W.heap.size := by obtain ⟨m, hm⟩ := k3; exact DataW.trod_lt m _ _ _ hm
  obtain ⟨a3, rfl, w3⟩ := arg_int (hval 3 3 v3 rfl rfl) h3
  clear hA0 hval0
  refine (walk A0 n0 c0 l0 a1 a2 a3 W w0.1 w0.2.1 w0.2.2 w1 w2 w3).mono fun e W' ⟨he, bel⟩ => ?_
  subst he
  exact ⟨_, rfl, _, _, _, [], _, [], hW', trodAll_mk1 (shut_bool Try.underlying4 _), (trodAll_cons_mk (Below.trod laidOut (by kernel_rfl) (of_decide_eq_true (by kernel_rfl)) k0 bel lt0) (trodAll_cons_mk (Below.trod laidOut (by kernel_rfl) (of_decide_eq_true (by kernel_rfl)) k1 bel lt1) (trodAll_cons_mk (Below.trod laidOut (by kernel_rfl) (of_decide_eq_true (by kernel_rfl)) k2 bel lt2) (trodAll_cons_mk (Below.trod laidOut (by kernel_rfl) (of_decide_eq_true (by kernel_rfl)) k3 bel lt3) trodAll_mk0)))), rfl, bel.frame _, fun h => by cases h⟩

theorem over : Rows.TransformOrderSaid :=
  OpenClaim.holds_of_wide 8 Try.f8 rfl rfl rfl rfl rfl rfl rfl ⟨rfl, rfl, rfl, rfl, rfl⟩ rfl rfl rfl rfl rfl (by kernel_rfl) Try.func8 (by kernel_rfl)
    (of_decide_eq_true (by kernel_rfl)) (by unfold Func.isWrapper; first | (rw [if_pos (by decide +kernel)]; kernel_rfl) | (rw [if_neg (by decide +kernel)]; exact ⟨rfl, rfl⟩))
    (fun os started H enc _ => lifted os started H enc)

/-- The statement. -/
theorem proved : Rows.TransformOrderSaid := over

end Go.Proofs.Ytiphacmmglohaaa.transformOrder
