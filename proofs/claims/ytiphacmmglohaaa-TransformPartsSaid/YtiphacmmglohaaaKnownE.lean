/- The chapter's examples of layer 25: tactuslaw25.TransformKnown returns true. -/
import Derived.Test.YtiphacmmglohaaaKitE
namespace Go.Proofs.Ytiphacmmglohaaa
open Go.RowKit
def knM : List Ev := [ev (0, 1) (2, 1) (4, 4, 0) false 0, ev (2, 1) (1, 1) (3, 4, 0) false 1, ev (3, 1) (3, 1) (0, 0, 0) true 2]
def knV : List Ev := [ev (0, 1) (2, 1) (2, 4, 0) false 0, ev (2, 1) (1, 1) (3, 4, 0) false 1, ev (3, 1) (3, 1) (0, 0, 0) true 2]
def knD : List Ev := [ev (0, 1) (1, 2) (0, 0, 0) true 0, ev (1, 2) (2, 1) (0, 4, 0) false 0, ev (5, 2) (1, 1) (1, 4, 0) false 1, ev (7, 2) (3, 1) (0, 0, 0) true 2]
def knJ : List Ev := [ev (0, 1) (2, 1) (0, 4, 0) false 0, ev (2, 1) (1, 1) (1, 4, 0) false 1, ev (3, 1) (3, 1) (0, 0, 0) true 2, ev (6, 1) (2, 1) (0, 4, 0) false 0, ev (8, 1) (1, 1) (1, 4, 0) false 1, ev (9, 1) (3, 1) (0, 0, 0) true 2]
theorem kn1 : mirrorS showL (2, 4, 0) = (knM, 0) := by decide +kernel
theorem kn2 : moveS showL 2 = (knV, 0) := by decide +kernel
theorem kn3 : moveS showL (-40) = ([], 2) := by decide +kernel
theorem kn4 : stretchS showL (0, 1) = ([], 5) := by decide +kernel
theorem kn5 : stretchS showL (0, 0) = ([], 2) := by decide +kernel
theorem kn6 : delayS showL (1, 2) = (knD, 0) := by decide +kernel
theorem kn7 : joinS showL showL = (knJ, 0) := by decide +kernel
theorem kn8 : cutS showL (2, 1) (2, 1) = ([], 0) := by decide +kernel
theorem kn9 : cutS showL (4, 1) (7, 1) = ([], 2) := by decide +kernel
theorem kn10 : cutS showL (3, 1) (2, 1) = ([], 2) := by decide +kernel
set_option maxRecDepth 100000 in
set_option maxHeartbeats 2000000 in
theorem known_any (w : World) : Calls Try.prog 6 #[] w fun e w' => e = .returned (.bool true) ∧ Below w.heap.size w w' := by
  have k0 := Below.refl w.heap.size w
  have q01 := fun w => t_any 0 1 w (by omega) (by omega) (by omega) (by omega)
  rw [show tS 0 1 = (0, 1) by decide +kernel] at q01
  have q12 := fun w => t_any 1 2 w (by omega) (by omega) (by omega) (by omega)
  rw [show tS 1 2 = (1, 2) by decide +kernel] at q12
  have q21 := fun w => t_any 2 1 w (by omega) (by omega) (by omega) (by omega)
  rw [show tS 2 1 = (2, 1) by decide +kernel] at q21
  have q41 := fun w => t_any 4 1 w (by omega) (by omega) (by omega) (by omega)
  rw [show tS 4 1 = (4, 1) by decide +kernel] at q41
  have q71 := fun w => t_any 7 1 w (by omega) (by omega) (by omega) (by omega)
  rw [show tS 7 1 = (7, 1) by decide +kernel] at q71
  have q31 := fun w => t_any 3 1 w (by omega) (by omega) (by omega) (by omega)
  rw [show tS 3 1 = (3, 1) by decide +kernel] at q31
  go_enter Try.func6, Try.ntmps6
  go_wp2_with fail
  refine (shown_any _).mono ?_
  rintro e w1 ⟨Aa, rfl, ha, hb⟩
  replace k0 := below_call k0 hb
  clear hb
  have ca := mirror_any Aa 3 3 showL (2, 4, 0) w1.heap.size w1 ha (Nat.le_refl _) (by omega)
  rw [kn1] at ca
  go_wp2_with fail
  refine ca.mono ?_
  rintro e w2 ⟨Ba, na, rfl, ho, hb⟩
  replace k0 := below_call k0 hb
  replace ha := rdk ha hb
  have rM := ho.2.1
  clear ho
  clear hb
  clear ca
  clear ha
  go_wp2_with fail
  refine (shown_any _).mono ?_
  rintro e w3 ⟨Ac, rfl, hc, hb⟩
  replace k0 := below_call k0 hb
  replace rM := rdk rM hb
  clear hb
  have cc := move_any Ac 3 3 showL 2 w3.heap.size w3 hc (Nat.le_refl _) (by omega)
  rw [kn2] at cc
  go_wp2_with fail
  refine cc.mono ?_
  rintro e w4 ⟨Bc, nc, rfl, ho, hb⟩
  replace k0 := below_call k0 hb
  replace rM := rdk rM hb
  replace hc := rdk hc hb
  have rV := ho.2.1
  clear ho
  clear hb
  clear cc
  clear hc
  go_wp2_with fail
  refine (shown_any _).mono ?_
  rintro e w5 ⟨Ad, rfl, hd, hb⟩
  replace k0 := below_call k0 hb
  replace rM := rdk rM hb
  replace rV := rdk rV hb
  clear hb
  have cd := move_any Ad 3 3 showL (-40) w5.heap.size w5 hd (Nat.le_refl _) (by omega)
  rw [kn3] at cd
  go_wp2_with fail
  refine cd.mono ?_
  rintro e w6 ⟨Bd, nd, rfl, ho, hb⟩
  replace k0 := below_call k0 hb
  replace rM := rdk rM hb
  replace rV := rdk rV hb
  replace hd := rdk hd hb
  clear ho
  clear hb
  clear cd
  clear hd
  go_wp2_with fail
  refine (shown_any _).mono ?_
  rintro e w7 ⟨Ae, rfl, he, hb⟩
  replace k0 := below_call k0 hb
  replace rM := rdk rM hb
  replace rV := rdk rV hb
  clear hb
  go_wp2_with fail
  refine (q01 _).mono ?_
  rintro e w8 ⟨rfl, hb⟩
  replace k0 := below_call k0 hb
  replace rM := rdk rM hb
  replace rV := rdk rV hb
  replace he := rdk he hb
  clear hb
  have ce := stretch_any Ae 3 3 showL (0, 1) w8.heap.size w8 he (Nat.le_refl _) (by omega)
  rw [kn4] at ce
  go_wp2_with fail
  refine ce.mono ?_
  rintro e w9 ⟨Be, ne, rfl, ho, hb⟩
  replace k0 := below_call k0 hb
  replace rM := rdk rM hb
  replace rV := rdk rV hb
  replace he := rdk he hb
  clear ho
  clear hb
  clear ce
  clear he
  go_wp2_with fail
  refine (shown_any _).mono ?_
  rintro e w10 ⟨Af, rfl, hf, hb⟩
  replace k0 := below_call k0 hb
  replace rM := rdk rM hb
  replace rV := rdk rV hb
  clear hb
  have cf := stretch_any Af 3 3 showL (0, 0) w10.heap.size w10 hf (Nat.le_refl _) (by omega)
  rw [kn5] at cf
  go_wp2_with fail
  refine cf.mono ?_
  rintro e w11 ⟨Bf, nf, rfl, ho, hb⟩
  replace k0 := below_call k0 hb
  replace rM := rdk rM hb
  replace rV := rdk rV hb
  replace hf := rdk hf hb
  clear ho
  clear hb
  clear cf
  clear hf
  go_wp2_with fail
  refine (shown_any _).mono ?_
  rintro e w12 ⟨Ag, rfl, hg, hb⟩
  replace k0 := below_call k0 hb
  replace rM := rdk rM hb
  replace rV := rdk rV hb
  clear hb
  go_wp2_with fail
  refine (q12 _).mono ?_
  rintro e w13 ⟨rfl, hb⟩
  replace k0 := below_call k0 hb
  replace rM := rdk rM hb
  replace rV := rdk rV hb
  replace hg := rdk hg hb
  clear hb
  have cg := delay_any Ag 3 3 showL (1, 2) w13.heap.size w13 hg (Nat.le_refl _) (by omega)
  rw [kn6] at cg
  go_wp2_with fail
  refine cg.mono ?_
  rintro e w14 ⟨Bg, ng, rfl, ho, hb⟩
  replace k0 := below_call k0 hb
  replace rM := rdk rM hb
  replace rV := rdk rV hb
  replace hg := rdk hg hb
  have rD := ho.2.1
  clear ho
  clear hb
  clear cg
  clear hg
  go_wp2_with fail
  refine (shown_any _).mono ?_
  rintro e w15 ⟨Ai, rfl, hi, hb⟩
  replace k0 := below_call k0 hb
  replace rM := rdk rM hb
  replace rV := rdk rV hb
  replace rD := rdk rD hb
  clear hb
  go_wp2_with fail
  refine (shown_any _).mono ?_
  rintro e w16 ⟨Aj, rfl, hj, hb⟩
  replace k0 := below_call k0 hb
  replace rM := rdk rM hb
  replace rV := rdk rV hb
  replace rD := rdk rD hb
  replace hi := rdk hi hb
  clear hb
  have ci := join_any Ai Aj 3 3 3 3 showL showL w16.heap.size w16.heap.size w16 hi (Nat.le_refl _) (by omega) hj (Nat.le_refl _) (by omega)
  rw [kn7] at ci
  go_wp2_with fail
  refine ci.mono ?_
  rintro e w17 ⟨Bi, ni, rfl, rJ, hb⟩
  replace k0 := below_call k0 hb
  replace rM := rdk rM hb
  replace rV := rdk rV hb
  replace rD := rdk rD hb
  replace hi := rdk hi hb
  replace hj := rdk hj hb
  clear hb
  clear ci
  clear hi hj
  go_wp2_with fail
  refine (shown_any _).mono ?_
  rintro e w18 ⟨Ak, rfl, hk, hb⟩
  replace k0 := below_call k0 hb
  replace rM := rdk rM hb
  replace rV := rdk rV hb
  replace rD := rdk rD hb
  replace rJ := rdk rJ hb
  clear hb
  go_wp2_with fail
  refine (q21 _).mono ?_
  rintro e w19 ⟨rfl, hb⟩
  replace k0 := below_call k0 hb
  replace rM := rdk rM hb
  replace rV := rdk rV hb
  replace rD := rdk rD hb
  replace rJ := rdk rJ hb
  replace hk := rdk hk hb
  clear hb
  go_wp2_with fail
  refine (q21 _).mono ?_
  rintro e w20 ⟨rfl, hb⟩
  replace k0 := below_call k0 hb
  replace rM := rdk rM hb
  replace rV := rdk rV hb
  replace rD := rdk rD hb
  replace rJ := rdk rJ hb
  replace hk := rdk hk hb
  clear hb
  have ck := cut_any Ak 3 3 showL (2, 1) (2, 1) w20.heap.size w20 hk (Nat.le_refl _) (by omega)
  rw [kn8] at ck
  go_wp2_with fail
  refine ck.mono ?_
  rintro e w21 ⟨Bk, nk, rfl, ho, hb⟩
  replace k0 := below_call k0 hb
  replace rM := rdk rM hb
  replace rV := rdk rV hb
  replace rD := rdk rD hb
  replace rJ := rdk rJ hb
  replace hk := rdk hk hb
  clear ho
  clear hb
  clear ck
  clear hk
  go_wp2_with fail
  refine (shown_any _).mono ?_
  rintro e w22 ⟨Al, rfl, hl, hb⟩
  replace k0 := below_call k0 hb
  replace rM := rdk rM hb
  replace rV := rdk rV hb
  replace rD := rdk rD hb
  replace rJ := rdk rJ hb
  clear hb
  go_wp2_with fail
  refine (q41 _).mono ?_
  rintro e w23 ⟨rfl, hb⟩
  replace k0 := below_call k0 hb
  replace rM := rdk rM hb
  replace rV := rdk rV hb
  replace rD := rdk rD hb
  replace rJ := rdk rJ hb
  replace hl := rdk hl hb
  clear hb
  go_wp2_with fail
  refine (q71 _).mono ?_
  rintro e w24 ⟨rfl, hb⟩
  replace k0 := below_call k0 hb
  replace rM := rdk rM hb
  replace rV := rdk rV hb
  replace rD := rdk rD hb
  replace rJ := rdk rJ hb
  replace hl := rdk hl hb
  clear hb
  have cl := cut_any Al 3 3 showL (4, 1) (7, 1) w24.heap.size w24 hl (Nat.le_refl _) (by omega)
  rw [kn9] at cl
  go_wp2_with fail
  refine cl.mono ?_
  rintro e w25 ⟨Bl, nl, rfl, ho, hb⟩
  replace k0 := below_call k0 hb
  replace rM := rdk rM hb
  replace rV := rdk rV hb
  replace rD := rdk rD hb
  replace rJ := rdk rJ hb
  replace hl := rdk hl hb
  clear ho
  clear hb
  clear cl
  clear hl
  go_wp2_with fail
  refine (shown_any _).mono ?_
  rintro e w26 ⟨Am, rfl, hm, hb⟩
  replace k0 := below_call k0 hb
  replace rM := rdk rM hb
  replace rV := rdk rV hb
  replace rD := rdk rD hb
  replace rJ := rdk rJ hb
  clear hb
  go_wp2_with fail
  refine (q31 _).mono ?_
  rintro e w27 ⟨rfl, hb⟩
  replace k0 := below_call k0 hb
  replace rM := rdk rM hb
  replace rV := rdk rV hb
  replace rD := rdk rD hb
  replace rJ := rdk rJ hb
  replace hm := rdk hm hb
  clear hb
  go_wp2_with fail
  refine (q21 _).mono ?_
  rintro e w28 ⟨rfl, hb⟩
  replace k0 := below_call k0 hb
  replace rM := rdk rM hb
  replace rV := rdk rV hb
  replace rD := rdk rD hb
  replace rJ := rdk rJ hb
  replace hm := rdk hm hb
  clear hb
  have cm := cut_any Am 3 3 showL (3, 1) (2, 1) w28.heap.size w28 hm (Nat.le_refl _) (by omega)
  rw [kn10] at cm
  go_wp2_with fail
  refine cm.mono ?_
  rintro e w29 ⟨Bm, nm, rfl, ho, hb⟩
  replace k0 := below_call k0 hb
  replace rM := rdk rM hb
  replace rV := rdk rV hb
  replace rD := rdk rD hb
  replace rJ := rdk rJ hb
  replace hm := rdk hm hb
  clear ho
  clear hb
  clear cm
  clear hm
  go_wp2_with fail
  refine (awake_any _).mono ?_
  rintro e w30 ⟨rfl, hb⟩
  replace k0 := below_call k0 hb
  replace rM := rdk rM hb
  replace rV := rdk rV hb
  replace rD := rdk rD hb
  replace rJ := rdk rJ hb
  clear hb
  clear q01 q12 q21 q41 q71 q31
  have erM : knM.length = 3 := rfl
  rw [erM] at rM
  have erV : knV.length = 3 := rfl
  rw [erV] at rV
  have erD : knD.length = 4 := rfl
  rw [erD] at rD
  have erJ : knJ.length = 6 := rfl
  rw [erJ] at rJ
  go_wp2_with fail
  refine (is_note _ _ _ knM (0) 0 4 4 _ _ rM (by rfl) (by decide +kernel) (by decide +kernel) rfl (by omega) (by omega) (by omega) (by omega) (by omega) (by omega) rfl).mono ?_
  rintro e w31 ⟨rfl, hb⟩
  replace k0 := below_call k0 hb
  replace rM := rdk rM hb
  replace rV := rdk rV hb
  replace rD := rdk rD hb
  replace rJ := rdk rJ hb
  clear hb
  go_wp2_with fail
  refine (is_note _ _ _ knM (1) 4 2 3 _ _ rM (by rfl) (by decide +kernel) (by decide +kernel) rfl (by omega) (by omega) (by omega) (by omega) (by omega) (by omega) rfl).mono ?_
  rintro e w32 ⟨rfl, hb⟩
  replace k0 := below_call k0 hb
  replace rM := rdk rM hb
  replace rV := rdk rV hb
  replace rD := rdk rD hb
  replace rJ := rdk rJ hb
  clear hb
  go_wp2_with fail
  refine (is_note _ _ _ knV (0) 0 4 2 _ _ rV (by rfl) (by decide +kernel) (by decide +kernel) rfl (by omega) (by omega) (by omega) (by omega) (by omega) (by omega) rfl).mono ?_
  rintro e w33 ⟨rfl, hb⟩
  replace k0 := below_call k0 hb
  replace rM := rdk rM hb
  replace rV := rdk rV hb
  replace rD := rdk rD hb
  replace rJ := rdk rJ hb
  clear hb
  go_wp2_with fail
  refine (is_note _ _ _ knV (1) 4 2 3 _ _ rV (by rfl) (by decide +kernel) (by decide +kernel) rfl (by omega) (by omega) (by omega) (by omega) (by omega) (by omega) rfl).mono ?_
  rintro e w34 ⟨rfl, hb⟩
  replace k0 := below_call k0 hb
  replace rM := rdk rM hb
  replace rV := rdk rV hb
  replace rD := rdk rD hb
  replace rJ := rdk rJ hb
  clear hb
  go_wp2_with fail
  refine (is_rest _ _ _ knD (0) 0 1 _ _ rD (by rfl) (by decide +kernel) (by decide +kernel) rfl (by omega) (by omega) (by omega) (by omega)).mono ?_
  rintro e w35 ⟨rfl, hb⟩
  replace k0 := below_call k0 hb
  replace rM := rdk rM hb
  replace rV := rdk rV hb
  replace rD := rdk rD hb
  replace rJ := rdk rJ hb
  clear hb
  go_wp2_with fail
  refine (is_note _ _ _ knD (1) 1 4 0 _ _ rD (by rfl) (by decide +kernel) (by decide +kernel) rfl (by omega) (by omega) (by omega) (by omega) (by omega) (by omega) rfl).mono ?_
  rintro e w36 ⟨rfl, hb⟩
  replace k0 := below_call k0 hb
  replace rM := rdk rM hb
  replace rV := rdk rV hb
  replace rD := rdk rD hb
  replace rJ := rdk rJ hb
  clear hb
  go_wp2_with fail
  refine (is_rest _ _ _ knD (3) 7 6 _ _ rD (by rfl) (by decide +kernel) (by decide +kernel) rfl (by omega) (by omega) (by omega) (by omega)).mono ?_
  rintro e w37 ⟨rfl, hb⟩
  replace k0 := below_call k0 hb
  replace rM := rdk rM hb
  replace rV := rdk rV hb
  replace rD := rdk rD hb
  replace rJ := rdk rJ hb
  clear hb
  go_wp2_with fail
  refine (is_note _ _ _ knJ (3) 12 4 0 _ _ rJ (by rfl) (by decide +kernel) (by decide +kernel) rfl (by omega) (by omega) (by omega) (by omega) (by omega) (by omega) rfl).mono ?_
  rintro e w38 ⟨rfl, hb⟩
  replace k0 := below_call k0 hb
  replace rM := rdk rM hb
  replace rV := rdk rV hb
  replace rD := rdk rD hb
  replace rJ := rdk rJ hb
  clear hb
  go_wp2_with fail
  go_ret
  exact ⟨rfl, k0⟩
end Go.Proofs.Ytiphacmmglohaaa
