/- TransformParts holds: joined voices made of numbers are cut into their parts, a delayed voice without the delay is the voice, and the ends are sums. No condition. -/
import Derived.Test.YtiphacmmglohaaaArgsI
import Derived.Test.YtiphacmmglohaaaKnownE
import Derived.Test.YtiphacmmglohaaaPartsFacts
import Derived.Test.YtiphacmmglohaaaDoorP
import Derived.Deep.RegionHeld3
namespace Go.Proofs.Ytiphacmmglohaaa.transformParts
open Go.ChangeShapes Go.WideShapes Go.ChangeAt Go.RowKit Go.Deep
set_option linter.unusedVariables false
set_option maxRecDepth 100000 in
set_option maxHeartbeats 2000000 in
theorem walk (A A' : Option Addr) (n c n' c' : Nat) (l l' : List Int) (num : Int) (w : World) (h : Reads w w.heap.size 1 A n (csI l)) (hn : n ≤ 9223372036854775807) (hl : ∀ x ∈ l, -9223372036854775808 ≤ x ∧ x ≤ 9223372036854775807) (h' : Reads w w.heap.size 1 A' n' (csI l')) (hn' : n' ≤ 9223372036854775807) (hl' : ∀ x ∈ l', -9223372036854775808 ≤ x ∧ x ≤ 9223372036854775807) (hu : -9223372036854775808 ≤ num ∧ num ≤ 9223372036854775807) :
    Calls Try.prog 9 #[.slice A n c, .slice A' n' c', .int .i64 num] w fun e w' => e = .returned (.bool true) ∧ Below w.heap.size w w' := by
  obtain ⟨hu0, hu1⟩ := hu
  have HV := Lib.hid (fun W hW => voice_any A n c l 12 W hW hn hl (by omega)); clear hl
  have HX := Lib.hid (fun W hW => voice_any A' n' c' l' 12 W hW hn' hl' (by omega)); clear hl'
  have hvl := voice_le 12 l
  have hxl := voice_le 12 l'
  have HS := Lib.hid (fun W => kitSpan_any num W hu0 hu1)
  obtain ⟨⟨F, F'⟩, ⟨K, K'⟩, ⟨G, G'⟩, ⟨T, T'⟩, J, U, l1, l2, o1, o2, o3, e1, e2, e3, e4, e5, e6, e7, e8, e9, e10, e11, g1, g2⟩ := parts_facts25 l l' num
  generalize voiceS 12 l = V at HV hvl e1 e4 e5 e9 e11 g1
  generalize voiceS 12 l' = X at HX hxl e2 e4 e6 g2
  generalize spS num = z at HS o3 e8 e9 e11
  obtain ⟨N, D⟩ := z
  dsimp only at HS e7 e8 e9 e10 e11
  have E1 := Lib.hid e1; clear e1
  have E2 := Lib.hid e2; clear e2
  have E3 := Lib.hid e3; clear e3
  have E4 := Lib.hid e4; clear e4
  have E5 := Lib.hid e5; clear e5
  have E6 := Lib.hid e6; clear e6
  have E7 := Lib.hid e7; clear e7
  have E8 := Lib.hid e8; clear e8
  have E9 := Lib.hid e9; clear e9
  have E10 := Lib.hid e10; clear e10
  have E11 := Lib.hid e11; clear e11
  have G1 := Lib.hid g1; have G2 := Lib.hid g2; clear g1 g2
  have O1 := Lib.hid o1; have O2 := Lib.hid o2; have O3 := Lib.hid o3; clear o1 o2 o3
  have k0 := Below.refl w.heap.size w
  go_enter Try.func9, Try.ntmps9
  go_wp2_with fail
  refine (known_any _).mono ?_
  rintro e w1 ⟨rfl, hb0⟩
  have hb : Below w.heap.size w w1 := below_call (by repeat (first | with_reducible exact Below.refl _ _ | with_reducible assumption | with_reducible refine below_drewN ?_ _ | with_reducible refine Below.drew ?_ | with_reducible refine below_alloc ?_ _ | (with_reducible refine Below.setCell ?_ ?_ _; rotate_left; ((try simp only); omega)))) hb0
  replace k0 := below_call k0 hb
  replace h := rdi h hb
  replace h' := rdi h' hb
  clear hb hb0
  go_wp2_with fail
  refine (HV.out w1 h).mono ?_
  rintro e w2 ⟨A1, c1, rfl, ho, hb0⟩
  have hb : Below w1.heap.size w1 w2 := below_call (by repeat (first | with_reducible exact Below.refl _ _ | with_reducible assumption | with_reducible refine below_drewN ?_ _ | with_reducible refine Below.drew ?_ | with_reducible refine below_alloc ?_ _ | (with_reducible refine Below.setCell ?_ ?_ _; rotate_left; ((try simp only); omega)))) hb0
  replace k0 := below_call k0 hb
  replace h := rdi h hb
  replace h' := rdi h' hb
  have hV := ho.2.1
  clear ho
  clear hb hb0
  go_wp2_with fail
  refine (HX.out w2 h').mono ?_
  rintro e w3 ⟨A2, c2, rfl, ho, hb0⟩
  have hb : Below w2.heap.size w2 w3 := below_call (by repeat (first | with_reducible exact Below.refl _ _ | with_reducible assumption | with_reducible refine below_drewN ?_ _ | with_reducible refine Below.drew ?_ | with_reducible refine below_alloc ?_ _ | (with_reducible refine Below.setCell ?_ ?_ _; rotate_left; ((try simp only); omega)))) hb0
  replace k0 := below_call k0 hb
  replace hV := rdk hV hb
  replace h := rdi h hb
  replace h' := rdi h' hb
  have hX := ho.2.1
  clear ho
  clear hb hb0
  clear h h'
  go_wp2_with fail
  refine (HS.out _).mono ?_
  rintro e w4 ⟨rfl, hb0⟩
  have hb : Below w3.heap.size w3 w4 := below_call (by repeat (first | with_reducible exact Below.refl _ _ | with_reducible assumption | with_reducible refine below_drewN ?_ _ | with_reducible refine Below.drew ?_ | with_reducible refine below_alloc ?_ _ | (with_reducible refine Below.setCell ?_ ?_ _; rotate_left; ((try simp only); omega)))) hb0
  replace k0 := below_call k0 hb
  replace hV := rdk hV hb
  replace hX := rdk hX hb
  clear hb hb0
  have rY : Blk (w4.alloc (.cells #[.int .i64 N, .int .i64 D] 24)) w4.heap.size 24 #[.int .i64 N, .int .i64 D] := Blk.new _ _ _
  have cY := rY.cell; have zY := rY.lt
  have q := fun ww hW => endOf_any A1 V.length c1 V ww hW (by omega) G1.out
  rw [E1.out] at q
  go_wp2_with fail
  refine (q _ (rdk hV (by repeat (first | with_reducible exact Below.refl _ _ | with_reducible assumption | with_reducible refine below_drewN ?_ _ | with_reducible refine Below.drew ?_ | with_reducible refine below_alloc ?_ _ | (with_reducible refine Below.setCell ?_ ?_ _; rotate_left; ((try simp only); omega)))))).mono ?_
  rintro e w5 ⟨rfl, hb0⟩
  have hb : Below w4.heap.size w4 w5 := below_call (by repeat (first | with_reducible exact Below.refl _ _ | with_reducible assumption | with_reducible refine below_drewN ?_ _ | with_reducible refine Below.drew ?_ | with_reducible refine below_alloc ?_ _ | (with_reducible refine Below.setCell ?_ ?_ _; rotate_left; ((try simp only); omega)))) hb0
  replace k0 := below_call k0 hb
  replace hV := rdk hV hb
  replace hX := rdk hX hb
  replace rY : Blk w5 (w4.heap.size) 24 #[.int .i64 N, .int .i64 D] := Blk.kept (by repeat (first | with_reducible exact rY | with_reducible exact Blk.new _ _ _ | (with_reducible refine Blk.newAt _ _ _ _ ?_; first | rfl | (simp; done)) | with_reducible apply Blk.alloc | with_reducible apply Blk.drewN | with_reducible apply Blk.drew | with_reducible apply Blk.set_to | (with_reducible apply Blk.far_; (simp only [ne_eq]; omega)) | rfl)) hb0
  replace cY := rY.cell; replace zY := rY.lt
  clear q
  clear hb hb0
  have q := fun ww hW => endOf_any A1 V.length c1 V ww hW (by omega) G1.out
  rw [E1.out] at q
  go_wp2_with fail
  refine (q _ (rdk hV (by repeat (first | with_reducible exact Below.refl _ _ | with_reducible assumption | with_reducible refine below_drewN ?_ _ | with_reducible refine Below.drew ?_ | with_reducible refine below_alloc ?_ _ | (with_reducible refine Below.setCell ?_ ?_ _; rotate_left; ((try simp only); omega)))))).mono ?_
  rintro e w6 ⟨rfl, hb0⟩
  have hb : Below w5.heap.size w5 w6 := below_call (by repeat (first | with_reducible exact Below.refl _ _ | with_reducible assumption | with_reducible refine below_drewN ?_ _ | with_reducible refine Below.drew ?_ | with_reducible refine below_alloc ?_ _ | (with_reducible refine Below.setCell ?_ ?_ _; rotate_left; ((try simp only); omega)))) hb0
  replace k0 := below_call k0 hb
  replace hV := rdk hV hb
  replace hX := rdk hX hb
  replace rY : Blk w6 (w4.heap.size) 24 #[.int .i64 N, .int .i64 D] := Blk.kept (by repeat (first | with_reducible exact rY | with_reducible exact Blk.new _ _ _ | (with_reducible refine Blk.newAt _ _ _ _ ?_; first | rfl | (simp; done)) | with_reducible apply Blk.alloc | with_reducible apply Blk.drewN | with_reducible apply Blk.drew | with_reducible apply Blk.set_to | (with_reducible apply Blk.far_; (simp only [ne_eq]; omega)) | rfl)) hb0
  replace cY := rY.cell; replace zY := rY.lt
  clear q
  clear hb hb0
  have q := fun ww hW => endOf_any A2 X.length c2 X ww hW (by omega) G2.out
  rw [E2.out] at q
  go_wp2_with fail
  refine (q _ (rdk hX (by repeat (first | with_reducible exact Below.refl _ _ | with_reducible assumption | with_reducible refine below_drewN ?_ _ | with_reducible refine Below.drew ?_ | with_reducible refine below_alloc ?_ _ | (with_reducible refine Below.setCell ?_ ?_ _; rotate_left; ((try simp only); omega)))))).mono ?_
  rintro e w7 ⟨rfl, hb0⟩
  have hb : Below w6.heap.size w6 w7 := below_call (by repeat (first | with_reducible exact Below.refl _ _ | with_reducible assumption | with_reducible refine below_drewN ?_ _ | with_reducible refine Below.drew ?_ | with_reducible refine below_alloc ?_ _ | (with_reducible refine Below.setCell ?_ ?_ _; rotate_left; ((try simp only); omega)))) hb0
  replace k0 := below_call k0 hb
  replace hV := rdk hV hb
  replace hX := rdk hX hb
  replace rY : Blk w7 (w4.heap.size) 24 #[.int .i64 N, .int .i64 D] := Blk.kept (by repeat (first | with_reducible exact rY | with_reducible exact Blk.new _ _ _ | (with_reducible refine Blk.newAt _ _ _ _ ?_; first | rfl | (simp; done)) | with_reducible apply Blk.alloc | with_reducible apply Blk.drewN | with_reducible apply Blk.drew | with_reducible apply Blk.set_to | (with_reducible apply Blk.far_; (simp only [ne_eq]; omega)) | rfl)) hb0
  replace cY := rY.cell; replace zY := rY.lt
  clear q
  clear hb hb0
  have q := fun W => plus_any (F, F') (K, K') W O1.out O2.out
  rw [E3.out] at q
  go_wp2_with fail
  refine (q _).mono ?_
  rintro e w8 ⟨rfl, hb0⟩
  have hb : Below w7.heap.size w7 w8 := below_call (by repeat (first | with_reducible exact Below.refl _ _ | with_reducible assumption | with_reducible refine below_drewN ?_ _ | with_reducible refine Below.drew ?_ | with_reducible refine below_alloc ?_ _ | (with_reducible refine Below.setCell ?_ ?_ _; rotate_left; ((try simp only); omega)))) hb0
  replace k0 := below_call k0 hb
  replace hV := rdk hV hb
  replace hX := rdk hX hb
  replace rY : Blk w8 (w4.heap.size) 24 #[.int .i64 N, .int .i64 D] := Blk.kept (by repeat (first | with_reducible exact rY | with_reducible exact Blk.new _ _ _ | (with_reducible refine Blk.newAt _ _ _ _ ?_; first | rfl | (simp; done)) | with_reducible apply Blk.alloc | with_reducible apply Blk.drewN | with_reducible apply Blk.drew | with_reducible apply Blk.set_to | (with_reducible apply Blk.far_; (simp only [ne_eq]; omega)) | rfl)) hb0
  replace cY := rY.cell; replace zY := rY.lt
  clear q
  clear hb hb0
  have nYF : w4.heap.size ≠ w8.heap.size := by omega
  have nYG : w4.heap.size ≠ w8.heap.size + 1 := by omega
  have rF : Blk ((w8.alloc (.cells #[.int .i64 F, .int .i64 F'] 24)).alloc (.cells #[.int .i64 G, .int .i64 G'] 24)) w8.heap.size 24 #[.int .i64 F, .int .i64 F'] := (Blk.new _ _ _).alloc _
  have rG : Blk ((w8.alloc (.cells #[.int .i64 F, .int .i64 F'] 24)).alloc (.cells #[.int .i64 G, .int .i64 G'] 24)) (w8.heap.size + 1) 24 #[.int .i64 G, .int .i64 G'] := Blk.newAt _ _ _ _ (by simp)
  have cF := rF.cell; have zF := rF.lt; have cG := rG.cell; have zG := rG.lt
  have q := fun ww hW hW' => join_any A1 A2 V.length c1 X.length c2 V X ww.heap.size ww.heap.size ww hW (Nat.le_refl _) (by omega) hW' (Nat.le_refl _) (by omega)
  rw [E4.out] at q
  dsimp only at q
  go_wp2_with fail
  refine (q _ (rdk hV (by repeat (first | with_reducible exact Below.refl _ _ | with_reducible assumption | with_reducible refine below_drewN ?_ _ | with_reducible refine Below.drew ?_ | with_reducible refine below_alloc ?_ _ | (with_reducible refine Below.setCell ?_ ?_ _; rotate_left; ((try simp only); omega))))) (rdk hX (by repeat (first | with_reducible exact Below.refl _ _ | with_reducible assumption | with_reducible refine below_drewN ?_ _ | with_reducible refine Below.drew ?_ | with_reducible refine below_alloc ?_ _ | (with_reducible refine Below.setCell ?_ ?_ _; rotate_left; ((try simp only); omega)))))).mono ?_
  rintro e w9 ⟨AJ, cJ, rfl, hJ, hb0⟩
  have hb : Below w8.heap.size w8 w9 := below_call (by repeat (first | with_reducible exact Below.refl _ _ | with_reducible assumption | with_reducible refine below_drewN ?_ _ | with_reducible refine Below.drew ?_ | with_reducible refine below_alloc ?_ _ | (with_reducible refine Below.setCell ?_ ?_ _; rotate_left; ((try simp only); omega)))) hb0
  replace k0 := below_call k0 hb
  replace hV := rdk hV hb
  replace hX := rdk hX hb
  replace rY : Blk w9 (w4.heap.size) 24 #[.int .i64 N, .int .i64 D] := Blk.kept (by repeat (first | with_reducible exact rY | with_reducible exact Blk.new _ _ _ | (with_reducible refine Blk.newAt _ _ _ _ ?_; first | rfl | (simp; done)) | with_reducible apply Blk.alloc | with_reducible apply Blk.drewN | with_reducible apply Blk.drew | with_reducible apply Blk.set_to | (with_reducible apply Blk.far_; (simp only [ne_eq]; omega)) | rfl)) hb0
  replace cY := rY.cell; replace zY := rY.lt
  replace rF : Blk w9 (w8.heap.size) 24 #[.int .i64 F, .int .i64 F'] := Blk.kept (by repeat (first | with_reducible exact rF | with_reducible exact Blk.new _ _ _ | (with_reducible refine Blk.newAt _ _ _ _ ?_; first | rfl | (simp; done)) | with_reducible apply Blk.alloc | with_reducible apply Blk.drewN | with_reducible apply Blk.drew | with_reducible apply Blk.set_to | (with_reducible apply Blk.far_; (simp only [ne_eq]; omega)) | rfl)) hb0
  replace cF := rF.cell; replace zF := rF.lt
  replace rG : Blk w9 (w8.heap.size + 1) 24 #[.int .i64 G, .int .i64 G'] := Blk.kept (by repeat (first | with_reducible exact rG | with_reducible exact Blk.new _ _ _ | (with_reducible refine Blk.newAt _ _ _ _ ?_; first | rfl | (simp; done)) | with_reducible apply Blk.alloc | with_reducible apply Blk.drewN | with_reducible apply Blk.drew | with_reducible apply Blk.set_to | (with_reducible apply Blk.far_; (simp only [ne_eq]; omega)) | rfl)) hb0
  replace cG := rG.cell; replace zG := rG.lt
  clear q
  clear hb hb0
  go_wp2_with fail
  have x0 : w9.cell? ⟨w8.heap.size, 0, none⟩ = some (.int .i64 F) := cF 0
  have x1 : w9.cell? ⟨w8.heap.size, 1, none⟩ = some (.int .i64 F') := cF 1
  apply share
  · intro main
    go_region_held3 (fun w' => w'.cell? ⟨w8.heap.size, 0, none⟩ = some (.int .i64 F) ∧ w'.cell? ⟨w8.heap.size, 1, none⟩ = some (.int .i64 F') ∧ Below w9.heap.size w9 w') ((refine (fun hb => ⟨(hb.cell (p := ⟨_, _, none⟩) zF).trans x0, (hb.cell (p := ⟨_, _, none⟩) zF).trans x1, hb⟩) ?_; repeat (first | exact Below.refl _ _ | exact hBc | exact hBz | exact (show _ ∧ _ ∧ Below w9.heap.size w9 _ by assumption).2.2 | refine Below.drew ?_ | refine below_alloc ?_ _))) (first | (go_at_call 35; refine (zero_any _).mono ?_; rintro e wz ⟨rfl, hbz⟩; have hBz := below_call (show _ ∧ _ ∧ Below w9.heap.size w9 _ by assumption).2.2 hbz) | (go_at_call 17; have q := cut_any AJ J.length cJ J (0, 1) (F, F') _ _ (rdk hJ (show _ ∧ _ ∧ Below w9.heap.size w9 _ by assumption).2.2) (Nat.le_refl _) (by omega); rw [E5.out] at q; dsimp only at q; refine q.mono ?_; rintro e wc ⟨AB, cB, rfl, ho, hbc⟩; have hBc := below_call (show _ ∧ _ ∧ Below w9.heap.size w9 _ by assumption).2.2 hbc; have hRB := ho.2.1))
    all_goals
      have hB5 := (show _ ∧ _ ∧ Below w9.heap.size w9 _ by assumption).2.2
      clear ho
      revert hRB; revert hB5; clear hBc hbc; revert cB; revert AB; revert wc; exact main.out
  intro w10 _ AB cB hb hB
  replace k0 := below_call k0 hb
  replace hV := rdk hV hb
  replace hX := rdk hX hb
  replace hJ := rdk hJ hb
  replace rY := rY.kept hb
  replace cY := rY.cell; replace zY := rY.lt
  replace rF := rF.kept hb
  replace cF := rF.cell; replace zF := rF.lt
  replace rG := rG.kept hb
  replace cG := rG.cell; replace zG := rG.lt
  clear hb x0 x1
  have q := fun ww hW => cut_any AJ J.length cJ J (F, F') (G, G') ww.heap.size ww hW (Nat.le_refl _) (by omega)
  rw [E6.out] at q
  dsimp only at q
  go_wp2_with fail
  refine (q _ (rdk hJ (by repeat (first | with_reducible exact Below.refl _ _ | with_reducible assumption | with_reducible refine below_drewN ?_ _ | with_reducible refine Below.drew ?_ | with_reducible refine below_alloc ?_ _ | (with_reducible refine Below.setCell ?_ ?_ _; rotate_left; ((try simp only); omega)))))).mono ?_
  rintro e w11 ⟨AC, cC, rfl, ho, hb0⟩
  have hb : Below w10.heap.size w10 w11 := below_call (by repeat (first | with_reducible exact Below.refl _ _ | with_reducible assumption | with_reducible refine below_drewN ?_ _ | with_reducible refine Below.drew ?_ | with_reducible refine below_alloc ?_ _ | (with_reducible refine Below.setCell ?_ ?_ _; rotate_left; ((try simp only); omega)))) hb0
  replace k0 := below_call k0 hb
  replace hV := rdk hV hb
  replace hX := rdk hX hb
  replace hJ := rdk hJ hb
  replace hB := rdk hB hb
  replace rY : Blk w11 (w4.heap.size) 24 #[.int .i64 N, .int .i64 D] := Blk.kept (by repeat (first | with_reducible exact rY | with_reducible exact Blk.new _ _ _ | (with_reducible refine Blk.newAt _ _ _ _ ?_; first | rfl | (simp; done)) | with_reducible apply Blk.alloc | with_reducible apply Blk.drewN | with_reducible apply Blk.drew | with_reducible apply Blk.set_to | (with_reducible apply Blk.far_; (simp only [ne_eq]; omega)) | rfl)) hb0
  replace cY := rY.cell; replace zY := rY.lt
  replace rF : Blk w11 (w8.heap.size) 24 #[.int .i64 F, .int .i64 F'] := Blk.kept (by repeat (first | with_reducible exact rF | with_reducible exact Blk.new _ _ _ | (with_reducible refine Blk.newAt _ _ _ _ ?_; first | rfl | (simp; done)) | with_reducible apply Blk.alloc | with_reducible apply Blk.drewN | with_reducible apply Blk.drew | with_reducible apply Blk.set_to | (with_reducible apply Blk.far_; (simp only [ne_eq]; omega)) | rfl)) hb0
  replace cF := rF.cell; replace zF := rF.lt
  replace rG : Blk w11 (w8.heap.size + 1) 24 #[.int .i64 G, .int .i64 G'] := Blk.kept (by repeat (first | with_reducible exact rG | with_reducible exact Blk.new _ _ _ | (with_reducible refine Blk.newAt _ _ _ _ ?_; first | rfl | (simp; done)) | with_reducible apply Blk.alloc | with_reducible apply Blk.drewN | with_reducible apply Blk.drew | with_reducible apply Blk.set_to | (with_reducible apply Blk.far_; (simp only [ne_eq]; omega)) | rfl)) hb0
  replace cG := rG.cell; replace zG := rG.lt
  have hC := ho.2.1
  clear ho q
  clear hb hb0
  have q := fun ww hW => evEnd_any AJ J.length cJ J ww.heap.size ww hW (Nat.le_refl _) (by omega)
  rw [E7.out] at q
  go_wp2_with fail
  refine (q _ (rdk hJ (by repeat (first | with_reducible exact Below.refl _ _ | with_reducible assumption | with_reducible refine below_drewN ?_ _ | with_reducible refine Below.drew ?_ | with_reducible refine below_alloc ?_ _ | (with_reducible refine Below.setCell ?_ ?_ _; rotate_left; ((try simp only); omega)))))).mono ?_
  rintro e w12 ⟨rfl, hb0⟩
  have hb : Below w11.heap.size w11 w12 := below_call (by repeat (first | with_reducible exact Below.refl _ _ | with_reducible assumption | with_reducible refine below_drewN ?_ _ | with_reducible refine Below.drew ?_ | with_reducible refine below_alloc ?_ _ | (with_reducible refine Below.setCell ?_ ?_ _; rotate_left; ((try simp only); omega)))) hb0
  replace k0 := below_call k0 hb
  replace hV := rdk hV hb
  replace hX := rdk hX hb
  replace hJ := rdk hJ hb
  replace hB := rdk hB hb
  replace hC := rdk hC hb
  replace rY : Blk w12 (w4.heap.size) 24 #[.int .i64 N, .int .i64 D] := Blk.kept (by repeat (first | with_reducible exact rY | with_reducible exact Blk.new _ _ _ | (with_reducible refine Blk.newAt _ _ _ _ ?_; first | rfl | (simp; done)) | with_reducible apply Blk.alloc | with_reducible apply Blk.drewN | with_reducible apply Blk.drew | with_reducible apply Blk.set_to | (with_reducible apply Blk.far_; (simp only [ne_eq]; omega)) | rfl)) hb0
  replace cY := rY.cell; replace zY := rY.lt
  replace rF : Blk w12 (w8.heap.size) 24 #[.int .i64 F, .int .i64 F'] := Blk.kept (by repeat (first | with_reducible exact rF | with_reducible exact Blk.new _ _ _ | (with_reducible refine Blk.newAt _ _ _ _ ?_; first | rfl | (simp; done)) | with_reducible apply Blk.alloc | with_reducible apply Blk.drewN | with_reducible apply Blk.drew | with_reducible apply Blk.set_to | (with_reducible apply Blk.far_; (simp only [ne_eq]; omega)) | rfl)) hb0
  replace cF := rF.cell; replace zF := rF.lt
  replace rG : Blk w12 (w8.heap.size + 1) 24 #[.int .i64 G, .int .i64 G'] := Blk.kept (by repeat (first | with_reducible exact rG | with_reducible exact Blk.new _ _ _ | (with_reducible refine Blk.newAt _ _ _ _ ?_; first | rfl | (simp; done)) | with_reducible apply Blk.alloc | with_reducible apply Blk.drewN | with_reducible apply Blk.drew | with_reducible apply Blk.set_to | (with_reducible apply Blk.far_; (simp only [ne_eq]; omega)) | rfl)) hb0
  replace cG := rG.cell; replace zG := rG.lt
  clear q
  clear hb hb0
  clear hJ
  have K12 := Below.refl w12.heap.size w12
  have hV12 := hV
  have s12 := k0.size
  have nYE : w4.heap.size ≠ w12.heap.size := by omega
  have nFE : w8.heap.size ≠ w12.heap.size := by omega
  have nGE : w8.heap.size + 1 ≠ w12.heap.size := by omega
  have rE : Blk (w12.alloc (.cells #[.int .i64 G, .int .i64 G'] 24)) w12.heap.size 24 #[.int .i64 G, .int .i64 G'] := Blk.new _ _ _
  have cE := rE.cell; have zE := rE.lt
  go_wp2_with fail
  refine (sameEvents_any AB A1 _ cB c1 V w12.heap.size w12.heap.size (w12.alloc (.cells #[.int .i64 G, .int .i64 G'] 24)) (hB.below (Nat.le_refl _) (by repeat (first | with_reducible exact Below.refl _ _ | with_reducible assumption | with_reducible refine below_drewN ?_ _ | with_reducible refine Below.drew ?_ | with_reducible refine below_alloc ?_ _ | (with_reducible refine Below.setCell ?_ ?_ _; rotate_left; ((try simp only); omega))))) (by simp) (hV.below (Nat.le_refl _) (by repeat (first | with_reducible exact Below.refl _ _ | with_reducible assumption | with_reducible refine below_drewN ?_ _ | with_reducible refine Below.drew ?_ | with_reducible refine below_alloc ?_ _ | (with_reducible refine Below.setCell ?_ ?_ _; rotate_left; ((try simp only); omega))))) (by simp) (by omega)).mono ?_
  rintro e w13 ⟨rfl, hb0⟩
  have hb : Below w12.heap.size w12 w13 := below_call (by repeat (first | with_reducible exact Below.refl _ _ | with_reducible assumption | with_reducible refine below_drewN ?_ _ | with_reducible refine Below.drew ?_ | with_reducible refine below_alloc ?_ _ | (with_reducible refine Below.setCell ?_ ?_ _; rotate_left; ((try simp only); omega)))) hb0
  replace k0 := below_call k0 hb
  replace hV := rdk hV hb
  replace hX := rdk hX hb
  replace hB := rdk hB hb
  replace hC := rdk hC hb
  replace rY : Blk w13 (w4.heap.size) 24 #[.int .i64 N, .int .i64 D] := Blk.kept (by repeat (first | with_reducible exact rY | with_reducible exact Blk.new _ _ _ | (with_reducible refine Blk.newAt _ _ _ _ ?_; first | rfl | (simp; done)) | with_reducible apply Blk.alloc | with_reducible apply Blk.drewN | with_reducible apply Blk.drew | with_reducible apply Blk.set_to | (with_reducible apply Blk.far_; (simp only [ne_eq]; omega)) | rfl)) hb0
  replace cY := rY.cell; replace zY := rY.lt
  replace rF : Blk w13 (w8.heap.size) 24 #[.int .i64 F, .int .i64 F'] := Blk.kept (by repeat (first | with_reducible exact rF | with_reducible exact Blk.new _ _ _ | (with_reducible refine Blk.newAt _ _ _ _ ?_; first | rfl | (simp; done)) | with_reducible apply Blk.alloc | with_reducible apply Blk.drewN | with_reducible apply Blk.drew | with_reducible apply Blk.set_to | (with_reducible apply Blk.far_; (simp only [ne_eq]; omega)) | rfl)) hb0
  replace cF := rF.cell; replace zF := rF.lt
  replace rG : Blk w13 (w8.heap.size + 1) 24 #[.int .i64 G, .int .i64 G'] := Blk.kept (by repeat (first | with_reducible exact rG | with_reducible exact Blk.new _ _ _ | (with_reducible refine Blk.newAt _ _ _ _ ?_; first | rfl | (simp; done)) | with_reducible apply Blk.alloc | with_reducible apply Blk.drewN | with_reducible apply Blk.drew | with_reducible apply Blk.set_to | (with_reducible apply Blk.far_; (simp only [ne_eq]; omega)) | rfl)) hb0
  replace cG := rG.cell; replace zG := rG.lt
  replace rE : Blk w13 (w12.heap.size) 24 #[.int .i64 G, .int .i64 G'] := Blk.kept (by repeat (first | with_reducible exact rE | with_reducible exact Blk.new _ _ _ | (with_reducible refine Blk.newAt _ _ _ _ ?_; first | rfl | (simp; done)) | with_reducible apply Blk.alloc | with_reducible apply Blk.drewN | with_reducible apply Blk.drew | with_reducible apply Blk.set_to | (with_reducible apply Blk.far_; (simp only [ne_eq]; omega)) | rfl)) hb0
  replace cE := rE.cell; replace zE := rE.lt
  replace K12 := below_call K12 hb
  clear hb hb0
  go_wp2_with fail
  refine (sameEvents_any AC A2 _ cC c2 X w13.heap.size w13.heap.size w13 hC (Nat.le_refl _) hX (Nat.le_refl _) (by omega)).mono ?_
  rintro e w14 ⟨rfl, hb0⟩
  have hb : Below w13.heap.size w13 w14 := below_call (by repeat (first | with_reducible exact Below.refl _ _ | with_reducible assumption | with_reducible refine below_drewN ?_ _ | with_reducible refine Below.drew ?_ | with_reducible refine below_alloc ?_ _ | (with_reducible refine Below.setCell ?_ ?_ _; rotate_left; ((try simp only); omega)))) hb0
  replace k0 := below_call k0 hb
  replace hV := rdk hV hb
  replace hX := rdk hX hb
  replace hB := rdk hB hb
  replace hC := rdk hC hb
  replace rY : Blk w14 (w4.heap.size) 24 #[.int .i64 N, .int .i64 D] := Blk.kept (by repeat (first | with_reducible exact rY | with_reducible exact Blk.new _ _ _ | (with_reducible refine Blk.newAt _ _ _ _ ?_; first | rfl | (simp; done)) | with_reducible apply Blk.alloc | with_reducible apply Blk.drewN | with_reducible apply Blk.drew | with_reducible apply Blk.set_to | (with_reducible apply Blk.far_; (simp only [ne_eq]; omega)) | rfl)) hb0
  replace cY := rY.cell; replace zY := rY.lt
  replace rF : Blk w14 (w8.heap.size) 24 #[.int .i64 F, .int .i64 F'] := Blk.kept (by repeat (first | with_reducible exact rF | with_reducible exact Blk.new _ _ _ | (with_reducible refine Blk.newAt _ _ _ _ ?_; first | rfl | (simp; done)) | with_reducible apply Blk.alloc | with_reducible apply Blk.drewN | with_reducible apply Blk.drew | with_reducible apply Blk.set_to | (with_reducible apply Blk.far_; (simp only [ne_eq]; omega)) | rfl)) hb0
  replace cF := rF.cell; replace zF := rF.lt
  replace rG : Blk w14 (w8.heap.size + 1) 24 #[.int .i64 G, .int .i64 G'] := Blk.kept (by repeat (first | with_reducible exact rG | with_reducible exact Blk.new _ _ _ | (with_reducible refine Blk.newAt _ _ _ _ ?_; first | rfl | (simp; done)) | with_reducible apply Blk.alloc | with_reducible apply Blk.drewN | with_reducible apply Blk.drew | with_reducible apply Blk.set_to | (with_reducible apply Blk.far_; (simp only [ne_eq]; omega)) | rfl)) hb0
  replace cG := rG.cell; replace zG := rG.lt
  replace rE : Blk w14 (w12.heap.size) 24 #[.int .i64 G, .int .i64 G'] := Blk.kept (by repeat (first | with_reducible exact rE | with_reducible exact Blk.new _ _ _ | (with_reducible refine Blk.newAt _ _ _ _ ?_; first | rfl | (simp; done)) | with_reducible apply Blk.alloc | with_reducible apply Blk.drewN | with_reducible apply Blk.drew | with_reducible apply Blk.set_to | (with_reducible apply Blk.far_; (simp only [ne_eq]; omega)) | rfl)) hb0
  replace cE := rE.cell; replace zE := rE.lt
  replace K12 := below_call K12 hb
  clear hb hb0
  clear hB hC hX
  have q := fun W => plus_any (F, F') (N, D) W O1.out O3.out
  rw [E8.out] at q
  go_wp2_with fail
  refine (q _).mono ?_
  rintro e w15 ⟨rfl, hb0⟩
  have hb : Below w14.heap.size w14 w15 := below_call (by repeat (first | with_reducible exact Below.refl _ _ | with_reducible assumption | with_reducible refine below_drewN ?_ _ | with_reducible refine Below.drew ?_ | with_reducible refine below_alloc ?_ _ | (with_reducible refine Below.setCell ?_ ?_ _; rotate_left; ((try simp only); omega)))) hb0
  replace k0 := below_call k0 hb
  replace hV := rdk hV hb
  replace rY : Blk w15 (w4.heap.size) 24 #[.int .i64 N, .int .i64 D] := Blk.kept (by repeat (first | with_reducible exact rY | with_reducible exact Blk.new _ _ _ | (with_reducible refine Blk.newAt _ _ _ _ ?_; first | rfl | (simp; done)) | with_reducible apply Blk.alloc | with_reducible apply Blk.drewN | with_reducible apply Blk.drew | with_reducible apply Blk.set_to | (with_reducible apply Blk.far_; (simp only [ne_eq]; omega)) | rfl)) hb0
  replace cY := rY.cell; replace zY := rY.lt
  replace rF : Blk w15 (w8.heap.size) 24 #[.int .i64 F, .int .i64 F'] := Blk.kept (by repeat (first | with_reducible exact rF | with_reducible exact Blk.new _ _ _ | (with_reducible refine Blk.newAt _ _ _ _ ?_; first | rfl | (simp; done)) | with_reducible apply Blk.alloc | with_reducible apply Blk.drewN | with_reducible apply Blk.drew | with_reducible apply Blk.set_to | (with_reducible apply Blk.far_; (simp only [ne_eq]; omega)) | rfl)) hb0
  replace cF := rF.cell; replace zF := rF.lt
  replace rG : Blk w15 (w8.heap.size + 1) 24 #[.int .i64 G, .int .i64 G'] := Blk.kept (by repeat (first | with_reducible exact rG | with_reducible exact Blk.new _ _ _ | (with_reducible refine Blk.newAt _ _ _ _ ?_; first | rfl | (simp; done)) | with_reducible apply Blk.alloc | with_reducible apply Blk.drewN | with_reducible apply Blk.drew | with_reducible apply Blk.set_to | (with_reducible apply Blk.far_; (simp only [ne_eq]; omega)) | rfl)) hb0
  replace cG := rG.cell; replace zG := rG.lt
  replace rE : Blk w15 (w12.heap.size) 24 #[.int .i64 G, .int .i64 G'] := Blk.kept (by repeat (first | with_reducible exact rE | with_reducible exact Blk.new _ _ _ | (with_reducible refine Blk.newAt _ _ _ _ ?_; first | rfl | (simp; done)) | with_reducible apply Blk.alloc | with_reducible apply Blk.drewN | with_reducible apply Blk.drew | with_reducible apply Blk.set_to | (with_reducible apply Blk.far_; (simp only [ne_eq]; omega)) | rfl)) hb0
  replace cE := rE.cell; replace zE := rE.lt
  replace K12 := below_call K12 hb
  clear q
  clear hb hb0
  have nYT : w4.heap.size ≠ w15.heap.size := by omega
  have nTE : w15.heap.size ≠ w12.heap.size := by omega
  have nET : w12.heap.size ≠ w15.heap.size := by omega
  have nEY : w12.heap.size ≠ w4.heap.size := by omega
  have s15 : w12.heap.size < w15.heap.size := zE
  have rT : Blk (w15.alloc (.cells #[.int .i64 T, .int .i64 T'] 24)) w15.heap.size 24 #[.int .i64 T, .int .i64 T'] := Blk.new _ _ _
  have cT := rT.cell; have zT := rT.lt
  clear rF cF zF
  clear rG cG zG
  have q := fun ww hW => delay_any A1 V.length c1 V (N, D) ww.heap.size ww hW (Nat.le_refl _) (by omega)
  rw [E9.out] at q
  dsimp only at q
  go_wp2_with fail
  refine (q _ (rdk hV (by repeat (first | with_reducible exact Below.refl _ _ | with_reducible assumption | with_reducible refine below_drewN ?_ _ | with_reducible refine Below.drew ?_ | with_reducible refine below_alloc ?_ _ | (with_reducible refine Below.setCell ?_ ?_ _; rotate_left; ((try simp only); omega)))))).mono ?_
  rintro e w16 ⟨AD, cD, rfl, ho, hb0⟩
  have hb : Below w15.heap.size w15 w16 := below_call (by repeat (first | with_reducible exact Below.refl _ _ | with_reducible assumption | with_reducible refine below_drewN ?_ _ | with_reducible refine Below.drew ?_ | with_reducible refine below_alloc ?_ _ | (with_reducible refine Below.setCell ?_ ?_ _; rotate_left; ((try simp only); omega)))) hb0
  replace k0 := below_call k0 hb
  replace hV := rdk hV hb
  replace rY : Blk w16 (w4.heap.size) 24 #[.int .i64 N, .int .i64 D] := Blk.kept (by repeat (first | with_reducible exact rY | with_reducible exact Blk.new _ _ _ | (with_reducible refine Blk.newAt _ _ _ _ ?_; first | rfl | (simp; done)) | with_reducible apply Blk.alloc | with_reducible apply Blk.drewN | with_reducible apply Blk.drew | with_reducible apply Blk.set_to | (with_reducible apply Blk.far_; (simp only [ne_eq]; omega)) | rfl)) hb0
  replace cY := rY.cell; replace zY := rY.lt
  replace rE : Blk w16 (w12.heap.size) 24 #[.int .i64 G, .int .i64 G'] := Blk.kept (by repeat (first | with_reducible exact rE | with_reducible exact Blk.new _ _ _ | (with_reducible refine Blk.newAt _ _ _ _ ?_; first | rfl | (simp; done)) | with_reducible apply Blk.alloc | with_reducible apply Blk.drewN | with_reducible apply Blk.drew | with_reducible apply Blk.set_to | (with_reducible apply Blk.far_; (simp only [ne_eq]; omega)) | rfl)) hb0
  replace cE := rE.cell; replace zE := rE.lt
  replace rT : Blk w16 (w15.heap.size) 24 #[.int .i64 T, .int .i64 T'] := Blk.kept (by repeat (first | with_reducible exact rT | with_reducible exact Blk.new _ _ _ | (with_reducible refine Blk.newAt _ _ _ _ ?_; first | rfl | (simp; done)) | with_reducible apply Blk.alloc | with_reducible apply Blk.drewN | with_reducible apply Blk.drew | with_reducible apply Blk.set_to | (with_reducible apply Blk.far_; (simp only [ne_eq]; omega)) | rfl)) hb0
  replace cT := rT.cell; replace zT := rT.lt
  replace K12 := below_call K12 hb
  have hD := ho.2.1
  have hDo := ho
  clear ho q
  clear hb hb0
  have fE := rE.frozen
  have q := fun ww hW => evEnd_any AD U.length cD U ww.heap.size ww hW (Nat.le_refl _) (by omega)
  rw [E10.out] at q
  go_wp2_with fail
  refine (q _ (rdk hD (by repeat (first | with_reducible exact Below.refl _ _ | with_reducible assumption | with_reducible refine below_drewN ?_ _ | with_reducible refine Below.drew ?_ | with_reducible refine below_alloc ?_ _ | (with_reducible refine Below.setCell ?_ ?_ _; rotate_left; ((try simp only); omega)))))).mono ?_
  rintro e w17 ⟨rfl, hb0⟩
  have hb : Below w16.heap.size w16 w17 := below_call (by repeat (first | with_reducible exact Below.refl _ _ | with_reducible assumption | with_reducible refine below_drewN ?_ _ | with_reducible refine Below.drew ?_ | with_reducible refine below_alloc ?_ _ | (with_reducible refine Below.setCell ?_ ?_ _; rotate_left; ((try simp only); omega)))) hb0
  replace k0 := below_call k0 hb
  replace hV := rdk hV hb
  replace hD := rdk hD hb
  replace rY : Blk w17 (w4.heap.size) 24 #[.int .i64 N, .int .i64 D] := Blk.kept (by repeat (first | with_reducible exact rY | with_reducible exact Blk.new _ _ _ | (with_reducible refine Blk.newAt _ _ _ _ ?_; first | rfl | (simp; done)) | with_reducible apply Blk.alloc | with_reducible apply Blk.drewN | with_reducible apply Blk.drew | with_reducible apply Blk.set_to | (with_reducible apply Blk.far_; (simp only [ne_eq]; omega)) | rfl)) hb0
  replace cY := rY.cell; replace zY := rY.lt
  replace rE : Blk w17 (w12.heap.size) 24 #[.int .i64 G, .int .i64 G'] := Blk.kept (by repeat (first | with_reducible exact rE | with_reducible exact Blk.new _ _ _ | (with_reducible refine Blk.newAt _ _ _ _ ?_; first | rfl | (simp; done)) | with_reducible apply Blk.alloc | with_reducible apply Blk.drewN | with_reducible apply Blk.drew | with_reducible apply Blk.set_to | (with_reducible apply Blk.far_; (simp only [ne_eq]; omega)) | rfl)) hb0
  replace cE := rE.cell; replace zE := rE.lt
  replace rT : Blk w17 (w15.heap.size) 24 #[.int .i64 T, .int .i64 T'] := Blk.kept (by repeat (first | with_reducible exact rT | with_reducible exact Blk.new _ _ _ | (with_reducible refine Blk.newAt _ _ _ _ ?_; first | rfl | (simp; done)) | with_reducible apply Blk.alloc | with_reducible apply Blk.drewN | with_reducible apply Blk.drew | with_reducible apply Blk.set_to | (with_reducible apply Blk.far_; (simp only [ne_eq]; omega)) | rfl)) hb0
  replace cT := rT.cell; replace zT := rT.lt
  replace K12 := below_call K12 hb
  replace hDo := hDo.kept hb
  clear q
  replace fE := rE.frozen
  clear hb hb0
  have kW : Below w.heap.size w ((w17.setCell ⟨w12.heap.size, 0, none⟩ (.int .i64 T)).setCell ⟨w12.heap.size, 1, none⟩ (.int .i64 T')) := by repeat (first | with_reducible exact Below.refl _ _ | with_reducible assumption | with_reducible refine below_drewN ?_ _ | with_reducible refine Below.drew ?_ | with_reducible refine below_alloc ?_ _ | (with_reducible refine Below.setCell ?_ ?_ _; rotate_left; ((try simp only); omega)))
  have KW : Below w12.heap.size w12 ((w17.setCell ⟨w12.heap.size, 0, none⟩ (.int .i64 T)).setCell ⟨w12.heap.size, 1, none⟩ (.int .i64 T')) := by repeat (first | with_reducible exact Below.refl _ _ | with_reducible assumption | with_reducible refine below_drewN ?_ _ | with_reducible refine Below.drew ?_ | with_reducible refine below_alloc ?_ _ | (with_reducible refine Below.setCell ?_ ?_ _; rotate_left; ((try simp only); omega)))
  have hVW : Reads ((w17.setCell ⟨w12.heap.size, 0, none⟩ (.int .i64 T)).setCell ⟨w12.heap.size, 1, none⟩ (.int .i64 T')) ((w17.setCell ⟨w12.heap.size, 0, none⟩ (.int .i64 T)).setCell ⟨w12.heap.size, 1, none⟩ (.int .i64 T')).heap.size 10 A1 V.length (csE V) := (hV12.below (Nat.le_refl _) KW).more KW.size
  have nO : (Value.slice AD U.length cD).ownBlock ≠ some w12.heap.size := fun e => by have h5 := (hDo.1.lt _ e).1; simp at h5; omega
  have hDW : Reads ((w17.setCell ⟨w12.heap.size, 0, none⟩ (.int .i64 T)).setCell ⟨w12.heap.size, 1, none⟩ (.int .i64 T')) ((w17.setCell ⟨w12.heap.size, 0, none⟩ (.int .i64 T)).setCell ⟨w12.heap.size, 1, none⟩ (.int .i64 T')).heap.size 10 AD U.length (csE U) := by
    obtain ⟨A5, c5, e5, hr5, _⟩ := own_reads (ownsRow_setCell_other (ownsRow_setCell_other hDo.1 (a := ⟨w12.heap.size, 0, none⟩) nO (.int .i64 T)) (a := ⟨w12.heap.size, 1, none⟩) nO (.int .i64 T'))
    cases e5
    exact hr5
  have q := cut_any AD U.length cD U (N, D) (T, T') ((w17.setCell ⟨w12.heap.size, 0, none⟩ (.int .i64 T)).setCell ⟨w12.heap.size, 1, none⟩ (.int .i64 T')).heap.size ((w17.setCell ⟨w12.heap.size, 0, none⟩ (.int .i64 T)).setCell ⟨w12.heap.size, 1, none⟩ (.int .i64 T')) hDW (Nat.le_refl _) (by omega)
  rw [E11.out] at q
  dsimp only at q
  have Q := Lib.hid q; clear q
  have HVW := Lib.hid hVW; clear hVW hDW
  go_wp2_with fail
  refine Q.out.mono ?_
  rintro e w18 ⟨AL, cL, rfl, ho, hb0⟩
  replace k0 := below_call kW hb0
  replace hV := rdk HVW.out hb0
  have rE' : Blk w18 (w12.heap.size) 24 #[.int .i64 T, .int .i64 T'] := Blk.kept (by repeat (first | with_reducible exact rE | with_reducible exact Blk.new _ _ _ | (with_reducible refine Blk.newAt _ _ _ _ ?_; first | rfl | (simp; done)) | with_reducible apply Blk.alloc | with_reducible apply Blk.drewN | with_reducible apply Blk.drew | with_reducible apply Blk.set_to | (with_reducible apply Blk.far_; (simp only [ne_eq]; omega)) | rfl)) hb0
  have rT' : Blk w18 (w15.heap.size) 24 #[.int .i64 T, .int .i64 T'] := Blk.kept (by repeat (first | with_reducible exact rT | with_reducible exact Blk.new _ _ _ | (with_reducible refine Blk.newAt _ _ _ _ ?_; first | rfl | (simp; done)) | with_reducible apply Blk.alloc | with_reducible apply Blk.drewN | with_reducible apply Blk.drew | with_reducible apply Blk.set_to | (with_reducible apply Blk.far_; (simp only [ne_eq]; omega)) | rfl)) hb0
  clear rE rT cE cT zE zT fE rY cY zY kW KW nO Q HVW hDo K12 hb0 hD
  have rE := rE'; have rT := rT'; clear rE' rT'
  have cE := rE.cell; have zE := rE.lt; have cT := rT.cell; have zT := rT.lt
  have hL := ho.2.1; clear ho
  go_wp2_with fail
  refine (sameEvents_any AL A1 _ cL c1 V w18.heap.size w18.heap.size w18 hL (Nat.le_refl _) hV (Nat.le_refl _) (by omega)).mono ?_
  rintro e w19 ⟨rfl, hb0⟩
  have hb : Below w18.heap.size w18 w19 := below_call (by repeat (first | with_reducible exact Below.refl _ _ | with_reducible assumption | with_reducible refine below_drewN ?_ _ | with_reducible refine Below.drew ?_ | with_reducible refine below_alloc ?_ _ | (with_reducible refine Below.setCell ?_ ?_ _; rotate_left; ((try simp only); omega)))) hb0
  replace k0 := below_call k0 hb
  replace hV := rdk hV hb
  replace hL := rdk hL hb
  replace rE : Blk w19 (w12.heap.size) 24 #[.int .i64 T, .int .i64 T'] := Blk.kept (by repeat (first | with_reducible exact rE | with_reducible exact Blk.new _ _ _ | (with_reducible refine Blk.newAt _ _ _ _ ?_; first | rfl | (simp; done)) | with_reducible apply Blk.alloc | with_reducible apply Blk.drewN | with_reducible apply Blk.drew | with_reducible apply Blk.set_to | (with_reducible apply Blk.far_; (simp only [ne_eq]; omega)) | rfl)) hb0
  replace cE := rE.cell; replace zE := rE.lt
  replace rT : Blk w19 (w15.heap.size) 24 #[.int .i64 T, .int .i64 T'] := Blk.kept (by repeat (first | with_reducible exact rT | with_reducible exact Blk.new _ _ _ | (with_reducible refine Blk.newAt _ _ _ _ ?_; first | rfl | (simp; done)) | with_reducible apply Blk.alloc | with_reducible apply Blk.drewN | with_reducible apply Blk.drew | with_reducible apply Blk.set_to | (with_reducible apply Blk.far_; (simp only [ne_eq]; omega)) | rfl)) hb0
  replace cT := rT.cell; replace zT := rT.lt
  clear hb hb0
  go_wp2_with fail
  go_ret
  exact ⟨rfl, k0⟩

set_option maxRecDepth 100000 in
theorem lifted (os : Os) (started : os.Started) (H : Type) (enc : TypeId × Value → H) :
    ReturnsInHanded {} Try.checked os 9 .any (Rows.transformPartsSpec.pre6 enc Try.prog Try.f9 Rows.transformPartsRow.domain false) (Rows.transformPartsSpec.post enc Try.prog Try.f9 false true false false) := by
  refine returnsInHanded_of_change (C := Try.checked) own started (by kernel_rfl) Try.func9
    (ChangeSpec.witness6 (enc := enc) (C := Try.checked) false ⟨#[], #[.slice none 0 0, .slice none 0 0, .int .i64 0], []⟩ 8 (by kernel_rfl) (by kernel_rfl) (by kernel_rfl) (by kernel_rfl)) ?_
  intro W base args ds gs before hval0 hW hcnd _
  have hval : ∀ (j : Nat) t v, Try.f9.params[j]? = some t → args[j]? = some v → Value.okWide Try.prog W .any base t v := hval0
  have hW' := hW
  obtain ⟨p, q, hA0, hV, rfl, hfz, hnd⟩ := hW
  have hA : DataW.TrodAll enc Try.prog W 0 (fun _ => true) true Try.f9.params.toList args.toList ds p := hA0
  rw [Try.params9] at hA hval
  obtain ⟨v0, vs0, d0, ds0, p0, q0, hargs, rfl, rfl, h0, r0⟩ := trodAll_cons hA
  obtain ⟨v1, vs1, d1, ds1, p1, q1, rfl, rfl, rfl, h1, r1⟩ := trodAll_cons r0
  obtain ⟨v2, vs2, d2, ds2, p2, q2, rfl, rfl, rfl, h2, r2⟩ := trodAll_cons r1
  obtain ⟨rfl, rfl, rfl⟩ := trodAll_nil r2
  obtain rfl : args = #[v0, v1, v2] := by cases args; simp_all
  obtain ⟨rfl, rfl⟩ := trodVars_none hV
  have k0 := h0
  have lt0 : ∀ x ∈ p0, x.block < W.heap.size := by obtain ⟨m, hm⟩ := k0; exact DataW.trod_lt m _ _ _ hm
  obtain ⟨A0, n0, c0, l0, rfl, w0⟩ := arg_ints (hval 0 43 v0 rfl rfl) h0
  have k1 := h1
  have lt1 : ∀ x ∈ p1, x.block < W.heap.size := by obtain ⟨m, hm⟩ := k1; exact DataW.trod_lt m _ _ _ hm
  obtain ⟨A1, n1, c1, l1, rfl, w1⟩ := arg_ints (hval 1 43 v1 rfl rfl) h1
  have k2 := h2
  have lt2 : ∀ x ∈ p2, x.block < W.heap.size := by obtain ⟨m, hm⟩ := k2; exact DataW.trod_lt m _ _ _ hm
  obtain ⟨a2, rfl, w2⟩ := arg_int (hval 2 3 v2 rfl rfl) h2
  clear hA0 hval0
  refine (walk A0 A1 n0 c0 n1 c1 l0 l1 a2 W w0.1 w0.2.1 w0.2.2 w1.1 w1.2.1 w1.2.2 w2).mono fun e W' ⟨he, bel⟩ => ?_
  subst he
  exact ⟨_, rfl, _, _, _, [], _, [], hW', trodAll_mk1 (shut_bool Try.underlying4 _), (trodAll_cons_mk (Below.trod laidOut (by kernel_rfl) (of_decide_eq_true (by kernel_rfl)) k0 bel lt0) (trodAll_cons_mk (Below.trod laidOut (by kernel_rfl) (of_decide_eq_true (by kernel_rfl)) k1 bel lt1) (trodAll_cons_mk (Below.trod laidOut (by kernel_rfl) (of_decide_eq_true (by kernel_rfl)) k2 bel lt2) trodAll_mk0))), rfl, bel.frame _, fun h => by cases h⟩

theorem over : Rows.TransformPartsSaid :=
  OpenClaim.holds_of_wide 9 Try.f9 rfl rfl rfl rfl rfl rfl rfl ⟨rfl, rfl, rfl, rfl, rfl⟩ rfl rfl rfl rfl rfl (by kernel_rfl) Try.func9 (by kernel_rfl)
    (of_decide_eq_true (by kernel_rfl)) (by unfold Func.isWrapper; first | (rw [if_pos (by decide +kernel)]; kernel_rfl) | (rw [if_neg (by decide +kernel)]; exact ⟨rfl, rfl⟩))
    (fun os started H enc _ => lifted os started H enc)

/-- The statement. -/
theorem proved : Rows.TransformPartsSaid := over

end Go.Proofs.Ytiphacmmglohaaa.transformParts
