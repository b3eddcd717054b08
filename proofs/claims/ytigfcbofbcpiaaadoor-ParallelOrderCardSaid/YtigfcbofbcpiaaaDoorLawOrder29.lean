/- ParallelOrder holds: for every two lists of numbers, the forbidden motions of the two voices made of them do not depend on the order of the voices, and a third voice that is one rest and moving by an octave change nothing. No condition. -/
import Derived.Test.YtigfcbofbcpiaaaDoorTabDoor
import Derived.Test.YtigfcbofbcpiaaaDoorNums
import Derived.Test.YtigfcbofbcpiaaaDoorPaCounts
import Derived.Test.YtigfcbofbcpiaaaDoorPaAwake
namespace Go.Proofs.YtigfcbofbcpiaaaDoor.parallelOrder
open Go.RowKit Go.ChangeShapes Go.WideShapes Go.ChangeAt
set_option linter.unusedVariables false
set_option maxRecDepth 100000 in
set_option maxHeartbeats 16000000 in
theorem walk {Aa Ab : Option Addr} {na nb : Nat} {x y : List Int} {w : World} (ca cb : Nat) (ha : Nums w Aa na x) (hb : Nums w Ab nb y) (ht : Tabs w) :
    Calls Tryd.prog 8 #[.slice Aa na ca, .slice Ab nb cb] w fun e w' => e = .returned (.bool true) ∧ Below w.heap.size w w' := by
  have q1 := fun W (h : Nums W Aa na x) => h.voice ca 12 (by omega)
  have q2 := fun W (h : Nums W Ab nb y) => h.voice cb 12 (by omega)
  obtain ⟨A, B, U, O, F, F', ea, eb, en, hA, hB, hl, f1, f2, f3, n1, n2, n3, m1, m2, f4, e1, e2, oa, ob, he, hz, hr, ka, kb⟩ := order_facts29 (z_small 12 x) (z_small 12 y) (z_len 12 x) (z_len 12 y)
  simp only [show voiceS 12 x = A from hA] at q1
  simp only [show voiceS 12 y = B from hB] at q2
  have LN := Lib.hid hl
  have HC := Lib.hid (show vCounts F' = vCounts F by unfold vCounts; rw [n1, n2, n3])
  have hf1 := findE_len [A, B]
  have hk1 := fun p (hp : p ∈ (findE [A, B]).1) => findE_kinds hp
  have hf2 := findE_len [B, A]
  have hk2 := fun p (hp : p ∈ (findE [B, A]).1) => findE_kinds hp
  rw [f1] at hf1 hk1
  rw [f2] at hf2 hk2
  simp only at hf1 hf2 hk1 hk2
  have K1 := Lib.hid hk1
  have K2 := Lib.hid hk2
  have g1 := fun A' W (h : ReadsV W W.heap.size A' 2 [A, B]) (hT : Tabs W) => find_any A' 2 2 [A, B] _ W h (Nat.le_refl _) (by omega) hT
  have g2 := fun A' W (h : ReadsV W W.heap.size A' 2 [B, A]) (hT : Tabs W) => find_any A' 2 2 [B, A] _ W h (Nat.le_refl _) (by omega) hT
  have g3 := fun A' W (h : ReadsV W W.heap.size A' 2 [A, B]) (hT : Tabs W) => pair_any A' 2 2 [A, B] 1 0 _ W h (Nat.le_refl _) (by omega) hT
  simp only [f1] at g1
  simp only [f2] at g2
  simp only [f3] at g3
  have g4 := fun A' n c W (h : Reads W W.heap.size 10 A' n (csE A)) (hn : n ≤ 5000) => move_any A' n c A 7 _ W h (Nat.le_refl _) hn
  have g5 := fun A' n c W (h : Reads W W.heap.size 10 A' n (csE B)) (hn : n ≤ 5000) => move_any A' n c B 7 _ W h (Nat.le_refl _) hn
  simp only [m1] at g4
  simp only [m2] at g5
  have g6 := fun A' n c W (h : Reads W W.heap.size 10 A' n (csE A)) (hn : n ≤ 5000) => endOf_any A' n c A W h hn ka
  have g7 := fun A' n c W (h : Reads W W.heap.size 10 A' n (csE B)) (hn : n ≤ 5000) => endOf_any A' n c B W h hn kb
  simp only [e1] at g6
  simp only [e2] at g7
  have F4 := Lib.hid f4
  have HZ := Lib.hid hz
  have HR := Lib.hid hr
  have HE := Lib.hid he
  obtain ⟨a0, a0'⟩ := ea
  obtain ⟨b0, b0'⟩ := eb
  have pos1 : 0 ≤ a0 * b0' ∧ a0 * b0' ≤ 1152921504606846976 := ⟨Int.mul_nonneg oa.1 (by have := ob.2.2.1; simp only at this ⊢; omega), by have := Int.mul_le_mul oa.2.1 ob.2.2.2.1 (by have := ob.2.2.1; simp only at this ⊢; omega) (by omega); simp only at this; omega⟩
  have pos2 : 0 ≤ b0 * a0' ∧ b0 * a0' ≤ 1152921504606846976 := ⟨Int.mul_nonneg ob.1 (by have := oa.2.2.1; simp only at this ⊢; omega), by have := Int.mul_le_mul ob.2.1 oa.2.2.2.1 (by have := oa.2.2.1; simp only at this ⊢; omega) (by omega); simp only at this; omega⟩
  have wP : IntKind.i64.wrap (a0 * b0') = a0 * b0' := IntWalk.i64_in _ (by omega)
  have wQ : IntKind.i64.wrap (b0 * a0') = b0 * a0' := IntWalk.i64_in _ (by omega)
  clear hA hB hl n1 n2 n3 f1 f2 f3 m1 m2 f4 e1 e2 he hz hr ka kb hk1 hk2 oa ob pos1 pos2
  go_enter Tryd.func8, Tryd.ntmps8
  go_wp2_with fail
  refine (known_any _ ht).mono ?_
  rintro e w1 ⟨rfl, k1⟩
  replace ha := ha.kept k1; replace hb := hb.kept k1
  go_wp2_with fail
  refine (q1 _ ha).mono ?_
  rintro e w2 ⟨A1, c1, rfl, o1, b2⟩
  replace hb := hb.kept b2
  have rA := o1.2.1
  have k2 := below_call k1 b2
  clear o1 b2 ha q1
  go_wp2_with fail
  refine (q2 _ hb).mono ?_
  rintro e w3 ⟨A2, c2, rfl, o2, b3⟩
  have rB := o2.2.1
  replace rA := rd1 rA b3
  have k3 := below_call k2 b3
  clear o2 b3 hb q2
  -- the motions
  go_wp2_with fail
  obtain ⟨w4, hww4, Sw4, bw4⟩ := set2 (c1 := c1) (c2 := c2) rA rB (by have := LN.out; omega) (by have := LN.out; omega)
  rw [← hww4]
  clear hww4
  replace rA := rd1 rA bw4; replace rB := rd1 rB bw4
  have k4 := below_call k3 bw4
  refine (g1 _ _ Sw4 (ht.kept k4)).mono ?_
  rintro e w5 ⟨v5, rfl, o5, b5⟩
  obtain ⟨AF, cF, rfl, rF, _, _⟩ := own_reads o5
  replace rA := rd1 rA b5; replace rB := rd1 rB b5
  have k5 := below_call k4 b5
  clear o5 b5 bw4 Sw4 g1
  go_wp2_with fail
  obtain ⟨w6, hww6, Sw6, bw6⟩ := set2 (c1 := c2) (c2 := c1) rB rA (by have := LN.out; omega) (by have := LN.out; omega)
  rw [← hww6]
  clear hww6
  replace rA := rd1 rA bw6; replace rB := rd1 rB bw6; replace rF := rd1 rF bw6
  have k6 := below_call k5 bw6
  refine (g2 _ _ Sw6 (ht.kept k6)).mono ?_
  rintro e w7 ⟨v7, rfl, o7, b7⟩
  obtain ⟨AG, cG, rfl, rG, _, _⟩ := own_reads o7
  replace rA := rd1 rA b7; replace rB := rd1 rB b7; replace rF := rd1 rF b7
  have k7 := below_call k6 b7
  clear o7 b7 bw6 Sw6 g2
  go_wp2_with fail
  obtain ⟨w8, hww8, Sw8, bw8⟩ := set2 (c1 := c1) (c2 := c2) rA rB (by have := LN.out; omega) (by have := LN.out; omega)
  rw [← hww8]
  clear hww8
  replace rA := rd1 rA bw8; replace rB := rd1 rB bw8; replace rF := rd1 rF bw8; replace rG := rd1 rG bw8
  have k8 := below_call k7 bw8
  refine (g3 _ _ Sw8 (ht.kept k8)).mono ?_
  rintro e w9 ⟨v9, rfl, o9, b9⟩
  obtain ⟨AP, cP, rfl, rP, _, _⟩ := own_reads o9
  replace rA := rd1 rA b9; replace rB := rd1 rB b9; replace rF := rd1 rF b9; replace rG := rd1 rG b9
  have k9 := below_call k8 b9
  clear o9 b9 bw8 Sw8 g3
  -- counted and compared
  go_wp2_with fail
  refine (counts_any AF _ cF F _ rF hf1 K1.out).mono ?_
  rintro e wa ⟨rfl, ba⟩
  replace rA := rd1 rA ba; replace rB := rd1 rB ba; replace rF := rd1 rF ba; replace rG := rd1 rG ba; replace rP := rd1 rP ba
  have kA := below_call k9 ba
  clear ba
  go_wp2_with fail
  refine (counts_any AG _ cG F' _ rG hf2 K2.out).mono ?_
  rintro e wb ⟨rfl, bb⟩
  rw [HC.out]
  replace rA := rd1 rA bb; replace rB := rd1 rB bb; replace rF := rd1 rF bb; replace rP := rd1 rP bb
  have kB := below_call kA bb
  clear bb rG
  go_wp2_with fail
  refine (samePar_any AF AP _ cF cP F _ rF rP (by omega)).mono ?_
  rintro e wc ⟨rfl, bc⟩
  replace rA := rd1 rA bc; replace rB := rd1 rB bc; replace rF := rd1 rF bc
  have kC := below_call kB bc
  clear bc rP
  -- an octave higher
  go_wp2_with fail
  refine (g4 A1 _ c1 _ rA (by have := LN.out; omega)).mono ?_
  rintro e wd ⟨A3, c3, rfl, o3, bd⟩
  replace rA := rd1 rA bd; replace rB := rd1 rB bd; replace rF := rd1 rF bd
  have rU := o3.2.1
  have kD := below_call kC bd
  clear bd o3 g4
  go_wp2_with fail
  refine (g5 A2 _ c2 _ rB (by have := LN.out; omega)).mono ?_
  rintro e we ⟨A4, c4, rfl, o4, be⟩
  replace rA := rd1 rA be; replace rB := rd1 rB be; replace rF := rd1 rF be; replace rU := rd1 rU be
  have rO := o4.2.1
  have kE := below_call kD be
  clear be o4 g5
  go_wp2_with fail
  obtain ⟨wf, hwf, Sf, bf⟩ := set2 (c1 := c3) (c2 := c4) rU rO (by have := LN.out; omega) (by have := LN.out; omega)
  rw [← hwf]
  replace rA := rd1 rA bf; replace rB := rd1 rB bf; replace rF := rd1 rF bf
  have kF := below_call kE bf
  refine (has_any _ AF 2 2 _ cF _ F _ Sf (by omega) rF F4.out (ht.kept kF)).mono ?_
  rintro e wg ⟨rfl, bg⟩
  replace rA := rd1 rA bg; replace rB := rd1 rB bg; replace rF := rd1 rF bg
  have kG := below_call kF bg
  clear hwf Sf bf bg rU rO F4
  -- the ends
  go_wp2_with fail
  refine (g6 A1 _ c1 _ rA (by have := LN.out; omega)).mono ?_
  rintro e wh ⟨rfl, bh⟩
  replace rA := rd1 rA bh; replace rB := rd1 rB bh; replace rF := rd1 rF bh
  have kH := below_call kG bh
  clear bh g6
  have sA := rA; have sB := rB; have sF := rF
  go_wp2_with fail
  obtain ⟨wi, hwi⟩ : ∃ x, x = wh.alloc (.cells #[.int .i64 a0, .int .i64 a0'] 66) := ⟨_, rfl⟩
  have bi : Below wh.heap.size wh wi := by rw [hwi]; exact below_alloc (Below.refl _ _) _
  have TA : Blk wi wh.heap.size 66 #[.int .i64 a0, .int .i64 a0'] := by rw [hwi]; exact Blk.new _ _ _
  rw [← hwi]
  replace rA := rd1 rA bi; replace rB := rd1 rB bi; replace rF := rd1 rF bi
  have kI := below_call kH bi
  have zI := TA.lt
  have m1 := bi
  clear bi hwi
  refine (g7 A2 _ c2 _ rB (by have := LN.out; omega)).mono ?_
  rintro e wj ⟨rfl, bj⟩
  replace rA := rd1 rA bj; replace rB := rd1 rB bj; replace rF := rd1 rF bj
  have TAj := TA.kept bj
  have kJ := below_call kI bj
  have zj := bj.size
  have m2 := below_call m1 bj
  clear bj TA g7 rA rB rF m1
  by_cases hlt : a0 * b0' < b0 * a0'
  · obtain rfl : en = (b0, b0') := by have := HE.out; rw [if_pos hlt] at this; exact this.symm
    have cc0 := TAj.cell 0
    have cc1 := TAj.cell 1
    have cf := TAj.frozen
    have lj := TAj.lt
    have zH := kH.size
    have lj2 : wh.heap.size < wj.heap.size + 1 := by omega
    have nlt : wh.heap.size ≠ wj.heap.size := by omega
    by_cases hz : b0 = 0
    · skip
      have hF := HZ.out hz
      subst hF
      have hzt : (b0 == 0) = true := by simp [hz]
      clear hz HZ HR HE
      go_wp2_with fail
      go_ret
      exact ⟨rfl, by repeat (first | with_reducible exact Below.refl _ _ | with_reducible assumption | with_reducible refine below_drewN ?_ _ | with_reducible refine Below.drew ?_ | with_reducible refine below_alloc ?_ _ | (with_reducible refine Below.setCell ?_ ?_ _; rotate_left; ((try simp only); omega)))⟩
    · skip
      have HF3 := Lib.hid (HR.out hz)
      have hzf : (b0 == 0) = false := by simp [hz]
      clear hz HZ HR HE
      go_wp2_with fail
      obtain ⟨wk, hwk⟩ : ∃ z, z = ((wj.setCell ⟨wh.heap.size, 0, none⟩ (.int .i64 b0)).setCell ⟨wh.heap.size, 1, none⟩ (.int .i64 b0')).alloc (.cells #[.int .i64 b0, .int .i64 b0'] 66) := ⟨_, rfl⟩
      have TK : Blk wk wh.heap.size 66 #[.int .i64 b0, .int .i64 b0'] := by rw [hwk]; exact ((TAj.set_ 0 (.int .i64 b0)).set_ 1 (.int .i64 b0')).alloc _
      have m3 : Below wh.heap.size wh wk := by rw [hwk]; repeat (first | with_reducible exact Below.refl _ _ | with_reducible assumption | with_reducible refine below_drewN ?_ _ | with_reducible refine Below.drew ?_ | with_reducible refine below_alloc ?_ _ | (with_reducible refine Below.setCell ?_ ?_ _; rotate_left; ((try simp only); omega)))
      rw [← hwk]
      clear hwk m2 lj lj2 nlt cc0 cc1 cf TAj
      have kK := below_call kH m3
      have rA := rd1 sA m3
      have rB := rd1 sB m3
      have rF := rd1 sF m3
      clear sA sB sF m3
      have cc0 := TK.cell 0
      have cc1 := TK.cell 1
      have lK := TK.lt
      refine wp_region_calm_tail 2 (by kernel_rfl) (by kernel_rfl) ?_
      simp only [List.take_succ_cons, List.take_zero, List.drop_succ_cons, List.drop_zero]
      repeat (go_big_quiet_step ((go_at_call 38; exact calm_call (zero_any _))))
      refine wpQuiet_nil ?_
      intro wl bl
      replace rA := rd1 rA bl; replace rB := rd1 rB bl; replace rF := rd1 rF bl
      have kL := below_call kK bl
      clear bl TK cc0 cc1 lK
      go_wp2_with fail
      obtain ⟨wm, hwm⟩ : ∃ z, z = wl.alloc (.cells #[.int .i64 0, .int .i64 1, .int .i64 b0, .int .i64 b0', .int .i64 0, .int .i64 0, .int .i64 0, .bool true, .int .i64 0, .int .i64 0] 70) := ⟨_, rfl⟩
      have bm : Below wl.heap.size wl wm := by rw [hwm]; exact below_alloc (Below.refl _ _) _
      have rR : Reads wm wm.heap.size 10 (some ⟨wl.heap.size, 0, none⟩) 1 (csE [restV (b0, b0')]) := by rw [hwm]; exact (Reads.newAt _ _ _ 1 10 _ rfl rfl).more (by simp)
      have zM : wm.heap.size = wl.heap.size + 1 := by rw [hwm]; simp
      rw [← hwm, ← zM]
      clear zM
      replace rA := rd1 rA bm; replace rB := rd1 rB bm; replace rF := rd1 rF bm
      have kM := below_call kL bm
      clear bm hwm
      obtain ⟨wn, hwn, Sn, bn⟩ := set3 (c1 := c1) (c2 := c2) (c3 := 1) rA rB rR (by have := LN.out; omega) (by have := LN.out; omega) (by omega)
      rw [← hwn]
      replace rF := rd1 rF bn
      have kN := below_call kM bn
      refine (has_any _ AF 3 3 _ cF _ F _ Sn (by omega) rF HF3.out (ht.kept kN)).mono ?_
      rintro e wo ⟨rfl, bo⟩
      go_wp2
      go_ret
      exact ⟨rfl, below_call kN bo⟩
  · obtain rfl : en = (a0, a0') := by have := HE.out; rw [if_neg hlt] at this; exact this.symm
    have cc0 := TAj.cell 0
    have cc1 := TAj.cell 1
    have cf := TAj.frozen
    have lj := TAj.lt
    have zH := kH.size
    have lj2 : wh.heap.size < wj.heap.size + 1 := by omega
    have nlt : wh.heap.size ≠ wj.heap.size := by omega
    by_cases hz : a0 = 0
    · skip
      have hF := HZ.out hz
      subst hF
      have hzt : (a0 == 0) = true := by simp [hz]
      clear hz HZ HR HE
      go_wp2_with fail
      go_ret
      exact ⟨rfl, by repeat (first | with_reducible exact Below.refl _ _ | with_reducible assumption | with_reducible refine below_drewN ?_ _ | with_reducible refine Below.drew ?_ | with_reducible refine below_alloc ?_ _ | (with_reducible refine Below.setCell ?_ ?_ _; rotate_left; ((try simp only); omega)))⟩
    · skip
      have HF3 := Lib.hid (HR.out hz)
      have hzf : (a0 == 0) = false := by simp [hz]
      clear hz HZ HR HE
      go_wp2_with fail
      obtain ⟨wk, hwk⟩ : ∃ z, z = wj.alloc (.cells #[.int .i64 b0, .int .i64 b0'] 66) := ⟨_, rfl⟩
      have TK : Blk wk wh.heap.size 66 #[.int .i64 a0, .int .i64 a0'] := by rw [hwk]; exact TAj.alloc _
      have m3 : Below wh.heap.size wh wk := by rw [hwk]; repeat (first | with_reducible exact Below.refl _ _ | with_reducible assumption | with_reducible refine below_drewN ?_ _ | with_reducible refine Below.drew ?_ | with_reducible refine below_alloc ?_ _ | (with_reducible refine Below.setCell ?_ ?_ _; rotate_left; ((try simp only); omega)))
      rw [← hwk]
      clear hwk m2 lj lj2 nlt cc0 cc1 cf TAj
      have kK := below_call kH m3
      have rA := rd1 sA m3
      have rB := rd1 sB m3
      have rF := rd1 sF m3
      clear sA sB sF m3
      have cc0 := TK.cell 0
      have cc1 := TK.cell 1
      have lK := TK.lt
      refine wp_region_calm_tail 2 (by kernel_rfl) (by kernel_rfl) ?_
      simp only [List.take_succ_cons, List.take_zero, List.drop_succ_cons, List.drop_zero]
      repeat (go_big_quiet_step ((go_at_call 38; exact calm_call (zero_any _))))
      refine wpQuiet_nil ?_
      intro wl bl
      replace rA := rd1 rA bl; replace rB := rd1 rB bl; replace rF := rd1 rF bl
      have kL := below_call kK bl
      clear bl TK cc0 cc1 lK
      go_wp2_with fail
      obtain ⟨wm, hwm⟩ : ∃ z, z = wl.alloc (.cells #[.int .i64 0, .int .i64 1, .int .i64 a0, .int .i64 a0', .int .i64 0, .int .i64 0, .int .i64 0, .bool true, .int .i64 0, .int .i64 0] 70) := ⟨_, rfl⟩
      have bm : Below wl.heap.size wl wm := by rw [hwm]; exact below_alloc (Below.refl _ _) _
      have rR : Reads wm wm.heap.size 10 (some ⟨wl.heap.size, 0, none⟩) 1 (csE [restV (a0, a0')]) := by rw [hwm]; exact (Reads.newAt _ _ _ 1 10 _ rfl rfl).more (by simp)
      have zM : wm.heap.size = wl.heap.size + 1 := by rw [hwm]; simp
      rw [← hwm, ← zM]
      clear zM
      replace rA := rd1 rA bm; replace rB := rd1 rB bm; replace rF := rd1 rF bm
      have kM := below_call kL bm
      clear bm hwm
      obtain ⟨wn, hwn, Sn, bn⟩ := set3 (c1 := c1) (c2 := c2) (c3 := 1) rA rB rR (by have := LN.out; omega) (by have := LN.out; omega) (by omega)
      rw [← hwn]
      replace rF := rd1 rF bn
      have kN := below_call kM bn
      refine (has_any _ AF 3 3 _ cF _ F _ Sn (by omega) rF HF3.out (ht.kept kN)).mono ?_
      rintro e wo ⟨rfl, bo⟩
      go_wp2
      go_ret
      exact ⟨rfl, below_call kN bo⟩
def laids : List (String × DataW Unit) := Rows.parallelOrderRow.laid
theorem door_met (os : Os) (args : Array Value) : laidMetH Tryd.prog laids ((World.doorLaid Tryd.prog 80 os).forCall (fun _ _ => 0) ⟨#[], args, []⟩).memory :=
  laidMetH_of_parts3 (fuel := 8) (laidMet_of_run' 8 (by kernel_rfl) (by kernel_rfl)) (by kernel_rfl) (by kernel_rfl)
theorem tabs_of {W : World} (h : laidMetH Tryd.prog laids W) : Tabs W := by
  rw [MakeChecks.laidMetH_plain _ _ _ (by kernel_rfl)] at h
  exact tabs_of_list h (by kernel_rfl) (by kernel_rfl)
set_option maxRecDepth 100000 in
theorem lifted (os : Os) (started : os.Started) (H : Type) (enc : TypeId × Value → H) :
    ReturnsInHanded {} Tryd.checked os 8 .any (fun w args => (Rows.parallelOrderSpec.pre enc Tryd.prog Tryd.f8 [] false w args ∧ laidMetH Tryd.prog laids w) ∧ sizedMet enc Tryd.prog Tryd.f8 (OpenSpec.ofChange Rows.parallelOrderSpec) false w args) (Rows.parallelOrderSpec.post enc Tryd.prog Tryd.f8 false true false false) := by
  refine returnsInHanded_of_change_and (C := Tryd.checked) (X := fun w _ => laidMetH Tryd.prog laids w) (fun _ _ _ hh h => h.of_heap hh) own started (by kernel_rfl) Tryd.func8
    (ChangeSpec.witness_shaped (enc := enc) (C := Tryd.checked) (os := os) (X := fun w _ => laidMetH Tryd.prog laids w) false (World.doorLaid Tryd.prog 80 os) #[.slice none 0 0, .slice none 0 0] 8 rfl (World.shaped_of_RefB (by kernel_rfl) (by kernel_rfl)) (by kernel_rfl) (by kernel_rfl) (by kernel_rfl) (door_met os _)) ?_
  intro W base args ds gs before hval0 hW _ _ hL _
  have hval : ∀ (j : Nat) t v, Tryd.f8.params[j]? = some t → args[j]? = some v → Value.okWide Tryd.prog W .any base t v := hval0
  have hW' := hW
  obtain ⟨p, q, hA0, hV, rfl, hfz, hnd⟩ := hW
  have hA : DataW.TrodAll enc Tryd.prog W 0 (fun _ => true) true Tryd.f8.params.toList args.toList ds p := hA0
  rw [Tryd.params8] at hA hval
  obtain ⟨v0, vs0, d0, ds0, p0, q0, hargs, rfl, rfl, h0, r0⟩ := trodAll_cons hA
  obtain ⟨v1, vs1, d1, ds1, p1, q1, rfl, rfl, rfl, h1, r1⟩ := trodAll_cons r0
  obtain ⟨rfl, rfl, rfl⟩ := trodAll_nil r1
  obtain rfl : args = #[v0, v1] := by cases args; simp_all
  obtain ⟨rfl, rfl⟩ := trodVars_none hV
  have k0 := h0
  have lt0 : ∀ x ∈ p0, x.block < W.heap.size := by obtain ⟨m, hm⟩ := k0; exact DataW.trod_lt m _ _ _ hm
  obtain ⟨A0, n0, c0, l0, rfl, w0⟩ := arg_ints (hval 0 22 v0 rfl rfl) h0
  have k1 := h1
  have lt1 : ∀ x ∈ p1, x.block < W.heap.size := by obtain ⟨m, hm⟩ := k1; exact DataW.trod_lt m _ _ _ hm
  obtain ⟨A1, n1, c1, l1, rfl, w1⟩ := arg_ints (hval 1 22 v1 rfl rfl) h1
  clear hA0 hval0
  refine (walk c0 c1 ⟨w0.1, w0.2.1, w0.2.2⟩ ⟨w1.1, w1.2.1, w1.2.2⟩ (tabs_of hL)).mono fun e W' ⟨he, bel⟩ => ?_
  subst he
  exact ⟨_, rfl, _, _, _, [], _, [], hW', trodAll_mk1 (shut_bool Tryd.underlying4 _), (trodAll_cons_mk (Below.trod laidOut (by kernel_rfl) (of_decide_eq_true (by kernel_rfl)) k0 bel lt0) (trodAll_cons_mk (Below.trod laidOut (by kernel_rfl) (of_decide_eq_true (by kernel_rfl)) k1 bel lt1) trodAll_mk0)), rfl, bel.frame _, fun h => by cases h⟩

theorem over : Rows.ParallelOrderSaid :=
  OpenClaim.holds_of_wide 8 Tryd.f8 rfl rfl rfl rfl rfl rfl rfl ⟨rfl, rfl, rfl, rfl, rfl⟩ rfl rfl rfl rfl rfl (by kernel_rfl) Tryd.func8 (by kernel_rfl)
    (of_decide_eq_true (by kernel_rfl)) (by unfold Func.isWrapper; first | (rw [if_pos (by decide +kernel)]; kernel_rfl) | (rw [if_neg (by decide +kernel)]; exact ⟨rfl, rfl⟩))
    (fun os started H enc _ => lifted os started H enc)

/-- The card: the row, its variables tied to the program's text. -/
theorem proved : Rows.ParallelOrderCardSaid :=
  Claim7.holds_tied_plain_at .later [] [.data, .data] true Rows.parallelOrderCard.stood.harness Rows.parallelOrderCard.stood.looks
    over (fun _ h => by cases h) (by kernel_rfl) (fun _ h => by cases h) parallelOrder_row_tie rfl ⟨rfl, rfl⟩ (by kernel_rfl) rfl
    (fun f fn hf hfn => by
      obtain rfl : f = 8 := Option.some.inj ((show Tryd.prog.funcNamed Tryd.f8.name = some 8 by kernel_rfl).symm.trans hf) |>.symm
      obtain rfl : fn = Tryd.f8 := (Option.some.inj (Tryd.func8.symm.trans hfn)).symm
      exact ⟨by kernel_rfl, fun j t ht => by
        rw [Tryd.params8] at ht
        have hm : t ∈ Tryd.f8.params.toList := by rw [Tryd.params8]; simpa using Array.mem_of_getElem? ht
        have hall : (Tryd.f8.params.toList.all fun u => !Tryd.prog.wantsStandIn u) = true := by kernel_rfl
        exact (show Tryd.prog.wantsStandIn t = false by simpa using List.all_eq_true.1 hall t hm)⟩)
    (by kernel_rfl)

end Go.Proofs.YtigfcbofbcpiaaaDoor.parallelOrder
