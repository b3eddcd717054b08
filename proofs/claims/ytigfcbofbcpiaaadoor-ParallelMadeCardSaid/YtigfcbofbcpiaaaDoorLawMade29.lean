/- ParallelMade holds: for every three lists of numbers, the forbidden motions of the setting made of them are the reference's. No condition. -/
import Derived.Test.YtigfcbofbcpiaaaDoorTabDoor
import Derived.Test.YtigfcbofbcpiaaaDoorPaLarge
import Derived.Test.YtigfcbofbcpiaaaDoorNums
namespace Go.Proofs.YtigfcbofbcpiaaaDoor.parallelMade
open Go.RowKit Go.ChangeShapes Go.WideShapes Go.ChangeAt
set_option linter.unusedVariables false
set_option maxRecDepth 100000 in
set_option maxHeartbeats 8000000 in
theorem walk {Aa Ab Ac : Option Addr} {na nb nc : Nat} {a b c : List Int} {w : World} (ca cb cc : Nat) (ha : Nums w Aa na a) (hb : Nums w Ab nb b) (hc : Nums w Ac nc c) (ht : Tabs w) :
    Calls Tryd.prog 3 #[.slice Aa na ca, .slice Ab nb cb, .slice Ac nc cc] w fun e w' => e = .returned (.bool true) ∧ Below w.heap.size w w' := by
  have q1 := fun W (h : Nums W Aa na a) => h.voice ca 12 (by omega)
  have q2 := fun W (h : Nums W Ab nb b) => h.voice cb 12 (by omega)
  have q3 := fun W (h : Nums W Ac nc c) => h.voice cc 12 (by omega)
  have l1 := (voice_q 12 (by omega) a).2.2
  have l2 := (voice_q 12 (by omega) b).2.2
  have l3 := (voice_q 12 (by omega) c).2.2
  generalize voiceS 12 a = v1 at q1 l1
  generalize voiceS 12 b = v2 at q2 l2
  generalize voiceS 12 c = v3 at q3 l3
  have L1 := Lib.hid l1; have L2 := Lib.hid l2; have L3 := Lib.hid l3
  clear l1 l2 l3
  go_enter Tryd.func3, Tryd.ntmps3
  go_wp2_with fail
  refine (q1 _ ha).mono ?_
  rintro e w1 ⟨A1, c1, rfl, o1, b1⟩
  replace hb := hb.kept b1; replace hc := hc.kept b1
  have r1 := o1.2.1
  clear ha o1 q1
  go_wp2_with fail
  refine (q2 _ hb).mono ?_
  rintro e w2 ⟨A2, c2, rfl, o2, b2⟩
  replace hc := hc.kept b2
  replace r1 := rd1 r1 b2
  have k2 := below_call b1 b2
  have r2 := o2.2.1
  clear hb o2 q2 b1 b2
  go_wp2_with fail
  refine (q3 _ hc).mono ?_
  rintro e w3 ⟨A3, c3, rfl, o3, b3⟩
  replace r1 := rd1 r1 b3; replace r2 := rd1 r2 b3
  have k3 := below_call k2 b3
  have r3 := o3.2.1
  clear hc o3 q3 b3 k2
  go_wp2_with fail
  obtain ⟨w4, hw4⟩ : ∃ x, x = w3.alloc (.cells #[.slice A1 v1.length c1, .slice A2 v2.length c2, .slice A3 v3.length c3] 23) := ⟨_, rfl⟩
  have b4 : Below w3.heap.size w3 w4 := by rw [hw4]; exact below_alloc (Below.refl _ _) _
  have R : Reads w4 w4.heap.size 1 (some ⟨w3.heap.size, 0, none⟩) 3 (csV [(A1, v1.length, c1), (A2, v2.length, c2), (A3, v3.length, c3)]) := by rw [hw4]; exact (Reads.newAt _ _ _ 3 1 _ rfl rfl).more (by simp)
  rw [← hw4]
  clear hw4
  have k4 := below_call k3 b4
  have S4 : ReadsV w4 w4.heap.size (some ⟨w3.heap.size, 0, none⟩) 3 [v1, v2, v3] := readsV_row R (show AllV _ _ _ _ from ⟨⟨rd1 r1 b4, by have := L1.out; simp only; omega⟩, ⟨rd1 r2 b4, by have := L2.out; simp only; omega⟩, ⟨rd1 r3 b4, by have := L3.out; simp only; omega⟩, True.intro⟩)
  clear R r1 r2 r3 b4 k3
  obtain ⟨l, hl⟩ : ∃ l, l = [v1, v2, v3] := ⟨_, rfl⟩
  rw [← hl] at S4
  clear hl
  have q1 := find_any _ 3 3 l _ w4 S4 (Nat.le_refl _) (by omega) (ht.kept k4)
  have q2 := fun W (hW : ReadsV W W.heap.size (some ⟨w3.heap.size, 0, none⟩) 3 l) => rfind_any _ 3 3 l _ W hW (Nat.le_refl _) (by omega)
  obtain ⟨⟨F, Fe⟩, hF⟩ : ∃ x, x = findE l := ⟨_, rfl⟩
  rw [← hF] at q1
  simp only [← hF] at q2
  clear hF
  refine q1.mono ?_
  rintro e w5 ⟨v5, rfl, f5, b5⟩
  obtain ⟨A5, c5, rfl, f5, m5⟩ := own_reads f5
  have k5 := below_call k4 b5
  have S5 := rdV S4 b5
  clear q1 S4 b5 k4
  go_wp2_with fail
  refine (q2 _ S5).mono ?_
  rintro e w6 ⟨v6, rfl, f6, b6⟩
  obtain ⟨A6, c6, rfl, f6, m6⟩ := own_reads f6
  have k6 := below_call k5 b6
  replace f5 := rd1 f5 b6
  clear q2 S5 b6 k5
  go_wp2_with fail
  refine (samePar_any _ _ _ _ _ F w6 f5 f6 (by unfold maxLen at *; omega)).mono ?_
  rintro e w7 ⟨rfl, b7⟩
  have k7 := below_call k6 b7
  clear f5 f6 m5 m6 b7 k6
  go_wp2_with fail
  refine (awake_any _ (ht.kept k7)).mono ?_
  rintro e w8 ⟨rfl, b8⟩
  go_wp2
  go_ret
  exact ⟨rfl, below_call k7 b8⟩
def laids : List (String × DataW Unit) := Rows.parallelMadeRow.laid
theorem door_met (os : Os) (args : Array Value) : laidMetH Tryd.prog laids ((World.doorLaid Tryd.prog 80 os).forCall (fun _ _ => 0) ⟨#[], args, []⟩).memory :=
  laidMetH_of_parts3 (fuel := 8) (laidMet_of_run' 8 (by kernel_rfl) (by kernel_rfl)) (by kernel_rfl) (by kernel_rfl)
theorem tabs_of {W : World} (h : laidMetH Tryd.prog laids W) : Tabs W := by
  rw [MakeChecks.laidMetH_plain _ _ _ (by kernel_rfl)] at h
  exact tabs_of_list h (by kernel_rfl) (by kernel_rfl)
set_option maxRecDepth 100000 in
theorem lifted (os : Os) (started : os.Started) (H : Type) (enc : TypeId × Value → H) :
    ReturnsInHanded {} Tryd.checked os 3 .any (fun w args => (Rows.parallelMadeSpec.pre enc Tryd.prog Tryd.f3 [] false w args ∧ laidMetH Tryd.prog laids w) ∧ sizedMet enc Tryd.prog Tryd.f3 (OpenSpec.ofChange Rows.parallelMadeSpec) false w args) (Rows.parallelMadeSpec.post enc Tryd.prog Tryd.f3 false true false false) := by
  refine returnsInHanded_of_change_and (C := Tryd.checked) (X := fun w _ => laidMetH Tryd.prog laids w) (fun _ _ _ hh h => h.of_heap hh) own started (by kernel_rfl) Tryd.func3
    (ChangeSpec.witness_shaped (enc := enc) (C := Tryd.checked) (os := os) (X := fun w _ => laidMetH Tryd.prog laids w) false (World.doorLaid Tryd.prog 80 os) #[.slice none 0 0, .slice none 0 0, .slice none 0 0] 8 rfl (World.shaped_of_RefB (by kernel_rfl) (by kernel_rfl)) (by kernel_rfl) (by kernel_rfl) (by kernel_rfl) (door_met os _)) ?_
  intro W base args ds gs before hval0 hW _ _ hL _
  have hval : ∀ (j : Nat) t v, Tryd.f3.params[j]? = some t → args[j]? = some v → Value.okWide Tryd.prog W .any base t v := hval0
  have hW' := hW
  obtain ⟨p, q, hA0, hV, rfl, hfz, hnd⟩ := hW
  have hA : DataW.TrodAll enc Tryd.prog W 0 (fun _ => true) true Tryd.f3.params.toList args.toList ds p := hA0
  rw [Tryd.params3] at hA hval
  obtain ⟨v0, vs0, d0, ds0, p0, q0, hargs, rfl, rfl, h0, r0⟩ := trodAll_cons hA
  obtain ⟨v1, vs1, d1, ds1, p1, q1, rfl, rfl, rfl, h1, r1⟩ := trodAll_cons r0
  obtain ⟨v2, vs2, d2, ds2, p2, q2, rfl, rfl, rfl, h2, r2⟩ := trodAll_cons r1
  obtain ⟨rfl, rfl, rfl⟩ := trodAll_nil r2
  obtain rfl : args = #[v0, v1, v2] := by cases args; simp_all
  obtain ⟨rfl, rfl⟩ := trodVars_none hV
  have k0 := h0
  have lt0 : ∀ x ∈ p0, x.block < W.heap.size := by obtain ⟨m, hm⟩ := k0; exact DataW.trod_lt m _ _ _ hm
  obtain ⟨A0, n0, c0, l0, rfl, w0⟩ := arg_ints (hval 0 22 v0 rfl rfl) h0
  have k1 := h1
  have lt1 : ∀ x ∈ p1, x.block < W.heap.size := by obtain ⟨m, hm⟩ := k1; exact DataW.trod_lt m _ _ _ hm
  obtain ⟨A1, n1, c1, l1, rfl, w1⟩ := arg_ints (hval 1 22 v1 rfl rfl) h1
  have k2 := h2
  have lt2 : ∀ x ∈ p2, x.block < W.heap.size := by obtain ⟨m, hm⟩ := k2; exact DataW.trod_lt m _ _ _ hm
  obtain ⟨A2, n2, c2, l2, rfl, w2⟩ := arg_ints (hval 2 22 v2 rfl rfl) h2
  clear hA0 hval0
  refine (walk c0 c1 c2 ⟨w0.1, w0.2.1, w0.2.2⟩ ⟨w1.1, w1.2.1, w1.2.2⟩ ⟨w2.1, w2.2.1, w2.2.2⟩ (tabs_of hL)).mono fun e W' ⟨he, bel⟩ => ?_
  subst he
  exact ⟨_, rfl, _, _, _, [], _, [], hW', trodAll_mk1 (shut_bool Tryd.underlying4 _), (trodAll_cons_mk (Below.trod laidOut (by kernel_rfl) (of_decide_eq_true (by kernel_rfl)) k0 bel lt0) (trodAll_cons_mk (Below.trod laidOut (by kernel_rfl) (of_decide_eq_true (by kernel_rfl)) k1 bel lt1) (trodAll_cons_mk (Below.trod laidOut (by kernel_rfl) (of_decide_eq_true (by kernel_rfl)) k2 bel lt2) trodAll_mk0))), rfl, bel.frame _, fun h => by cases h⟩

theorem over : Rows.ParallelMadeSaid :=
  OpenClaim.holds_of_wide 3 Tryd.f3 rfl rfl rfl rfl rfl rfl rfl ⟨rfl, rfl, rfl, rfl, rfl⟩ rfl rfl rfl rfl rfl (by kernel_rfl) Tryd.func3 (by kernel_rfl)
    (of_decide_eq_true (by kernel_rfl)) (by unfold Func.isWrapper; first | (rw [if_pos (by decide +kernel)]; kernel_rfl) | (rw [if_neg (by decide +kernel)]; exact ⟨rfl, rfl⟩))
    (fun os started H enc _ => lifted os started H enc)

/-- The card: the row, its variables tied to the program's text. -/
theorem proved : Rows.ParallelMadeCardSaid :=
  Claim7.holds_tied_plain_at .later [] [.data, .data] true Rows.parallelMadeCard.stood.harness Rows.parallelMadeCard.stood.looks
    over (fun _ h => by cases h) (by kernel_rfl) (fun _ h => by cases h) parallelMade_row_tie rfl ⟨rfl, rfl⟩ (by kernel_rfl) rfl
    (fun f fn hf hfn => by
      obtain rfl : f = 3 := Option.some.inj ((show Tryd.prog.funcNamed Tryd.f3.name = some 3 by kernel_rfl).symm.trans hf) |>.symm
      obtain rfl : fn = Tryd.f3 := (Option.some.inj (Tryd.func3.symm.trans hfn)).symm
      exact ⟨by kernel_rfl, fun j t ht => by
        rw [Tryd.params3] at ht
        have hm : t ∈ Tryd.f3.params.toList := by rw [Tryd.params3]; simpa using Array.mem_of_getElem? ht
        have hall : (Tryd.f3.params.toList.all fun u => !Tryd.prog.wantsStandIn u) = true := by kernel_rfl
        exact (show Tryd.prog.wantsStandIn t = false by simpa using List.all_eq_true.1 hall t hm)⟩)
    (by kernel_rfl)

end Go.Proofs.YtigfcbofbcpiaaaDoor.parallelMade
