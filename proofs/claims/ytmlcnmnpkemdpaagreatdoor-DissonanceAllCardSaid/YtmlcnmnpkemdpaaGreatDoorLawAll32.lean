/- DissonanceAll holds: all dissonances of a setting, those that are untreated, and how many there are of each treatment, or which errors, are the reference's; the setting is not changed. No condition. -/
import Derived.Test.YtmlcnmnpkemdpaaGreatDoorTabDoor
import Derived.Test.YtmlcnmnpkemdpaaGreatDoorDsAwake
import Derived.Test.YtmlcnmnpkemdpaaGreatDoorDsRefAll
import Derived.Test.YtmlcnmnpkemdpaaGreatDoorDsOwn
namespace Go.Proofs.YtmlcnmnpkemdpaaGreatDoor.dissonanceAll
open Go.RowKit Go.ChangeShapes Go.WideShapes Go.ChangeAt
set_option linter.unusedVariables false
theorem light_facts {l : List (List Ev)} (h : lightE l = true) : l.length ≤ 9 ∧ ∀ v ∈ l, v.length ≤ 24 := by
  unfold lightE at h
  rw [Bool.and_eq_true, decide_eq_true_eq, List.all_eq_true] at h
  exact ⟨by omega, fun v hv => of_decide_eq_true (h.2 v hv)⟩
theorem count_len (l : List (List Ev)) : (countD l).1.length ≤ 4 := by
  unfold countD; split <;> simp
set_option maxRecDepth 100000 in
set_option maxHeartbeats 16000000 in
theorem walk (A : Option Addr) (n c : Nat) (l : List (List Ev)) (w : World) (h : ReadsV w w.heap.size A n l) (hn : n ≤ 9223372036854775807) (ht : Tabs w) :
    Calls Tryz.prog 3 #[.slice A n c] w fun e w' => e = .returned (.bool true) ∧ Below w.heap.size w w' := by
  have HL := Lib.hid h.len
  go_enter Tryz.func3, Tryz.ntmps3
  go_wp2_with fail
  refine (light32_any A n c l w h hn).mono ?_
  rintro e w1 ⟨rfl, k1⟩
  have r1 := rdV h k1
  clear h
  by_cases hli : lightE l = true
  · obtain ⟨hl9, hv24⟩ := light_facts hli
    have hn9 : n ≤ 9 := by have := HL.out; omega
    rw [hli]
    clear hli hl9
    go_wp2_with fail
    refine (own32_any A n c l w1 r1 (by omega) hv24).mono ?_
    rintro e w2 ⟨A2, c2, rfl, o2, b2⟩
    have k2 := below_call k1 b2
    have r2 := rdV r1 b2
    clear r1 b2 k1
    have q1 := fun W (hW : ReadsV W W.heap.size A2 n l) (hT : Tabs W) => diss_any A2 n c2 l W hW hn hT
    have q2 := fun W (hW : ReadsV W W.heap.size A n l) => rdiss_any A n c l W hW hn
    have q3 := fun W (hW : ReadsV W W.heap.size A2 n l) (hT : Tabs W) => untr_any A2 n c2 l W hW hn hT
    have q4 := fun W (hW : ReadsV W W.heap.size A n l) => runtr_any A n c l W hW hn
    have q5 := fun W (hW : ReadsV W W.heap.size A2 n l) (hT : Tabs W) => count_any A2 n c2 l W hW hn hT
    have q6 := fun W (hW : ReadsV W W.heap.size A n l) => rcount_any A n c l W hW hn
    have f1 : (dissE l).1.length ≤ 2100000 := dissE_len l
    have f2 : (untrE l).1.length ≤ 2100000 := Nat.le_trans (List.length_filter_le _ _) (dissE_len l)
    have f3 := count_len l
    obtain ⟨⟨F, Fe⟩, hF⟩ : ∃ x, x = dissE l := ⟨_, rfl⟩
    obtain ⟨⟨G, Ge⟩, hG⟩ : ∃ x, x = untrE l := ⟨_, rfl⟩
    obtain ⟨⟨C, Ce⟩, hC⟩ : ∃ x, x = countD l := ⟨_, rfl⟩
    simp only [← hF] at q1 q2 f1
    simp only [← hG] at q3 q4 f2
    simp only [← hC] at q5 q6 f3
    clear hF hG hC
    go_wp2_with fail
    refine (q1 w2 o2 (ht.kept k2)).mono ?_
    rintro e w3 ⟨B1, d1, rfl, g1, b3⟩
    have k3 := below_call k2 b3
    have r3 := rdV r2 b3
    have o3 := rdV o2 b3
    clear q1 r2 o2 b3 k2
    go_wp2_with fail
    refine (q2 w3 r3).mono ?_
    rintro e w4 ⟨B2, d2, rfl, g2, b4⟩
    have k4 := below_call k3 b4
    have r4 := rdV r3 b4
    have o4 := rdV o3 b4
    replace g1 := rd1 g1 b4
    clear q2 r3 o3 b4 k3
    go_wp2_with fail
    refine (q3 w4 o4 (ht.kept k4)).mono ?_
    rintro e w5 ⟨B3, d3, rfl, g3, b5⟩
    have k5 := below_call k4 b5
    have r5 := rdV r4 b5
    have o5 := rdV o4 b5
    replace g1 := rd1 g1 b5
    replace g2 := rd1 g2 b5
    clear q3 r4 o4 b5 k4
    go_wp2_with fail
    refine (q4 w5 r5).mono ?_
    rintro e w6 ⟨B4, d4, rfl, g4, b6⟩
    have k6 := below_call k5 b6
    have r6 := rdV r5 b6
    have o6 := rdV o5 b6
    replace g1 := rd1 g1 b6
    replace g2 := rd1 g2 b6
    replace g3 := rd1 g3 b6
    clear q4 r5 o5 b6 k5
    go_wp2_with fail
    refine (q5 w6 o6 (ht.kept k6)).mono ?_
    rintro e w7 ⟨B5, d5, rfl, g5, b7⟩
    have k7 := below_call k6 b7
    have r7 := rdV r6 b7
    have o7 := rdV o6 b7
    replace g1 := rd1 g1 b7
    replace g2 := rd1 g2 b7
    replace g3 := rd1 g3 b7
    replace g4 := rd1 g4 b7
    clear q5 r6 o6 b7 k6
    go_wp2_with fail
    refine (q6 w7 r7).mono ?_
    rintro e w8 ⟨B6, d6, rfl, g6, b8⟩
    have k8 := below_call k7 b8
    have r8 := rdV r7 b8
    have o8 := rdV o7 b8
    replace g1 := rd1 g1 b8
    replace g2 := rd1 g2 b8
    replace g3 := rd1 g3 b8
    replace g4 := rd1 g4 b8
    replace g5 := rd1 g5 b8
    clear q6 r7 o7 b8 k7
    simp only at g1 g2 g3 g4 g5 g6 ⊢
    go_wp2_with fail
    refine (sameDis_any B1 B2 F.length d1 d2 F w8 g1 g2 (by omega)).mono ?_
    rintro e w9 ⟨rfl, b9⟩
    have k9 := below_call k8 b9
    have r9 := rdV r8 b9
    have o9 := rdV o8 b9
    replace g3 := rd1 g3 b9
    replace g4 := rd1 g4 b9
    replace g5 := rd1 g5 b9
    replace g6 := rd1 g6 b9
    clear g1 g2 r8 o8 b9 k8
    go_wp2_with fail
    refine (sameDis_any B3 B4 G.length d3 d4 G w9 g3 g4 (by omega)).mono ?_
    rintro e wa ⟨rfl, ba⟩
    have ka := below_call k9 ba
    have ra := rdV r9 ba
    have oa := rdV o9 ba
    replace g5 := rd1 g5 ba
    replace g6 := rd1 g6 ba
    clear g3 g4 r9 o9 ba k9
    go_wp2_with fail
    refine (sameInts_any B5 B6 C.length d5 d6 C _ _ wa g5 (Nat.le_refl _) g6 (Nat.le_refl _) (by omega)).mono ?_
    rintro e wb ⟨rfl, bb⟩
    have kb := below_call ka bb
    have rb := rdV ra bb
    have ob := rdV oa bb
    clear g5 g6 ra oa bb ka
    go_wp2_with fail
    refine (sameVoices_any A2 A n c2 c l wb ob rb (by omega) hv24).mono ?_
    rintro e wc ⟨rfl, bc⟩
    have kc := below_call kb bc
    clear rb ob bc kb
    go_wp2_with fail
    refine (awake_any _ (ht.kept kc)).mono ?_
    rintro e wd ⟨rfl, bd⟩
    go_wp2
    refine ret_of (by simp [results, Tryz.results3, go_sem, *]; repeat' (first | rfl | apply And.intro)) rfl ⟨rfl, below_call kc bd⟩
  · have hlf : lightE l = false := by simpa using hli
    rw [hlf]
    clear hli hlf
    go_wp2_with fail
    refine (awake_any _ (ht.kept k1)).mono ?_
    rintro e w2 ⟨rfl, b2⟩
    go_wp2
    refine ret_of (by simp [results, Tryz.results3, go_sem, *]; repeat' (first | rfl | apply And.intro)) rfl ⟨rfl, below_call k1 b2⟩
def laids : List (String × DataW Unit) := Rows.dissonanceAllRow.laid
theorem door_met (os : Os) (args : Array Value) : laidMetH Tryz.prog laids ((World.doorLaid Tryz.prog 80 os).forCall (fun _ _ => 0) ⟨#[], args, []⟩).memory :=
  laidMetH_of_parts3 (fuel := 8) (laidMet_of_run' 8 (by kernel_rfl) (by kernel_rfl)) (by kernel_rfl) (by kernel_rfl)
theorem tabs_of {W : World} (h : laidMetH Tryz.prog laids W) : Tabs W := by
  rw [MakeChecks.laidMetH_plain _ _ _ (by kernel_rfl)] at h
  exact tabs_of_list h (by kernel_rfl) (by kernel_rfl)
set_option maxRecDepth 100000 in
theorem lifted (os : Os) (started : os.Started) (H : Type) (enc : TypeId × Value → H) :
    ReturnsInHanded {} Tryz.checked os 3 .any (fun w args => (Rows.dissonanceAllSpec.pre enc Tryz.prog Tryz.f3 [] false w args ∧ laidMetH Tryz.prog laids w) ∧ sizedMet enc Tryz.prog Tryz.f3 (OpenSpec.ofChange Rows.dissonanceAllSpec) false w args) (Rows.dissonanceAllSpec.post enc Tryz.prog Tryz.f3 false true false false) := by
  refine returnsInHanded_of_change_and (C := Tryz.checked) (X := fun w _ => laidMetH Tryz.prog laids w) (fun _ _ _ hh h => h.of_heap hh) own started (by kernel_rfl) Tryz.func3
    (ChangeSpec.witness_shaped (enc := enc) (C := Tryz.checked) (os := os) (X := fun w _ => laidMetH Tryz.prog laids w) false (World.doorLaid Tryz.prog 80 os) #[.slice none 0 0] 8 rfl (World.shaped_of_RefB (by kernel_rfl) (by kernel_rfl)) (by kernel_rfl) (by kernel_rfl) (by kernel_rfl) (door_met os _)) ?_
  intro W base args ds gs before hval0 hW _ _ hL _
  have hval : ∀ (j : Nat) t v, Tryz.f3.params[j]? = some t → args[j]? = some v → Value.okWide Tryz.prog W .any base t v := hval0
  have hW' := hW
  obtain ⟨p, q, hA0, hV, rfl, hfz, hnd⟩ := hW
  have hA : DataW.TrodAll enc Tryz.prog W 0 (fun _ => true) true Tryz.f3.params.toList args.toList ds p := hA0
  rw [Tryz.params3] at hA hval
  obtain ⟨v0, vs0, d0, ds0, p0, q0, hargs, rfl, rfl, h0, r0⟩ := trodAll_cons hA
  obtain ⟨rfl, rfl, rfl⟩ := trodAll_nil r0
  obtain rfl : args = #[v0] := by cases args; simp_all
  obtain ⟨rfl, rfl⟩ := trodVars_none hV
  have k0 := h0
  have lt0 : ∀ x ∈ p0, x.block < W.heap.size := by obtain ⟨m, hm⟩ := k0; exact DataW.trod_lt m _ _ _ hm
  obtain ⟨A0, n0, c0, l0, rfl, w0⟩ := arg_voices (hval 0 22 v0 rfl rfl) h0
  clear hA0 hval0
  refine (walk A0 n0 c0 l0 W w0.1 w0.2 (tabs_of hL)).mono fun e W' ⟨he, bel⟩ => ?_
  subst he
  exact ⟨_, rfl, _, _, _, [], _, [], hW', trodAll_mk1 (shut_bool Tryz.underlying4 _), (trodAll_cons_mk (Below.trod laidOut (by kernel_rfl) (of_decide_eq_true (by kernel_rfl)) k0 bel lt0) trodAll_mk0), rfl, bel.frame _, fun h => by cases h⟩

theorem over : Rows.DissonanceAllSaid :=
  OpenClaim.holds_of_wide 3 Tryz.f3 rfl rfl rfl rfl rfl rfl rfl ⟨rfl, rfl, rfl, rfl, rfl⟩ rfl rfl rfl rfl rfl (by kernel_rfl) Tryz.func3 (by kernel_rfl)
    (of_decide_eq_true (by kernel_rfl)) (by unfold Func.isWrapper; first | (rw [if_pos (by decide +kernel)]; kernel_rfl) | (rw [if_neg (by decide +kernel)]; exact ⟨rfl, rfl⟩))
    (fun os started H enc _ => lifted os started H enc)

/-- The card: the row, its variables tied to the program's text. -/
theorem proved : Rows.DissonanceAllCardSaid :=
  Claim7.holds_tied_plain_at .later [] [.data, .data] true Rows.dissonanceAllCard.stood.harness Rows.dissonanceAllCard.stood.looks
    over (fun _ h => by cases h) (by kernel_rfl) (fun _ h => by cases h) dissonanceAll_row_tie rfl ⟨rfl, rfl⟩ (by kernel_rfl) rfl
    (fun f fn hf hfn => by
      obtain rfl : f = 3 := Option.some.inj ((show Tryz.prog.funcNamed Tryz.f3.name = some 3 by kernel_rfl).symm.trans hf) |>.symm
      obtain rfl : fn = Tryz.f3 := (Option.some.inj (Tryz.func3.symm.trans hfn)).symm
      exact ⟨by kernel_rfl, fun j t ht => by
        rw [Tryz.params3] at ht
        have hm : t ∈ Tryz.f3.params.toList := by rw [Tryz.params3]; simpa using Array.mem_of_getElem? ht
        have hall : (Tryz.f3.params.toList.all fun u => !Tryz.prog.wantsStandIn u) = true := by kernel_rfl
        exact (show Tryz.prog.wantsStandIn t = false by simpa using List.all_eq_true.1 hall t hm)⟩)
    (by kernel_rfl)

end Go.Proofs.YtmlcnmnpkemdpaaGreatDoor.dissonanceAll
