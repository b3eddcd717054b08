/- DissonanceTreats holds: the chord of a slice and the treatment of the dissonance of two voices there, or which errors, are the reference's. No condition. -/
import Derived.Test.YtmlcnmnpkemdpaaDoorTabDoor
import Derived.Test.YtmlcnmnpkemdpaaDoorDsAwake
import Derived.Test.YtmlcnmnpkemdpaaDoorDsTreatR
namespace Go.Proofs.YtmlcnmnpkemdpaaDoor.dissonanceTreats
open Go.RowKit Go.ChangeShapes Go.WideShapes Go.ChangeAt
set_option linter.unusedVariables false
theorem chord_len (l : List (List Ev)) (m : Int) : (chordD l m).1.length ≤ 8 ∧ (chordD l m).2.1.length = (chordD l m).1.length := by
  unfold chordD
  split
  · exact ⟨by simp, rfl⟩
  · rename_i h
    split
    · exact ⟨by simp, rfl⟩
    · have hz := (slicesE_ok (l := l) (by omega)).1
      have h8 := (checkA_all hz).1
      have := who_le l (mAt (momS l) m.toNat)
      exact ⟨by simp only [List.length_map]; omega, by simp only [List.length_map]; exact what_len _ _⟩
set_option maxRecDepth 100000 in
set_option maxHeartbeats 16000000 in
theorem walk (A : Option Addr) (n c : Nat) (l : List (List Ev)) (m a b : Int) (w : World) (h : ReadsV w w.heap.size A n l) (hn : n ≤ 9223372036854775807) (ht : Tabs w) :
    Calls Tryd.prog 3 #[.slice A n c, .int .i64 m, .int .i64 a, .int .i64 b] w fun e w' => e = .returned (.bool true) ∧ Below w.heap.size w w' := by
  go_enter Tryd.func3, Tryd.ntmps3
  go_wp2_with fail
  refine (light32_any A n c l w h hn).mono ?_
  rintro e w1 ⟨rfl, k1⟩
  have r1 := rdV h k1
  clear h
  by_cases hli : lightE l = true
  · rw [hli]
    clear hli
    have q1 := chordn_any A n c l w1 r1 hn (ht.kept k1) m
    have q2 := fun W (hW : ReadsV W W.heap.size A n l) => rchordn_any A n c l W hW hn m
    have q3 := fun W (hW : ReadsV W W.heap.size A n l) (hT : Tabs W) => treatn_any A n c l W hW hn hT m a b
    have q4 := fun W (hW : ReadsV W W.heap.size A n l) => rtreatn_any A n c l W hW hn m a b
    obtain ⟨hc8, hcl⟩ := chord_len l m
    obtain ⟨⟨F, G, er⟩, hF⟩ : ∃ x, x = chordD l m := ⟨_, rfl⟩
    rw [← hF] at q1 hc8 hcl
    simp only [← hF] at q2
    simp only at hc8 hcl
    obtain ⟨⟨t, er2⟩, hT⟩ : ∃ x, x = treatsE l m a b := ⟨_, rfl⟩
    simp only [← hT] at q3 q4
    obtain ⟨N, hN⟩ : ∃ N, N = F.length := ⟨_, rfl⟩
    rw [← hN] at hc8 hcl
    have HN := Lib.hid hN
    have HG := Lib.hid hcl
    clear hF hT hN hcl
    go_wp2_with fail
    refine q1.mono ?_
    rintro e w2 ⟨A1, c1, A2, c2, rfl, f1, f2, b2⟩
    simp only [HG.out] at f2 ⊢
    simp only [← HN.out] at f1 ⊢
    have k2 := below_call k1 b2
    have r2 := rdV r1 b2
    clear q1 r1 b2 k1
    go_wp2_with fail
    refine (q2 w2 r2).mono ?_
    rintro e w3 ⟨A3, c3, A4, c4, rfl, f3, f4, b3⟩
    simp only [HG.out] at f4 ⊢
    simp only [← HN.out] at f3 ⊢
    have k3 := below_call k2 b3
    have r3 := rdV r2 b3
    replace f1 := rd1 f1 b3
    replace f2 := rd1 f2 b3
    clear q2 r2 b3 k2
    go_wp2_with fail
    refine (sameInts_any A1 A3 N c1 c3 F _ _ w3 f1 (Nat.le_refl _) f3 (Nat.le_refl _) (by omega)).mono ?_
    rintro e w4 ⟨rfl, b4⟩
    have k4 := below_call k3 b4
    have r4 := rdV r3 b4
    replace f2 := rd1 f2 b4
    replace f4 := rd1 f4 b4
    clear r3 b4 k3 f1 f3
    go_wp2_with fail
    go_loopg [15] N (fun gh x wr => ∃ j : Nat, j + gh = N ∧ x = .int .i64 (j : Int) ∧ Below w4.heap.size w4 wr)
    case atStart => exact ⟨0, by omega, by simp, Below.refl _ _⟩
    case round =>
      obtain ⟨j, hjg, rfl, kr⟩ := hrel
      have wk : IntKind.i64.wrap ((j : Int) + 1) = (j : Int) + 1 := IntWalk.i64_in _ (by omega)
      cases gk with
      | zero =>
        have d0 : ¬ ((j : Int) < (N : Int)) := by omega
        have k5 := below_call k4 kr
        have r5 := rdV r4 kr
        clear hjg f2 f4 kr k4 r4
        go_wp2_with fail
        refine (q3 wr r5 (ht.kept k5)).mono ?_
        rintro e w6 ⟨rfl, b6⟩
        have k6 := below_call k5 b6
        have r6 := rdV r5 b6
        clear k5 r5 b6
        go_wp2_with fail
        refine (q4 w6 r6).mono ?_
        rintro e w7 ⟨rfl, b7⟩
        have k7 := below_call k6 b7
        clear k6 b7 r6
        go_wp2_with fail
        refine (awake_any _ (ht.kept k7)).mono ?_
        rintro e w8 ⟨rfl, b8⟩
        go_wp2
        refine ret_of (by simp [results, Tryd.results3, go_sem, *]; repeat' (first | rfl | apply And.intro)) rfl ⟨rfl, below_call k7 b8⟩
      | succ g =>
        have hj : j < N := by omega
        have d0 : (j : Int) < (N : Int) := by omega
        obtain ⟨x, hx⟩ := get_some (l := G) (k := j) (by have := HG.out; omega)
        obtain ⟨b1, o1, hA, hb1, y0, y1, y2⟩ := f2.pt (Nat.le_refl _) kr hj hx
        obtain ⟨b2, o2, hA2, hb2, z0, z1, z2⟩ := f4.pt (Nat.le_refl _) kr hj hx
        subst hA hA2
        clear hx
        go_wp2_with fail
        refine wp_region_calm (by kernel_rfl) (by kernel_rfl) ?_
        repeat (go_big_quiet_step (fail))
        refine wpQuiet_nil ?_
        intro wd gd
        go_wp2
        go_roundg g
        case measure => omega
        case rel => exact ⟨j + 1, by omega, by go_num, below_call kr gd⟩
  · have hlf : lightE l = false := by simpa using hli
    rw [hlf]
    clear hli hlf
    go_wp2_with fail
    refine (awake_any _ (ht.kept k1)).mono ?_
    rintro e w2 ⟨rfl, b2⟩
    go_wp2
    refine ret_of (by simp [results, Tryd.results3, go_sem, *]; repeat' (first | rfl | apply And.intro)) rfl ⟨rfl, below_call k1 b2⟩
def laids : List (String × DataW Unit) := Rows.dissonanceTreatsRow.laid
theorem door_met (os : Os) (args : Array Value) : laidMetH Tryd.prog laids ((World.doorLaid Tryd.prog 80 os).forCall (fun _ _ => 0) ⟨#[], args, []⟩).memory :=
  laidMetH_of_parts3 (fuel := 8) (laidMet_of_run' 8 (by kernel_rfl) (by kernel_rfl)) (by kernel_rfl) (by kernel_rfl)
theorem tabs_of {W : World} (h : laidMetH Tryd.prog laids W) : Tabs W := by
  rw [MakeChecks.laidMetH_plain _ _ _ (by kernel_rfl)] at h
  exact tabs_of_list h (by kernel_rfl) (by kernel_rfl)
set_option maxRecDepth 100000 in
theorem lifted (os : Os) (started : os.Started) (H : Type) (enc : TypeId × Value → H) :
    ReturnsInHanded {} Tryd.checked os 3 .any (fun w args => (Rows.dissonanceTreatsSpec.pre enc Tryd.prog Tryd.f3 [] false w args ∧ laidMetH Tryd.prog laids w) ∧ sizedMet enc Tryd.prog Tryd.f3 (OpenSpec.ofChange Rows.dissonanceTreatsSpec) false w args) (Rows.dissonanceTreatsSpec.post enc Tryd.prog Tryd.f3 false true false false) := by
  refine returnsInHanded_of_change_and (C := Tryd.checked) (X := fun w _ => laidMetH Tryd.prog laids w) (fun _ _ _ hh h => h.of_heap hh) own started (by kernel_rfl) Tryd.func3
    (ChangeSpec.witness_shaped (enc := enc) (C := Tryd.checked) (os := os) (X := fun w _ => laidMetH Tryd.prog laids w) false (World.doorLaid Tryd.prog 80 os) #[.slice none 0 0, .int .i64 0, .int .i64 0, .int .i64 0] 8 rfl (World.shaped_of_RefB (by kernel_rfl) (by kernel_rfl)) (by kernel_rfl) (by kernel_rfl) (by kernel_rfl) (door_met os _)) ?_
  intro W base args ds gs before hval0 hW _ _ hL _
  have hval : ∀ (j : Nat) t v, Tryd.f3.params[j]? = some t → args[j]? = some v → Value.okWide Tryd.prog W .any base t v := hval0
  have hW' := hW
  obtain ⟨p, q, hA0, hV, rfl, hfz, hnd⟩ := hW
  have hA : DataW.TrodAll enc Tryd.prog W 0 (fun _ => true) true Tryd.f3.params.toList args.toList ds p := hA0
  rw [Tryd.params3] at hA hval
  obtain ⟨v0, vs0, d0, ds0, p0, q0, hargs, rfl, rfl, h0, r0⟩ := trodAll_cons hA
  obtain ⟨v1, vs1, d1, ds1, p1, q1, rfl, rfl, rfl, h1, r1⟩ := trodAll_cons r0
  obtain ⟨v2, vs2, d2, ds2, p2, q2, rfl, rfl, rfl, h2, r2⟩ := trodAll_cons r1
  obtain ⟨v3, vs3, d3, ds3, p3, q3, rfl, rfl, rfl, h3, r3⟩ := trodAll_cons r2
  obtain ⟨rfl, rfl, rfl⟩ := trodAll_nil r3
  obtain rfl : args = #[v0, v1, v2, v3] := by cases args; simp_all
  obtain ⟨rfl, rfl⟩ := trodVars_none hV
  have k0 := h0
  have lt0 : ∀ x ∈ p0, x.block < W.heap.size := by obtain ⟨m, hm⟩ := k0; exact DataW.trod_lt m _ _ _ hm
  obtain ⟨A0, n0, c0, l0, rfl, w0⟩ := arg_voices (hval 0 22 v0 rfl rfl) h0
  have k1 := h1
  have lt1 : ∀ x ∈ p1, x.block < W.heap.size := by obtain ⟨m, hm⟩ := k1; exact DataW.trod_lt m _ _ _ hm
  obtain ⟨a1, rfl, w1⟩ := arg_int (hval 1 3 v1 rfl rfl) h1
  have k2 := h2
  have lt2 : ∀ x ∈ p2, x.block < W.heap.size := by obtain ⟨m, hm⟩ := k2; exact DataW.trod_lt m _ _ _ hm
  obtain ⟨a2, rfl, w2⟩ := arg_int (hval 2 3 v2 rfl rfl) h2
  have k3 := h3
  have lt3 : ∀ x ∈ p3, x.block < W.heap.size := by obtain ⟨m, hm⟩ := k3; exact DataW.trod_lt m _ _ _ hm
  obtain ⟨a3, rfl, w3⟩ := arg_int (hval 3 3 v3 rfl rfl) h3
  clear hA0 hval0
  refine (walk A0 n0 c0 l0 a1 a2 a3 W w0.1 w0.2 (tabs_of hL)).mono fun e W' ⟨he, bel⟩ => ?_
  subst he
  exact ⟨_, rfl, _, _, _, [], _, [], hW', trodAll_mk1 (shut_bool Tryd.underlying4 _), (trodAll_cons_mk (Below.trod laidOut (by kernel_rfl) (of_decide_eq_true (by kernel_rfl)) k0 bel lt0) (trodAll_cons_mk (Below.trod laidOut (by kernel_rfl) (of_decide_eq_true (by kernel_rfl)) k1 bel lt1) (trodAll_cons_mk (Below.trod laidOut (by kernel_rfl) (of_decide_eq_true (by kernel_rfl)) k2 bel lt2) (trodAll_cons_mk (Below.trod laidOut (by kernel_rfl) (of_decide_eq_true (by kernel_rfl)) k3 bel lt3) trodAll_mk0)))), rfl, bel.frame _, fun h => by cases h⟩

theorem over : Rows.DissonanceTreatsSaid :=
  OpenClaim.holds_of_wide 3 Tryd.f3 rfl rfl rfl rfl rfl rfl rfl ⟨rfl, rfl, rfl, rfl, rfl⟩ rfl rfl rfl rfl rfl (by kernel_rfl) Tryd.func3 (by kernel_rfl)
    (of_decide_eq_true (by kernel_rfl)) (by unfold Func.isWrapper; first | (rw [if_pos (by decide +kernel)]; kernel_rfl) | (rw [if_neg (by decide +kernel)]; exact ⟨rfl, rfl⟩))
    (fun os started H enc _ => lifted os started H enc)

/-- The card: the row, its variables tied to the program's text. -/
theorem proved : Rows.DissonanceTreatsCardSaid :=
  Claim7.holds_tied_plain_at .later [] [.data, .data] true Rows.dissonanceTreatsCard.stood.harness Rows.dissonanceTreatsCard.stood.looks
    over (fun _ h => by cases h) (by kernel_rfl) (fun _ h => by cases h) dissonanceTreats_row_tie rfl ⟨rfl, rfl⟩ (by kernel_rfl) rfl
    (fun f fn hf hfn => by
      obtain rfl : f = 3 := Option.some.inj ((show Tryd.prog.funcNamed Tryd.f3.name = some 3 by kernel_rfl).symm.trans hf) |>.symm
      obtain rfl : fn = Tryd.f3 := (Option.some.inj (Tryd.func3.symm.trans hfn)).symm
      exact ⟨by kernel_rfl, fun j t ht => by
        rw [Tryd.params3] at ht
        have hm : t ∈ Tryd.f3.params.toList := by rw [Tryd.params3]; simpa using Array.mem_of_getElem? ht
        have hall : (Tryd.f3.params.toList.all fun u => !Tryd.prog.wantsStandIn u) = true := by kernel_rfl
        exact (show Tryd.prog.wantsStandIn t = false by simpa using List.all_eq_true.1 hall t hm)⟩)
    (by kernel_rfl)

end Go.Proofs.YtmlcnmnpkemdpaaDoor.dissonanceTreats
