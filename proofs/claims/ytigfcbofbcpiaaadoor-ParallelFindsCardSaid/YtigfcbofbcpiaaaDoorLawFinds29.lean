/- ParallelFinds holds: which forbidden motions a setting has, in all, of a pair, how many, and which is the first, or which errors, are the reference's; the setting is not changed. No condition. -/
import Derived.Test.YtigfcbofbcpiaaaDoorTabDoor
import Derived.Test.YtigfcbofbcpiaaaDoorPaLarge
import Derived.Test.YtigfcbofbcpiaaaDoorKitInts
namespace Go.Proofs.YtigfcbofbcpiaaaDoor.parallelFinds
open Go.RowKit Go.ChangeShapes Go.WideShapes Go.ChangeAt
set_option linter.unusedVariables false
theorem count_len (l : List (List Ev)) : (countE l).1.length ≤ 4 := by
  unfold countE; split <;> simp
set_option maxRecDepth 100000 in
set_option maxHeartbeats 16000000 in
theorem walk (A : Option Addr) (n c : Nat) (l : List (List Ev)) (a b : Int) (w : World) (h : ReadsV w w.heap.size A n l) (hn : n ≤ 9223372036854775807) (ht : Tabs w) :
    Calls Tryd.prog 6 #[.slice A n c, .int .i64 a, .int .i64 b] w fun e w' => e = .returned (.bool true) ∧ Below w.heap.size w w' := by
  have HL := Lib.hid h.len
  go_enter Tryd.func6, Tryd.ntmps6
  go_wp2_with fail
  refine (large_any A n c l _ w h (Nat.le_refl _) hn).mono ?_
  rintro e w1 ⟨rfl, k1⟩
  have r1 := rdV h k1
  clear h
  by_cases hli : largeB l = true
  · rw [hli]
    clear hli
    go_wp2_with fail
    refine (awake_any _ (ht.kept k1)).mono ?_
    rintro e w2 ⟨rfl, b2⟩
    go_wp2
    go_ret
    exact ⟨rfl, below_call k1 b2⟩
  · have hlf : largeB l = false := by simpa using hli
    obtain ⟨hl10, hv16⟩ := largeB_no hlf
    have hn10 : n ≤ 10 := by have := HL.out; omega
    rw [hlf]
    clear hli hl10 hlf
    go_wp2_with fail
    refine (own_any A n c l _ w1 r1 (Nat.le_refl _) hn10 (fun u hu => Nat.le_trans (hv16 u hu) (by omega))).mono ?_
    rintro e w2 ⟨A2, c2, rfl, o2, b2⟩
    have k2 := below_call k1 b2
    have r2 := rdV r1 b2
    clear r1 b2 hv16 k1
    -- all motions
    have q1 := find_any A2 n c2 l _ w2 o2 (Nat.le_refl _) hn (ht.kept k2)
    have q2 := fun W (hW : ReadsV W W.heap.size A n l) => rfind_any A n c l _ W hW (Nat.le_refl _) hn
    obtain ⟨⟨F, Fe⟩, hF⟩ : ∃ x, x = findE l := ⟨_, rfl⟩
    rw [← hF] at q1
    simp only [← hF] at q2
    clear hF
    go_wp2_with fail
    refine q1.mono ?_
    rintro e w3 ⟨v3, rfl, f3, b3⟩
    obtain ⟨A3, c3, rfl, f3, m3⟩ := own_reads f3
    have k3 := below_call k2 b3
    have r3 := rdV r2 b3
    have o3 := rdV o2 b3
    clear q1 r2 b3 o2 k2
    go_wp2_with fail
    refine (q2 _ r3).mono ?_
    rintro e w4 ⟨v4, rfl, f4, b4⟩
    obtain ⟨A4, c4, rfl, f4, m4⟩ := own_reads f4
    have k4 := below_call k3 b4
    have r4 := rdV r3 b4
    have o4 := rdV o3 b4
    replace f3 := rd1 f3 b4
    clear q2 r3 b4 o3 k3
    go_wp2_with fail
    refine (samePar_any _ _ _ _ _ F w4 f3 f4 (by unfold maxLen at *; omega)).mono ?_
    rintro e w5 ⟨rfl, b5⟩
    have k5 := below_call k4 b5
    have r5 := rdV r4 b5
    have o5 := rdV o4 b5
    clear f3 f4 r4 b5 o4 k4
    -- those of a pair
    have q1 := pair_any A2 n c2 l a b _ w5 o5 (Nat.le_refl _) hn (ht.kept k5)
    have q2 := fun W (hW : ReadsV W W.heap.size A n l) => rpair_any A n c l a b _ W hW (Nat.le_refl _) hn
    obtain ⟨⟨P, Pe⟩, hP⟩ : ∃ x, x = pairE l a b := ⟨_, rfl⟩
    rw [← hP] at q1
    simp only [← hP] at q2
    clear hP m3 m4
    go_wp2_with fail
    refine q1.mono ?_
    rintro e w6 ⟨v6, rfl, f6, b6⟩
    obtain ⟨A6, c6, rfl, f6, m6⟩ := own_reads f6
    have k6 := below_call k5 b6
    have r6 := rdV r5 b6
    have o6 := rdV o5 b6
    clear q1 r5 b6 o5 k5
    go_wp2_with fail
    refine (q2 _ r6).mono ?_
    rintro e w7 ⟨v7, rfl, f7, b7⟩
    obtain ⟨A7, c7, rfl, f7, m7⟩ := own_reads f7
    have k7 := below_call k6 b7
    have r7 := rdV r6 b7
    have o7 := rdV o6 b7
    replace f6 := rd1 f6 b7
    clear q2 r6 b7 o6 k6
    go_wp2_with fail
    refine (samePar_any _ _ _ _ _ P w7 f6 f7 (by unfold maxLen at *; omega)).mono ?_
    rintro e w8 ⟨rfl, b8⟩
    have k8 := below_call k7 b8
    have r8 := rdV r7 b8
    have o8 := rdV o7 b8
    clear f6 f7 r7 b8 o7 k7 m6 m7
    -- how many
    have q1 := count_any A2 n c2 l _ w8 o8 (Nat.le_refl _) hn (ht.kept k8)
    have q2 := fun W (hW : ReadsV W W.heap.size A n l) => rcount_any A n c l _ W hW (Nat.le_refl _) hn
    have hc4 := count_len l
    obtain ⟨⟨C, Ce⟩, hC⟩ : ∃ x, x = countE l := ⟨_, rfl⟩
    rw [← hC] at q1 hc4
    simp only [← hC] at q2
    clear hC
    go_wp2_with fail
    refine q1.mono ?_
    rintro e w9 ⟨⟨A9, c9, rfl, f9⟩, b9⟩
    have k9 := below_call k8 b9
    have r9 := rdV r8 b9
    have o9 := rdV o8 b9
    clear q1 r8 b9 o8 k8
    go_wp2_with fail
    refine (q2 _ r9).mono ?_
    rintro e wa ⟨⟨Aa, ca, rfl, fa⟩, ba⟩
    have ka := below_call k9 ba
    have ra := rdV r9 ba
    have oa := rdV o9 ba
    replace f9 := rd1 f9 ba
    clear q2 r9 ba o9 k9
    -- the first
    have q1 := firstM_any A2 n c2 l _ wa oa (Nat.le_refl _) hn (ht.kept ka)
    have q2 := fun W (hW : ReadsV W W.heap.size A n l) => rfirstM_any A n c l _ W hW (Nat.le_refl _) hn
    obtain ⟨⟨⟨p0, p1, p2, p3, p4⟩, pb, pe⟩, hp⟩ : ∃ x, x = firstP l := ⟨_, rfl⟩
    rw [← hp] at q1
    simp only [← hp] at q2
    clear hp
    go_wp2_with fail
    refine q1.mono ?_
    rintro e wb ⟨rfl, bb⟩
    have kb := below_call ka bb
    have rb := rdV ra bb
    have ob := rdV oa bb
    replace f9 := rd1 f9 bb
    replace fa := rd1 fa bb
    clear q1 ra bb oa ka
    go_wp2_with fail
    have T1 : Blk (wb.alloc (.cells #[.int .i64 p0, .int .i64 p1, .int .i64 p2, .int .i64 p3, .int .i64 p4] 41)) wb.heap.size 41 #[.int .i64 p0, .int .i64 p1, .int .i64 p2, .int .i64 p3, .int .i64 p4] := Blk.new _ _ _
    have x1 : Below wb.heap.size wb (wb.alloc (.cells #[.int .i64 p0, .int .i64 p1, .int .i64 p2, .int .i64 p3, .int .i64 p4] 41)) := below_alloc (Below.refl _ _) _
    refine (q2 _ (rdV rb x1)).mono ?_
    rintro e wc ⟨rfl, bc⟩
    have b1 := below_call x1 bc
    have kc := below_call kb b1
    have rc := rdV rb b1
    have oc := rdV ob b1
    have T2 := T1.kept bc
    replace f9 := rd1 f9 b1
    replace fa := rd1 fa b1
    clear T1 x1 bc b1 q2 rb ob kb
    have T3 := T2.alloc (.cells #[.int .i64 p0, .int .i64 p1, .int .i64 p2, .int .i64 p3, .int .i64 p4] 41)
    have T4 : Blk (wc.alloc (.cells #[.int .i64 p0, .int .i64 p1, .int .i64 p2, .int .i64 p3, .int .i64 p4] 41)) wc.heap.size 41 #[.int .i64 p0, .int .i64 p1, .int .i64 p2, .int .i64 p3, .int .i64 p4] := Blk.new _ _ _
    have x1 : Below wc.heap.size wc (wc.alloc (.cells #[.int .i64 p0, .int .i64 p1, .int .i64 p2, .int .i64 p3, .int .i64 p4] 41)) := below_alloc (Below.refl _ _) _
    clear T2
    go_wp2_with fail
    refine (sameInts_any A9 Aa _ c9 ca C _ _ _ (rd1 f9 x1) (Nat.le_refl _) (rd1 fa x1) (Nat.le_refl _) (by omega)).mono ?_
    rintro e wd ⟨rfl, bd⟩
    have b1 := below_call x1 bd
    have kd := below_call kc b1
    have rd := rdV rc b1
    have od := rdV oc b1
    have U1 := T3.kept bd
    have U2 := T4.kept bd
    clear T3 T4 x1 bd b1 rc oc kc f9 fa
    have y0 := U1.cell 0
    have y1 := U1.cell 1
    have y2 := U1.cell 2
    have y3 := U1.cell 3
    have y4 := U1.cell 4
    have z0 := U2.cell 0
    have z1 := U2.cell 1
    have z2 := U2.cell 2
    have z3 := U2.cell 3
    have z4 := U2.cell 4
    have yl := U1.lt
    have zl := U2.lt
    clear U1 U2
    go_wp2_with fail
    refine (same_any A2 A n c2 c l _ _ _ od (Nat.le_refl _) rd (Nat.le_refl _) (by omega)).mono ?_
    rintro e we ⟨rfl, be⟩
    have ke := below_call kd be
    clear od rd be kd y0 y1 y2 y3 y4 z0 z1 z2 z3 z4 yl zl
    go_wp2_with fail
    refine (awake_any _ (ht.kept ke)).mono ?_
    rintro e wf ⟨rfl, bf⟩
    go_wp2
    go_ret
    exact ⟨rfl, below_call ke bf⟩
def laids : List (String × DataW Unit) := Rows.parallelFindsRow.laid
theorem door_met (os : Os) (args : Array Value) : laidMetH Tryd.prog laids ((World.doorLaid Tryd.prog 80 os).forCall (fun _ _ => 0) ⟨#[], args, []⟩).memory :=
  laidMetH_of_parts3 (fuel := 8) (laidMet_of_run' 8 (by kernel_rfl) (by kernel_rfl)) (by kernel_rfl) (by kernel_rfl)
theorem tabs_of {W : World} (h : laidMetH Tryd.prog laids W) : Tabs W := by
  rw [MakeChecks.laidMetH_plain _ _ _ (by kernel_rfl)] at h
  exact tabs_of_list h (by kernel_rfl) (by kernel_rfl)
set_option maxRecDepth 100000 in
theorem lifted (os : Os) (started : os.Started) (H : Type) (enc : TypeId × Value → H) :
    ReturnsInHanded {} Tryd.checked os 6 .any (fun w args => (Rows.parallelFindsSpec.pre enc Tryd.prog Tryd.f6 [] false w args ∧ laidMetH Tryd.prog laids w) ∧ sizedMet enc Tryd.prog Tryd.f6 (OpenSpec.ofChange Rows.parallelFindsSpec) false w args) (Rows.parallelFindsSpec.post enc Tryd.prog Tryd.f6 false true false false) := by
  refine returnsInHanded_of_change_and (C := Tryd.checked) (X := fun w _ => laidMetH Tryd.prog laids w) (fun _ _ _ hh h => h.of_heap hh) own started (by kernel_rfl) Tryd.func6
    (ChangeSpec.witness_shaped (enc := enc) (C := Tryd.checked) (os := os) (X := fun w _ => laidMetH Tryd.prog laids w) false (World.doorLaid Tryd.prog 80 os) #[.slice none 0 0, .int .i64 0, .int .i64 0] 8 rfl (World.shaped_of_RefB (by kernel_rfl) (by kernel_rfl)) (by kernel_rfl) (by kernel_rfl) (by kernel_rfl) (door_met os _)) ?_
  intro W base args ds gs before hval0 hW _ _ hL _
  have hval : ∀ (j : Nat) t v, Tryd.f6.params[j]? = some t → args[j]? = some v → Value.okWide Tryd.prog W .any base t v := hval0
  have hW' := hW
  obtain ⟨p, q, hA0, hV, rfl, hfz, hnd⟩ := hW
  have hA : DataW.TrodAll enc Tryd.prog W 0 (fun _ => true) true Tryd.f6.params.toList args.toList ds p := hA0
  rw [Tryd.params6] at hA hval
  obtain ⟨v0, vs0, d0, ds0, p0, q0, hargs, rfl, rfl, h0, r0⟩ := trodAll_cons hA
  obtain ⟨v1, vs1, d1, ds1, p1, q1, rfl, rfl, rfl, h1, r1⟩ := trodAll_cons r0
  obtain ⟨v2, vs2, d2, ds2, p2, q2, rfl, rfl, rfl, h2, r2⟩ := trodAll_cons r1
  obtain ⟨rfl, rfl, rfl⟩ := trodAll_nil r2
  obtain rfl : args = #[v0, v1, v2] := by cases args; simp_all
  obtain ⟨rfl, rfl⟩ := trodVars_none hV
  have k0 := h0
  have lt0 : ∀ x ∈ p0, x.block < W.heap.size := by obtain ⟨m, hm⟩ := k0; exact DataW.trod_lt m _ _ _ hm
  obtain ⟨A0, n0, c0, l0, rfl, w0⟩ := arg_voices (hval 0 25 v0 rfl rfl) h0
  have k1 := h1
  have lt1 : ∀ x ∈ p1, x.block < W.heap.size := by obtain ⟨m, hm⟩ := k1; exact DataW.trod_lt m _ _ _ hm
  obtain ⟨a1, rfl, w1⟩ := arg_int (hval 1 3 v1 rfl rfl) h1
  have k2 := h2
  have lt2 : ∀ x ∈ p2, x.block < W.heap.size := by obtain ⟨m, hm⟩ := k2; exact DataW.trod_lt m _ _ _ hm
  obtain ⟨a2, rfl, w2⟩ := arg_int (hval 2 3 v2 rfl rfl) h2
  clear hA0 hval0
  refine (walk A0 n0 c0 l0 a1 a2 W w0.1 w0.2 (tabs_of hL)).mono fun e W' ⟨he, bel⟩ => ?_
  subst he
  exact ⟨_, rfl, _, _, _, [], _, [], hW', trodAll_mk1 (shut_bool Tryd.underlying4 _), (trodAll_cons_mk (Below.trod laidOut (by kernel_rfl) (of_decide_eq_true (by kernel_rfl)) k0 bel lt0) (trodAll_cons_mk (Below.trod laidOut (by kernel_rfl) (of_decide_eq_true (by kernel_rfl)) k1 bel lt1) (trodAll_cons_mk (Below.trod laidOut (by kernel_rfl) (of_decide_eq_true (by kernel_rfl)) k2 bel lt2) trodAll_mk0))), rfl, bel.frame _, fun h => by cases h⟩

theorem over : Rows.ParallelFindsSaid :=
  OpenClaim.holds_of_wide 6 Tryd.f6 rfl rfl rfl rfl rfl rfl rfl ⟨rfl, rfl, rfl, rfl, rfl⟩ rfl rfl rfl rfl rfl (by kernel_rfl) Tryd.func6 (by kernel_rfl)
    (of_decide_eq_true (by kernel_rfl)) (by unfold Func.isWrapper; first | (rw [if_pos (by decide +kernel)]; kernel_rfl) | (rw [if_neg (by decide +kernel)]; exact ⟨rfl, rfl⟩))
    (fun os started H enc _ => lifted os started H enc)

/-- The card: the row, its variables tied to the program's text. -/
theorem proved : Rows.ParallelFindsCardSaid :=
  Claim7.holds_tied_plain_at .later [] [.data, .data] true Rows.parallelFindsCard.stood.harness Rows.parallelFindsCard.stood.looks
    over (fun _ h => by cases h) (by kernel_rfl) (fun _ h => by cases h) parallelFinds_row_tie rfl ⟨rfl, rfl⟩ (by kernel_rfl) rfl
    (fun f fn hf hfn => by
      obtain rfl : f = 6 := Option.some.inj ((show Tryd.prog.funcNamed Tryd.f6.name = some 6 by kernel_rfl).symm.trans hf) |>.symm
      obtain rfl : fn = Tryd.f6 := (Option.some.inj (Tryd.func6.symm.trans hfn)).symm
      exact ⟨by kernel_rfl, fun j t ht => by
        rw [Tryd.params6] at ht
        have hm : t ∈ Tryd.f6.params.toList := by rw [Tryd.params6]; simpa using Array.mem_of_getElem? ht
        have hall : (Tryd.f6.params.toList.all fun u => !Tryd.prog.wantsStandIn u) = true := by kernel_rfl
        exact (show Tryd.prog.wantsStandIn t = false by simpa using List.all_eq_true.1 hall t hm)⟩)
    (by kernel_rfl)

end Go.Proofs.YtigfcbofbcpiaaaDoor.parallelFinds
