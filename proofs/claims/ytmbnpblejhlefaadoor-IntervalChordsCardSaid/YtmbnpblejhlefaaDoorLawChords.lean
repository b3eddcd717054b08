/- IntervalChords: for every list of pitches and any two numbers: the program's bass, clashes and fitting pitches, and their errors, are the reference's; the chord is not changed. -/
import Derived.Test.YtmbnpblejhlefaaDoorChDoor
import Derived.Test.YtmbnpblejhlefaaDoorChRFits
import Derived.Test.YtmbnpblejhlefaaDoorChAwake
namespace Go.Proofs.YtmbnpblejhlefaaDoor.intervalChords
open Go.RowKit Go.ChangeShapes Go.WideShapes Go.ChangeAt
theorem clash_len (l : List (Int × Int × Int)) : (clashE l).1.length ≤ 100 := by
  unfold clashE
  split
  · simp
  · rename_i hz
    have hok := chordE_ok (show chordE l = 0 by omega)
    have a1 := allC_len l l.length
    have a3 : l.length * l.length ≤ 8 * 8 := Nat.mul_le_mul hok.1 hok.1
    simp only
    unfold fullC
    omega
theorem fits_len (l : List (Int × Int × Int)) (f t : Int) : (fitsE l f t).1.length ≤ 100 := by
  unfold fitsE
  split
  · simp
  · split
    · simp
    · have := fitsN_len l f (fitsK l f t)
      have h2 : fitsK l f t ≤ 63 := by unfold fitsK; split <;> omega
      simp only; omega
set_option maxRecDepth 100000 in
set_option maxHeartbeats 4000000 in
theorem walk (A : Option Addr) (n c : Nat) (l : List (Int × Int × Int)) (f t : Int) (W : World) (hA : Reads W W.heap.size 3 A n (csP l)) (hn : n ≤ 9223372036854775807) (ht : Tabs W) :
    Calls Tryd.prog 3 #[.slice A n c, .int .i64 f, .int .i64 t] W fun e w' => e = .returned (.bool true) ∧ Below W.heap.size W w' := by
  by_cases h20 : 20 < n
  · have d1 : decide ((20 : Int) < (n : Int)) = true := by simp; omega
    go_enter Tryd.func3, Tryd.ntmps3
    go_wp2_with fail
    refine (awake_any _ ht).mono ?_
    rintro e w1 ⟨rfl, hb1⟩
    go_wp2
    go_ret
    exact ⟨rfl, hb1⟩
  · have d1 : decide ((20 : Int) < (n : Int)) = false := by simp; omega
    obtain ⟨i0, hi0, hz0, hz1, hz2⟩ := info_parts pitch_info
    have L1 := clash_len l
    have L2 := fits_len l f t
    go_enter Tryd.func3, Tryd.ntmps3
    go_wp2_with (at_builtin; (refine wpList_append_any _ rfl (.tmp 24) (.tmp 25) 22 rfl W.heap.size 36 i0 _ 3 24 Tryd.underlying22 hi0 hz0 hz1 hz2 rfl (by omega) (.slice (some ⟨W.heap.size, 0, none⟩) 0 0) 0 [] rfl (World.ownsRow_lit W #[] 0 (Nat.le_refl _) (by simp [maxLen]) rfl) W.heap.size A n c (csP l) rfl (hA.below (Nat.le_refl _) (below_alloc (Below.refl _ _) _)) (one_csP l) (by simp only [maxLen]; omega) (by omega) (by simp) ?_); intro v1 w1 hown1 hg1 hat1)
    simp only [Nat.zero_add, List.nil_append] at hown1
    have k1 : Below W.heap.size W w1 := (below_alloc (Below.refl _ _) _).grown hg1 (by simp) (fun q hq => by simp [Value.ownBlock] at hq; omega)
    obtain ⟨A1, c1, e1, ho⟩ := own3_form hown1
    subst e1
    have h1 := ho.2.1
    clear hown1 hg1 hat1 ho
    go_wp2_with fail
    refine (Bass_any A1 n c1 l w1.heap.size w1 h1 (Nat.le_refl _) hn (ht.kept k1)).mono ?_
    rintro e w2 ⟨rfl, b2⟩
    have k2 := below_call k1 b2
    go_wp2_with fail
    refine (rBass_any A n c l W.heap.size w2 (hA.below (Nat.le_refl _) k2) k2.size hn).mono ?_
    rintro e w3 ⟨rfl, b3⟩
    have k3 := below_call k2 b3
    replace b3 := below_call b2 b3
    go_wp2_with fail
    refine (Clashes_any A1 n c1 l w1.heap.size w3 (h1.below (Nat.le_refl _) b3) b3.size hn (ht.kept k3)).mono ?_
    rintro e w4 ⟨A4, c4, rfl, h4, b4⟩
    have k4 := below_call k3 b4
    replace b4 := below_call b3 b4
    go_wp2_with fail
    refine (rClashes_any A n c l W.heap.size w4 (hA.below (Nat.le_refl _) k4) k4.size hn).mono ?_
    rintro e w5 ⟨A5, c5, rfl, h5, b5⟩
    have k5 := below_call k4 b5
    have c45 := b5
    replace b5 := below_call b4 b5
    go_wp2_with fail
    refine (Fits_any A1 n c1 l f t w1.heap.size w5 (h1.below (Nat.le_refl _) b5) b5.size hn (ht.kept k5)).mono ?_
    rintro e w6 ⟨A6, c6, rfl, h6, b6⟩
    have k6 := below_call k5 b6
    have c46 := below_call c45 b6
    have c56 := b6
    replace b6 := below_call b5 b6
    go_wp2_with fail
    refine (rFits_any A n c l f t W.heap.size w6 (hA.below (Nat.le_refl _) k6) k6.size hn).mono ?_
    rintro e w7 ⟨A7, c7, rfl, h7, b7⟩
    have k7 := below_call k6 b7
    have c47 := below_call c46 b7
    have c57 := below_call c56 b7
    have c67 := b7
    replace b7 := below_call b6 b7
    go_wp2_with fail
    refine (same_any A4 A5 _ c4 c5 _ w4.heap.size w5.heap.size w7 (h4.below (Nat.le_refl _) c47) c47.size (h5.below (Nat.le_refl _) c57) c57.size (by omega)).mono ?_
    rintro e w8 ⟨rfl, b8⟩
    go_wp2_with fail
    refine (samePitches_any A6 A7 _ c6 c7 _ w6.heap.size w7.heap.size w8 (h6.below (Nat.le_refl _) (below_call c67 b8)) (below_call c67 b8).size (h7.below (Nat.le_refl _) b8) b8.size (by omega)).mono ?_
    rintro e w9 ⟨rfl, b9⟩
    have c79 := below_call b8 b9
    go_wp2_with fail
    refine (samePitches_any A1 A n c1 c l w1.heap.size W.heap.size w9 (h1.below (Nat.le_refl _) (below_call b7 c79)) (below_call b7 c79).size (hA.below (Nat.le_refl _) (below_call k7 c79)) (below_call k7 c79).size hn).mono ?_
    rintro e w10 ⟨rfl, b10⟩
    have k10 := below_call (below_call k7 c79) b10
    go_wp2_with fail
    refine (awake_any w10 (ht.kept k10)).mono ?_
    rintro e w11 ⟨rfl, b11⟩
    go_wp2
    go_ret
    exact ⟨rfl, below_call k10 b11⟩
def laids : List (String × DataW Unit) := Rows.intervalChordsRow.laid
theorem door_met (os : Os) (args : Array Value) : laidMetH Tryd.prog laids ((World.doorLaid Tryd.prog 80 os).forCall (fun _ _ => 0) ⟨#[], args, []⟩).memory :=
  laidMetH_of_parts3 (fuel := 8) (laidMet_of_run' 8 (by kernel_rfl) (by kernel_rfl)) (by kernel_rfl) (by kernel_rfl)
theorem tabs_of {W : World} (h : laidMetH Tryd.prog laids W) : Tabs W := by
  rw [MakeChecks.laidMetH_plain _ _ _ (by kernel_rfl)] at h
  exact tabs_of_list h (by kernel_rfl) (by kernel_rfl) (by kernel_rfl)
set_option maxRecDepth 100000 in
theorem lifted (os : Os) (started : os.Started) (H : Type) (enc : TypeId × Value → H) :
    ReturnsInHanded {} Tryd.checked os 3 .any (fun w args => (Rows.intervalChordsSpec.pre enc Tryd.prog Tryd.f3 [] false w args ∧ laidMetH Tryd.prog laids w) ∧ sizedMet enc Tryd.prog Tryd.f3 (OpenSpec.ofChange Rows.intervalChordsSpec) false w args) (Rows.intervalChordsSpec.post enc Tryd.prog Tryd.f3 false true false false) := by
  refine returnsInHanded_of_change_and (C := Tryd.checked) (X := fun w _ => laidMetH Tryd.prog laids w) (fun _ _ _ hh h => h.of_heap hh) own started (by kernel_rfl) Tryd.func3
    (ChangeSpec.witness_shaped (enc := enc) (C := Tryd.checked) (os := os) (X := fun w _ => laidMetH Tryd.prog laids w) false (World.doorLaid Tryd.prog 80 os) #[.slice none 0 0, .int .i64 0, .int .i64 0] 8 rfl (World.shaped_of_RefB (by kernel_rfl) (by kernel_rfl)) (by kernel_rfl) (by kernel_rfl) (by kernel_rfl) (door_met os _)) ?_
  intro W base args ds gs before hval0 hW _ _ hL _
  have hval : ∀ (j : Nat) t v, Tryd.f3.params[j]? = some t → args[j]? = some v → Value.okWide Tryd.prog W .any base t v := hval0
  have hW' := hW
  obtain ⟨p, q, hA0, hV, rfl, hfz, hnd⟩ := hW
  have hA : DataW.TrodAll enc Tryd.prog W 0 (fun _ => true) true Tryd.f3.params.toList args.toList ds p := hA0
  rw [Tryd.params3] at hA hval
  obtain ⟨v0, vs0, d0, ds0, p0, q0, hargs, rfl, rfl, h0, r0⟩ := trodAll_cons hA
  obtain ⟨v1, vs1, d1, ds1, p1, q1, rfl, rfl, rfl, h1, r1⟩ := trodAll_cons r0
  obtain ⟨v2, vs2, d2, ds2, p2, q2, rfl, rfl, rfl, h2, r2⟩ := trodAll_cons r1
  obtain ⟨rfl, rfl, rfl⟩ := trodAll_nil r2
  obtain rfl : args = #[v0, v1, v2] := by cases args; simp_all
  obtain ⟨rfl, rfl⟩ := trodVars_none hV
  have k0 := h0
  have lt0 : ∀ x ∈ p0, x.block < W.heap.size := by obtain ⟨m, hm⟩ := k0; exact DataW.trod_lt m _ _ _ hm
  obtain ⟨A0, n0, c0, l0, rfl, w0⟩ := arg_pitches (hval 0 22 v0 rfl rfl) h0
  have k1 := h1
  have lt1 : ∀ x ∈ p1, x.block < W.heap.size := by obtain ⟨m, hm⟩ := k1; exact DataW.trod_lt m _ _ _ hm
  obtain ⟨a1, rfl, w1⟩ := arg_int (hval 1 3 v1 rfl rfl) h1
  have k2 := h2
  have lt2 : ∀ x ∈ p2, x.block < W.heap.size := by obtain ⟨m, hm⟩ := k2; exact DataW.trod_lt m _ _ _ hm
  obtain ⟨a2, rfl, w2⟩ := arg_int (hval 2 3 v2 rfl rfl) h2
  clear hA0 hval0
  refine (walk A0 n0 c0 l0 a1 a2 W w0.1 w0.2 (tabs_of hL)).mono fun e W' ⟨he, bel⟩ => ?_
  subst he
  exact ⟨_, rfl, _, _, _, [], _, [], hW', trodAll_mk1 (shut_bool Tryd.underlying4 _), (trodAll_cons_mk (Below.trod laidOut (by kernel_rfl) (of_decide_eq_true (by kernel_rfl)) k0 bel lt0) (trodAll_cons_mk (Below.trod laidOut (by kernel_rfl) (of_decide_eq_true (by kernel_rfl)) k1 bel lt1) (trodAll_cons_mk (Below.trod laidOut (by kernel_rfl) (of_decide_eq_true (by kernel_rfl)) k2 bel lt2) trodAll_mk0))), rfl, bel.frame _, fun h => by cases h⟩

theorem over : Rows.IntervalChordsSaid :=
  OpenClaim.holds_of_wide 3 Tryd.f3 rfl rfl rfl rfl rfl rfl rfl ⟨rfl, rfl, rfl, rfl, rfl⟩ rfl rfl rfl rfl rfl (by kernel_rfl) Tryd.func3 (by kernel_rfl)
    (of_decide_eq_true (by kernel_rfl)) (by unfold Func.isWrapper; first | (rw [if_pos (by decide +kernel)]; kernel_rfl) | (rw [if_neg (by decide +kernel)]; exact ⟨rfl, rfl⟩))
    (fun os started H enc _ => lifted os started H enc)

/-- The card: the row, its variables tied to the program's text. -/
theorem proved : Rows.IntervalChordsCardSaid :=
  Claim7.holds_tied_plain_at .later [] [.data, .data, .data, .data, .data, .data] true Rows.intervalChordsCard.stood.harness Rows.intervalChordsCard.stood.looks
    over (fun _ h => by cases h) (by kernel_rfl) (fun _ h => by cases h) intervalChords_row_tie rfl ⟨rfl, rfl⟩ (by kernel_rfl) rfl
    (fun f fn hf hfn => by
      obtain rfl : f = 3 := Option.some.inj ((show Tryd.prog.funcNamed Tryd.f3.name = some 3 by kernel_rfl).symm.trans hf) |>.symm
      obtain rfl : fn = Tryd.f3 := (Option.some.inj (Tryd.func3.symm.trans hfn)).symm
      exact ⟨by kernel_rfl, fun j t ht => by
        rw [Tryd.params3] at ht
        have hm : t ∈ Tryd.f3.params.toList := by rw [Tryd.params3]; simpa using Array.mem_of_getElem? ht
        have hall : (Tryd.f3.params.toList.all fun u => !Tryd.prog.wantsStandIn u) = true := by kernel_rfl
        exact (show Tryd.prog.wantsStandIn t = false by simpa using List.all_eq_true.1 hall t hm)⟩)
    (by kernel_rfl)

end Go.Proofs.YtmbnpblejhlefaaDoor.intervalChords
