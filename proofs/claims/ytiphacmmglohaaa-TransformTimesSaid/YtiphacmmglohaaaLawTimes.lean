/- TransformTimes holds: a voice of at most 60 events stretched, delayed and cut, or the errors, are the reference's; the voice is not changed. No condition. -/
import Derived.Test.YtiphacmmglohaaaRefCut
import Derived.Test.YtiphacmmglohaaaKitE
import Derived.Test.YtiphacmmglohaaaArgsE
import Derived.Test.YtiphacmmglohaaaDoorP
namespace Go.Proofs.Ytiphacmmglohaaa.transformTimes
open Go.ChangeShapes Go.WideShapes Go.ChangeAt Go.RowKit Go.Deep
set_option linter.unusedVariables false
set_option maxRecDepth 100000 in
set_option maxHeartbeats 1000000 in
theorem walk (A : Option Addr) (n c : Nat) (l : List Ev) (b b' t t' : Int) (w : World) (h : Reads w w.heap.size 10 A n (csE l)) (hn : n ≤ 9223372036854775807) :
    Calls Try.prog 3 #[.slice A n c, .agg #[.int .i64 b, .int .i64 b'], .agg #[.int .i64 t, .int .i64 t']] w fun e w' => e = .returned (.bool true) ∧ Below w.heap.size w w' := by
  have k0 : Below w.heap.size w ((w.alloc (.cells #[.int .i64 b, .int .i64 b'] 24)).alloc (.cells #[.int .i64 t, .int .i64 t'] 24)) := by repeat (first | exact Below.refl _ _ | refine below_drewN ?_ _ | refine Below.drew ?_ | refine below_alloc ?_ _ | (refine below_call ?_ (by assumption)) | (refine Below.setCell ?_ ?_ _; rotate_left; (simp; try omega)))
  by_cases hlong : 60 < n
  · have hlong' : (60 : Int) < (n : Int) := by omega
    clear hlong
    go_enter Try.func3, Try.ntmps3
    go_wp2_with (go_at_call 10; refine (awake_any _).mono ?_; rintro e w1 ⟨rfl, hb1⟩)
    go_ret
    exact ⟨rfl, below_call k0 hb1⟩
  · have hn60 : n ≤ 60 := by omega
    have hn60' : (n : Int) ≤ 60 := by omega
    clear hlong
    have hls := stretchS_len l (b, b') (by rw [h.evlen]; omega)
    have hld := delayS_len l (b, b') (by rw [h.evlen]; omega)
    have hlc := cutS_len l (b, b') (t, t') (by rw [h.evlen]; omega)
    replace h := rdk h k0
    have rB : Blk ((w.alloc (.cells #[.int .i64 b, .int .i64 b'] 24)).alloc (.cells #[.int .i64 t, .int .i64 t'] 24)) w.heap.size 24 #[.int .i64 b, .int .i64 b'] := (Blk.new _ _ _).alloc _
    have rT : Blk ((w.alloc (.cells #[.int .i64 b, .int .i64 b'] 24)).alloc (.cells #[.int .i64 t, .int .i64 t'] 24)) (w.heap.size + 1) 24 #[.int .i64 t, .int .i64 t'] := Blk.newAt _ _ _ _ (by simp)
    have cB := rB.cell; have zB := rB.lt
    have cT := rT.cell; have zT := rT.lt
    go_enter Try.func3, Try.ntmps3
    go_wp2_with fail
    refine (ownEvents_any A n c l _ _ h (Nat.le_refl _) (by omega)).mono ?_
    rintro e w1 ⟨A1, c1, rfl, ho, hb⟩
    replace k0 := below_call k0 hb
    replace h := rdk h hb
    replace rB := rB.kept hb; replace cB := rB.cell; replace zB := rB.lt
    replace rT := rT.kept hb; replace cT := rT.cell; replace zT := rT.lt
    have x := ho.2.1
    clear ho
    try clear hb
    go_wp2_with fail
    refine (stretch_any A1 n c1 l (b, b') w1.heap.size w1 x (Nat.le_refl _) (by omega)).mono ?_
    rintro e w2 ⟨A2, c2, rfl, ho, hb⟩
    replace k0 := below_call k0 hb
    replace h := rdk h hb
    replace x := rdk x hb
    replace rB := rB.kept hb; replace cB := rB.cell; replace zB := rB.lt
    replace rT := rT.kept hb; replace cT := rT.cell; replace zT := rT.lt
    have a := ho.2.1
    clear ho
    try clear hb
    go_wp2_with fail
    refine (refStretchE_any A n c l (b, b') w2.heap.size w2 h (Nat.le_refl _) (by omega)).mono ?_
    rintro e w3 ⟨A3, c3, rfl, ho, hb⟩
    replace k0 := below_call k0 hb
    replace h := rdk h hb
    replace x := rdk x hb
    replace a := rdk a hb
    replace rB := rB.kept hb; replace cB := rB.cell; replace zB := rB.lt
    replace rT := rT.kept hb; replace cT := rT.cell; replace zT := rT.lt
    have bb := ho.2.1
    clear ho
    try clear hb
    go_wp2_with fail
    refine (sameEvents_any A2 A3 _ c2 c3 (stretchS l (b, b')).1 w3.heap.size w3.heap.size w3 a (Nat.le_refl _) bb (Nat.le_refl _) (by omega)).mono ?_
    rintro e w4 ⟨rfl, hb⟩
    replace k0 := below_call k0 hb
    replace h := rdk h hb
    replace x := rdk x hb
    replace a := rdk a hb
    replace bb := rdk bb hb
    replace rB := rB.kept hb; replace cB := rB.cell; replace zB := rB.lt
    replace rT := rT.kept hb; replace cT := rT.cell; replace zT := rT.lt
    try clear hb
    clear a bb
    go_wp2_with fail
    refine (delay_any A1 n c1 l (b, b') w4.heap.size w4 x (Nat.le_refl _) (by omega)).mono ?_
    rintro e w5 ⟨A5, c5, rfl, ho, hb⟩
    replace k0 := below_call k0 hb
    replace h := rdk h hb
    replace x := rdk x hb
    replace rB := rB.kept hb; replace cB := rB.cell; replace zB := rB.lt
    replace rT := rT.kept hb; replace cT := rT.cell; replace zT := rT.lt
    have a := ho.2.1
    clear ho
    try clear hb
    go_wp2_with fail
    refine (refDelay_any A n c l (b, b') w5.heap.size w5 h (Nat.le_refl _) (by omega)).mono ?_
    rintro e w6 ⟨A6, c6, rfl, ho, hb⟩
    replace k0 := below_call k0 hb
    replace h := rdk h hb
    replace x := rdk x hb
    replace a := rdk a hb
    replace rB := rB.kept hb; replace cB := rB.cell; replace zB := rB.lt
    replace rT := rT.kept hb; replace cT := rT.cell; replace zT := rT.lt
    have bb := ho.2.1
    clear ho
    try clear hb
    go_wp2_with fail
    refine (cut_any A1 n c1 l (b, b') (t, t') w6.heap.size w6 x (Nat.le_refl _) (by omega)).mono ?_
    rintro e w7 ⟨A7, c7, rfl, ho, hb⟩
    replace k0 := below_call k0 hb
    replace h := rdk h hb
    replace x := rdk x hb
    replace a := rdk a hb
    replace bb := rdk bb hb
    replace rB := rB.kept hb; replace cB := rB.cell; replace zB := rB.lt
    replace rT := rT.kept hb; replace cT := rT.cell; replace zT := rT.lt
    have cc := ho.2.1
    clear ho
    try clear hb
    go_wp2_with fail
    refine (refCut_any A n c l (b, b') (t, t') w7.heap.size w7 h (Nat.le_refl _) (by omega)).mono ?_
    rintro e w8 ⟨A8, c8, rfl, ho, hb⟩
    replace k0 := below_call k0 hb
    replace h := rdk h hb
    replace x := rdk x hb
    replace a := rdk a hb
    replace bb := rdk bb hb
    replace cc := rdk cc hb
    have dd := ho.2.1
    clear ho
    try clear hb
    go_wp2_with fail
    refine (sameEvents_any A5 A6 _ c5 c6 (delayS l (b, b')).1 w8.heap.size w8.heap.size w8 a (Nat.le_refl _) bb (Nat.le_refl _) (by omega)).mono ?_
    rintro e w9 ⟨rfl, hb⟩
    replace k0 := below_call k0 hb
    replace h := rdk h hb
    replace x := rdk x hb
    replace a := rdk a hb
    replace bb := rdk bb hb
    replace cc := rdk cc hb
    replace dd := rdk dd hb
    try clear hb
    clear a bb
    go_wp2_with fail
    refine (sameEvents_any A7 A8 _ c7 c8 (cutS l (b, b') (t, t')).1 w9.heap.size w9.heap.size w9 cc (Nat.le_refl _) dd (Nat.le_refl _) (by omega)).mono ?_
    rintro e w10 ⟨rfl, hb⟩
    replace k0 := below_call k0 hb
    replace h := rdk h hb
    replace x := rdk x hb
    replace cc := rdk cc hb
    replace dd := rdk dd hb
    try clear hb
    clear cc dd
    go_wp2_with fail
    refine (sameEvents_any A1 A n c1 c l w10.heap.size w10.heap.size w10 x (Nat.le_refl _) h (Nat.le_refl _) (by omega)).mono ?_
    rintro e w11 ⟨rfl, hb⟩
    replace k0 := below_call k0 hb
    replace h := rdk h hb
    replace x := rdk x hb
    try clear hb
    clear x h
    go_wp2_with fail
    refine (awake_any _).mono ?_
    rintro e w12 ⟨rfl, hb⟩
    replace k0 := below_call k0 hb
    try clear hb
    go_wp2_with fail
    go_ret
    exact ⟨rfl, k0⟩

set_option maxRecDepth 100000 in
theorem lifted (os : Os) (started : os.Started) (H : Type) (enc : TypeId × Value → H) :
    ReturnsInHanded {} Try.checked os 3 .any (Rows.transformTimesSpec.pre6 enc Try.prog Try.f3 Rows.transformTimesRow.domain false) (Rows.transformTimesSpec.post enc Try.prog Try.f3 false true false false) := by
  refine returnsInHanded_of_change (C := Try.checked) own started (by kernel_rfl) Try.func3
    (ChangeSpec.witness6 (enc := enc) (C := Try.checked) false ⟨#[], #[.slice none 0 0, .agg #[.int .i64 0, .int .i64 0], .agg #[.int .i64 0, .int .i64 0]], []⟩ 8 (by kernel_rfl) (by kernel_rfl) (by kernel_rfl) (by kernel_rfl)) ?_
  intro W base args ds gs before hval0 hW hcnd _
  have hval : ∀ (j : Nat) t v, Try.f3.params[j]? = some t → args[j]? = some v → Value.okWide Try.prog W .any base t v := hval0
  have hW' := hW
  obtain ⟨p, q, hA0, hV, rfl, hfz, hnd⟩ := hW
  have hA : DataW.TrodAll enc Try.prog W 0 (fun _ => true) true Try.f3.params.toList args.toList ds p := hA0
  rw [Try.params3] at hA hval
  obtain ⟨v0, vs0, d0, ds0, p0, q0, hargs, rfl, rfl, h0, r0⟩ := trodAll_cons hA
  obtain ⟨v1, vs1, d1, ds1, p1, q1, rfl, rfl, rfl, h1, r1⟩ := trodAll_cons r0
  obtain ⟨v2, vs2, d2, ds2, p2, q2, rfl, rfl, rfl, h2, r2⟩ := trodAll_cons r1
  obtain ⟨rfl, rfl, rfl⟩ := trodAll_nil r2
  obtain rfl : args = #[v0, v1, v2] := by cases args; simp_all
  obtain ⟨rfl, rfl⟩ := trodVars_none hV
  have k0 := h0
  have lt0 : ∀ x ∈ p0, x.block < W.heap.size := by obtain ⟨m, hm⟩ := k0; exact DataW.trod_lt m _ _ _ hm
  obtain ⟨A0, n0, c0, l0, rfl, w0⟩ := arg_events (hval 0 22 v0 rfl rfl) h0
  have k1 := h1
  have lt1 : ∀ x ∈ p1, x.block < W.heap.size := by obtain ⟨m, hm⟩ := k1; exact DataW.trod_lt m _ _ _ hm
  obtain ⟨a1, b1, rfl, w1⟩ := arg_time (hval 1 24 v1 rfl rfl) h1
  have k2 := h2
  have lt2 : ∀ x ∈ p2, x.block < W.heap.size := by obtain ⟨m, hm⟩ := k2; exact DataW.trod_lt m _ _ _ hm
  obtain ⟨a2, b2, rfl, w2⟩ := arg_time (hval 2 24 v2 rfl rfl) h2
  clear hA0 hval0
  refine (walk A0 n0 c0 l0 a1 b1 a2 b2 W w0.1 w0.2).mono fun e W' ⟨he, bel⟩ => ?_
  subst he
  exact ⟨_, rfl, _, _, _, [], _, [], hW', trodAll_mk1 (shut_bool Try.underlying4 _), (trodAll_cons_mk (Below.trod laidOut (by kernel_rfl) (of_decide_eq_true (by kernel_rfl)) k0 bel lt0) (trodAll_cons_mk (Below.trod laidOut (by kernel_rfl) (of_decide_eq_true (by kernel_rfl)) k1 bel lt1) (trodAll_cons_mk (Below.trod laidOut (by kernel_rfl) (of_decide_eq_true (by kernel_rfl)) k2 bel lt2) trodAll_mk0))), rfl, bel.frame _, fun h => by cases h⟩

theorem over : Rows.TransformTimesSaid :=
  OpenClaim.holds_of_wide 3 Try.f3 rfl rfl rfl rfl rfl rfl rfl ⟨rfl, rfl, rfl, rfl, rfl⟩ rfl rfl rfl rfl rfl (by kernel_rfl) Try.func3 (by kernel_rfl)
    (of_decide_eq_true (by kernel_rfl)) (by unfold Func.isWrapper; first | (rw [if_pos (by decide +kernel)]; kernel_rfl) | (rw [if_neg (by decide +kernel)]; exact ⟨rfl, rfl⟩))
    (fun os started H enc _ => lifted os started H enc)

/-- The statement. -/
theorem proved : Rows.TransformTimesSaid := over

end Go.Proofs.Ytiphacmmglohaaa.transformTimes
