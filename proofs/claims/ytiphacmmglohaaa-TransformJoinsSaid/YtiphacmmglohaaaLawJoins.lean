/- TransformJoins holds: two joined voices of at most 60 events, or the error, are the reference's; the voices are not changed. No condition. -/
import Derived.Test.YtiphacmmglohaaaKitE
import Derived.Test.YtiphacmmglohaaaArgsE
import Derived.Test.YtiphacmmglohaaaDoorP
namespace Go.Proofs.Ytiphacmmglohaaa.transformJoins
open Go.ChangeShapes Go.WideShapes Go.ChangeAt Go.RowKit Go.Deep
set_option linter.unusedVariables false
set_option maxRecDepth 100000 in
set_option maxHeartbeats 1000000 in
theorem walk (A A' : Option Addr) (n c n' c' : Nat) (l m : List Ev) (w : World) (h : Reads w w.heap.size 10 A n (csE l)) (hn : n ≤ 9223372036854775807) (h' : Reads w w.heap.size 10 A' n' (csE m)) (hn' : n' ≤ 9223372036854775807) :
    Calls Try.prog 4 #[.slice A n c, .slice A' n' c'] w fun e w' => e = .returned (.bool true) ∧ Below w.heap.size w w' := by
  by_cases hlong : 60 < n ∨ 60 < n'
  · have hlong' : (60 : Int) < (n : Int) ∨ (60 : Int) < (n' : Int) := by omega
    clear hlong
    go_enter Try.func4, Try.ntmps4
    go_wp2_with (go_at_call 10; refine (awake_any _).mono ?_; rintro e w1 ⟨rfl, hb1⟩)
    all_goals first | (exfalso; omega) | (go_ret; exact ⟨rfl, hb1⟩)
  · have hn60 : n ≤ 60 := by omega
    have hm60 : n' ≤ 60 := by omega
    have hn60' : (n : Int) ≤ 60 := by omega
    have hm60' : (n' : Int) ≤ 60 := by omega
    clear hlong
    have k0 := Below.refl w.heap.size w
    go_enter Try.func4, Try.ntmps4
    go_wp2_with fail
    refine (ownEvents_any A n c l w.heap.size w h (Nat.le_refl _) (by omega)).mono ?_
    rintro e w1 ⟨A1, c1, rfl, ho, hb⟩
    replace k0 := below_call k0 hb
    replace h := rdk h hb
    replace h' := rdk h' hb
    have x := ho.2.1
    clear ho
    try clear hb
    go_wp2_with fail
    refine (ownEvents_any A' n' c' m w1.heap.size w1 h' (Nat.le_refl _) (by omega)).mono ?_
    rintro e w2 ⟨A2, c2, rfl, ho, hb⟩
    replace k0 := below_call k0 hb
    replace h := rdk h hb
    replace h' := rdk h' hb
    replace x := rdk x hb
    have y := ho.2.1
    clear ho
    try clear hb
    go_wp2_with fail
    refine (join_any A1 A2 n c1 n' c2 l m w2.heap.size w2.heap.size w2 x (Nat.le_refl _) (by omega) y (Nat.le_refl _) (by omega)).mono ?_
    rintro e w3 ⟨A3, c3, rfl, a, hb⟩
    replace k0 := below_call k0 hb
    replace h := rdk h hb
    replace h' := rdk h' hb
    replace x := rdk x hb
    replace y := rdk y hb
    try clear hb
    go_wp2_with fail
    refine (refJoin_any A A' n c n' c' l m w3.heap.size w3.heap.size w3 h (Nat.le_refl _) (by omega) h' (Nat.le_refl _) (by omega)).mono ?_
    rintro e w4 ⟨A4, c4, rfl, b, hb⟩
    replace k0 := below_call k0 hb
    replace h := rdk h hb
    replace h' := rdk h' hb
    replace x := rdk x hb
    replace y := rdk y hb
    replace a := rdk a hb
    have hj := joinS_len l m (by rw [h.evlen, h'.evlen]; omega)
    try clear hb
    go_wp2_with fail
    refine (sameEvents_any A3 A4 _ c3 c4 (joinS l m).1 w4.heap.size w4.heap.size w4 a (Nat.le_refl _) b (Nat.le_refl _) (by omega)).mono ?_
    rintro e w5 ⟨rfl, hb⟩
    replace k0 := below_call k0 hb
    replace h := rdk h hb
    replace h' := rdk h' hb
    replace x := rdk x hb
    replace y := rdk y hb
    replace a := rdk a hb
    replace b := rdk b hb
    try clear hb
    clear a b
    go_wp2_with fail
    refine (sameEvents_any A1 A n c1 c l w5.heap.size w5.heap.size w5 x (Nat.le_refl _) h (Nat.le_refl _) (by omega)).mono ?_
    rintro e w6 ⟨rfl, hb⟩
    replace k0 := below_call k0 hb
    replace h := rdk h hb
    replace h' := rdk h' hb
    replace x := rdk x hb
    replace y := rdk y hb
    try clear hb
    clear x h
    go_wp2_with fail
    refine (sameEvents_any A2 A' n' c2 c' m w6.heap.size w6.heap.size w6 y (Nat.le_refl _) h' (Nat.le_refl _) (by omega)).mono ?_
    rintro e w7 ⟨rfl, hb⟩
    replace k0 := below_call k0 hb
    replace h' := rdk h' hb
    replace y := rdk y hb
    try clear hb
    clear y h'
    go_wp2_with fail
    refine (awake_any _).mono ?_
    rintro e w8 ⟨rfl, hb⟩
    replace k0 := below_call k0 hb
    try clear hb
    go_wp2_with fail
    go_ret
    exact ⟨rfl, k0⟩

set_option maxRecDepth 100000 in
theorem lifted (os : Os) (started : os.Started) (H : Type) (enc : TypeId × Value → H) :
    ReturnsInHanded {} Try.checked os 4 .any (Rows.transformJoinsSpec.pre6 enc Try.prog Try.f4 Rows.transformJoinsRow.domain false) (Rows.transformJoinsSpec.post enc Try.prog Try.f4 false true false false) := by
  refine returnsInHanded_of_change (C := Try.checked) own started (by kernel_rfl) Try.func4
    (ChangeSpec.witness6 (enc := enc) (C := Try.checked) false ⟨#[], #[.slice none 0 0, .slice none 0 0], []⟩ 8 (by kernel_rfl) (by kernel_rfl) (by kernel_rfl) (by kernel_rfl)) ?_
  intro W base args ds gs before hval0 hW hcnd _
  have hval : ∀ (j : Nat) t v, Try.f4.params[j]? = some t → args[j]? = some v → Value.okWide Try.prog W .any base t v := hval0
  have hW' := hW
  obtain ⟨p, q, hA0, hV, rfl, hfz, hnd⟩ := hW
  have hA : DataW.TrodAll enc Try.prog W 0 (fun _ => true) true Try.f4.params.toList args.toList ds p := hA0
  rw [Try.params4] at hA hval
  obtain ⟨v0, vs0, d0, ds0, p0, q0, hargs, rfl, rfl, h0, r0⟩ := trodAll_cons hA
  obtain ⟨v1, vs1, d1, ds1, p1, q1, rfl, rfl, rfl, h1, r1⟩ := trodAll_cons r0
  obtain ⟨rfl, rfl, rfl⟩ := trodAll_nil r1
  obtain rfl : args = #[v0, v1] := by cases args; simp_all
  obtain ⟨rfl, rfl⟩ := trodVars_none hV
  have k0 := h0
  have lt0 : ∀ x ∈ p0, x.block < W.heap.size := by obtain ⟨m, hm⟩ := k0; exact DataW.trod_lt m _ _ _ hm
  obtain ⟨A0, n0, c0, l0, rfl, w0⟩ := arg_events (hval 0 22 v0 rfl rfl) h0
  have k1 := h1
  have lt1 : ∀ x ∈ p1, x.block < W.heap.size := by obtain ⟨m, hm⟩ := k1; exact DataW.trod_lt m _ _ _ hm
  obtain ⟨A1, n1, c1, l1, rfl, w1⟩ := arg_events (hval 1 22 v1 rfl rfl) h1
  clear hA0 hval0
  refine (walk A0 A1 n0 c0 n1 c1 l0 l1 W w0.1 w0.2 w1.1 w1.2).mono fun e W' ⟨he, bel⟩ => ?_
  subst he
  exact ⟨_, rfl, _, _, _, [], _, [], hW', trodAll_mk1 (shut_bool Try.underlying4 _), (trodAll_cons_mk (Below.trod laidOut (by kernel_rfl) (of_decide_eq_true (by kernel_rfl)) k0 bel lt0) (trodAll_cons_mk (Below.trod laidOut (by kernel_rfl) (of_decide_eq_true (by kernel_rfl)) k1 bel lt1) trodAll_mk0)), rfl, bel.frame _, fun h => by cases h⟩

theorem over : Rows.TransformJoinsSaid :=
  OpenClaim.holds_of_wide 4 Try.f4 rfl rfl rfl rfl rfl rfl rfl ⟨rfl, rfl, rfl, rfl, rfl⟩ rfl rfl rfl rfl rfl (by kernel_rfl) Try.func4 (by kernel_rfl)
    (of_decide_eq_true (by kernel_rfl)) (by unfold Func.isWrapper; first | (rw [if_pos (by decide +kernel)]; kernel_rfl) | (rw [if_neg (by decide +kernel)]; exact ⟨rfl, rfl⟩))
    (fun os started H enc _ => lifted os started H enc)

/-- The statement. -/
theorem proved : Rows.TransformJoinsSaid := over

end Go.Proofs.Ytiphacmmglohaaa.transformJoins
