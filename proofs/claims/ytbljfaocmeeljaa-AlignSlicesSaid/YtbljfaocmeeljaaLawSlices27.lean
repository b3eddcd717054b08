/- AlignSlices holds: which settings are valid, their slices and their end, or which errors, are the reference's; the voices are not changed. No condition. -/
import Derived.Test.YtbljfaocmeeljaaAlKnown
import Derived.Test.YtbljfaocmeeljaaAlLight
import Derived.Test.YtbljfaocmeeljaaAlEnd
import Derived.Test.YtbljfaocmeeljaaArgsV
import Derived.Test.YtbljfaocmeeljaaDoorP
namespace Go.Proofs.Ytbljfaocmeeljaa.alignSlices
open Go.ChangeShapes Go.WideShapes Go.ChangeAt Go.RowKit Go.Deep
set_option linter.unusedVariables false
theorem slices_bound (l : List (List Ev)) (hl : l.length ≤ 10) : (slicesE l).1.length ≤ 100000 ∧ ∀ s ∈ (slicesE l).1, s.evs.length ≤ 100000 := by
  by_cases he : (slicesE l).2 = 0
  · obtain ⟨hz, hs⟩ := slicesE_ok he
    have := mom_big hz
    rw [hs]
    refine ⟨by simp; omega, fun s hs => ?_⟩
    obtain ⟨k, _, rfl⟩ := List.mem_map.1 hs
    show (l.map _).length ≤ _
    rw [List.length_map]; omega
  · rw [slicesE_err he]
    exact ⟨by simp, fun s hs => by cases hs⟩
set_option maxRecDepth 100000 in
set_option maxHeartbeats 8000000 in
theorem walk (A : Option Addr) (n c : Nat) (l : List (List Ev)) (w : World) (h : ReadsV w w.heap.size A n l) (hn : n ≤ 9223372036854775807) :
    Calls Try.prog 3 #[.slice A n c] w fun e w' => e = .returned (.bool true) ∧ Below w.heap.size w w' := by
  have HL := Lib.hid h.len
  go_enter Try.func3, Try.ntmps3
  go_wp2_with fail
  refine (light_any A n c l _ w h (Nat.le_refl _) hn).mono ?_
  rintro e w1 ⟨rfl, k1⟩
  have r1 := rdV h k1
  clear h
  by_cases hli : lightB l = true
  · obtain ⟨hl10, hv24⟩ := lightB_ok hli
    have hn10 : n ≤ 10 := by have := HL.out; omega
    have HB := Lib.hid (slices_bound l hl10)
    rw [hli]
    clear hli hl10
    go_wp2_with fail
    refine (own_any A n c l _ w1 r1 (Nat.le_refl _) hn10 hv24).mono ?_
    rintro e w2 ⟨A2, c2, rfl, o2, b2⟩
    have k2 := below_call k1 b2
    have r2 := rdV r1 b2
    clear r1 k1 b2 hv24
    go_wp2_with fail
    refine (alCheck_any A2 n c2 l _ w2 o2 (Nat.le_refl _) hn).mono ?_
    rintro e w3 ⟨rfl, b3⟩
    have k3 := below_call k2 b3
    have r3 := rdV r2 b3
    have o3 := rdV o2 b3
    clear r2 k2 b3 o2
    go_wp2_with fail
    refine (refAlCheck_any A n c l _ w3 r3 (Nat.le_refl _) hn).mono ?_
    rintro e w4 ⟨rfl, b4⟩
    have k4 := below_call k3 b4
    have r4 := rdV r3 b4
    have o4 := rdV o3 b4
    clear r3 k3 b4 o3
    go_wp2_with fail
    refine (slices_any A2 n c2 l _ w4 o4 (Nat.le_refl _) hn).mono ?_
    rintro e w5 ⟨v5, rfl, s5, b5⟩
    have k5 := below_call k4 b5
    have r5 := rdV r4 b5
    have o5 := rdV o4 b5
    obtain ⟨A5, c5, rfl, t5⟩ := s5.reads
    clear r4 k4 b5 o4 s5
    go_wp2_with fail
    refine (refSlices_any A n c l _ w5 r5 (Nat.le_refl _) hn).mono ?_
    rintro e w6 ⟨v6, rfl, s6, b6⟩
    have k6 := below_call k5 b6
    have r6 := rdV r5 b6
    have o6 := rdV o5 b6
    have t6 := t5.kept b6
    obtain ⟨A6, c6, rfl, u6⟩ := s6.reads
    clear r5 k5 b6 o5 s6 t5
    go_wp2_with fail
    refine (sameSlices_any A5 A6 _ c5 c6 _ w6 t6 u6 HB.out.1 HB.out.2).mono ?_
    rintro e w7 ⟨rfl, b7⟩
    have k7 := below_call k6 b7
    have r7 := rdV r6 b7
    have o7 := rdV o6 b7
    clear r6 k6 b7 o6 t6 u6
    obtain ⟨⟨⟨x0, x1⟩, xe⟩, hx⟩ : ∃ x, x = endE l := ⟨_, rfl⟩
    have qe := end_any A2 n c2 l _ w7 o7 (Nat.le_refl _) hn
    have qf := fun W (hW : ReadsV W W.heap.size A n l) => refEnd_any A n c l _ W hW (Nat.le_refl _) hn
    rw [← hx] at qe
    simp only [← hx] at qf
    clear hx
    go_wp2_with fail
    refine qe.mono ?_
    rintro e w8 ⟨rfl, b8⟩
    have k8 := below_call k7 b8
    have r8 := rdV r7 b8
    have o8 := rdV o7 b8
    clear qe r7 k7 b8 o7
    go_wp2_with fail
    have T8 : Blk (w8.alloc (.cells #[.int .i64 x0, .int .i64 x1] 34)) w8.heap.size 34 #[.int .i64 x0, .int .i64 x1] := Blk.new _ _ _
    have ba : Below w8.heap.size w8 (w8.alloc (.cells #[.int .i64 x0, .int .i64 x1] 34)) := below_alloc (Below.refl _ _) _
    refine (qf _ (rdV r8 ba)).mono ?_
    rintro e w9 ⟨rfl, b9⟩
    have T9 := T8.kept b9
    have k9 := below_call (below_call k8 ba) b9
    have r9 := rdV (rdV r8 ba) b9
    have o9 := rdV (rdV o8 ba) b9
    have e0 : w9.cell? ⟨w8.heap.size, 0, none⟩ = some (.int .i64 x0) := T9.cell 0
    have e1 : w9.cell? ⟨w8.heap.size, 1, none⟩ = some (.int .i64 x1) := T9.cell 1
    have l9 := T9.lt
    clear T8 ba b9 r8 k8 o8 qf
    go_wp2_with fail
    have bb : Below w9.heap.size w9 (w9.alloc (.cells #[.int .i64 x0, .int .i64 x1] 34)) := below_alloc (Below.refl _ _) _
    refine (same_any A2 A n c2 c l _ _ _ (rdV o9 bb) (Nat.le_refl _) (rdV r9 bb) (Nat.le_refl _) (by omega)).mono ?_
    rintro e wa ⟨rfl, b10⟩
    have ka := below_call (below_call k9 bb) b10
    go_wp2_with fail
    refine (awake_any _).mono ?_
    rintro e wb ⟨rfl, b11⟩
    go_wp2
    go_ret
    exact ⟨rfl, below_call ka b11⟩
  · have hlf : lightB l = false := by simpa using hli
    rw [hlf]
    clear hli
    go_wp2_with fail
    refine (awake_any _).mono ?_
    rintro e w2 ⟨rfl, b2⟩
    go_wp2
    go_ret
    exact ⟨rfl, below_call k1 b2⟩
set_option maxRecDepth 100000 in
theorem lifted (os : Os) (started : os.Started) (H : Type) (enc : TypeId × Value → H) :
    ReturnsInHanded {} Try.checked os 3 .any (Rows.alignSlicesSpec.pre6 enc Try.prog Try.f3 Rows.alignSlicesRow.domain false) (Rows.alignSlicesSpec.post enc Try.prog Try.f3 false true false false) := by
  refine returnsInHanded_of_change (C := Try.checked) own started (by kernel_rfl) Try.func3
    (ChangeSpec.witness6 (enc := enc) (C := Try.checked) false ⟨#[], #[.slice none 0 0], []⟩ 8 (by kernel_rfl) (by kernel_rfl) (by kernel_rfl) (by kernel_rfl)) ?_
  intro W base args ds gs before hval0 hW hcnd _
  have hval : ∀ (j : Nat) t v, Try.f3.params[j]? = some t → args[j]? = some v → Value.okWide Try.prog W .any base t v := hval0
  have hW' := hW
  obtain ⟨p, q, hA0, hV, rfl, hfz, hnd⟩ := hW
  have hA : DataW.TrodAll enc Try.prog W 0 (fun _ => true) true Try.f3.params.toList args.toList ds p := hA0
  rw [Try.params3] at hA hval
  obtain ⟨v0, vs0, d0, ds0, p0, q0, hargs, rfl, rfl, h0, r0⟩ := trodAll_cons hA
  obtain ⟨rfl, rfl, rfl⟩ := trodAll_nil r0
  obtain rfl : args = #[v0] := by cases args; simp_all
  obtain ⟨rfl, rfl⟩ := trodVars_none hV
  have k0 := h0
  have lt0 : ∀ x ∈ p0, x.block < W.heap.size := by obtain ⟨m, hm⟩ := k0; exact DataW.trod_lt m _ _ _ hm
  obtain ⟨A0, n0, c0, l0, rfl, w0⟩ := arg_voices (hval 0 22 v0 rfl rfl) h0
  clear hA0 hval0
  refine (walk A0 n0 c0 l0 W w0.1 w0.2).mono fun e W' ⟨he, bel⟩ => ?_
  subst he
  exact ⟨_, rfl, _, _, _, [], _, [], hW', trodAll_mk1 (shut_bool Try.underlying4 _), (trodAll_cons_mk (Below.trod laidOut (by kernel_rfl) (of_decide_eq_true (by kernel_rfl)) k0 bel lt0) trodAll_mk0), rfl, bel.frame _, fun h => by cases h⟩

theorem over : Rows.AlignSlicesSaid :=
  OpenClaim.holds_of_wide 3 Try.f3 rfl rfl rfl rfl rfl rfl rfl ⟨rfl, rfl, rfl, rfl, rfl⟩ rfl rfl rfl rfl rfl (by kernel_rfl) Try.func3 (by kernel_rfl)
    (of_decide_eq_true (by kernel_rfl)) (by unfold Func.isWrapper; first | (rw [if_pos (by decide +kernel)]; kernel_rfl) | (rw [if_neg (by decide +kernel)]; exact ⟨rfl, rfl⟩))
    (fun os started H enc _ => lifted os started H enc)

/-- The statement. -/
theorem proved : Rows.AlignSlicesSaid := over


end Go.Proofs.Ytbljfaocmeeljaa.alignSlices
