/- AlignSounds holds: who starts and who sounds in a slice, which slice a time is in, and the durations of a voice from slices are the reference's, or the errors are. No condition. -/
import Derived.Test.YtbljfaocmeeljaaAlKnown
import Derived.Test.YtbljfaocmeeljaaAlLight
import Derived.Test.YtbljfaocmeeljaaAlStarts
import Derived.Test.YtbljfaocmeeljaaAlRefStarts
import Derived.Test.YtbljfaocmeeljaaAlSounds
import Derived.Test.YtbljfaocmeeljaaAlRefSounds
import Derived.Test.YtbljfaocmeeljaaAlAt
import Derived.Test.YtbljfaocmeeljaaAlRefAt
import Derived.Test.YtbljfaocmeeljaaAlBack
import Derived.Test.YtbljfaocmeeljaaAlRefBack
import Derived.Test.YtbljfaocmeeljaaAlSame
import Derived.Test.YtbljfaocmeeljaaArgsV
import Derived.Test.YtbljfaocmeeljaaDoorP
namespace Go.Proofs.Ytbljfaocmeeljaa.alignSounds
open Go.ChangeShapes Go.WideShapes Go.ChangeAt Go.RowKit Go.Deep
set_option linter.unusedVariables false
theorem starts_len (l : List (List Ev)) (j : Int) : (startsE l j).1.length ≤ l.length := by
  unfold startsE
  by_cases h1 : (slicesE l).2 ≠ 0
  · rw [if_pos h1]; exact Nat.zero_le _
  · rw [if_neg h1]
    by_cases h2 : j < 0 ∨ ((slicesE l).1.length : Int) ≤ j
    · rw [if_pos h2]; exact Nat.zero_le _
    · rw [if_neg h2]; simp
theorem fold_len {α : Type} (lt : α → α → Bool) : ∀ (l o : List α), (l.foldl (fun o x => ins lt x o) o).length = l.length + o.length
  | [], o => by simp
  | x :: l, o => by
    rw [List.foldl_cons, fold_len lt l, (ins_perm lt x o).length_eq, List.length_cons, List.length_cons]; omega
theorem sounds_len (l : List (List Ev)) (j : Int) : (soundsE l j).1.length ≤ l.length := by
  unfold soundsE
  by_cases h1 : (slicesE l).2 ≠ 0
  · rw [if_pos h1]; exact Nat.zero_le _
  · rw [if_neg h1]
    by_cases h2 : j < 0 ∨ ((slicesE l).1.length : Int) ≤ j
    · rw [if_pos h2]; exact Nat.zero_le _
    · rw [if_neg h2]
      unfold insAll sndS
      rw [fold_len]
      have := List.length_filter_le (fun k => soundB (l.getD k []) (mAt (momS l) j.toNat)) (List.range l.length)
      rw [List.length_range] at this
      simpa using this
theorem backFrom_len (es : List Pt) : ∀ (k i : Nat), (backFrom es i k).1.length ≤ k
  | 0, i => by unfold backFrom; simp
  | k + 1, i => by
    rw [back_succ]
    have := backFrom_len es k (i + 1)
    by_cases h1 : (sumI i (0, 1) es).2 ≠ 0
    · rw [if_pos h1]; exact Nat.zero_le _
    · rw [if_neg h1]
      by_cases h2 : (backFrom es (i + 1) k).2 ≠ 0
      · rw [if_pos h2]; exact Nat.zero_le _
      · rw [if_neg h2]; simp; omega
theorem back_len {l : List (List Ev)} (j : Int) (hv : ∀ v ∈ l, v.length ≤ 24) : (backE l j).1.length ≤ 24 := by
  unfold backE
  by_cases h1 : (slicesE l).2 ≠ 0
  · rw [if_pos h1]; exact Nat.zero_le _
  · rw [if_neg h1]
    by_cases h2 : j < 0 ∨ (l.length : Int) ≤ j
    · rw [if_pos h2]; exact Nat.zero_le _
    · rw [if_neg h2]
      refine Nat.le_trans (backFrom_len _ _ _) ?_
      cases e : l[j.toNat]? with
      | none => simp [List.getD, e]
      | some v => simp only [List.getD, e, Option.getD_some]; exact hv v (List.mem_of_getElem? e)
set_option maxRecDepth 100000 in
set_option maxHeartbeats 8000000 in
theorem walk (A : Option Addr) (n c : Nat) (l : List (List Ev)) (j voice a b : Int) (w : World) (h : ReadsV w w.heap.size A n l) (hn : n ≤ 9223372036854775807) :
    Calls Try.prog 4 #[.slice A n c, .int .i64 j, .int .i64 voice, .agg #[.int .i64 a, .int .i64 b]] w fun e w' => e = .returned (.bool true) ∧ Below w.heap.size w w' := by
  have HL := Lib.hid h.len
  have T0 : Blk (w.alloc (.cells #[.int .i64 a, .int .i64 b] 34)) w.heap.size 34 #[.int .i64 a, .int .i64 b] := Blk.new _ _ _
  have k0 : Below w.heap.size w (w.alloc (.cells #[.int .i64 a, .int .i64 b] 34)) := by repeat (first | with_reducible exact Below.refl _ _ | with_reducible assumption | with_reducible refine below_drewN ?_ _ | with_reducible refine Below.drew ?_ | with_reducible refine below_alloc ?_ _ | (with_reducible refine Below.setCell ?_ ?_ _; rotate_left; ((try simp only); omega)))
  have r0 := rdV h k0
  clear h
  go_enter Try.func4, Try.ntmps4
  go_wp2_with fail
  refine (light_any A n c l _ _ r0 (Nat.le_refl _) hn).mono ?_
  rintro e w1 ⟨rfl, b1⟩
  have k1 := below_call k0 b1
  have r1 := rdV r0 b1
  have T1 := T0.kept b1
  clear k0 r0 T0 b1
  by_cases hli : lightB l = true
  · obtain ⟨hl10, hv24⟩ := lightB_ok hli
    have LS := Lib.hid (starts_len l j)
    have LN := Lib.hid (sounds_len l j)
    have LB := Lib.hid (back_len voice hv24)
    have HT := Lib.hid hl10
    rw [hli]
    clear hli hl10 hv24
    obtain ⟨⟨xs, xe⟩, hx⟩ : ∃ x, x = startsE l j := ⟨_, rfl⟩
    obtain ⟨⟨ys, ye⟩, hy⟩ : ∃ x, x = soundsE l j := ⟨_, rfl⟩
    obtain ⟨⟨za, ze⟩, hz⟩ : ∃ x, x = atE l (a, b) := ⟨_, rfl⟩
    obtain ⟨⟨ps, pe⟩, hp⟩ : ∃ x, x = backE l voice := ⟨_, rfl⟩
    rw [← hx] at LS
    rw [← hy] at LN
    rw [← hp] at LB
    have q1 := fun W (hW : ReadsV W W.heap.size A n l) => starts_any A n c l j _ W hW (Nat.le_refl _) hn
    have q2 := fun W (hW : ReadsV W W.heap.size A n l) => refStarts_any A n c l j _ W hW (Nat.le_refl _) hn
    have q3 := fun W (hW : ReadsV W W.heap.size A n l) => sounds_any A n c l j _ W hW (Nat.le_refl _) hn
    have q4 := fun W (hW : ReadsV W W.heap.size A n l) => refSounds_any A n c l j _ W hW (Nat.le_refl _) hn
    have q5 := fun W (hW : ReadsV W W.heap.size A n l) => at_any A n c l (a, b) _ W hW (Nat.le_refl _) hn
    have q6 := fun W (hW : ReadsV W W.heap.size A n l) => refAt_any A n c l (a, b) _ W hW (Nat.le_refl _) hn
    have q7 := fun W (hW : ReadsV W W.heap.size A n l) => back_any A n c l voice _ W hW (Nat.le_refl _) hn
    have q8 := fun W (hW : ReadsV W W.heap.size A n l) => refBack_any A n c l voice _ W hW (Nat.le_refl _) hn
    simp only [← hx] at q1 q2
    simp only [← hy] at q3 q4
    simp only [← hz] at q5 q6
    simp only [← hp] at q7 q8
    clear hx hy hz hp
    go_wp2_with fail
    refine Calls.mono (q1 _ r1) ?_
    rintro e w2 ⟨v2, rfl, o2, b2⟩
    have k2 := below_call k1 b2
    have r2 := rdV r1 b2
    have T2 := T1.kept b2
    obtain ⟨A2, c2, rfl, s2, _, _⟩ := own_reads o2
    clear o2 k1 r1 T1 b2 q1
    go_wp2_with fail
    refine Calls.mono (q2 _ r2) ?_
    rintro e w3 ⟨v3, rfl, o3, b3⟩
    have k3 := below_call k2 b3
    have r3 := rdV r2 b3
    have T3 := T2.kept b3
    have s3 := rd1 s2 b3
    obtain ⟨A3, c3, rfl, u3, _, _⟩ := own_reads o3
    clear o3 k2 r2 T2 b3 s2 q2
    go_wp2_with fail
    refine (sameBools_any A2 A3 _ c2 c3 _ _ _ w3 s3 (Nat.le_refl _) u3 (Nat.le_refl _) (by have := LS.out; have := HT.out; omega)).mono ?_
    rintro e w4 ⟨rfl, b4⟩
    have k4 := below_call k3 b4
    have r4 := rdV r3 b4
    have T4 := T3.kept b4
    clear k3 r3 T3 b4 s3 u3
    go_wp2_with fail
    refine Calls.mono (q3 _ r4) ?_
    rintro e w5 ⟨v5, rfl, o5, b5⟩
    have k5 := below_call k4 b5
    have r5 := rdV r4 b5
    have T5 := T4.kept b5
    obtain ⟨A5, c5, rfl, s5, _, _⟩ := own_reads o5
    clear o5 k4 r4 T4 b5 q3
    go_wp2_with fail
    refine Calls.mono (q4 _ r5) ?_
    rintro e w6 ⟨v6, rfl, o6, b6⟩
    have k6 := below_call k5 b6
    have r6 := rdV r5 b6
    have T6 := T5.kept b6
    have s6 := rd1 s5 b6
    obtain ⟨A6, c6, rfl, u6, _, _⟩ := own_reads o6
    clear o6 k5 r5 T5 b6 s5 q4
    go_wp2_with fail
    refine (sameInts_any A5 A6 _ c5 c6 (ys.map fun (x : Nat) => (x : Int)) _ _ w6 s6 (Nat.le_refl _) u6 (Nat.le_refl _) (by have := LN.out; have := HT.out; omega)).mono ?_
    rintro e w7 ⟨rfl, b7⟩
    have k7 := below_call k6 b7
    have r7 := rdV r6 b7
    have T7 := T6.kept b7
    clear k6 r6 T6 b7 s6 u6
    have e0 : w7.cell? ⟨w.heap.size, 0, none⟩ = some (.int .i64 a) := T7.cell 0
    have e1 : w7.cell? ⟨w.heap.size, 1, none⟩ = some (.int .i64 b) := T7.cell 1
    have l7 := T7.lt
    go_wp2_with fail
    refine Calls.mono (q5 _ r7) ?_
    rintro e w8 ⟨rfl, b8⟩
    have k8 := below_call k7 b8
    have r8 := rdV r7 b8
    have T8 := T7.kept b8
    clear k7 r7 T7 b8 e0 e1 l7 q5
    have e0 : w8.cell? ⟨w.heap.size, 0, none⟩ = some (.int .i64 a) := T8.cell 0
    have e1 : w8.cell? ⟨w.heap.size, 1, none⟩ = some (.int .i64 b) := T8.cell 1
    have l8 := T8.lt
    go_wp2_with fail
    refine Calls.mono (q6 _ r8) ?_
    rintro e w9 ⟨rfl, b9⟩
    have k9 := below_call k8 b9
    have r9 := rdV r8 b9
    clear k8 r8 T8 b9 e0 e1 l8 q6
    go_wp2_with fail
    refine Calls.mono (q7 _ r9) ?_
    rintro e wa ⟨va, rfl, oa, ba⟩
    have ka := below_call k9 ba
    have ra := rdV r9 ba
    obtain ⟨Aa, ca, rfl, sa, _, _⟩ := own_reads oa
    clear oa k9 r9 ba q7
    go_wp2_with fail
    refine Calls.mono (q8 _ ra) ?_
    rintro e wb ⟨vb, rfl, ob, bb⟩
    have kb := below_call ka bb
    have sb := rd1 sa bb
    obtain ⟨Ab, cb, rfl, ub, _, _⟩ := own_reads ob
    clear ob ka ra bb sa q8
    go_wp2_with fail
    refine (sameTimes_any Aa Ab _ ca cb _ _ _ wb sb (Nat.le_refl _) ub (Nat.le_refl _) (by have := LB.out; omega)).mono ?_
    rintro e wc ⟨rfl, bc⟩
    have kc := below_call kb bc
    clear kb bc sb ub
    go_wp2_with fail
    refine (awake_any _).mono ?_
    rintro e wd ⟨rfl, bd⟩
    go_wp2
    go_ret
    exact ⟨rfl, below_call kc bd⟩
  · have hlf : lightB l = false := by simpa using hli
    rw [hlf]
    clear hli
    go_wp2_with fail
    refine (awake_any _).mono ?_
    rintro e w2 ⟨rfl, b2⟩
    go_wp2
    go_ret
    exact ⟨rfl, below_call k1 b2⟩
set_option maxRecDepth 100000 in
theorem lifted (os : Os) (started : os.Started) (H : Type) (enc : TypeId × Value → H) :
    ReturnsInHanded {} Try.checked os 4 .any (Rows.alignSoundsSpec.pre6 enc Try.prog Try.f4 Rows.alignSoundsRow.domain false) (Rows.alignSoundsSpec.post enc Try.prog Try.f4 false true false false) := by
  refine returnsInHanded_of_change (C := Try.checked) own started (by kernel_rfl) Try.func4
    (ChangeSpec.witness6 (enc := enc) (C := Try.checked) false ⟨#[], #[.slice none 0 0, .int .i64 0, .int .i64 0, .agg #[.int .i64 0, .int .i64 0]], []⟩ 8 (by kernel_rfl) (by kernel_rfl) (by kernel_rfl) (by kernel_rfl)) ?_
  intro W base args ds gs before hval0 hW hcnd _
  have hval : ∀ (j : Nat) t v, Try.f4.params[j]? = some t → args[j]? = some v → Value.okWide Try.prog W .any base t v := hval0
  have hW' := hW
  obtain ⟨p, q, hA0, hV, rfl, hfz, hnd⟩ := hW
  have hA : DataW.TrodAll enc Try.prog W 0 (fun _ => true) true Try.f4.params.toList args.toList ds p := hA0
  rw [Try.params4] at hA hval
  obtain ⟨v0, vs0, d0, ds0, p0, q0, hargs, rfl, rfl, h0, r0⟩ := trodAll_cons hA
  obtain ⟨v1, vs1, d1, ds1, p1, q1, rfl, rfl, rfl, h1, r1⟩ := trodAll_cons r0
  obtain ⟨v2, vs2, d2, ds2, p2, q2, rfl, rfl, rfl, h2, r2⟩ := trodAll_cons r1
  obtain ⟨v3, vs3, d3, ds3, p3, q3, rfl, rfl, rfl, h3, r3⟩ := trodAll_cons r2
  obtain ⟨rfl, rfl, rfl⟩ := trodAll_nil r3
  obtain rfl : args = #[v0, v1, v2, v3] := by cases args; simp_all
  obtain ⟨rfl, rfl⟩ := trodVars_none hV
  have k0 := h0
  have lt0 : ∀ x ∈ p0, x.block < W.heap.size := by obtain ⟨m, hm⟩ := k0; exact DataW.trod_lt m _ _ _ hm
  obtain ⟨A0, n0, c0, l0, rfl, w0⟩ := arg_voices (hval 0 22 v0 rfl rfl) h0
  have k1 := h1
  have lt1 : ∀ x ∈ p1, x.block < W.heap.size := by obtain ⟨m, hm⟩ := k1; exact DataW.trod_lt m _ _ _ hm
  obtain ⟨a1, rfl, w1⟩ := arg_int (hval 1 3 v1 rfl rfl) h1
  have k2 := h2
  have lt2 : ∀ x ∈ p2, x.block < W.heap.size := by obtain ⟨m, hm⟩ := k2; exact DataW.trod_lt m _ _ _ hm
  obtain ⟨a2, rfl, w2⟩ := arg_int (hval 2 3 v2 rfl rfl) h2
  have k3 := h3
  have lt3 : ∀ x ∈ p3, x.block < W.heap.size := by obtain ⟨m, hm⟩ := k3; exact DataW.trod_lt m _ _ _ hm
  obtain ⟨a3, b3, rfl, w3⟩ := arg_time (hval 3 34 v3 rfl rfl) h3
  clear hA0 hval0
  refine (walk A0 n0 c0 l0 a1 a2 a3 b3 W w0.1 w0.2).mono fun e W' ⟨he, bel⟩ => ?_
  subst he
  exact ⟨_, rfl, _, _, _, [], _, [], hW', trodAll_mk1 (shut_bool Try.underlying4 _), (trodAll_cons_mk (Below.trod laidOut (by kernel_rfl) (of_decide_eq_true (by kernel_rfl)) k0 bel lt0) (trodAll_cons_mk (Below.trod laidOut (by kernel_rfl) (of_decide_eq_true (by kernel_rfl)) k1 bel lt1) (trodAll_cons_mk (Below.trod laidOut (by kernel_rfl) (of_decide_eq_true (by kernel_rfl)) k2 bel lt2) (trodAll_cons_mk (Below.trod laidOut (by kernel_rfl) (of_decide_eq_true (by kernel_rfl)) k3 bel lt3) trodAll_mk0)))), rfl, bel.frame _, fun h => by cases h⟩

theorem over : Rows.AlignSoundsSaid :=
  OpenClaim.holds_of_wide 4 Try.f4 rfl rfl rfl rfl rfl rfl rfl ⟨rfl, rfl, rfl, rfl, rfl⟩ rfl rfl rfl rfl rfl (by kernel_rfl) Try.func4 (by kernel_rfl)
    (of_decide_eq_true (by kernel_rfl)) (by unfold Func.isWrapper; first | (rw [if_pos (by decide +kernel)]; kernel_rfl) | (rw [if_neg (by decide +kernel)]; exact ⟨rfl, rfl⟩))
    (fun os started H enc _ => lifted os started H enc)

/-- The statement. -/
theorem proved : Rows.AlignSoundsSaid := over

end Go.Proofs.Ytbljfaocmeeljaa.alignSounds
