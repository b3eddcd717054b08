/- SpanLists holds: the sum of a list of at most 80 times, or its error, is the reference's; the list is not changed. No condition. -/
import Derived.Test.YtfafjdbdpbjklaaDoorLists
import Derived.Test.YtfafjdbdpbjklaaDoorDoor
import Derived.Test.YtfafjdbdpbjklaaDoorArgs
namespace Go.Proofs.YtfafjdbdpbjklaaDoor.spanLists
open Go.ChangeShapes Go.WideShapes Go.ChangeAt Go.RowKit Go.Deep
set_option linter.unusedVariables false

set_option maxRecDepth 100000 in
set_option maxHeartbeats 1000000 in
theorem walk (A : Option Addr) (n c : Nat) (l : List (Int × Int)) (w : World) (h : Reads w w.heap.size 2 A n (csT l)) (hn : n ≤ 9223372036854775807) :
    Calls Tryd.prog 4 #[.slice A n c] w fun e w' => e = .returned (.bool true) ∧ Below w.heap.size w w' := by
  by_cases hlong : 80 < n
  · have hlong' : (80 : Int) < (n : Int) := by omega
    go_enter Tryd.func4, Tryd.ntmps4
    go_wp2_with fail
    refine (awake_any _).mono ?_
    rintro e w1 ⟨rfl, hb1⟩
    go_wp2_with fail
    go_ret
    exact ⟨rfl, hb1⟩
  · have hn80 : n ≤ 80 := by omega
    have hn80' : (n : Int) ≤ 80 := by omega
    clear hlong
    obtain ⟨⟨p, q, r⟩, hm⟩ : ∃ x, x = sumS l := ⟨_, rfl⟩
    have M := Lib.hid hm; clear hm
    go_enter Tryd.func4, Tryd.ntmps4
    go_wp2_with fail
    refine (ownTimes_any A n c l _ _ h (Nat.le_refl _) hn80).mono ?_
    rintro e w1 ⟨A1, c1, rfl, hr1, hb1⟩
    go_wp2_with fail
    refine (sum_any A1 n c1 l _ _ hr1 (Nat.le_refl _) hn).mono ?_
    rintro e w2 ⟨rfl, hb2⟩
    rw [← M.out]
    have h2 := (h.below (Nat.le_refl _) (below_call hb1 hb2))
    have hr2 := hr1.below (Nat.le_refl _) hb2
    go_wp2_with fail
    refine (refSum_any A n c l w.heap.size _ (h2.below (by have := hb1.size; have := hb2.size; omega) (below_alloc (Below.refl _ _) _)) (by have := hb1.size; have := hb2.size; simp; omega) hn).mono ?_
    rintro e w3 ⟨rfl, hb3⟩
    rw [← M.out]
    have B2 := (Blk.new w2 23 #[.int .i64 p, .int .i64 q]).kept hb3
    have c20 : w3.cell? ⟨w2.heap.size, 0, none⟩ = some (.int .i64 p) := B2.cell 0
    have c21 : w3.cell? ⟨w2.heap.size, 1, none⟩ = some (.int .i64 q) := B2.cell 1
    have l2 := B2.lt
    have l2' : w2.heap.size < w3.heap.size + 1 := by omega
    have s1 := hb1.size
    have s2 := hb2.size
    have hb23 : Below w2.heap.size w2 w3 := below_call (below_alloc (Below.refl _ _) _) hb3
    have hr3 := hr2.below (by omega) hb23
    have h3 := h2.below (by omega) hb23
    go_wp2_with fail
    have hw3 : Below w3.heap.size w3 (w3.alloc (.cells #[.int .i64 p, .int .i64 q] 23)) := below_alloc (Below.refl _ _) _
    refine (sameTimes_any A1 A n c1 c l w1.heap.size _ (hr3.below (by have := hb23.size; omega) hw3) ((h3.below (by have := hb23.size; omega) hw3).more s1) hn).mono ?_
    rintro e w4 ⟨rfl, m4, rfl⟩
    go_wp2_with fail
    refine (awake_any _).mono ?_
    rintro e w5 ⟨rfl, hb5⟩
    go_wp2_with fail
    go_ret
    refine ⟨rfl, ?_⟩
    repeat (first | exact Below.refl _ _ | assumption | refine below_drewN ?_ _ | refine Below.drew ?_ | refine below_alloc ?_ _ | (refine below_call ?_ (by assumption)) | (refine Below.setCell ?_ ?_ _; rotate_left; (simp; try omega)))

set_option maxRecDepth 100000 in
theorem lifted (os : Os) (started : os.Started) (H : Type) (enc : TypeId × Value → H) :
    ReturnsInHanded {} Tryd.checked os 4 .any (fun w args => (Rows.spanListsSpec.pre enc Tryd.prog Tryd.f4 [] false w args ∧ laidMetH Tryd.prog laids w) ∧ sizedMet enc Tryd.prog Tryd.f4 (OpenSpec.ofChange Rows.spanListsSpec) false w args) (Rows.spanListsSpec.post enc Tryd.prog Tryd.f4 false true false false) := by
  refine returnsInHanded_of_change_and (C := Tryd.checked) (X := fun w _ => laidMetH Tryd.prog laids w) (fun _ _ _ hh h => h.of_heap hh) own started (by kernel_rfl) Tryd.func4
    (ChangeSpec.witness_shaped (enc := enc) (C := Tryd.checked) (os := os) (X := fun w _ => laidMetH Tryd.prog laids w) false (World.doorLaid Tryd.prog 24 os) #[.slice none 0 0] 8 rfl (World.shaped_of_RefB (by kernel_rfl) (by kernel_rfl)) (by kernel_rfl) (by kernel_rfl) (by kernel_rfl) (door_met os _)) ?_
  intro W base args ds gs before hval0 hW _ _ hL _
  have hval : ∀ (j : Nat) t v, Tryd.f4.params[j]? = some t → args[j]? = some v → Value.okWide Tryd.prog W .any base t v := hval0
  have hW' := hW
  obtain ⟨p, q, hA0, hV, rfl, hfz, hnd⟩ := hW
  have hA : DataW.TrodAll enc Tryd.prog W 0 (fun _ => true) true Tryd.f4.params.toList args.toList ds p := hA0
  rw [Tryd.params4] at hA hval
  obtain ⟨v0, vs0, d0, ds0, p0, q0, hargs, rfl, rfl, h0, r0⟩ := trodAll_cons hA
  obtain ⟨rfl, rfl, rfl⟩ := trodAll_nil r0
  obtain rfl : args = #[v0] := by cases args; simp_all
  obtain ⟨rfl, rfl⟩ := trodVars_none hV
  have k0 := h0
  have lt0 : ∀ x ∈ p0, x.block < W.heap.size := by obtain ⟨m, hm⟩ := k0; exact DataW.trod_lt m _ _ _ hm
  obtain ⟨A0, n0, c0, l0, rfl, w0⟩ := arg_times (hval 0 30 v0 rfl rfl) h0
  clear hA0 hval0
  refine (walk A0 n0 c0 l0 W w0.1 w0.2).mono fun e W' ⟨he, bel⟩ => ?_
  subst he
  exact ⟨_, rfl, _, _, _, [], _, [], hW', trodAll_mk1 (shut_bool Tryd.underlying4 _), (trodAll_cons_mk (Below.trod laidOut (by kernel_rfl) (of_decide_eq_true (by kernel_rfl)) k0 bel lt0) trodAll_mk0), rfl, bel.frame _, fun h => by cases h⟩

theorem over : Rows.SpanListsSaid :=
  OpenClaim.holds_of_wide 4 Tryd.f4 rfl rfl rfl rfl rfl rfl rfl ⟨rfl, rfl, rfl, rfl, rfl⟩ rfl rfl rfl rfl rfl (by kernel_rfl) Tryd.func4 (by kernel_rfl)
    (of_decide_eq_true (by kernel_rfl)) (by unfold Func.isWrapper; first | (rw [if_pos (by decide +kernel)]; kernel_rfl) | (rw [if_neg (by decide +kernel)]; exact ⟨rfl, rfl⟩))
    (fun os started H enc _ => lifted os started H enc)

/-- The card: the row, its variables tied to the program's text. -/
theorem proved : Rows.SpanListsCardSaid :=
  Claim7.holds_tied_plain_at .later [] [.data, .data, .data] true Rows.spanListsCard.stood.harness false
    over (fun _ h => by cases h) (by kernel_rfl) (fun _ h => by cases h) spanLists_row_tie rfl ⟨rfl, rfl⟩ (by kernel_rfl) rfl
    (fun f fn hf hfn => by
      obtain rfl : f = 4 := Option.some.inj ((show Tryd.prog.funcNamed Tryd.f4.name = some 4 by kernel_rfl).symm.trans hf) |>.symm
      obtain rfl : fn = Tryd.f4 := (Option.some.inj (Tryd.func4.symm.trans hfn)).symm
      exact ⟨by kernel_rfl, fun j t ht => by
        rw [Tryd.params4] at ht
        have hm : t ∈ Tryd.f4.params.toList := by rw [Tryd.params4]; simpa using Array.mem_of_getElem? ht
        have hall : (Tryd.f4.params.toList.all fun u => !Tryd.prog.wantsStandIn u) = true := by kernel_rfl
        exact (show Tryd.prog.wantsStandIn t = false by simpa using List.all_eq_true.1 hall t hm)⟩)
    (by kernel_rfl)

end Go.Proofs.YtfafjdbdpbjklaaDoor.spanLists
