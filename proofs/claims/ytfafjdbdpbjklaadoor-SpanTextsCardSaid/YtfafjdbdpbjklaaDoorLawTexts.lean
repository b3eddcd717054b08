/- SpanTexts holds: texts of times, and times of texts of at most 3,000 bytes, or their errors, are the reference's. No condition. -/
import Derived.Test.YtfafjdbdpbjklaaDoorRefParse
import Derived.Test.YtfafjdbdpbjklaaDoorDigits
import Derived.Test.YtfafjdbdpbjklaaDoorTable
import Derived.Test.YtfafjdbdpbjklaaDoorAwake
namespace Go.Proofs.YtfafjdbdpbjklaaDoor
open Go.RowKit
theorem Blk.newAt (w : World) (t : TypeId) (cs : Array Value) (g : Nat) (hg : g = w.heap.size) : Blk (w.alloc (.cells cs t)) g t cs := by subst hg; exact Blk.new w t cs
end Go.Proofs.YtfafjdbdpbjklaaDoor
namespace Go.Proofs.YtfafjdbdpbjklaaDoor.spanTexts
open Go.ChangeShapes Go.WideShapes Go.ChangeAt Go.RowKit
set_option linter.unusedVariables false
set_option maxRecDepth 100000 in
set_option maxHeartbeats 1000000 in
theorem walk (n d : Int) (s : ByteArray) (w : World) (hn : ItoaAt w n) (hd : ItoaAt w d) :
    Calls Tryd.prog 7 #[.agg #[.int .i64 n, .int .i64 d], .string s] w fun e w' => e = .returned (.bool true) ∧ Below w.heap.size w w' := by
  by_cases hl : 3000 < s.size
  · go_enter Tryd.func7, Tryd.ntmps7
    go_wp2_with fail
    refine (awake_any _).mono ?_
    rintro e w1 ⟨rfl, hb1⟩
    go_wp2_with fail
    go_ret
    refine ⟨rfl, ?_⟩
    repeat (first | exact Below.refl _ _ | refine below_drewN ?_ _ | refine Below.drew ?_ | refine below_alloc ?_ _ | (refine below_call ?_ (by assumption)) | (refine Below.setCell ?_ ?_ _; rotate_left; (simp; try omega)))
  · have hs : (s.size : Int) ≤ 9223372036854775806 := by omega
    have hl' : s.size ≤ 3000 := by omega
    clear hl
    obtain ⟨⟨p, q, r⟩, hm⟩ : ∃ x, x = parS s.data.toList := ⟨_, rfl⟩
    have M := Lib.hid hm; clear hm
    obtain ⟨⟨tx, te⟩, hm⟩ : ∃ x, x = textS n d := ⟨_, rfl⟩
    have T := Lib.hid hm; clear hm
    go_enter Tryd.func7, Tryd.ntmps7
    go_wp2_with fail
    refine (text_any n d _ (hn.later (below_alloc (Below.refl _ _) _)) (hd.later (below_alloc (Below.refl _ _) _))).mono ?_
    rintro e w1 ⟨rfl, hb1⟩
    rw [← T.out]
    have BA1 : Blk w1 (w.heap.size) 23 #[.int .i64 n, .int .i64 d] := by
      have h := Blk.kept (g := w.heap.size) (t := 23) (w' := w1) (by repeat (first | exact Blk.new _ _ _ | exact Blk.newAt _ _ _ _ (by simp) | exact Blk.newAt _ _ _ _ (by simp only [World.size_alloc, World.drewN, World.drew]) | refine Blk.alloc ?_ _ | refine Blk.drewN ?_ _ | refine Blk.drew ?_ | refine Blk.set_ ?_ _ _ | (refine Blk.far ?_ (by simp only [ne_eq]; omega) _))) hb1
      exact h
    have cA0_1 : w1.cell? ⟨w.heap.size, 0, none⟩ = some (.int .i64 n) := BA1.cell 0
    have cA1_1 : w1.cell? ⟨w.heap.size, 1, none⟩ = some (.int .i64 d) := BA1.cell 1
    have lA1 : w.heap.size < w1.heap.size := BA1.lt
    have mA1 : w.heap.size < w1.heap.size + 1 := by omega
    have nA1 : w.heap.size < w1.heap.size + 1 + 1 := by omega
    go_wp2_with fail
    refine (refText_any n d _).mono ?_
    rintro e w2 ⟨rfl, hb2⟩
    rw [← T.out]
    have BA2 : Blk w2 (w.heap.size) 23 #[.int .i64 n, .int .i64 d] := by
      have h := Blk.kept (g := w.heap.size) (t := 23) (w' := w2) (by repeat (first | exact BA1 | exact Blk.new _ _ _ | exact Blk.newAt _ _ _ _ (by simp) | exact Blk.newAt _ _ _ _ (by simp only [World.size_alloc, World.drewN, World.drew]) | refine Blk.alloc ?_ _ | refine Blk.drewN ?_ _ | refine Blk.drew ?_ | refine Blk.set_ ?_ _ _ | (refine Blk.far ?_ (by simp only [ne_eq]; omega) _))) hb2
      exact h
    have cA0_2 : w2.cell? ⟨w.heap.size, 0, none⟩ = some (.int .i64 n) := BA2.cell 0
    have cA1_2 : w2.cell? ⟨w.heap.size, 1, none⟩ = some (.int .i64 d) := BA2.cell 1
    have lA2 : w.heap.size < w2.heap.size := BA2.lt
    have mA2 : w.heap.size < w2.heap.size + 1 := by omega
    have nA2 : w.heap.size < w2.heap.size + 1 + 1 := by omega
    go_wp2_with fail
    refine (parse_any s _ hs).mono ?_
    rintro e w3 ⟨rfl, hb3⟩
    rw [← M.out]
    go_wp2_with fail
    refine (refParse_any s _ hs).mono ?_
    rintro e w4 ⟨rfl, hb4⟩
    rw [← M.out]
    have BP4 : Blk w4 (w3.heap.size) 23 #[.int .i64 p, .int .i64 q] := by
      have h := Blk.kept (g := w3.heap.size) (t := 23) (w' := w4) (by repeat (first | exact Blk.new _ _ _ | exact Blk.newAt _ _ _ _ (by simp) | exact Blk.newAt _ _ _ _ (by simp only [World.size_alloc, World.drewN, World.drew]) | refine Blk.alloc ?_ _ | refine Blk.drewN ?_ _ | refine Blk.drew ?_ | refine Blk.set_ ?_ _ _ | (refine Blk.far ?_ (by simp only [ne_eq]; omega) _))) hb4
      exact h
    have cP0_4 : w4.cell? ⟨w3.heap.size, 0, none⟩ = some (.int .i64 p) := BP4.cell 0
    have cP1_4 : w4.cell? ⟨w3.heap.size, 1, none⟩ = some (.int .i64 q) := BP4.cell 1
    have lP4 : w3.heap.size < w4.heap.size := BP4.lt
    have mP4 : w3.heap.size < w4.heap.size + 1 := by omega
    have nP4 : w3.heap.size < w4.heap.size + 1 + 1 := by omega
    go_wp2_with fail
    refine (awake_any _).mono ?_
    rintro e w5 ⟨rfl, hb5⟩
    go_wp2_with fail
    go_ret
    refine ⟨rfl, ?_⟩
    repeat (first | exact Below.refl _ _ | refine below_drewN ?_ _ | refine Below.drew ?_ | refine below_alloc ?_ _ | (refine below_call ?_ (by assumption)) | (refine Below.setCell ?_ ?_ _; rotate_left; (simp; try omega)))

set_option maxRecDepth 100000 in
theorem lifted (os : Os) (started : os.Started) (H : Type) (enc : TypeId × Value → H) :
    ReturnsInHanded {} Tryd.checked os 7 .any (fun w args => (Rows.spanTextsSpec.pre enc Tryd.prog Tryd.f7 [] false w args ∧ laidMetH Tryd.prog laids w) ∧ sizedMet enc Tryd.prog Tryd.f7 (OpenSpec.ofChange Rows.spanTextsSpec) false w args) (Rows.spanTextsSpec.post enc Tryd.prog Tryd.f7 false true false false) := by
  refine returnsInHanded_of_change_and (C := Tryd.checked) (X := fun w _ => laidMetH Tryd.prog laids w) (fun _ _ _ hh h => h.of_heap hh) own started (by kernel_rfl) Tryd.func7
    (ChangeSpec.witness_shaped (enc := enc) (C := Tryd.checked) (os := os) (X := fun w _ => laidMetH Tryd.prog laids w) false (World.doorLaid Tryd.prog 24 os) #[.agg #[.int .i64 0, .int .i64 0], .string ByteArray.empty] 8 rfl (World.shaped_of_RefB (by kernel_rfl) (by kernel_rfl)) (by kernel_rfl) (by kernel_rfl) (by kernel_rfl) (door_met os _)) ?_
  intro W base args ds gs before hval0 hW _ _ hL _
  have hval : ∀ (j : Nat) t v, Tryd.f7.params[j]? = some t → args[j]? = some v → Value.okWide Tryd.prog W .any base t v := hval0
  have hW' := hW
  obtain ⟨p, q, hA0, hV, rfl, hfz, hnd⟩ := hW
  have hA : DataW.TrodAll enc Tryd.prog W 0 (fun _ => true) true Tryd.f7.params.toList args.toList ds p := hA0
  rw [Tryd.params7] at hA hval
  obtain ⟨v0, vs0, d0, ds0, p0, q0, hargs, rfl, rfl, h0, r0⟩ := trodAll_cons hA
  obtain ⟨v1, vs1, d1, ds1, p1, q1, rfl, rfl, rfl, h1, r1⟩ := trodAll_cons r0
  obtain ⟨rfl, rfl, rfl⟩ := trodAll_nil r1
  obtain rfl : args = #[v0, v1] := by cases args; simp_all
  obtain ⟨rfl, rfl⟩ := trodVars_none hV
  have k0 := h0
  have lt0 : ∀ x ∈ p0, x.block < W.heap.size := by obtain ⟨m, hm⟩ := k0; exact DataW.trod_lt m _ _ _ hm
  obtain ⟨a0, b0, rfl, w0⟩ := arg_time (hval 0 23 v0 rfl rfl) h0
  have k1 := h1
  have lt1 : ∀ x ∈ p1, x.block < W.heap.size := by obtain ⟨m, hm⟩ := k1; exact DataW.trod_lt m _ _ _ hm
  obtain ⟨a1, rfl, w1⟩ := arg_string (hval 1 9 v1 rfl rfl) h1
  clear hA0 hval0
  refine (walk a0 b0 a1 W (itoa_of_table (table_of hL) _ w0.1.1 w0.1.2) (itoa_of_table (table_of hL) _ w0.2.1 w0.2.2)).mono fun e W' ⟨he, bel⟩ => ?_
  subst he
  exact ⟨_, rfl, _, _, _, [], _, [], hW', trodAll_mk1 (shut_bool Tryd.underlying4 _), (trodAll_cons_mk (Below.trod laidOut (by kernel_rfl) (of_decide_eq_true (by kernel_rfl)) k0 bel lt0) (trodAll_cons_mk (Below.trod laidOut (by kernel_rfl) (of_decide_eq_true (by kernel_rfl)) k1 bel lt1) trodAll_mk0)), rfl, bel.frame _, fun h => by cases h⟩

theorem over : Rows.SpanTextsSaid :=
  OpenClaim.holds_of_wide 7 Tryd.f7 rfl rfl rfl rfl rfl rfl rfl ⟨rfl, rfl, rfl, rfl, rfl⟩ rfl rfl rfl rfl rfl (by kernel_rfl) Tryd.func7 (by kernel_rfl)
    (of_decide_eq_true (by kernel_rfl)) (by unfold Func.isWrapper; first | (rw [if_pos (by decide +kernel)]; kernel_rfl) | (rw [if_neg (by decide +kernel)]; exact ⟨rfl, rfl⟩))
    (fun os started H enc _ => lifted os started H enc)

/-- The card: the row, its variables tied to the program's text. -/
theorem proved : Rows.SpanTextsCardSaid :=
  Claim7.holds_tied_plain_at .later [] [.data, .data, .data] true Rows.spanTextsCard.stood.harness false
    over (fun _ h => by cases h) (by kernel_rfl) (fun _ h => by cases h) spanTexts_row_tie rfl ⟨rfl, rfl⟩ (by kernel_rfl) rfl
    (fun f fn hf hfn => by
      obtain rfl : f = 7 := Option.some.inj ((show Tryd.prog.funcNamed Tryd.f7.name = some 7 by kernel_rfl).symm.trans hf) |>.symm
      obtain rfl : fn = Tryd.f7 := (Option.some.inj (Tryd.func7.symm.trans hfn)).symm
      exact ⟨by kernel_rfl, fun j t ht => by
        rw [Tryd.params7] at ht
        have hm : t ∈ Tryd.f7.params.toList := by rw [Tryd.params7]; simpa using Array.mem_of_getElem? ht
        have hall : (Tryd.f7.params.toList.all fun u => !Tryd.prog.wantsStandIn u) = true := by kernel_rfl
        exact (show Tryd.prog.wantsStandIn t = false by simpa using List.all_eq_true.1 hall t hm)⟩)
    (by kernel_rfl)

end Go.Proofs.YtfafjdbdpbjklaaDoor.spanTexts
