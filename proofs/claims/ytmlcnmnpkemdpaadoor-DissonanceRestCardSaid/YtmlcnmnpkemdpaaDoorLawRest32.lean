/- DissonanceRest holds: a voice with one rest until the end, added as the last one, changes nothing. No condition. -/
import Derived.Test.YtmlcnmnpkemdpaaDoorTabDoor
import Derived.Test.YtmlcnmnpkemdpaaDoorDsAwake
import Derived.Test.YtmlcnmnpkemdpaaDoorDsMake
import Derived.Test.YtmlcnmnpkemdpaaDoorDsOwn
import Derived.Test.YtmlcnmnpkemdpaaDoorAlEnd32
import Derived.Test.YtmlcnmnpkemdpaaDoorSteps
namespace Go.Proofs.YtmlcnmnpkemdpaaDoor.dissonanceRest
open Go.RowKit Go.ChangeShapes Go.WideShapes Go.ChangeAt
set_option linter.unusedVariables false
theorem facts (L : List Int) : ∃ (E : Int) (F : List Dis), endE (made3 L) = ((E, 1), 0) ∧ 0 ≤ E ∧ E ≤ 1000000 ∧ dissE (made3 L) = (F, 0) ∧ (0 < E → dissE (made3 L ++ [[restD (E, 1)]]) = (F, 0)) ∧ F.length ≤ 2100000 := by
  have hs := made_set L
  have hz : (slicesE (made3 L)).2 = 0 := by rw [setq_slices hs]
  obtain ⟨E, e1, e2, e3, e4⟩ := whole_end (made_whole L)
  refine ⟨E, _, by rw [endE_ok hz, e1], e2, e3, diss_set hs, fun h => ?_, ?_⟩
  · have := diss_rest hs (by show 3 ≤ 7; omega) (e4 h)
    rw [e1] at this
    rw [this, diss_set hs]
  · have := dissE_len (made3 L); rw [diss_set hs] at this; exact this
theorem rest_rows {w2 w3 : World} {base c1 c3 : Nat} {A1 A3 : Option Addr} {ds : List Pl} {l : List (List Ev)} {E : Int} (hlen : ds.length = 3) (hl : l.length = 3) (hvs : VocAt w2 base ds l)
    (rowA : ((w2.alloc (.cells #[.int .i64 0, .int .i64 1, .int .i64 E, .int .i64 1, .int .i64 0, .int .i64 0, .int .i64 0, .bool true, .int .i64 0, .int .i64 0] 54)).alloc (.cells #[.slice (some ⟨w2.heap.size, 0, none⟩) 1 1] 37)).ownsRow base 37 1 (.slice A1 3 c1) 3 (csV ds))
    (hg : ((w2.alloc (.cells #[.int .i64 0, .int .i64 1, .int .i64 E, .int .i64 1, .int .i64 0, .int .i64 0, .int .i64 0, .bool true, .int .i64 0, .int .i64 0] 54)).alloc (.cells #[.slice (some ⟨w2.heap.size, 0, none⟩) 1 1] 37)).grownBy w3 (Value.slice A1 3 c1).ownBlock)
    (hown : w3.ownsRow base 37 1 (.slice A3 (3 + 1) c3) (3 + 1) (csV ds ++ csV [(some ⟨w2.heap.size, 0, none⟩, 1, 1)])) :
    ReadsV w3 w3.heap.size A3 4 (l ++ [[restD (E, 1)]]) := by
  have HNE : 54 ≠ 37 := by decide
  have k2 : Below w2.heap.size w2 ((w2.alloc (.cells #[.int .i64 0, .int .i64 1, .int .i64 E, .int .i64 1, .int .i64 0, .int .i64 0, .int .i64 0, .bool true, .int .i64 0, .int .i64 0] 54)).alloc (.cells #[.slice (some ⟨w2.heap.size, 0, none⟩) 1 1] 37)) := below_alloc (below_alloc (Below.refl _ _) _) _
  rw [← csV_append] at hown
  obtain ⟨A9, c9, e9, r9, _, _⟩ := own_reads hown
  cases e9
  refine ⟨ds ++ [(some ⟨w2.heap.size, 0, none⟩, 1, 1)], by rw [List.length_append, List.length_append, hlen, hl]; rfl, r9, fun k d v hd hv => ?_⟩
  rcases Nat.lt_or_ge k 3 with hk | hk
  · rw [List.getElem?_append_left (by omega)] at hd hv
    obtain ⟨h1, h2⟩ := hvs k d v hd hv
    obtain ⟨A8, c8, e8, r8, _, _⟩ := own_reads (own_far (own_call h1 k2) rowA hg HNE)
    cases e8
    exact ⟨r8, h2⟩
  · have hk3 : k = 3 := by
      have := (List.getElem?_eq_some_iff.1 hd).1
      rw [List.length_append, hlen, List.length_singleton] at this
      omega
    subst hk3
    rw [List.getElem?_append_right (by omega), hlen] at hd
    rw [List.getElem?_append_right (by omega), hl] at hv
    simp at hd hv
    subst hd hv
    have lit := World.ownsRow_lit (e := 54) (size := 10) (base := w2.heap.size) w2 #[.int .i64 0, .int .i64 1, .int .i64 E, .int .i64 1, .int .i64 0, .int .i64 0, .int .i64 0, .bool true, .int .i64 0, .int .i64 0] 1 (Nat.le_refl _) (by simp [maxLen]) rfl
    obtain ⟨A8, c8, e8, r8, _, _⟩ := own_reads (own_far (own_call lit (below_alloc (Below.refl _ _) (.cells #[.slice (some ⟨w2.heap.size, 0, none⟩) 1 1] 37))) rowA hg HNE)
    cases e8
    exact ⟨r8, by show 1 ≤ _; omega⟩
set_option maxRecDepth 100000 in
set_option maxHeartbeats 16000000 in
theorem walk {A : Option Addr} {n : Nat} {L : List Int} {w : World} (c : Nat) (h : Nums w A n L) (ht : Tabs w) :
    Calls Tryd.prog 7 #[.slice A n c] w fun e w' => e = .returned (.bool true) ∧ Below w.heap.size w w' := by
  obtain ⟨i0, hi0, hz0, hz1, hz2⟩ := info_parts voice_info
  go_enter Tryd.func7, Tryd.ntmps7
  go_wp2_with fail
  refine (known_any w ht).mono ?_
  rintro e w1 ⟨rfl, k1⟩
  replace h := h.kept k1
  go_wp2_with fail
  refine (made32_any h c).mono ?_
  rintro e w2 ⟨A2, c2, rfl, r2, b2⟩
  have k2 := below_call k1 b2
  clear h b2 k1
  obtain ⟨E, F, e1, hE0, hE1, e3, e4, hF2⟩ := facts L
  have hlen := made_len L
  obtain ⟨S, hS⟩ : ∃ S, S = made3 L := ⟨_, rfl⟩
  have hS3 : S.length = 3 := by rw [hS]; rfl
  rw [← hS] at e1 e3 e4 r2 hlen
  clear hS
  have q0 := end_any A2 3 c2 S _ w2 r2 (Nat.le_refl _) (by omega)
  rw [e1] at q0
  have q1 := fun W (hW : ReadsV W W.heap.size A2 3 S) (hT : Tabs W) => diss_any A2 3 c2 S W hW (by omega) hT
  simp only [e3] at q1
  clear e1 e3
  go_wp2_with fail
  refine q0.mono ?_
  rintro e w3 ⟨rfl, b3⟩
  have k3 := below_call k2 b3
  have r3 := rdV r2 b3
  clear q0 r2 b3 k2
  simp only at ⊢
  by_cases h0 : E < 1
  · obtain rfl : E = 0 := by omega
    clear e4 hE0 hE1 h0 q1 hF2 hlen hS3 r3
    go_wp2_with fail
    obtain ⟨wq, hwq⟩ : ∃ z, z = w3.alloc (.cells #[.int .i64 0, .int .i64 1] 52) := ⟨_, rfl⟩
    have BX : Blk wq w3.heap.size 52 #[.int .i64 0, .int .i64 1] := by rw [hwq]; exact Blk.new _ _ _
    have kq : Below w3.heap.size w3 wq := by rw [hwq]; exact below_alloc (Below.refl _ _) _
    rw [← hwq]
    clear hwq
    have x0 := BX.cell 0
    have x1 := BX.cell 1
    have xl := BX.lt
    refine wp_region_calm (by kernel_rfl) (by kernel_rfl) ?_
    repeat (go_big_quiet_step ((go_at_call 28; with_reducible exact calm_call (zero_any _))))
    refine wpQuiet_nil ?_
    intro wd gd
    go_wp2
    refine ret_of (by simp [results, Tryd.results7, go_sem, *]; repeat' (first | rfl | apply And.intro)) rfl ⟨rfl, below_call (below_call k3 kq) gd⟩
  · have e4' := e4 (by omega)
    have d0 : ¬ (E < 1) := h0
    have q3 := fun W A (hW : ReadsV W W.heap.size A 4 (S ++ [[restD (E, 1)]])) (hT : Tabs W) c => diss_any A 4 c (S ++ [[restD (E, 1)]]) W hW (by omega) hT
    simp only [e4'] at q3
    clear e4 h0 e4'
    obtain ⟨N, hN⟩ : ∃ N, N = F.length := ⟨_, rfl⟩
    have HN := Lib.hid hN
    rw [← hN] at hF2
    clear hN
    go_wp2_with fail
    obtain ⟨wp, hwp⟩ : ∃ z, z = w3.alloc (.cells #[.int .i64 E, .int .i64 1] 52) := ⟨_, rfl⟩
    have BX : Blk wp w3.heap.size 52 #[.int .i64 E, .int .i64 1] := by rw [hwp]; exact Blk.new _ _ _
    have kp : Below w3.heap.size w3 wp := by rw [hwp]; exact below_alloc (Below.refl _ _) _
    have rp := rdV r3 kp
    have kp' := below_call k3 kp
    rw [← hwp]
    clear hwp kp k3 r3
    refine (q1 wp rp (ht.kept kp')).mono ?_
    rintro e wq ⟨B1, d1, rfl, f1, b4⟩
    have kq := below_call kp' b4
    have rq := rdV rp b4
    replace BX := BX.kept b4
    clear q1 rp b4 kp'
    simp only [← HN.out] at f1 ⊢
    go_wp2_with fail
    have x0 := BX.cell 0
    have x1 := BX.cell 1
    have xl := BX.lt
    have htq := ht.kept kq
    obtain ⟨g5, hg5⟩ : ∃ z, z = w3.heap.size := ⟨_, rfl⟩
    rw [← hg5] at x0 x1 xl ⊢
    clear hg5 BX ht
    have q4 := fun W (hW : Below wq.heap.size wq W) => own32_row A2 3 c2 S W (rdV rq hW) (by omega) (fun v hv => Nat.le_trans (hlen v hv) (by omega))
    have y6 : 3 + 1 ≤ maxLen := by simp only [maxLen]; omega
    have y7 : (3 + 1) * 24 ≤ 140737488355328 := by omega
    have y8 : 0 < 1 := by omega
    clear rq hlen
    go_region_held3 (fun w' => w'.cell? ⟨g5, 0, none⟩ = some (.int .i64 E) ∧ w'.cell? ⟨g5, 1, none⟩ = some (.int .i64 1) ∧ Below wq.heap.size wq w') ((refine (fun hb => ⟨(hb.cell (p := ⟨_, _, none⟩) xl).trans x0, (hb.cell (p := ⟨_, _, none⟩) xl).trans x1, hb⟩) ?_; repeat (first | with_reducible exact Below.refl _ _ | with_reducible exact hB1 | with_reducible exact hB2 | with_reducible exact hB3 | with_reducible exact hB4 | with_reducible exact (show _ ∧ _ ∧ Below wq.heap.size wq _ by assumption).2.2 | with_reducible refine Below.drew ?_ | with_reducible refine below_alloc ?_ _))) ((first
      | (go_at_call 24; refine (q4 _ (show _ ∧ _ ∧ Below wq.heap.size wq _ by assumption).2.2).mono ?_; rintro e w5 ⟨u5, ds, rfl, hrow, hdl, hvs, hfar, hb1⟩; have hB1 := below_call (show _ ∧ _ ∧ Below wq.heap.size wq _ by assumption).2.2 hb1; have hrow1 := own_lower hrow ((show _ ∧ _ ∧ Below wq.heap.size wq _ by assumption).2.2).size; obtain ⟨A1, c1, rfl, _, _, _⟩ := own_reads hrow1)
      | (go_at_call 28; refine (zero_any _).mono ?_; rintro e w6 ⟨rfl, hb2⟩; have hB2 := below_call (show _ ∧ _ ∧ Below wq.heap.size wq _ by assumption).2.2 hb2; have hrow2 := own_call hrow1 hb2; have hvs2 := hvs.kept hb2)
      | ((refine step_guard (.tmp 42) (.tmp 47) 22 (.slice A1 3 c1) ?_ ?_ ?_); (focus rfl); (focus rfl); (refine step_append_any _ (by rfl) (.tmp 42) (.tmp 47) 22 (by rfl) wq.heap.size 37 i0 _ 1 24 Tryd.underlying22 hi0 hz0 hz1 hz2 rfl y8 (.slice A1 3 c1) 3 (csV ds) (by rfl) (own_call hrow2 (below_alloc (below_alloc (Below.refl _ _) _) _)) (w6.heap.size + 1 + 1) (some ⟨w6.heap.size + 1, 0, none⟩) 1 1 (csV [(some ⟨w6.heap.size, 0, none⟩, 1, 1)]) (by rfl) (Reads.newAt _ _ _ 1 1 _ (by simp) rfl) (one_csV _) y6 y7 ((show _ ∧ _ ∧ Below wq.heap.size wq _ by assumption).2.2).size ?_); intro v7 w7 hown7 hg7 hat7; have hB3 : Below wq.heap.size wq w7 := Below.grown (B := wq.heap.size) (a := wq) (show _ ∧ _ ∧ Below wq.heap.size wq _ by assumption).2.2 hg7 ((show _ ∧ _ ∧ Below wq.heap.size wq _ by assumption).2.2).size (fun q hq => (hrow2.lt q hq).1); obtain ⟨A7, c7, hv7, _, _, _⟩ := own_reads hown7; subst hv7; have hR7 := rest_rows hdl hS3 hvs2 (own_call hrow2 (below_alloc (below_alloc (Below.refl _ _) _) _)) hg7 hown7)
      | (go_at_call 23; refine (q3 w7 A7 hR7 (htq.kept (show _ ∧ _ ∧ Below wq.heap.size wq _ by assumption).2.2) c7).mono ?_; rintro e w8 ⟨B4, d4, rfl, f4, hb4⟩; have hB4 := below_call (show _ ∧ _ ∧ Below wq.heap.size wq _ by assumption).2.2 hb4)))
    all_goals
      have f1' := rd1 f1 hB4
      simp only [← HN.out] at f4 ⊢
      clear f1 q3 q4 hB1 hB2 hB3 hrow hrow1 hrow2 hvs hvs2 hown7 hg7 hat7 hR7 hfar
      go_wp2_with fail
      refine (sameDis_any B1 B4 N d1 d4 F w8 f1' f4 (by omega)).mono ?_
      rintro e w9 ⟨rfl, b9⟩
      have k9 := below_call (below_call kq hB4) b9
      go_wp2
      refine ret_of (by simp [results, Tryd.results7, go_sem, *]; repeat' (first | rfl | apply And.intro)) rfl ⟨rfl, k9⟩
def laids : List (String × DataW Unit) := Rows.dissonanceRestRow.laid
theorem door_met (os : Os) (args : Array Value) : laidMetH Tryd.prog laids ((World.doorLaid Tryd.prog 80 os).forCall (fun _ _ => 0) ⟨#[], args, []⟩).memory :=
  laidMetH_of_parts3 (fuel := 8) (laidMet_of_run' 8 (by kernel_rfl) (by kernel_rfl)) (by kernel_rfl) (by kernel_rfl)
theorem tabs_of {W : World} (h : laidMetH Tryd.prog laids W) : Tabs W := by
  rw [MakeChecks.laidMetH_plain _ _ _ (by kernel_rfl)] at h
  exact tabs_of_list h (by kernel_rfl) (by kernel_rfl)
set_option maxRecDepth 100000 in
theorem lifted (os : Os) (started : os.Started) (H : Type) (enc : TypeId × Value → H) :
    ReturnsInHanded {} Tryd.checked os 7 .any (fun w args => (Rows.dissonanceRestSpec.pre enc Tryd.prog Tryd.f7 [] false w args ∧ laidMetH Tryd.prog laids w) ∧ sizedMet enc Tryd.prog Tryd.f7 (OpenSpec.ofChange Rows.dissonanceRestSpec) false w args) (Rows.dissonanceRestSpec.post enc Tryd.prog Tryd.f7 false true false false) := by
  refine returnsInHanded_of_change_and (C := Tryd.checked) (X := fun w _ => laidMetH Tryd.prog laids w) (fun _ _ _ hh h => h.of_heap hh) own started (by kernel_rfl) Tryd.func7
    (ChangeSpec.witness_shaped (enc := enc) (C := Tryd.checked) (os := os) (X := fun w _ => laidMetH Tryd.prog laids w) false (World.doorLaid Tryd.prog 80 os) #[.slice none 0 0] 8 rfl (World.shaped_of_RefB (by kernel_rfl) (by kernel_rfl)) (by kernel_rfl) (by kernel_rfl) (by kernel_rfl) (door_met os _)) ?_
  intro W base args ds gs before hval0 hW _ _ hL _
  have hval : ∀ (j : Nat) t v, Tryd.f7.params[j]? = some t → args[j]? = some v → Value.okWide Tryd.prog W .any base t v := hval0
  have hW' := hW
  obtain ⟨p, q, hA0, hV, rfl, hfz, hnd⟩ := hW
  have hA : DataW.TrodAll enc Tryd.prog W 0 (fun _ => true) true Tryd.f7.params.toList args.toList ds p := hA0
  rw [Tryd.params7] at hA hval
  obtain ⟨v0, vs0, d0, ds0, p0, q0, hargs, rfl, rfl, h0, r0⟩ := trodAll_cons hA
  obtain ⟨rfl, rfl, rfl⟩ := trodAll_nil r0
  obtain rfl : args = #[v0] := by cases args; simp_all
  obtain ⟨rfl, rfl⟩ := trodVars_none hV
  have k0 := h0
  have lt0 : ∀ x ∈ p0, x.block < W.heap.size := by obtain ⟨m, hm⟩ := k0; exact DataW.trod_lt m _ _ _ hm
  obtain ⟨A0, n0, c0, l0, rfl, w0⟩ := arg_ints (hval 0 25 v0 rfl rfl) h0
  clear hA0 hval0
  refine (walk c0 ⟨w0.1, w0.2.1, w0.2.2⟩ (tabs_of hL)).mono fun e W' ⟨he, bel⟩ => ?_
  subst he
  exact ⟨_, rfl, _, _, _, [], _, [], hW', trodAll_mk1 (shut_bool Tryd.underlying4 _), (trodAll_cons_mk (Below.trod laidOut (by kernel_rfl) (of_decide_eq_true (by kernel_rfl)) k0 bel lt0) trodAll_mk0), rfl, bel.frame _, fun h => by cases h⟩

theorem over : Rows.DissonanceRestSaid :=
  OpenClaim.holds_of_wide 7 Tryd.f7 rfl rfl rfl rfl rfl rfl rfl ⟨rfl, rfl, rfl, rfl, rfl⟩ rfl rfl rfl rfl rfl (by kernel_rfl) Tryd.func7 (by kernel_rfl)
    (of_decide_eq_true (by kernel_rfl)) (by unfold Func.isWrapper; first | (rw [if_pos (by decide +kernel)]; kernel_rfl) | (rw [if_neg (by decide +kernel)]; exact ⟨rfl, rfl⟩))
    (fun os started H enc _ => lifted os started H enc)

/-- The card: the row, its variables tied to the program's text. -/
theorem proved : Rows.DissonanceRestCardSaid :=
  Claim7.holds_tied_plain_at .later [] [.data, .data] true Rows.dissonanceRestCard.stood.harness Rows.dissonanceRestCard.stood.looks
    over (fun _ h => by cases h) (by kernel_rfl) (fun _ h => by cases h) dissonanceRest_row_tie rfl ⟨rfl, rfl⟩ (by kernel_rfl) rfl
    (fun f fn hf hfn => by
      obtain rfl : f = 7 := Option.some.inj ((show Tryd.prog.funcNamed Tryd.f7.name = some 7 by kernel_rfl).symm.trans hf) |>.symm
      obtain rfl : fn = Tryd.f7 := (Option.some.inj (Tryd.func7.symm.trans hfn)).symm
      exact ⟨by kernel_rfl, fun j t ht => by
        rw [Tryd.params7] at ht
        have hm : t ∈ Tryd.f7.params.toList := by rw [Tryd.params7]; simpa using Array.mem_of_getElem? ht
        have hall : (Tryd.f7.params.toList.all fun u => !Tryd.prog.wantsStandIn u) = true := by kernel_rfl
        exact (show Tryd.prog.wantsStandIn t = false by simpa using List.all_eq_true.1 hall t hm)⟩)
    (by kernel_rfl)

end Go.Proofs.YtmlcnmnpkemdpaaDoor.dissonanceRest
