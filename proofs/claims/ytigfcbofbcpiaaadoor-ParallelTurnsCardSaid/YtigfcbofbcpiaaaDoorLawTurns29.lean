/- ParallelTurns holds: for every two lists of numbers and every number for an axis, the two voices made of them, led to one end, have backwards as many motions of the kinds 1 and 3, and upside down the same ones into unisons and octaves. No condition. -/
import Derived.Test.YtigfcbofbcpiaaaDoorTabDoor
import Derived.Test.YtigfcbofbcpiaaaDoorNums
import Derived.Test.YtigfcbofbcpiaaaDoorPaCounts
import Derived.Test.YtigfcbofbcpiaaaDoorPaAwake
import Derived.Test.YtigfcbofbcpiaaaDoorChPitchB
namespace Go.Proofs.YtigfcbofbcpiaaaDoor.parallelTurns
open Go.RowKit Go.ChangeShapes Go.WideShapes Go.ChangeAt
set_option linter.unusedVariables false
set_option maxRecDepth 100000 in
set_option maxHeartbeats 16000000 in
theorem walk {Aa Ab : Option Addr} {na nb : Nat} {x y : List Int} {w : World} (ca cb : Nat) (ax : Int) (ha : Nums w Aa na x) (hb : Nums w Ab nb y) (hx0 : -9223372036854775808 ≤ ax) (hx1 : ax ≤ 9223372036854775807) (ht : Tabs w) :
    Calls Tryd.prog 7 #[.slice Aa na ca, .slice Ab nb cb, .int .i64 ax] w fun e w' => e = .returned (.bool true) ∧ Below w.heap.size w w' := by
  have q1 := fun W (h : Nums W Aa na x) => h.voice ca 12 (by omega)
  have q2 := fun W (h : Nums W Ab nb y) => h.voice cb 12 (by omega)
  obtain ⟨k, hk⟩ : ∃ k, k = ax % 7 := ⟨_, rfl⟩
  have hk0 : 0 ≤ k := by omega
  have hk7 : k < 7 := by omega
  have HM := Lib.hid (fun W => mod_any ax 7 W (by omega) (by omega) hx0 hx1)
  rw [← hk] at HM
  clear hk hx0 hx1
  have wk : IntKind.i64.wrap (28 + k) = 28 + k := IntWalk.i64_in _ (by omega)
  have HO := Lib.hid (fun W => pOf_any (28 + k) 0 W)
  rw [show ofP (28 + k) 0 = ((k, 4, 0), 0) by unfold ofP; rw [if_neg (by omega)]; ext <;> simp only <;> omega] at HO
  have sx := z_small 12 x
  have sy := z_small 12 y
  obtain ⟨A, B, A', B', A2, B2, F, F', F2, hA, hB, hl, f1, r1, r2, f2, n1, n3, m1, m2, f3, fo⟩ := turn_facts29 sx sy (z_len 12 x) (z_len 12 y) hk0 hk7
  have lx : (voiceS 12 x).length ≤ 12 := (voice_q 12 (by omega) x).2.2
  have ly : (voiceS 12 y).length ≤ 12 := (voice_q 12 (by omega) y).2.2
  have gl := fun A1 A2' n n' c c' W (h1 : Reads W W.heap.size 10 A1 n (csE (voiceS 12 x))) (h2 : Reads W W.heap.size 10 A2' n' (csE (voiceS 12 y))) (h3 : n ≤ 12) (h4 : n' ≤ 12) => level_any A1 A2' n n' c c' _ _ W h1 h2 sx sy h3 h4
  simp only [hA, hB] at gl
  have LN := Lib.hid hl
  have hf1 := findE_len [A, B]
  have hk1 := fun p (hp : p ∈ (findE [A, B]).1) => findE_kinds hp
  have hf2 := findE_len [A', B']
  have hk2 := fun p (hp : p ∈ (findE [A', B']).1) => findE_kinds hp
  have hf3 := findE_len [A2, B2]
  rw [f1] at hf1 hk1
  rw [f2] at hf2 hk2
  rw [f3] at hf3
  simp only at hf1 hf2 hf3 hk1 hk2
  have K1 := Lib.hid hk1
  have K2 := Lib.hid hk2
  have g1 := fun A'' W (h : ReadsV W W.heap.size A'' 2 [A, B]) (hT : Tabs W) => find_any A'' 2 2 [A, B] _ W h (Nat.le_refl _) (by omega) hT
  have g2 := fun A'' W (h : ReadsV W W.heap.size A'' 2 [A', B']) (hT : Tabs W) => find_any A'' 2 2 [A', B'] _ W h (Nat.le_refl _) (by omega) hT
  have g3 := fun A'' W (h : ReadsV W W.heap.size A'' 2 [A2, B2]) (hT : Tabs W) => find_any A'' 2 2 [A2, B2] _ W h (Nat.le_refl _) (by omega) hT
  simp only [f1] at g1
  simp only [f2] at g2
  simp only [f3] at g3
  have g4 := fun A'' n c W (h : Reads W W.heap.size 10 A'' n (csE A)) (hn : n ≤ 5000) => retro_any A'' n c A _ W h (Nat.le_refl _) hn
  have g5 := fun A'' n c W (h : Reads W W.heap.size 10 A'' n (csE B)) (hn : n ≤ 5000) => retro_any A'' n c B _ W h (Nat.le_refl _) hn
  simp only [r1] at g4
  simp only [r2] at g5
  have g6 := fun A'' n c W (h : Reads W W.heap.size 10 A'' n (csE A)) (hn : n ≤ 5000) => mirror_any A'' n c A (k, 4, 0) _ W h (Nat.le_refl _) hn
  have g7 := fun A'' n c W (h : Reads W W.heap.size 10 A'' n (csE B)) (hn : n ≤ 5000) => mirror_any A'' n c B (k, 4, 0) _ W h (Nat.le_refl _) hn
  simp only [m1] at g6
  simp only [m2] at g7
  have HV2 := Lib.hid (show vCounts F' = .agg #[.int .i64 0, .int .i64 (cntC 1 F), .int .i64 (cntC 2 F'), .int .i64 (cntC 3 F)] by unfold vCounts; rw [n1, n3])
  have FO := Lib.hid fo
  clear hA hB hl n1 n3 f1 f2 f3 m1 m2 r1 r2 fo hk1 hk2 sx sy hk0 hk7
  generalize voiceS 12 x = X at q1 gl lx
  generalize voiceS 12 y = Y at q2 gl ly
  have LX := Lib.hid lx
  have LY := Lib.hid ly
  clear lx ly
  go_enter Tryd.func7, Tryd.ntmps7
  go_wp2_with fail
  refine (known_any _ ht).mono ?_
  rintro e w1 ⟨rfl, k1⟩
  replace ha := ha.kept k1; replace hb := hb.kept k1
  go_wp2_with fail
  refine (q1 _ ha).mono ?_
  rintro e w2 ⟨A1, d1, rfl, o1, b2⟩
  replace hb := hb.kept b2
  have rX := o1.2.1
  have k2 := below_call k1 b2
  clear o1 b2 ha q1
  go_wp2_with fail
  refine (q2 _ hb).mono ?_
  rintro e w3 ⟨A3, d3, rfl, o2, b3⟩
  have rY := o2.2.1
  replace rX := rd1 rX b3
  have k3 := below_call k2 b3
  clear o2 b3 hb q2
  go_wp2_with fail
  refine (gl A1 A3 _ _ d1 d3 _ rX rY LX.out LY.out).mono ?_
  rintro e w4 ⟨P1, e1, P2, e2, rfl, rA, rB, b4⟩
  have k4 := below_call k3 b4
  clear rX rY b4 gl
  -- the motions
  go_wp2_with fail
  obtain ⟨w5, hww5, Sw5, bw5⟩ := set2 (c1 := e1) (c2 := e2) rA rB (by have := LN.out; omega) (by have := LN.out; omega)
  rw [← hww5]
  clear hww5
  replace rA := rd1 rA bw5; replace rB := rd1 rB bw5
  have k5 := below_call k4 bw5
  refine (g1 _ _ Sw5 (ht.kept k5)).mono ?_
  rintro e w6 ⟨v6, rfl, o6, b6⟩
  obtain ⟨AF, cF, rfl, rF, _, _⟩ := own_reads o6
  replace rA := rd1 rA b6; replace rB := rd1 rB b6
  have k6 := below_call k5 b6
  clear o6 b6 bw5 Sw5 g1
  -- backwards
  go_wp2_with fail
  refine (g4 P1 _ e1 _ rA (by have := LN.out; omega)).mono ?_
  rintro e w7 ⟨Q1, h1, rfl, o7, b7⟩
  replace rA := rd1 rA b7; replace rB := rd1 rB b7; replace rF := rd1 rF b7
  have rC := o7.2.1
  have k7 := below_call k6 b7
  clear o7 b7 g4
  go_wp2_with fail
  refine (g5 P2 _ e2 _ rB (by have := LN.out; omega)).mono ?_
  rintro e w8 ⟨Q2, h2, rfl, o8, b8⟩
  replace rA := rd1 rA b8; replace rB := rd1 rB b8; replace rF := rd1 rF b8; replace rC := rd1 rC b8
  have rD := o8.2.1
  have k8 := below_call k7 b8
  clear o8 b8 g5
  go_wp2_with fail
  obtain ⟨w9, hww9, Sw9, bw9⟩ := set2 (c1 := h1) (c2 := h2) rC rD (by have := LN.out; omega) (by have := LN.out; omega)
  rw [← hww9]
  clear hww9
  replace rA := rd1 rA bw9; replace rB := rd1 rB bw9; replace rF := rd1 rF bw9
  have k9 := below_call k8 bw9
  refine (g2 _ _ Sw9 (ht.kept k9)).mono ?_
  rintro e wa ⟨va, rfl, oa, ba⟩
  obtain ⟨AG, cG, rfl, rG, _, _⟩ := own_reads oa
  replace rA := rd1 rA ba; replace rB := rd1 rB ba; replace rF := rd1 rF ba
  have ka := below_call k9 ba
  clear oa ba bw9 Sw9 g2 rC rD
  -- counted
  go_wp2_with fail
  refine (counts_any AF _ cF F _ rF hf1 K1.out).mono ?_
  rintro e wb ⟨rfl, bwb⟩
  have kwb := below_call ka bwb
  replace rA := rd1 rA bwb; replace rB := rd1 rB bwb; replace rF := rd1 rF bwb; replace rG := rd1 rG bwb
  clear bwb
  go_wp2_with fail
  refine (counts_any AG _ cG F' _ rG hf2 K2.out).mono ?_
  rintro e wc ⟨rfl, bwc⟩
  have kwc := below_call kwb bwc
  rw [HV2.out]
  replace rA := rd1 rA bwc; replace rB := rd1 rB bwc; replace rF := rd1 rF bwc; replace rG := rd1 rG bwc
  clear bwc
  go_wp2_with fail
  refine (counts_any AF _ cF F _ rF hf1 K1.out).mono ?_
  rintro e wd ⟨rfl, bwd⟩
  have kwd := below_call kwc bwd
  replace rA := rd1 rA bwd; replace rB := rd1 rB bwd; replace rF := rd1 rF bwd; replace rG := rd1 rG bwd
  clear bwd
  go_wp2_with fail
  refine (counts_any AG _ cG F' _ rG hf2 K2.out).mono ?_
  rintro e we ⟨rfl, bwe⟩
  have kwe := below_call kwd bwe
  rw [HV2.out]
  replace rA := rd1 rA bwe; replace rB := rd1 rB bwe; replace rF := rd1 rF bwe
  clear bwe rG
  -- upside down
  go_wp2_with fail
  refine (HM.out _).mono ?_
  rintro e wf ⟨rfl, rfl⟩
  go_wp2_with fail
  refine (HO.out _).mono ?_
  rintro e wg ⟨rfl, bg⟩
  replace rA := rd1 rA bg; replace rB := rd1 rB bg; replace rF := rd1 rF bg
  have kg := below_call kwe bg
  clear bg HM HO
  go_wp2_with fail
  obtain ⟨wh, hwh⟩ : ∃ z, z = wg.alloc (.cells #[.int .i64 k, .int .i64 4, .int .i64 0] 57) := ⟨_, rfl⟩
  have bh : Below wg.heap.size wg wh := by rw [hwh]; exact below_alloc (Below.refl _ _) _
  have TX : Blk wh wg.heap.size 57 #[.int .i64 k, .int .i64 4, .int .i64 0] := by rw [hwh]; exact Blk.new _ _ _
  rw [← hwh]
  replace rA := rd1 rA bh; replace rB := rd1 rB bh; replace rF := rd1 rF bh
  have kh := below_call kg bh
  clear bh hwh
  refine (g6 P1 _ e1 _ rA (by have := LN.out; omega)).mono ?_
  rintro e wi ⟨Q3, h3, rfl, o3, bi⟩
  replace rB := rd1 rB bi; replace rF := rd1 rF bi
  have rC := o3.2.1
  have TY := TX.kept bi
  have ki := below_call kh bi
  have x0 := TY.cell 0
  have x1 := TY.cell 1
  have x2 := TY.cell 2
  have xl := TY.lt
  clear o3 bi g6 rA TX TY
  go_wp2_with fail
  refine (g7 P2 _ e2 _ rB (by have := LN.out; omega)).mono ?_
  rintro e wj ⟨Q4, h4, rfl, o4, bj⟩
  replace rF := rd1 rF bj; replace rC := rd1 rC bj
  have rD := o4.2.1
  have kj := below_call ki bj
  clear o4 bj g7 rB x0 x1 x2 xl
  go_wp2_with fail
  obtain ⟨wk', hwwk', Swk', bwk'⟩ := set2 (c1 := h3) (c2 := h4) rC rD (by have := LN.out; omega) (by have := LN.out; omega)
  rw [← hwwk']
  clear hwwk'
  replace rF := rd1 rF bwk'
  have kk := below_call kj bwk'
  refine (g3 _ _ Swk' (ht.kept kk)).mono ?_
  rintro e wl ⟨vl, rfl, ol, bl⟩
  obtain ⟨AH, cH, rfl, rH, _, _⟩ := own_reads ol
  replace rF := rd1 rF bl
  have kl := below_call kk bl
  clear ol bl bwk' Swk' g3 rC rD
  -- octaves
  go_wp2_with fail
  refine (octaves_any AF _ cF F _ rF hf1).mono ?_
  rintro e wm ⟨vm, rfl, om, bm⟩
  obtain ⟨AI, cI', rfl, rI, _, _⟩ := own_reads om
  replace rH := rd1 rH bm
  have km := below_call kl bm
  clear om bm rF
  go_wp2_with fail
  refine (octaves_any AH _ cH F2 _ rH hf3).mono ?_
  rintro e wn ⟨vn, rfl, on, bn⟩
  obtain ⟨AJ, cJ, rfl, rJ, _, _⟩ := own_reads on
  replace rI := rd1 rI bn
  have kn := below_call km bn
  clear on bn rH
  rw [FO.out] at rJ ⊢
  have hlen : (F.filter octB).length ≤ 3200000 := Nat.le_trans (List.length_filter_le _ _) hf1
  go_wp2_with fail
  refine (samePar_any AI AJ _ cI' cJ _ _ rI rJ (by omega)).mono ?_
  rintro e wo ⟨rfl, bo⟩
  go_wp2
  go_ret
  exact ⟨rfl, below_call kn bo⟩
def laids : List (String × DataW Unit) := Rows.parallelTurnsRow.laid
theorem door_met (os : Os) (args : Array Value) : laidMetH Tryd.prog laids ((World.doorLaid Tryd.prog 80 os).forCall (fun _ _ => 0) ⟨#[], args, []⟩).memory :=
  laidMetH_of_parts3 (fuel := 8) (laidMet_of_run' 8 (by kernel_rfl) (by kernel_rfl)) (by kernel_rfl) (by kernel_rfl)
theorem tabs_of {W : World} (h : laidMetH Tryd.prog laids W) : Tabs W := by
  rw [MakeChecks.laidMetH_plain _ _ _ (by kernel_rfl)] at h
  exact tabs_of_list h (by kernel_rfl) (by kernel_rfl)
set_option maxRecDepth 100000 in
theorem lifted (os : Os) (started : os.Started) (H : Type) (enc : TypeId × Value → H) :
    ReturnsInHanded {} Tryd.checked os 7 .any (fun w args => (Rows.parallelTurnsSpec.pre enc Tryd.prog Tryd.f7 [] false w args ∧ laidMetH Tryd.prog laids w) ∧ sizedMet enc Tryd.prog Tryd.f7 (OpenSpec.ofChange Rows.parallelTurnsSpec) false w args) (Rows.parallelTurnsSpec.post enc Tryd.prog Tryd.f7 false true false false) := by
  refine returnsInHanded_of_change_and (C := Tryd.checked) (X := fun w _ => laidMetH Tryd.prog laids w) (fun _ _ _ hh h => h.of_heap hh) own started (by kernel_rfl) Tryd.func7
    (ChangeSpec.witness_shaped (enc := enc) (C := Tryd.checked) (os := os) (X := fun w _ => laidMetH Tryd.prog laids w) false (World.doorLaid Tryd.prog 80 os) #[.slice none 0 0, .slice none 0 0, .int .i64 0] 8 rfl (World.shaped_of_RefB (by kernel_rfl) (by kernel_rfl)) (by kernel_rfl) (by kernel_rfl) (by kernel_rfl) (door_met os _)) ?_
  intro W base args ds gs before hval0 hW _ _ hL _
  have hval : ∀ (j : Nat) t v, Tryd.f7.params[j]? = some t → args[j]? = some v → Value.okWide Tryd.prog W .any base t v := hval0
  have hW' := hW
  obtain ⟨p, q, hA0, hV, rfl, hfz, hnd⟩ := hW
  have hA : DataW.TrodAll enc Tryd.prog W 0 (fun _ => true) true Tryd.f7.params.toList args.toList ds p := hA0
  rw [Tryd.params7] at hA hval
  obtain ⟨v0, vs0, d0, ds0, p0, q0, hargs, rfl, rfl, h0, r0⟩ := trodAll_cons hA
  obtain ⟨v1, vs1, d1, ds1, p1, q1, rfl, rfl, rfl, h1, r1⟩ := trodAll_cons r0
  obtain ⟨v2, vs2, d2, ds2, p2, q2, rfl, rfl, rfl, h2, r2⟩ := trodAll_cons r1
  obtain ⟨rfl, rfl, rfl⟩ := trodAll_nil r2
  obtain rfl : args = #[v0, v1, v2] := by cases args; simp_all
  obtain ⟨rfl, rfl⟩ := trodVars_none hV
  have k0 := h0
  have lt0 : ∀ x ∈ p0, x.block < W.heap.size := by obtain ⟨m, hm⟩ := k0; exact DataW.trod_lt m _ _ _ hm
  obtain ⟨A0, n0, c0, l0, rfl, w0⟩ := arg_ints (hval 0 22 v0 rfl rfl) h0
  have k1 := h1
  have lt1 : ∀ x ∈ p1, x.block < W.heap.size := by obtain ⟨m, hm⟩ := k1; exact DataW.trod_lt m _ _ _ hm
  obtain ⟨A1, n1, c1, l1, rfl, w1⟩ := arg_ints (hval 1 22 v1 rfl rfl) h1
  have k2 := h2
  have lt2 : ∀ x ∈ p2, x.block < W.heap.size := by obtain ⟨m, hm⟩ := k2; exact DataW.trod_lt m _ _ _ hm
  obtain ⟨a2, rfl, w2⟩ := arg_int (hval 2 3 v2 rfl rfl) h2
  clear hA0 hval0
  refine (walk c0 c1 a2 ⟨w0.1, w0.2.1, w0.2.2⟩ ⟨w1.1, w1.2.1, w1.2.2⟩ w2.1 w2.2 (tabs_of hL)).mono fun e W' ⟨he, bel⟩ => ?_
  subst he
  exact ⟨_, rfl, _, _, _, [], _, [], hW', trodAll_mk1 (shut_bool Tryd.underlying4 _), (trodAll_cons_mk (Below.trod laidOut (by kernel_rfl) (of_decide_eq_true (by kernel_rfl)) k0 bel lt0) (trodAll_cons_mk (Below.trod laidOut (by kernel_rfl) (of_decide_eq_true (by kernel_rfl)) k1 bel lt1) (trodAll_cons_mk (Below.trod laidOut (by kernel_rfl) (of_decide_eq_true (by kernel_rfl)) k2 bel lt2) trodAll_mk0))), rfl, bel.frame _, fun h => by cases h⟩

theorem over : Rows.ParallelTurnsSaid :=
  OpenClaim.holds_of_wide 7 Tryd.f7 rfl rfl rfl rfl rfl rfl rfl ⟨rfl, rfl, rfl, rfl, rfl⟩ rfl rfl rfl rfl rfl (by kernel_rfl) Tryd.func7 (by kernel_rfl)
    (of_decide_eq_true (by kernel_rfl)) (by unfold Func.isWrapper; first | (rw [if_pos (by decide +kernel)]; kernel_rfl) | (rw [if_neg (by decide +kernel)]; exact ⟨rfl, rfl⟩))
    (fun os started H enc _ => lifted os started H enc)

/-- The card: the row, its variables tied to the program's text. -/
theorem proved : Rows.ParallelTurnsCardSaid :=
  Claim7.holds_tied_plain_at .later [] [.data, .data] true Rows.parallelTurnsCard.stood.harness Rows.parallelTurnsCard.stood.looks
    over (fun _ h => by cases h) (by kernel_rfl) (fun _ h => by cases h) parallelTurns_row_tie rfl ⟨rfl, rfl⟩ (by kernel_rfl) rfl
    (fun f fn hf hfn => by
      obtain rfl : f = 7 := Option.some.inj ((show Tryd.prog.funcNamed Tryd.f7.name = some 7 by kernel_rfl).symm.trans hf) |>.symm
      obtain rfl : fn = Tryd.f7 := (Option.some.inj (Tryd.func7.symm.trans hfn)).symm
      exact ⟨by kernel_rfl, fun j t ht => by
        rw [Tryd.params7] at ht
        have hm : t ∈ Tryd.f7.params.toList := by rw [Tryd.params7]; simpa using Array.mem_of_getElem? ht
        have hall : (Tryd.f7.params.toList.all fun u => !Tryd.prog.wantsStandIn u) = true := by kernel_rfl
        exact (show Tryd.prog.wantsStandIn t = false by simpa using List.all_eq_true.1 hall t hm)⟩)
    (by kernel_rfl)

end Go.Proofs.YtigfcbofbcpiaaaDoor.parallelTurns
