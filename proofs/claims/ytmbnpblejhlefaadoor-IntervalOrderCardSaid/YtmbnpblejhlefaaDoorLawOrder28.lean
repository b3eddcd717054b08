/- IntervalOrder: for every list of numbers and every number: the order of the pitches that they make changes neither the bass nor the number of clashes of each kind. -/
import Derived.Test.YtmbnpblejhlefaaDoorChSentOf
import Derived.Test.YtmbnpblejhlefaaDoorChMany
namespace Go.Proofs.YtmbnpblejhlefaaDoor.intervalOrder
open Go.RowKit Go.ChangeShapes Go.WideShapes Go.ChangeAt
theorem chord_ok {l : List Pt} (hv : ∀ p ∈ l, pchk p = 0) (hl : l.length ≤ 8) : chordE l = 0 := by
  unfold chordE
  rw [if_neg (by omega)]
  induction l with
  | nil => rfl
  | cons p l ih =>
    unfold firstE
    rw [hv p (by simp), if_neg (fun h => h rfl)]
    exact ih (fun q hq => hv q (List.mem_cons_of_mem _ hq)) (by simp at hl; omega)
set_option maxRecDepth 100000 in
set_option maxHeartbeats 4000000 in
theorem walk (A : Option Addr) (n c : Nat) (nums : List Int) (x : Int) (w : World) (hA : Reads w w.heap.size 1 A n (csI nums)) (hn : n ≤ 9223372036854775807) (hv : ∀ x ∈ nums, -9223372036854775808 ≤ x ∧ x ≤ 9223372036854775807)
    (hx : -9223372036854775808 ≤ x ∧ x ≤ 9223372036854775807) (ht : Tabs2 w) :
    Calls Tryd.prog 9 #[.slice A n c, .int .i64 x] w fun e w' => e = .returned (.bool true) ∧ Below w.heap.size w w' := by
  have ql := fun W (hW : Below w.heap.size w W) => list_any A n c nums w.heap.size W (hA.below (Nat.le_refl _) hW) hW.size hn hv
  have hLv := listP_ok nums
  have hL7 := listP_len nums
  obtain ⟨L, hL⟩ : ∃ L, L = listP nums := ⟨_, rfl⟩
  rw [← hL] at ql hLv hL7
  clear hL
  obtain ⟨N, hN⟩ : ∃ N, N = L.length := ⟨_, rfl⟩
  rw [← hN] at ql hL7
  obtain ⟨i0, hi0, hz0, hz1, hz2⟩ := info_parts pitch_info
  by_cases h0 : N = 0
  · subst h0
    go_enter Tryd.func9, Tryd.ntmps9
    go_wp2_with fail
    refine (known_any _ ht).mono ?_
    rintro e w1 ⟨rfl, hb1⟩
    go_wp2_with fail
    refine (ql _ hb1).mono ?_
    rintro e w2 ⟨A2, c2, rfl, o2, hb2⟩
    have k2 := below_call hb1 hb2
    go_wp2
    go_ret
    exact ⟨rfl, k2⟩
  · have hNp : 0 < N := by omega
    have hd0 : ((N : Int) == 0) = false := by simpa using h0
    have qm := fun W => mod_any x (N : Int) W (by omega) (by omega) hx.1 hx.2
    obtain ⟨K, hK⟩ : ∃ K : Nat, x % (N : Int) = (K : Int) := ⟨(x % (N : Int)).toNat, by have := Int.emod_nonneg x (show (N : Int) ≠ 0 by omega); omega⟩
    have hKN : K < N := by have := Int.emod_lt_of_pos x (show (0 : Int) < (N : Int) by omega); omega
    rw [hK] at qm
    clear hK
    obtain ⟨O, hO⟩ : ∃ O, O = otherL L K := ⟨_, rfl⟩
    have hp : L.Perm O := by rw [hO]; exact other_perm L K
    have hOl : O.length = N := by rw [hO, other_len, hN]
    have HOat := Lib.hid (fun (m : Nat) (hm : m < N) => (by rw [hO, hN]; exact other_at (by omega) (by omega) : O[m]? = some (pAt L ((N - 1 - m + K) % N))))
    have HLlen := Lib.hid hN.symm
    have HOlen := Lib.hid hOl
    have hOv : ∀ p ∈ O, pchk p = 0 := fun p hp' => hLv p (hp.mem_iff.2 hp')
    have eL := chord_ok hLv (by omega)
    have eO := chord_ok hOv (by omega)
    -- the bass
    have bL : bassE L = (((bassL L : Nat) : Int), 0) := by unfold bassE; rw [eL, if_neg (fun h => h rfl), if_neg (by omega)]
    have bO : bassE O = (((bassL O : Nat) : Int), 0) := by unfold bassE; rw [eO, if_neg (fun h => h rfl), if_neg (by omega)]
    have lL : bassL L < N := by have := bassL_lt (l := L) (by omega); omega
    have lO : bassL O < N := by have := bassL_lt (l := O) (by omega); omega
    have same : pAt O (bassL O) = pAt L (bassL L) := bass_same hLv (by omega) (fun p => hp.mem_iff)
    have gL := pAt_some (l := L) (k := bassL L) (by omega)
    have gO := pAt_some (l := O) (k := bassL O) (by omega)
    rw [same] at gO
    obtain ⟨⟨p0, p1, p2⟩, hpp⟩ : ∃ p, p = pAt L (bassL L) := ⟨_, rfl⟩
    rw [← hpp] at gL gO
    -- the clashes
    have cL : clashE L = (fullC L, 0) := by unfold clashE; rw [eL, if_neg (fun h => h rfl)]
    have cO : clashE O = (fullC O, 0) := by unfold clashE; rw [eO, if_neg (fun h => h rfl)]
    have hlen : (fullC O).length = (fullC L).length := (perm_len hLv (by omega) hp).symm
    have hcnt : ∀ K : Int, (fullC O).countP (fun c => c.2.2 == K) = (fullC L).countP (fun c => c.2.2 == K) := fun K => (perm_count hLv (by omega) hp (fun k => k == K)).symm
    have hsm : (fullC L).length ≤ 1000 := by
      have a1 := allC_len L L.length
      have a3 : L.length * L.length ≤ 7 * 7 := Nat.mul_le_mul (by omega) (by omega)
      unfold fullC; omega
    obtain ⟨CL, hCL⟩ : ∃ C, C = fullC L := ⟨_, rfl⟩
    obtain ⟨CO, hCO⟩ : ∃ C, C = fullC O := ⟨_, rfl⟩
    rw [← hCL] at cL hlen hcnt hsm
    rw [← hCO] at cO hlen hcnt
    obtain ⟨M, hM⟩ : ∃ M, M = CL.length := ⟨_, rfl⟩
    have qbL := fun (A' : Option Addr) (c' : Nat) B W (h : Reads W B 3 A' N (csP L)) (hB : B ≤ W.heap.size) (hW : Tabs2 W) => Bass_any A' N c' L B W h hB (by omega) hW.tabs
    have qbO := fun (A' : Option Addr) (c' : Nat) B W (h : Reads W B 3 A' N (csP O)) (hB : B ≤ W.heap.size) (hW : Tabs2 W) => Bass_any A' N c' O B W h hB (by omega) hW.tabs
    have qcL := fun (A' : Option Addr) (c' : Nat) B W (h : Reads W B 3 A' N (csP L)) (hB : B ≤ W.heap.size) (hW : Tabs2 W) => Clashes_any A' N c' L B W h hB (by omega) hW.tabs
    have qcO := fun (A' : Option Addr) (c' : Nat) B W (h : Reads W B 3 A' N (csP O)) (hB : B ≤ W.heap.size) (hW : Tabs2 W) => Clashes_any A' N c' O B W h hB (by omega) hW.tabs
    rw [bL] at qbL
    rw [bO] at qbO
    rw [cL] at qcL
    rw [cO, hlen] at qcO
    simp only at qcL qcO
    rw [← hM] at qcL qcO hsm
    obtain ⟨mL, hmL⟩ : ∃ m, m = bassL L := ⟨_, rfl⟩
    obtain ⟨mO, hmO⟩ : ∃ m, m = bassL O := ⟨_, rfl⟩
    rw [← hmL] at qbL lL gL
    rw [← hmO] at qbO lO gO
    have HC := Lib.hid hcnt
    have HML := Lib.hid hM.symm
    have HMO := Lib.hid (hlen.trans hM.symm)
    clear hmL hmO hM hCL hCO hcnt hlen cL cO hpp same bL bO eL eO hOl hO hN hp
    have z1 : decide ((mL : Int) < 0) = false := by simp
    have z2 : decide ((mO : Int) < 0) = false := by simp
    have z3 : decide (N ≤ mL) = false := by simp; omega
    have z4 : decide (N ≤ mO) = false := by simp; omega
    go_enter Tryd.func9, Tryd.ntmps9
    go_wp2_with fail
    refine (known_any _ ht).mono ?_
    rintro e w1 ⟨rfl, hb1⟩
    go_wp2_with fail
    refine (ql _ hb1).mono ?_
    rintro e w2 ⟨A2, c2, rfl, o2, hb2⟩
    have k2 := below_call hb1 hb2
    go_wp2_with fail
    refine (qm _).mono ?_
    rintro e w3 ⟨rfl, rfl⟩
    have r2 := o2.2.1
    clear o2 ql
    go_wp2_with fail
    go_loopw [8, 9] (fun v i wr => ∃ j : Nat, j ≤ N ∧ i = .int .i64 ((j : Int) - 1) ∧ wr.ownsRow w2.heap.size 36 3 v (N - j) (csP (O.take (N - j))) ∧ Below w2.heap.size w2 wr) (fun _ i _ => (intOf i + 1).toNat)
    case atStart => exact ⟨N, Nat.le_refl _, rfl, by rw [Nat.sub_self]; exact ⟨rfl, .inl ⟨rfl, rfl⟩⟩, Below.refl _ _⟩
    case round =>
      obtain ⟨j, hj, rfl, hown, k0⟩ := hrel
      cases j with
      | succ r =>
        rw [show ((r + 1 : Nat) : Int) - 1 = (r : Int) by omega]
        obtain ⟨ix, hix⟩ : ∃ ix : Nat, ix = (r + K) % N := ⟨_, rfl⟩
        have hixN : ix < N := by rw [hix]; exact Nat.mod_lt _ (by omega)
        have eix : ((r : Int) + (K : Int)) % (N : Int) = (ix : Int) := by rw [hix]; push_cast; rfl
        have hxO := HOat.out (N - (r + 1)) (by omega)
        rw [show N - 1 - (N - (r + 1)) + K = r + K by omega, ← hix] at hxO
        have HT := Lib.hid (show O.take (N - r) = O.take (N - (r + 1)) ++ [pAt L ix] by rw [show N - r = N - (r + 1) + 1 by omega]; exact take_get hxO)
        obtain ⟨b, off, rfl, hab, c0, c1, c2⟩ := r2.pt (Nat.le_refl _) k0 hixN (pAt_some (l := L) (k := ix) (by have := HLlen.out; omega))
        obtain ⟨⟨y0, y1, y2⟩, hy⟩ : ∃ y, y = pAt L ix := ⟨_, rfl⟩
        rw [← hy] at c0 c1 c2 HT
        simp only at c0 c1 c2
        have hixi : (ix : Int) < (N : Int) := by omega
        have h1N : (1 : Int) ≤ (N : Int) := by omega
        have hKi : (0 : Int) ≤ (r : Int) + (K : Int) := by omega
        have hKi2 : (r : Int) + (K : Int) ≤ 1000 := by omega
        have own1 := own_call hown (below_alloc (Below.refl wr.heap.size wr) (.cells #[.int .i64 y0, .int .i64 y1, .int .i64 y2] 36))
        clear hxO hix hy
        go_wp2_with (at_builtin; (refine wpList_append_any _ rfl (.tmp 37) (.tmp 47) 22 rfl w2.heap.size 36 i0 _ 3 24 Tryd.underlying22 hi0 hz0 hz1 hz2 rfl (by omega) _ (N - (r + 1)) (csP (O.take (N - (r + 1)))) rfl own1 (wr.heap.size + 1) (some ⟨wr.heap.size, 0, none⟩) 1 1 (csP [(y0, y1, y2)]) rfl (Reads.newAt _ _ _ 1 3 _ rfl rfl) (one_csP _) (by simp only [maxLen]; omega) (by omega) (by have := k0.size; simp; omega) ?_); intro v1 w3 hown3 hg3 hat3)
        go_roundw
        case rel => exact ⟨r, by omega, rfl, by rw [HT.out, csP_append, show N - r = N - (r + 1) + 1 by omega]; exact hown3, Below.grown (B := w2.heap.size) (a := w2) (below_alloc k0 _) hg3 (by have := k0.size; simp; omega) (fun q hq => (own1.lt q hq).1)⟩
        case measure => simp [intOf]
      | zero =>
        rw [show ((0 : Nat) : Int) - 1 = -1 by omega]
        rw [Nat.sub_zero, List.take_of_length_le (by have := HOlen.out; omega)] at hown
        obtain ⟨A3, c3, rfl, o3⟩ := own3_form hown
        have r3 := o3.2.1
        have kk := below_call k2 k0
        clear hown o3
        go_wp2_with fail
        refine (qbL A2 c2 w2.heap.size wr (r2.below (Nat.le_refl _) k0) k0.size (ht.kept kk)).mono ?_
        rintro e w4 ⟨rfl, g4⟩
        have kk4 := below_call kk g4
        go_wp2_with fail
        refine (qbO A3 c3 wr.heap.size w4 (r3.below (Nat.le_refl _) g4) g4.size (ht.kept kk4)).mono ?_
        rintro e w5 ⟨rfl, g5⟩
        have g45 := below_call g4 g5
        have kk5 := below_call kk4 g5
        go_wp2_with fail
        refine (qcL A2 c2 w2.heap.size w5 (r2.below (Nat.le_refl _) (below_call k0 g45)) (below_call k0 g45).size (ht.kept kk5)).mono ?_
        rintro e w6 ⟨A6, c6, rfl, r6, g6⟩
        have g46 := below_call g45 g6
        have kk6 := below_call kk5 g6
        go_wp2_with fail
        refine (qcO A3 c3 wr.heap.size w6 (r3.below (Nat.le_refl _) g46) g46.size (ht.kept kk6)).mono ?_
        rintro e w7 ⟨A7, c7, rfl, r7, g7⟩
        have g47 := below_call g46 g7
        have kk7 := below_call kk6 g7
        obtain ⟨b, off, rfl, hab, d0, d1, d2⟩ := r2.pt (Nat.le_refl _) (below_call k0 g47) lL gL
        obtain ⟨b', off', rfl, hab', e0, e1, e2⟩ := r3.pt (Nat.le_refl _) g47 lO gO
        simp only at d0 d1 d2 e0 e1 e2
        have lLi : (mL : Int) < (N : Int) := by omega
        have lOi : (mO : Int) < (N : Int) := by omega
        go_wp2_with fail
        refine wp_region_calm (by kernel_rfl) (by kernel_rfl) ?_
        repeat (go_big_quiet_step (fail))
        refine wpQuiet_nil ?_
        intro w8 g8
        have kk8 := below_call kk7 g8
        have g68 := below_call g7 g8
        go_wp2_with fail
        go_loopw [18] (fun i wy => ∃ j : Nat, j ≤ 5 ∧ i = .int .i64 (1 + (j : Int)) ∧ Below w8.heap.size w8 wy) (fun i _ => (6 - intOf i).toNat)
        case atStart => exact ⟨0, by omega, rfl, Below.refl _ _⟩
        case round =>
          obtain ⟨j, hj, rfl, n0⟩ := hrel
          have m6 := fun W (hW : Below w8.heap.size w8 W) => many_any A6 M c6 CL (1 + (j : Int)) w6.heap.size W (r6.below (Nat.le_refl _) (below_call g68 hW)) (below_call g68 hW).size (by omega)
          have m7 := fun W (hW : Below w8.heap.size w8 W) => many_any A7 M c7 CO (1 + (j : Int)) w7.heap.size W (r7.below (Nat.le_refl _) (below_call g8 hW)) (below_call g8 hW).size (by omega)
          rw [HC.out] at m7
          obtain ⟨q, hq⟩ : ∃ q : Nat, q = CL.countP (fun c => c.2.2 == 1 + (j : Int)) := ⟨_, rfl⟩
          rw [← hq] at m6 m7
          clear hq
          by_cases h5 : j < 5
          · have s1 : decide (1 + (j : Int) ≤ 5) = true := by simp; omega
            go_wp2_with fail
            refine (m6 _ n0).mono ?_
            rintro e v1 ⟨rfl, f1⟩
            go_wp2_with fail
            refine (m7 _ (below_call n0 f1)).mono ?_
            rintro e v2 ⟨rfl, f2⟩
            go_wp2
            go_roundw
            case rel => exact ⟨j + 1, by omega, congrArg (Value.int .i64) (by push_cast; omega), below_call (below_call n0 f1) f2⟩
            case measure => simp [intOf]; omega
          · have s1 : decide (1 + (j : Int) ≤ 5) = false := by simp; omega
            go_wp2
            go_ret
            exact ⟨rfl, below_call kk8 n0⟩
def laids : List (String × DataW Unit) := Rows.intervalOrderRow.laid
theorem door_met (os : Os) (args : Array Value) : laidMetH Tryd.prog laids ((World.doorLaid Tryd.prog 80 os).forCall (fun _ _ => 0) ⟨#[], args, []⟩).memory :=
  laidMetH_of_parts3 (fuel := 8) (laidMet_of_run' 8 (by kernel_rfl) (by kernel_rfl)) (by kernel_rfl) (by kernel_rfl)
theorem tabs_of {W : World} (h : laidMetH Tryd.prog laids W) : Tabs2 W := by
  rw [MakeChecks.laidMetH_plain _ _ _ (by kernel_rfl)] at h
  exact ⟨tabs_of_list h (by kernel_rfl) (by kernel_rfl) (by kernel_rfl), sent_of_list h (by kernel_rfl)⟩
set_option maxRecDepth 100000 in
theorem lifted (os : Os) (started : os.Started) (H : Type) (enc : TypeId × Value → H) :
    ReturnsInHanded {} Tryd.checked os 9 .any (fun w args => (Rows.intervalOrderSpec.pre enc Tryd.prog Tryd.f9 [] false w args ∧ laidMetH Tryd.prog laids w) ∧ sizedMet enc Tryd.prog Tryd.f9 (OpenSpec.ofChange Rows.intervalOrderSpec) false w args) (Rows.intervalOrderSpec.post enc Tryd.prog Tryd.f9 false true false false) := by
  refine returnsInHanded_of_change_and (C := Tryd.checked) (X := fun w _ => laidMetH Tryd.prog laids w) (fun _ _ _ hh h => h.of_heap hh) own started (by kernel_rfl) Tryd.func9
    (ChangeSpec.witness_shaped (enc := enc) (C := Tryd.checked) (os := os) (X := fun w _ => laidMetH Tryd.prog laids w) false (World.doorLaid Tryd.prog 80 os) #[.slice none 0 0, .int .i64 0] 8 rfl (World.shaped_of_RefB (by kernel_rfl) (by kernel_rfl)) (by kernel_rfl) (by kernel_rfl) (by kernel_rfl) (door_met os _)) ?_
  intro W base args ds gs before hval0 hW _ _ hL _
  have hval : ∀ (j : Nat) t v, Tryd.f9.params[j]? = some t → args[j]? = some v → Value.okWide Tryd.prog W .any base t v := hval0
  have hW' := hW
  obtain ⟨p, q, hA0, hV, rfl, hfz, hnd⟩ := hW
  have hA : DataW.TrodAll enc Tryd.prog W 0 (fun _ => true) true Tryd.f9.params.toList args.toList ds p := hA0
  rw [Tryd.params9] at hA hval
  obtain ⟨v0, vs0, d0, ds0, p0, q0, hargs, rfl, rfl, h0, r0⟩ := trodAll_cons hA
  obtain ⟨v1, vs1, d1, ds1, p1, q1, rfl, rfl, rfl, h1, r1⟩ := trodAll_cons r0
  obtain ⟨rfl, rfl, rfl⟩ := trodAll_nil r1
  obtain rfl : args = #[v0, v1] := by cases args; simp_all
  obtain ⟨rfl, rfl⟩ := trodVars_none hV
  have k0 := h0
  have lt0 : ∀ x ∈ p0, x.block < W.heap.size := by obtain ⟨m, hm⟩ := k0; exact DataW.trod_lt m _ _ _ hm
  obtain ⟨A0, n0, c0, l0, rfl, w0⟩ := arg_ints (hval 0 58 v0 rfl rfl) h0
  have k1 := h1
  have lt1 : ∀ x ∈ p1, x.block < W.heap.size := by obtain ⟨m, hm⟩ := k1; exact DataW.trod_lt m _ _ _ hm
  obtain ⟨a1, rfl, w1⟩ := arg_int (hval 1 3 v1 rfl rfl) h1
  clear hA0 hval0
  refine (walk A0 n0 c0 l0 a1 W w0.1 w0.2.1 w0.2.2 w1 (tabs_of hL)).mono fun e W' ⟨he, bel⟩ => ?_
  subst he
  exact ⟨_, rfl, _, _, _, [], _, [], hW', trodAll_mk1 (shut_bool Tryd.underlying4 _), (trodAll_cons_mk (Below.trod laidOut (by kernel_rfl) (of_decide_eq_true (by kernel_rfl)) k0 bel lt0) (trodAll_cons_mk (Below.trod laidOut (by kernel_rfl) (of_decide_eq_true (by kernel_rfl)) k1 bel lt1) trodAll_mk0)), rfl, bel.frame _, fun h => by cases h⟩

theorem over : Rows.IntervalOrderSaid :=
  OpenClaim.holds_of_wide 9 Tryd.f9 rfl rfl rfl rfl rfl rfl rfl ⟨rfl, rfl, rfl, rfl, rfl⟩ rfl rfl rfl rfl rfl (by kernel_rfl) Tryd.func9 (by kernel_rfl)
    (of_decide_eq_true (by kernel_rfl)) (by unfold Func.isWrapper; first | (rw [if_pos (by decide +kernel)]; kernel_rfl) | (rw [if_neg (by decide +kernel)]; exact ⟨rfl, rfl⟩))
    (fun os started H enc _ => lifted os started H enc)

/-- The card: the row, its variables tied to the program's text. -/
theorem proved : Rows.IntervalOrderCardSaid :=
  Claim7.holds_tied_plain_at .later [] [.data, .data, .data, .sentinel, .sentinel, .data, .data, .data] true Rows.intervalOrderCard.stood.harness Rows.intervalOrderCard.stood.looks
    over (fun _ h => by cases h) (by kernel_rfl) (fun _ h => by cases h) intervalOrder_row_tie rfl ⟨rfl, rfl⟩ (by kernel_rfl) rfl
    (fun f fn hf hfn => by
      obtain rfl : f = 9 := Option.some.inj ((show Tryd.prog.funcNamed Tryd.f9.name = some 9 by kernel_rfl).symm.trans hf) |>.symm
      obtain rfl : fn = Tryd.f9 := (Option.some.inj (Tryd.func9.symm.trans hfn)).symm
      exact ⟨by kernel_rfl, fun j t ht => by
        rw [Tryd.params9] at ht
        have hm : t ∈ Tryd.f9.params.toList := by rw [Tryd.params9]; simpa using Array.mem_of_getElem? ht
        have hall : (Tryd.f9.params.toList.all fun u => !Tryd.prog.wantsStandIn u) = true := by kernel_rfl
        exact (show Tryd.prog.wantsStandIn t = false by simpa using List.all_eq_true.1 hall t hm)⟩)
    (by kernel_rfl)

end Go.Proofs.YtmbnpblejhlefaaDoor.intervalOrder
