/- FictaRounds holds: the program and the reference agree on the proposals of the first round, on all proposals and on the number of rounds. No condition. -/
import Derived.Test.YtpkmiegccfhpnaaGreatDoorR01
import Derived.Test.YtpkmiegccfhpnaaGreatDoorR02
import Derived.Test.YtpkmiegccfhpnaaGreatDoorR03
import Derived.Test.YtpkmiegccfhpnaaGreatDoorR04
import Derived.Test.YtpkmiegccfhpnaaGreatDoorR05
import Derived.Test.YtpkmiegccfhpnaaGreatDoorR06
import Derived.Test.YtpkmiegccfhpnaaGreatDoorR07
import Derived.Test.YtpkmiegccfhpnaaGreatDoorR08
import Derived.Test.YtpkmiegccfhpnaaGreatDoorR09
import Derived.Test.YtpkmiegccfhpnaaGreatDoorR10
import Derived.Test.YtpkmiegccfhpnaaGreatDoorR11
import Derived.Test.YtpkmiegccfhpnaaGreatDoorR12
import Derived.Test.YtpkmiegccfhpnaaGreatDoorR13
import Derived.Test.YtpkmiegccfhpnaaGreatDoorR14
import Derived.Test.YtpkmiegccfhpnaaGreatDoorR15
import Derived.Test.YtpkmiegccfhpnaaGreatDoorR16
import Derived.Test.YtpkmiegccfhpnaaGreatDoorR17
import Derived.Test.YtpkmiegccfhpnaaGreatDoorR18
import Derived.Test.YtpkmiegccfhpnaaGreatDoorR19
import Derived.Test.YtpkmiegccfhpnaaGreatDoorR20
import Derived.Test.YtpkmiegccfhpnaaGreatDoorR21
import Derived.Test.YtpkmiegccfhpnaaGreatDoorR22
import Derived.Test.YtpkmiegccfhpnaaGreatDoorR23
import Derived.Test.YtpkmiegccfhpnaaGreatDoorRows
import Derived.Test.YtpkmiegccfhpnaaGreatDoorTie
import Derived.Test.YtpkmiegccfhpnaaGreatDoorCards
import Derived.ProofKit
import Derived.LaidMore
import Derived.OpenShut
import Derived.SevenTiedAt
import Derived.Lib.SmallJoins
import Derived.Lib.LaidTab
import Derived.MakeChecks
import Derived.LaidSub
import Derived.Test.YtpkmiegccfhpnaaGreatDoorProg
import Derived.WalkKit
import Derived.WalkSpells
import Derived.WalkLawsBesides
import Derived.Deep.QuietTactic
import Derived.BigQuiet
import Derived.BigGuardPart
import Derived.Lib.Hide
import Derived.RegionTactic
import Derived.ChangeAlike
import Derived.Laws.OwnMore
import Derived.Deep.AppendLies
import Derived.Deep.Draws
import Derived.Deep.RegionHeld3
import Derived.Maps.AppendAt
import Derived.OwnWalk
import Derived.StillTail
import Derived.Deep.Slices
import Derived.Deep.Fields
import Derived.ChangeSame
import Derived.ChangeArms
import Derived.BigRegion
import Derived.ArgAppend
import Derived.Stop.Joined
import Derived.ChangeOld
import Derived.Below
import Derived.Maps.OwnOps
import Derived.Maps.OwnSet
import Derived.Maps.Views
import Derived.Maps.RangeWalk
import Derived.WideKeyPair
import Derived.DeepKeys4
import Derived.IntWalk
import Derived.Deep.LoopGhost
import Derived.Carry
import Derived.RangeFuncOwn
import Derived.Deep.RegionLaw
import Derived.RangeFuncNested
import Derived.RangeFuncBound
import Derived.RangeFuncCalls
import Derived.RangeFuncLeaves
import Derived.OwnWalkIn
import Derived.TacticsInMore
import Derived.LoopNIn
import Derived.LoopIn
import Derived.Sort.LoopGhostIn
import Derived.Sort.MapsRangeIn
import Derived.Shelf.SlSortCmp.WholeK
import Derived.Shelf.SlSortCmp.NoneTotal
import Derived.Shelf.SlGeneric
import Derived.Shelf.SlLaysF0
import Derived.Ground.SlsfProg
import Derived.RangeFuncSeq
import Derived.SizedLaws
namespace Go.Proofs.YtpkmiegccfhpnaaGreatDoor.fictaRounds
open Go.RowKit Go.ChangeShapes Go.WideShapes Go.ChangeAt
set_option linter.unusedVariables false
theorem round_few (l : List (List Ev)) : (roundE l).1.length ≤ 1000000 ∧ (allE l).1.length ≤ 1000000 := by
  unfold roundE allE
  by_cases hs : (slicesE l).2 = 0
  · have h1 := plc_few (set_of_slices hs)
    rw [if_neg (fun h => h hs), if_neg (fun h => h hs)]
    have h2 := listF_len l (rnd l fun _ => none)
    have h3 := listF_len l (allF l).1
    constructor
    · show (roundS l).length ≤ 1000000
      unfold roundS; omega
    · show (allFi l).length ≤ 1000000
      unfold allFi; omega
  · rw [if_pos hs, if_pos hs]
    simp
set_option maxRecDepth 100000 in
set_option maxHeartbeats 8000000 in
theorem walk {A : Option Addr} {n : Nat} {l : List (List Ev)} {w : World} (c : Nat) (h : ReadsV w w.heap.size A n l) (hn : n ≤ 9223372036854775807) (hsz : ∀ v ∈ l, v.length * 80 ≤ 140737488355328) (ht : Tabs w) :
    Calls Tryz.prog 8 #[.slice A n c] w fun e w' => e = .returned (.bool true) ∧ Below w.heap.size w w' := by
  have HT := Lib.hid ht
  have HV := Lib.hid h
  have HSZ := Lib.hid hsz
  clear ht hsz
  have ql := light31_any A n c l w.heap.size w h (Nat.le_refl _) hn
  clear h
  go_enter Tryz.func8, Tryz.ntmps8
  go_wp2_with fail
  refine ql.mono ?_
  rintro e w1 ⟨b, rfl, hb9, k1⟩
  clear ql
  cases b with
  | false =>
    go_wp2_with fail
    refine (awake_any w1 (HT.out.kept k1)).mono ?_
    rintro e w2 ⟨rfl, b2⟩
    have k2 := below_call k1 b2
    clear k1 b2
    go_wp2
    refine ret_of (by simp [results, Tryz.results8, go_sem, *]; repeat' (first | rfl | apply And.intro)) rfl ⟨rfl, k2⟩
  | true =>
    have hn9 := hb9 rfl
    clear hb9
    obtain ⟨hf1, hf2⟩ := round_few l
    go_wp2_with fail
    refine (own31_any A n c l w.heap.size w1 (HV.out.below (Nat.le_refl _) k1) k1.size (by omega) HSZ.out).mono ?_
    rintro e w2 ⟨A4, c4, rfl, rl4, b2⟩
    have k2 := below_call k1 b2
    clear k1 b2
    obtain ⟨⟨RL, re⟩, hRe⟩ : ∃ z, z = roundE l := ⟨_, rfl⟩
    obtain ⟨⟨AL, ae⟩, hAe⟩ : ∃ z, z = allE l := ⟨_, rfl⟩
    obtain ⟨⟨nk, ne⟩, hNe⟩ : ∃ z, z = roundsE l := ⟨_, rfl⟩
    rw [← hRe] at hf1
    rw [← hAe] at hf2
    simp only at hf1 hf2
    have HRE := Lib.hid hRe
    have HAE := Lib.hid hAe
    have HNE := Lib.hid hNe
    clear hRe hAe hNe
    go_wp2_with fail
    have q := fround_ok A4 n c4 l w2.heap.size rl4 (Nat.le_refl _) (by omega) (HT.out.kept k2)
    rw [← HRE.out] at q
    simp only at q
    refine q.mono ?_
    rintro e w3 ⟨u3, rfl, o3, b3⟩
    obtain ⟨A5, c5, rfl, r5, -, -⟩ := own_reads o3
    have k3 := below_call k2 b3
    have rl5 := rdV rl4 b3
    clear q o3 b3 k2 rl4
    go_wp2_with fail
    have q := rRound_ok A n c l w.heap.size (HV.out.below (Nat.le_refl _) k3) k3.size (by omega)
    rw [← HRE.out] at q
    simp only at q
    refine q.mono ?_
    rintro e w4 ⟨u4, rfl, o4, b4⟩
    obtain ⟨A6, c6, rfl, r6, -, -⟩ := own_reads o4
    have k4 := below_call k3 b4
    have rl6 := rdV rl5 b4
    have r5' := rd1 r5 b4
    clear q o4 b4 k3 rl5 r5
    go_wp2_with fail
    refine (sameFicta_any A5 A6 RL.length c5 c6 RL w4.heap.size w4.heap.size w4 r5' (Nat.le_refl _) r6 (Nat.le_refl _) (by omega)).mono ?_
    rintro e w5 ⟨rfl, b5⟩
    have k5 := below_call k4 b5
    have rl7 := rdV rl6 b5
    have be : (re != re) = false := by simp
    clear r5' r6 b5 k4 rl6
    go_wp2_with fail
    have q := fall_ok A4 n c4 l w5.heap.size rl7 (Nat.le_refl _) (by omega) (HT.out.kept k5)
    rw [← HAE.out] at q
    simp only at q
    refine q.mono ?_
    rintro e w6 ⟨u6, rfl, o6, b6⟩
    obtain ⟨A7, c7, rfl, r7, -, -⟩ := own_reads o6
    have k6 := below_call k5 b6
    have rl8 := rdV rl7 b6
    clear q o6 b6 k5 rl7
    go_wp2_with fail
    have q := rAll_ok A n c l w.heap.size (HV.out.below (Nat.le_refl _) k6) k6.size (by omega)
    rw [← HAE.out] at q
    simp only at q
    refine q.mono ?_
    rintro e w7 ⟨u7, rfl, o7, b7⟩
    obtain ⟨A8, c8, rfl, r8, -, -⟩ := own_reads o7
    have k7 := below_call k6 b7
    have rl9 := rdV rl8 b7
    have r7' := rd1 r7 b7
    clear q o7 b7 k6 rl8 r7
    go_wp2_with fail
    refine (sameFicta_any A7 A8 AL.length c7 c8 AL w7.heap.size w7.heap.size w7 r7' (Nat.le_refl _) r8 (Nat.le_refl _) (by omega)).mono ?_
    rintro e w8 ⟨rfl, b8⟩
    have k8 := below_call k7 b8
    have rl10 := rdV rl9 b8
    have bf : (ae != ae) = false := by simp
    clear r7' r8 b8 k7 rl9
    go_wp2_with fail
    have q := frounds_ok A4 n c4 l w8.heap.size rl10 (Nat.le_refl _) (by omega) (HT.out.kept k8)
    rw [← HNE.out] at q
    simp only at q
    refine q.mono ?_
    rintro e w9 ⟨rfl, b9⟩
    have k9 := below_call k8 b9
    have rl11 := rdV rl10 b9
    clear q b9 k8 rl10
    go_wp2_with fail
    have q := rRounds_ok A n c l w.heap.size (HV.out.below (Nat.le_refl _) k9) k9.size (by omega)
    rw [← HNE.out] at q
    simp only at q
    refine q.mono ?_
    rintro e w10 ⟨rfl, b10⟩
    have k10 := below_call k9 b10
    have rl12 := rdV rl11 b10
    have bn : (nk == nk) = true := by simp
    have bm : (ne == ne) = true := by simp
    clear q b10 k9 rl11
    go_wp2_with fail
    refine (same31_any A4 A n c4 c l w10.heap.size w.heap.size w10 rl12 (Nat.le_refl _) (HV.out.below (Nat.le_refl _) k10) k10.size (by omega)).mono ?_
    rintro e w11 ⟨rfl, b11⟩
    have k11 := below_call k10 b11
    clear b11 k10 rl12
    go_wp2_with fail
    refine (awake_any w11 (HT.out.kept k11)).mono ?_
    rintro e w12 ⟨rfl, b12⟩
    have k12 := below_call k11 b12
    clear b12 k11
    go_wp2
    refine ret_of (by simp [results, Tryz.results8, go_sem, *]; repeat' (first | rfl | apply And.intro)) rfl ⟨rfl, k12⟩
def laids : List (String × DataW Unit) := Rows.fictaRoundsRow.laid
theorem door_met (os : Os) (args : Array Value) : laidMetH Tryz.prog laids ((World.doorLaid Tryz.prog 80 os).forCall (fun _ _ => 0) ⟨#[], args, []⟩).memory :=
  laidMetH_of_parts3 (fuel := 8) (laidMet_of_run' 8 (by kernel_rfl) (by kernel_rfl)) (by kernel_rfl) (by kernel_rfl)
theorem tabs_of {W : World} (h : laidMetH Tryz.prog laids W) : Tabs W := by
  rw [MakeChecks.laidMetH_plain _ _ _ (by kernel_rfl)] at h
  exact tabs_of_list h (by kernel_rfl) (by kernel_rfl)
set_option maxRecDepth 100000 in
theorem lifted (os : Os) (started : os.Started) (H : Type) (enc : TypeId × Value → H) :
    ReturnsInHanded {} Tryz.checked os 8 .any (fun w args => (Rows.fictaRoundsSpec.pre enc Tryz.prog Tryz.f8 [] false w args ∧ laidMetH Tryz.prog laids w) ∧ sizedMet enc Tryz.prog Tryz.f8 (OpenSpec.ofChange Rows.fictaRoundsSpec) false w args) (Rows.fictaRoundsSpec.post enc Tryz.prog Tryz.f8 false true false false) := by
  refine returnsInHanded_of_change_and (C := Tryz.checked) (X := fun w _ => laidMetH Tryz.prog laids w) (fun _ _ _ hh h => h.of_heap hh) own started (by kernel_rfl) Tryz.func8
    (ChangeSpec.witness_shaped (enc := enc) (C := Tryz.checked) (os := os) (X := fun w _ => laidMetH Tryz.prog laids w) false (World.doorLaid Tryz.prog 80 os) #[.slice none 0 0] 8 rfl (World.shaped_of_RefB (by kernel_rfl) (by kernel_rfl)) (by kernel_rfl) (by kernel_rfl) (by kernel_rfl) (door_met os _)) ?_
  intro W base args ds gs before hval0 hW _ hWt hL _
  have hval : ∀ (j : Nat) t v, Tryz.f8.params[j]? = some t → args[j]? = some v → Value.okWide Tryz.prog W .any base t v := hval0
  have hW' := hW
  obtain ⟨p, q, hA0, hV, rfl, hfz, hnd⟩ := hW
  have hA : DataW.TrodAll enc Tryz.prog W 0 (fun _ => true) true Tryz.f8.params.toList args.toList ds p := hA0
  rw [Tryz.params8] at hA hval
  obtain ⟨v0, vs0, d0, ds0, p0, q0, hargs, rfl, rfl, h0, r0⟩ := trodAll_cons hA
  obtain ⟨rfl, rfl, rfl⟩ := trodAll_nil r0
  obtain rfl : args = #[v0] := by cases args; simp_all
  obtain ⟨rfl, rfl⟩ := trodVars_none hV
  have k0 := h0
  have lt0 : ∀ x ∈ p0, x.block < W.heap.size := by obtain ⟨m, hm⟩ := k0; exact DataW.trod_lt m _ _ _ hm
  obtain ⟨A0, n0, c0, l0, rfl, w0⟩ := arg_voicez (hval 0 22 v0 rfl rfl) h0
  clear hA0 hval0
  refine (walk c0 w0.1 w0.2.1 (w0.2.2 fun k hk => of_decide_eq_true (List.all_eq_true.1 hWt k (DataW.weights_mem_each (j := 0) rfl rfl k hk))) (tabs_of hL)).mono fun e W' ⟨he, bel⟩ => ?_
  subst he
  exact ⟨_, rfl, _, _, _, [], _, [], hW', trodAll_mk1 (shut_bool Tryz.underlying4 _), (trodAll_cons_mk (Below.trod laidOut (by kernel_rfl) (of_decide_eq_true (by kernel_rfl)) k0 bel lt0) trodAll_mk0), rfl, bel.frame _, fun h => by cases h⟩

theorem over : Rows.FictaRoundsSaid :=
  OpenClaim.holds_of_wide 8 Tryz.f8 rfl rfl rfl rfl rfl rfl rfl ⟨rfl, rfl, rfl, rfl, rfl⟩ rfl rfl rfl rfl rfl (by kernel_rfl) Tryz.func8 (by kernel_rfl)
    (of_decide_eq_true (by kernel_rfl)) (by unfold Func.isWrapper; first | (rw [if_pos (by decide +kernel)]; kernel_rfl) | (rw [if_neg (by decide +kernel)]; exact ⟨rfl, rfl⟩))
    (fun os started H enc _ => lifted os started H enc)

/-- The card: the row, its variables tied to the program's text. -/
theorem proved : Rows.FictaRoundsCardSaid :=
  Claim7.holds_tied_plain_at .later [] [.data, .data] true Rows.fictaRoundsCard.stood.harness Rows.fictaRoundsCard.stood.looks
    over (fun _ h => by cases h) (by kernel_rfl) (fun _ h => by cases h) fictaRounds_row_tie rfl ⟨rfl, rfl⟩ (by kernel_rfl) rfl
    (fun f fn hf hfn => by
      obtain rfl : f = 8 := Option.some.inj ((show Tryz.prog.funcNamed Tryz.f8.name = some 8 by kernel_rfl).symm.trans hf) |>.symm
      obtain rfl : fn = Tryz.f8 := (Option.some.inj (Tryz.func8.symm.trans hfn)).symm
      exact ⟨by kernel_rfl, fun j t ht => by
        rw [Tryz.params8] at ht
        have hm : t ∈ Tryz.f8.params.toList := by rw [Tryz.params8]; simpa using Array.mem_of_getElem? ht
        have hall : (Tryz.f8.params.toList.all fun u => !Tryz.prog.wantsStandIn u) = true := by kernel_rfl
        exact (show Tryz.prog.wantsStandIn t = false by simpa using List.all_eq_true.1 hall t hm)⟩)
    (by kernel_rfl)

end Go.Proofs.YtpkmiegccfhpnaaGreatDoor.fictaRounds
