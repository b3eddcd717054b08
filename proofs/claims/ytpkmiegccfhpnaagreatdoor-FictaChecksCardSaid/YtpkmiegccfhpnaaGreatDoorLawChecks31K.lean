/- FictaChecks holds: the program and the reference agree on which proposals fit a setting, and on what they make of it. No condition. -/
import Derived.Test.YtpkmiegccfhpnaaGreatDoorK01
import Derived.Test.YtpkmiegccfhpnaaGreatDoorK02
import Derived.Test.YtpkmiegccfhpnaaGreatDoorK03
import Derived.Test.YtpkmiegccfhpnaaGreatDoorK04
import Derived.Test.YtpkmiegccfhpnaaGreatDoorK05
import Derived.Test.YtpkmiegccfhpnaaGreatDoorK06
import Derived.Test.YtpkmiegccfhpnaaGreatDoorK07
import Derived.Test.YtpkmiegccfhpnaaGreatDoorK08
import Derived.Test.YtpkmiegccfhpnaaGreatDoorK09
import Derived.Test.YtpkmiegccfhpnaaGreatDoorK10
import Derived.Test.YtpkmiegccfhpnaaGreatDoorK11
import Derived.Test.YtpkmiegccfhpnaaGreatDoorK12
import Derived.Test.YtpkmiegccfhpnaaGreatDoorK13
import Derived.Test.YtpkmiegccfhpnaaGreatDoorK14
import Derived.Test.YtpkmiegccfhpnaaGreatDoorK15
import Derived.Test.YtpkmiegccfhpnaaGreatDoorK16
import Derived.Test.YtpkmiegccfhpnaaGreatDoorK17
import Derived.Test.YtpkmiegccfhpnaaGreatDoorK18
import Derived.Test.YtpkmiegccfhpnaaGreatDoorK19
import Derived.Test.YtpkmiegccfhpnaaGreatDoorK20
import Derived.Test.YtpkmiegccfhpnaaGreatDoorK21
import Derived.Test.YtpkmiegccfhpnaaGreatDoorK22
import Derived.Test.YtpkmiegccfhpnaaGreatDoorK23
import Derived.Test.YtpkmiegccfhpnaaGreatDoorC01
import Derived.Test.YtpkmiegccfhpnaaGreatDoorC02
import Derived.Test.YtpkmiegccfhpnaaGreatDoorC03
import Derived.Test.YtpkmiegccfhpnaaGreatDoorC04
import Derived.Test.YtpkmiegccfhpnaaGreatDoorRows
import Derived.Test.YtpkmiegccfhpnaaGreatDoorTie
import Derived.Test.YtpkmiegccfhpnaaGreatDoorCards
import Derived.ProofKit
import Derived.LaidMore
import Derived.OpenShut
import Derived.SevenTiedAt
import Derived.Lib.SmallJoins
import Derived.Lib.LaidTab
import Derived.MakeChecks
import Derived.LaidSub
import Derived.Test.YtpkmiegccfhpnaaGreatDoorProg
import Derived.WalkKit
import Derived.WalkSpells
import Derived.WalkLawsBesides
import Derived.Deep.QuietTactic
import Derived.BigQuiet
import Derived.BigGuardPart
import Derived.Lib.Hide
import Derived.RegionTactic
import Derived.ChangeAlike
import Derived.Laws.OwnMore
import Derived.Deep.AppendLies
import Derived.Deep.Draws
import Derived.Deep.RegionHeld3
import Derived.Maps.AppendAt
import Derived.OwnWalk
import Derived.StillTail
import Derived.Deep.Slices
import Derived.Deep.Fields
import Derived.ChangeSame
import Derived.ChangeArms
import Derived.BigRegion
import Derived.ArgAppend
import Derived.Stop.Joined
import Derived.ChangeOld
import Derived.Below
import Derived.Maps.OwnOps
import Derived.Maps.OwnSet
import Derived.Maps.Views
import Derived.Maps.RangeWalk
import Derived.WideKeyPair
import Derived.DeepKeys4
import Derived.IntWalk
import Derived.Deep.LoopGhost
import Derived.Carry
import Derived.RangeFuncOwn
import Derived.Deep.RegionLaw
import Derived.RangeFuncNested
import Derived.RangeFuncBound
import Derived.RangeFuncCalls
import Derived.RangeFuncLeaves
import Derived.OwnWalkIn
import Derived.TacticsInMore
import Derived.LoopNIn
import Derived.LoopIn
import Derived.Sort.LoopGhostIn
import Derived.Sort.MapsRangeIn
import Derived.Shelf.SlSortCmp.WholeK
import Derived.Shelf.SlSortCmp.NoneTotal
import Derived.Shelf.SlGeneric
import Derived.Shelf.SlLaysF0
import Derived.Ground.SlsfProg
import Derived.RangeFuncSeq
import Derived.SizedLaws
namespace Go.Proofs.YtpkmiegccfhpnaaGreatDoor.fictaChecks
open Go.RowKit Go.ChangeShapes Go.WideShapes Go.ChangeAt
set_option linter.unusedVariables false
set_option maxRecDepth 100000 in
set_option maxHeartbeats 8000000 in
theorem walk {A A2 : Option Addr} {n m : Nat} {l : List (List Ev)} {L : List Fic} {w : World} (c c2 : Nat) (h : ReadsV w w.heap.size A n l) (hn : n ≤ 9223372036854775807) (hsz : ∀ v ∈ l, v.length * 80 ≤ 140737488355328) (h2 : Reads w w.heap.size 4 A2 m (csFic L)) (hm : m ≤ 9223372036854775807) (ht : Tabs w) :
    Calls Tryz.prog 3 #[.slice A n c, .slice A2 m c2] w fun e w' => e = .returned (.bool true) ∧ Below w.heap.size w w' := by
  have HT := Lib.hid ht
  have HV := Lib.hid h
  have HP := Lib.hid h2
  have HSZ := Lib.hid hsz
  have HLN := Lib.hid h.len
  obtain ⟨i0, hi0, hz0, hz1, hz2⟩ := info_parts fic_info
  clear ht hsz h2
  have ql := light31_any A n c l w.heap.size w h (Nat.le_refl _) hn
  clear h
  go_enter Tryz.func3, Tryz.ntmps3
  go_wp2_with fail
  refine ql.mono ?_
  rintro e w1 ⟨b, rfl, hb9, k1⟩
  clear ql
  cases b with
  | false =>
    go_wp2_with fail
    refine (awake_any w1 (HT.out.kept k1)).mono ?_
    rintro e w2 ⟨rfl, b2⟩
    have k2 := below_call k1 b2
    clear k1 b2
    go_wp2
    refine ret_of (by simp [results, Tryz.results3, go_sem, *]; repeat' (first | rfl | apply And.intro)) rfl ⟨rfl, k2⟩
  | true =>
    have hn9 := hb9 rfl
    clear hb9
    by_cases h60 : 60 < m
    · have d0 : (60 : Int) < (m : Int) := by omega
      have d0' : decide (60 < m) = true := decide_eq_true h60
      clear h60
      go_wp2_with fail
      refine (awake_any w1 (HT.out.kept k1)).mono ?_
      rintro e w2 ⟨rfl, b2⟩
      have k2 := below_call k1 b2
      clear k1 b2
      go_wp2
      refine ret_of (by simp [results, Tryz.results3, go_sem, *]; repeat' (first | rfl | apply And.intro)) rfl ⟨rfl, k2⟩
    · have d0 : ¬ ((60 : Int) < (m : Int)) := by omega
      have d0' : decide (60 < m) = false := decide_eq_false h60
      have hm60 : m ≤ 60 := by omega
      clear h60
      go_wp2_with fail
      refine (own31_any A n c l w.heap.size w1 (HV.out.below (Nat.le_refl _) k1) k1.size (by omega) HSZ.out).mono ?_
      rintro e w2 ⟨A4, c4, rfl, r4, b2⟩
      have k2 := below_call k1 b2
      have HR4 := Lib.hid r4
      have rp2 := HP.out.below (Nat.le_refl _) (below_alloc k2 (.cells #[] 39))
      clear k1 b2 r4
      go_wp2_with (at_builtin; (refine wpList_append_any _ rfl (.tmp 24) (.tmp 25) 23 rfl w2.heap.size 39 i0 _ 4 32 Tryz.underlying23 hi0 hz0 hz1 hz2 rfl (by omega) (.slice (some ⟨w2.heap.size, 0, none⟩) 0 0) 0 [] rfl (World.ownsRow_lit w2 #[] 0 (Nat.le_refl _) (by simp [maxLen]) rfl) w.heap.size A2 m c2 (csFic L) rfl rp2 (one_csFic L) (by simp only [maxLen]; omega) (by omega) (by simp) ?_); intro v1 w3 hown1 hg1 hat1; simp only [Nat.zero_add, List.nil_append] at hown1; have b3 : Below w2.heap.size w2 w3 := (below_alloc (Below.refl _ _) _).grown hg1 (by simp) (fun k hk => by simp [Value.ownBlock] at hk; omega); obtain ⟨A5, c5, hv1, r5, _, _⟩ := own_reads hown1; subst hv1; clear hown1 hat1 hg1 rp2)
      have k3 := below_call k2 b3
      have rl4 := rdV HR4.out b3
      obtain ⟨⟨ce, ci⟩, hce⟩ : ∃ z, z = checkF l L := ⟨_, rfl⟩
      obtain ⟨⟨X, cx⟩, hX⟩ : ∃ z, z = applyE l L := ⟨_, rfl⟩
      have HXL := Lib.hid (show X.length ≤ 9 by
        have e : X = (applyE l L).1 := by rw [← hX]
        rw [e]
        unfold applyE
        split
        · simp
        · rw [withL_len]; have := HLN.out; omega)
      clear k2 b3 HR4
      have q := fcheck_ok A4 n c4 l w3.heap.size rl4 (Nat.le_refl _) (by omega) A5 m c5 L w3.heap.size r5 (Nat.le_refl _) (by omega)
      simp only [← hce] at q
      refine q.mono ?_
      rintro e w4 ⟨rfl, b4⟩
      have k4 := below_call k3 b4
      have rl5 := rdV rl4 b4
      have rp5 := rd1 r5 b4
      clear q rl4 r5 b4 k3
      go_wp2_with fail
      have q := rcheck_ok A n c l w.heap.size (HV.out.below (Nat.le_refl _) k4) k4.size (by omega) A2 m c2 L w.heap.size (HP.out.below (Nat.le_refl _) k4) k4.size (by omega)
      simp only [← hce] at q
      refine q.mono ?_
      rintro e w5 ⟨rfl, b5⟩
      have k5 := below_call k4 b5
      have rl6 := rdV rl5 b5
      have rp6 := rd1 rp5 b5
      have be : (ce != ce) = false := by simp
      have bi : (ci != ci) = false := by simp
      clear q rl5 rp5 b5 k4
      go_wp2_with fail
      have q := fapply_ok A4 n c4 l w5.heap.size rl6 (Nat.le_refl _) (by omega) A5 m c5 L w5.heap.size rp6 (Nat.le_refl _) (by omega)
      simp only [← hX] at q
      refine q.mono ?_
      rintro e w6 ⟨AX, mX, cX, rfl, rx6, b6⟩
      have k6 := below_call k5 b6
      have rl7 := rdV rl6 b6
      have rp7 := rd1 rp6 b6
      clear q rl6 rp6 b6 k5
      go_wp2_with fail
      have q := rapply_ok A n c l w.heap.size (HV.out.below (Nat.le_refl _) k6) k6.size (by omega) A2 m c2 L w.heap.size (HP.out.below (Nat.le_refl _) k6) k6.size (by omega)
      simp only [← hX] at q
      refine q.mono ?_
      rintro e w7 ⟨BX, mY, dX, rfl, ry7, b7⟩
      have k7 := below_call k6 b7
      have rl8 := rdV rl7 b7
      have rp8 := rd1 rp7 b7
      have rx7 := rdV rx6 b7
      obtain rfl : mY = mX := by have h1 := rx7.len; have h2 := ry7.len; omega
      have hmX : mY ≤ 9 := by have h1 := rx7.len; have := HXL.out; omega
      clear q rl7 rp7 rx6 b7 k6
      go_wp2_with fail
      refine (same31_any AX BX mY cX dX X w7.heap.size w7.heap.size w7 rx7 (Nat.le_refl _) ry7 (Nat.le_refl _) (by omega)).mono ?_
      rintro e w8 ⟨rfl, b8⟩
      have k8 := below_call k7 b8
      have rl9 := rdV rl8 b8
      have rp9 := rd1 rp8 b8
      have bx : (cx == cx) = true := by simp
      clear rx7 ry7 rl8 rp8 b8 k7
      go_wp2_with fail
      refine (same31_any A4 A n c4 c l w8.heap.size w.heap.size w8 rl9 (Nat.le_refl _) (HV.out.below (Nat.le_refl _) k8) k8.size (by omega)).mono ?_
      rintro e w9 ⟨rfl, b9⟩
      have k9 := below_call k8 b9
      have rp10 := rd1 rp9 b9
      clear rl9 rp9 b9 k8
      go_wp2_with fail
      refine (sameFicta_any A5 A2 m c5 c2 L w9.heap.size w.heap.size w9 rp10 (Nat.le_refl _) (HP.out.below (Nat.le_refl _) k9) k9.size (by omega)).mono ?_
      rintro e w10 ⟨rfl, b10⟩
      have k10 := below_call k9 b10
      clear rp10 b10 k9
      go_wp2_with fail
      refine (awake_any w10 (HT.out.kept k10)).mono ?_
      rintro e w11 ⟨rfl, b11⟩
      have k11 := below_call k10 b11
      clear b11 k10
      go_wp2
      refine ret_of (by simp [results, Tryz.results3, go_sem, *]; repeat' (first | rfl | apply And.intro)) rfl ⟨rfl, k11⟩
def laids : List (String × DataW Unit) := Rows.fictaChecksRow.laid
theorem door_met (os : Os) (args : Array Value) : laidMetH Tryz.prog laids ((World.doorLaid Tryz.prog 80 os).forCall (fun _ _ => 0) ⟨#[], args, []⟩).memory :=
  laidMetH_of_parts3 (fuel := 8) (laidMet_of_run' 8 (by kernel_rfl) (by kernel_rfl)) (by kernel_rfl) (by kernel_rfl)
theorem tabs_of {W : World} (h : laidMetH Tryz.prog laids W) : Tabs W := by
  rw [MakeChecks.laidMetH_plain _ _ _ (by kernel_rfl)] at h
  exact tabs_of_list h (by kernel_rfl) (by kernel_rfl)
set_option maxRecDepth 100000 in
theorem lifted (os : Os) (started : os.Started) (H : Type) (enc : TypeId × Value → H) :
    ReturnsInHanded {} Tryz.checked os 3 .any (fun w args => (Rows.fictaChecksSpec.pre enc Tryz.prog Tryz.f3 [] false w args ∧ laidMetH Tryz.prog laids w) ∧ sizedMet enc Tryz.prog Tryz.f3 (OpenSpec.ofChange Rows.fictaChecksSpec) false w args) (Rows.fictaChecksSpec.post enc Tryz.prog Tryz.f3 false true false false) := by
  refine returnsInHanded_of_change_and (C := Tryz.checked) (X := fun w _ => laidMetH Tryz.prog laids w) (fun _ _ _ hh h => h.of_heap hh) own started (by kernel_rfl) Tryz.func3
    (ChangeSpec.witness_shaped (enc := enc) (C := Tryz.checked) (os := os) (X := fun w _ => laidMetH Tryz.prog laids w) false (World.doorLaid Tryz.prog 80 os) #[.slice none 0 0, .slice none 0 0] 8 rfl (World.shaped_of_RefB (by kernel_rfl) (by kernel_rfl)) (by kernel_rfl) (by kernel_rfl) (by kernel_rfl) (door_met os _)) ?_
  intro W base args ds gs before hval0 hW _ hWt hL _
  have hval : ∀ (j : Nat) t v, Tryz.f3.params[j]? = some t → args[j]? = some v → Value.okWide Tryz.prog W .any base t v := hval0
  have hW' := hW
  obtain ⟨p, q, hA0, hV, rfl, hfz, hnd⟩ := hW
  have hA : DataW.TrodAll enc Tryz.prog W 0 (fun _ => true) true Tryz.f3.params.toList args.toList ds p := hA0
  rw [Tryz.params3] at hA hval
  obtain ⟨v0, vs0, d0, ds0, p0, q0, hargs, rfl, rfl, h0, r0⟩ := trodAll_cons hA
  obtain ⟨v1, vs1, d1, ds1, p1, q1, rfl, rfl, rfl, h1, r1⟩ := trodAll_cons r0
  obtain ⟨rfl, rfl, rfl⟩ := trodAll_nil r1
  obtain rfl : args = #[v0, v1] := by cases args; simp_all
  obtain ⟨rfl, rfl⟩ := trodVars_none hV
  have k0 := h0
  have lt0 : ∀ x ∈ p0, x.block < W.heap.size := by obtain ⟨m, hm⟩ := k0; exact DataW.trod_lt m _ _ _ hm
  obtain ⟨A0, n0, c0, l0, rfl, w0⟩ := arg_voicez (hval 0 22 v0 rfl rfl) h0
  have k1 := h1
  have lt1 : ∀ x ∈ p1, x.block < W.heap.size := by obtain ⟨m, hm⟩ := k1; exact DataW.trod_lt m _ _ _ hm
  obtain ⟨A1, n1, c1, l1, rfl, w1⟩ := arg_ficta (hval 1 23 v1 rfl rfl) h1
  clear hA0 hval0
  refine (walk c0 c1 w0.1 w0.2.1 (w0.2.2 fun k hk => of_decide_eq_true (List.all_eq_true.1 hWt k (DataW.weights_mem_each (j := 0) rfl rfl k hk))) w1.1 w1.2 (tabs_of hL)).mono fun e W' ⟨he, bel⟩ => ?_
  subst he
  exact ⟨_, rfl, _, _, _, [], _, [], hW', trodAll_mk1 (shut_bool Tryz.underlying4 _), (trodAll_cons_mk (Below.trod laidOut (by kernel_rfl) (of_decide_eq_true (by kernel_rfl)) k0 bel lt0) (trodAll_cons_mk (Below.trod laidOut (by kernel_rfl) (of_decide_eq_true (by kernel_rfl)) k1 bel lt1) trodAll_mk0)), rfl, bel.frame _, fun h => by cases h⟩

theorem over : Rows.FictaChecksSaid :=
  OpenClaim.holds_of_wide 3 Tryz.f3 rfl rfl rfl rfl rfl rfl rfl ⟨rfl, rfl, rfl, rfl, rfl⟩ rfl rfl rfl rfl rfl (by kernel_rfl) Tryz.func3 (by kernel_rfl)
    (of_decide_eq_true (by kernel_rfl)) (by unfold Func.isWrapper; first | (rw [if_pos (by decide +kernel)]; kernel_rfl) | (rw [if_neg (by decide +kernel)]; exact ⟨rfl, rfl⟩))
    (fun os started H enc _ => lifted os started H enc)

/-- The card: the row, its variables tied to the program's text. -/
theorem proved : Rows.FictaChecksCardSaid :=
  Claim7.holds_tied_plain_at .later [] [.data, .data] true Rows.fictaChecksCard.stood.harness Rows.fictaChecksCard.stood.looks
    over (fun _ h => by cases h) (by kernel_rfl) (fun _ h => by cases h) fictaChecks_row_tie rfl ⟨rfl, rfl⟩ (by kernel_rfl) rfl
    (fun f fn hf hfn => by
      obtain rfl : f = 3 := Option.some.inj ((show Tryz.prog.funcNamed Tryz.f3.name = some 3 by kernel_rfl).symm.trans hf) |>.symm
      obtain rfl : fn = Tryz.f3 := (Option.some.inj (Tryz.func3.symm.trans hfn)).symm
      exact ⟨by kernel_rfl, fun j t ht => by
        rw [Tryz.params3] at ht
        have hm : t ∈ Tryz.f3.params.toList := by rw [Tryz.params3]; simpa using Array.mem_of_getElem? ht
        have hall : (Tryz.f3.params.toList.all fun u => !Tryz.prog.wantsStandIn u) = true := by kernel_rfl
        exact (show Tryz.prog.wantsStandIn t = false by simpa using List.all_eq_true.1 hall t hm)⟩)
    (by kernel_rfl)

end Go.Proofs.YtpkmiegccfhpnaaGreatDoor.fictaChecks
