/- FictaEnds holds: there are at most as many rounds as notes, and nothing more is proposed for the setting with all proposals. No condition. -/
import Derived.Test.YtpkmiegccfhpnaaGreatDoorK01
import Derived.Test.YtpkmiegccfhpnaaGreatDoorK02
import Derived.Test.YtpkmiegccfhpnaaGreatDoorK03
import Derived.Test.YtpkmiegccfhpnaaGreatDoorK04
import Derived.Test.YtpkmiegccfhpnaaGreatDoorK05
import Derived.Test.YtpkmiegccfhpnaaGreatDoorK06
import Derived.Test.YtpkmiegccfhpnaaGreatDoorK07
import Derived.Test.YtpkmiegccfhpnaaGreatDoorK08
import Derived.Test.YtpkmiegccfhpnaaGreatDoorK09
import Derived.Test.YtpkmiegccfhpnaaGreatDoorK10
import Derived.Test.YtpkmiegccfhpnaaGreatDoorK11
import Derived.Test.YtpkmiegccfhpnaaGreatDoorK12
import Derived.Test.YtpkmiegccfhpnaaGreatDoorK13
import Derived.Test.YtpkmiegccfhpnaaGreatDoorK14
import Derived.Test.YtpkmiegccfhpnaaGreatDoorK15
import Derived.Test.YtpkmiegccfhpnaaGreatDoorK16
import Derived.Test.YtpkmiegccfhpnaaGreatDoorK17
import Derived.Test.YtpkmiegccfhpnaaGreatDoorK18
import Derived.Test.YtpkmiegccfhpnaaGreatDoorK19
import Derived.Test.YtpkmiegccfhpnaaGreatDoorK20
import Derived.Test.YtpkmiegccfhpnaaGreatDoorK21
import Derived.Test.YtpkmiegccfhpnaaGreatDoorK22
import Derived.Test.YtpkmiegccfhpnaaGreatDoorK23
import Derived.Test.YtpkmiegccfhpnaaGreatDoorM01
import Derived.Test.YtpkmiegccfhpnaaGreatDoorM02
import Derived.Test.YtpkmiegccfhpnaaGreatDoorRows
import Derived.Test.YtpkmiegccfhpnaaGreatDoorTie
import Derived.Test.YtpkmiegccfhpnaaGreatDoorCards
import Derived.ProofKit
import Derived.LaidMore
import Derived.OpenShut
import Derived.SevenTiedAt
import Derived.Lib.SmallJoins
import Derived.Lib.LaidTab
import Derived.MakeChecks
import Derived.LaidSub
import Derived.Test.YtpkmiegccfhpnaaGreatDoorProg
import Derived.WalkKit
import Derived.WalkSpells
import Derived.WalkLawsBesides
import Derived.Deep.QuietTactic
import Derived.BigQuiet
import Derived.BigGuardPart
import Derived.Lib.Hide
import Derived.RegionTactic
import Derived.ChangeAlike
import Derived.Laws.OwnMore
import Derived.Deep.AppendLies
import Derived.Deep.Draws
import Derived.Deep.RegionHeld3
import Derived.Maps.AppendAt
import Derived.OwnWalk
import Derived.StillTail
import Derived.Deep.Slices
import Derived.Deep.Fields
import Derived.ChangeSame
import Derived.ChangeArms
import Derived.BigRegion
import Derived.ArgAppend
import Derived.Stop.Joined
import Derived.ChangeOld
import Derived.Below
import Derived.Maps.OwnOps
import Derived.Maps.OwnSet
import Derived.Maps.Views
import Derived.Maps.RangeWalk
import Derived.WideKeyPair
import Derived.DeepKeys4
import Derived.IntWalk
import Derived.Deep.LoopGhost
import Derived.Carry
import Derived.RangeFuncOwn
import Derived.Deep.RegionLaw
import Derived.RangeFuncNested
import Derived.RangeFuncBound
import Derived.RangeFuncCalls
import Derived.RangeFuncLeaves
import Derived.OwnWalkIn
import Derived.TacticsInMore
import Derived.LoopNIn
import Derived.LoopIn
import Derived.Sort.LoopGhostIn
import Derived.Sort.MapsRangeIn
import Derived.Shelf.SlSortCmp.WholeK
import Derived.Shelf.SlSortCmp.NoneTotal
import Derived.Shelf.SlGeneric
import Derived.Shelf.SlLaysF0
import Derived.Ground.SlsfProg
import Derived.RangeFuncSeq
namespace Go.Proofs.YtpkmiegccfhpnaaGreatDoor.fictaEnds
open Go.RowKit Go.ChangeShapes Go.WideShapes Go.ChangeAt
set_option linter.unusedVariables false
set_option maxRecDepth 100000 in
set_option maxHeartbeats 8000000 in
theorem walk {Aa Ab Ac : Option Addr} {na nb nc : Nat} {a b c : List Int} {w : World} (ca cb cc : Nat) (ha : Nums w Aa na a) (hb : Nums w Ab nb b) (hc : Nums w Ac nc c) (ht : Tabs w) :
    Calls Tryz.prog 9 #[.slice Aa na ca, .slice Ab nb cb, .slice Ac nc cc] w fun e w' => e = .returned (.bool true) ∧ Below w.heap.size w w' := by
  have HA := Lib.hid ha
  have HB := Lib.hid hb
  have HC := Lib.hid hc
  have HT := Lib.hid ht
  have hs := made_sl a b c
  have EA := Lib.hid (all_eq hs)
  have ER := Lib.hid (rounds_eq hs)
  have EX := Lib.hid (apply_all hs)
  have EN := Lib.hid (round_after hs)
  obtain ⟨_, hle, hiff⟩ := allF_spec (made31 a b c)
  obtain ⟨r, hr⟩ : ∃ z, z = (allF (made31 a b c)).2 := ⟨_, rfl⟩
  obtain ⟨L, hL⟩ : ∃ z, z = allFi (made31 a b c) := ⟨_, rfl⟩
  rw [← hr] at hle hiff ER
  rw [← hL] at hiff EA EX EN
  have hle3 : r ≤ ((voiceS 9 a).map sk).length + ((voiceS 9 b).map sk).length + ((voiceS 6 c).map sk).length := by
    have e := plc_three ((voiceS 9 a).map sk) ((voiceS 9 b).map sk) ((voiceS 6 c).map sk)
    rw [← e]; exact hle
  obtain ⟨m, hm⟩ : ∃ z, z = L.length := ⟨_, rfl⟩
  have hrm : r = 0 ↔ m = 0 := by rw [hiff, hm, List.length_eq_zero_iff]
  have HLM := Lib.hid hm.symm
  have hm24 : m ≤ 1000000 := by
    rw [hm, hL]
    have := listF_len (made31 a b c) (allF (made31 a b c)).1
    have := plc_few (set_of_slices hs)
    unfold allFi
    omega
  clear ha hb hc ht hs hle hiff hr hL hm
  go_enter Tryz.func9, Tryz.ntmps9
  go_wp2_with fail
  refine (known_any w HT.out).mono ?_
  rintro e w1 ⟨rfl, b1⟩
  have k1 := b1
  clear b1
  go_wp2_with fail
  refine (made31_any (HA.out.kept k1) (HB.out.kept k1) (HC.out.kept k1) ca cb cc).mono ?_
  rintro e w2 ⟨bA, rfl, r2, b2⟩
  have k2 := below_call k1 b2
  clear k1 b2
  go_wp2_with fail
  have q := fall_ok (some ⟨bA, 0, none⟩) 3 3 (made31 a b c) w2.heap.size r2 (Nat.le_refl _) (by omega) (HT.out.kept k2)
  rw [EA.out] at q
  refine q.mono ?_
  rintro e w3 ⟨u, rfl, how, b3⟩
  obtain ⟨AF, cF, rfl, rf3, _, _⟩ := own_reads how
  have r3 := rdV r2 b3
  have k3 := below_call k2 b3
  clear q r2 how b3 k2
  simp only at rf3 ⊢
  rw [HLM.out] at rf3 ⊢
  go_wp2_with fail
  have q := frounds_ok (some ⟨bA, 0, none⟩) 3 3 (made31 a b c) w3.heap.size r3 (Nat.le_refl _) (by omega) (HT.out.kept k3)
  rw [ER.out] at q
  refine q.mono ?_
  rintro e w4 ⟨rfl, b4⟩
  have r4 := rdV r3 b4
  have rf4 := rd1 rf3 b4
  have k4 := below_call k3 b4
  clear q r3 rf3 b4 k3
  go_wp2_with fail
  have q := fapply_ok (some ⟨bA, 0, none⟩) 3 3 (made31 a b c) w4.heap.size r4 (Nat.le_refl _) (by omega) AF m cF L w4.heap.size rf4 (Nat.le_refl _) hm24
  rw [EX.out] at q
  refine q.mono ?_
  rintro e w5 ⟨AX, mX, cX, rfl, rx5, b5⟩
  have r5 := rdV r4 b5
  have k5 := below_call k4 b5
  obtain rfl : 3 = mX := by have := rx5.len; simp only at this; rw [withL_len] at this; exact this
  clear q r4 rf4 b5 k4
  go_wp2_with fail
  have q := fround_ok AX 3 cX (withL (made31 a b c) L) w5.heap.size rx5 (Nat.le_refl _) (by omega) (HT.out.kept k5)
  rw [EN.out] at q
  refine q.mono ?_
  rintro e w6 ⟨u, rfl, how, b6⟩
  obtain ⟨AM, cM, rfl, _, _, _⟩ := own_reads how
  have r6 := rdV r5 b6
  have k6 := below_call k5 b6
  clear q r5 rx5 how b6 k5
  simp only [List.length_nil]
  have v0 := r6.voice (k := 0) (Nat.le_refl _) (Below.refl _ _) (by omega) rfl
  obtain ⟨bl, ol, A0, n0, c0, hA0, hbl, x0, _, _, hn0⟩ := v0
  cases hA0
  obtain ⟨bl', ol', A1, n1, c1, hA1, _, x1, _, _, hn1⟩ := r6.voice (k := 1) (Nat.le_refl _) (Below.refl _ _) (by omega) rfl
  cases hA1
  obtain ⟨bl'', ol'', A2, n2, c2', hA2, _, x2, _, _, hn2⟩ := r6.voice (k := 2) (Nat.le_refl _) (Below.refl _ _) (by omega) rfl
  cases hA2
  have hsum : r ≤ n0 + n1 + n2 := by
    have e0 : ((voiceS 9 a).map sk).length = n0 := hn0
    have e1 : ((voiceS 9 b).map sk).length = n1 := hn1
    have e2 : ((voiceS 6 c).map sk).length = n2 := hn2
    omega
  have hb0 : n0 ≤ 9 := by have := (voice_q 9 (by omega) a).2.2; have e0 : ((voiceS 9 a).map sk).length = n0 := hn0; rw [List.length_map] at e0; omega
  have hb1 : n1 ≤ 9 := by have := (voice_q 9 (by omega) b).2.2; have e0 : ((voiceS 9 b).map sk).length = n1 := hn1; rw [List.length_map] at e0; omega
  have hb2 : n2 ≤ 6 := by have := (voice_q 6 (by omega) c).2.2; have e0 : ((voiceS 6 c).map sk).length = n2 := hn2; rw [List.length_map] at e0; omega
  clear r6 hn0 hn1 hn2
  simp only [Nat.add_zero] at x0 x1 x2
  have w01 : IntKind.i64.wrap ((n0 : Int) + (n1 : Int)) = ((n0 + n1 : Nat) : Int) := by rw [IntWalk.i64_in _ (by omega)]; omega
  have w012 : IntKind.i64.wrap (((n0 + n1 : Nat) : Int) + (n2 : Int)) = ((n0 + n1 + n2 : Nat) : Int) := by rw [IntWalk.i64_in _ (by omega)]; omega
  obtain ⟨s1, hs1⟩ : ∃ z, z = n0 + n1 := ⟨_, rfl⟩
  rw [← hs1] at w01 w012 hsum
  obtain ⟨s2, hs2⟩ : ∃ z, z = s1 + n2 := ⟨_, rfl⟩
  rw [← hs2] at w012 hsum
  clear hs1 hs2 hb0 hb1 hb2
  go_wp2_with fail
  refine wp_region_calm (by kernel_rfl) (by kernel_rfl) ?_
  repeat (go_big_quiet_step (fail))
  refine wpQuiet_nil ?_
  intro w7 b7
  have k7 := below_call k6 b7
  clear x0 x1 x2 b7 k6 w01 w012
  have d1 : decide ((r : Int) ≤ (s2 : Int)) = true := decide_eq_true (by omega)
  have d1' : decide (r ≤ s2) = true := decide_eq_true hsum
  have d2 : decide ((0 : Int) ≤ (r : Int)) = true := decide_eq_true (by omega)
  by_cases h0 : r = 0
  · have hm0 := hrm.1 h0
    have e1 : ((r : Int) == 0) = true := by simp [h0]
    have e2 : ((m : Int) == 0) = true := by simp [hm0]
    clear hrm h0 hm0 hsum
    go_wp2
    refine ret_of (by simp [results, Tryz.results9, go_sem, *]; repeat' (first | rfl | apply And.intro)) rfl ⟨rfl, k7⟩
  · have hm0 : ¬ m = 0 := fun h => h0 (hrm.2 h)
    have e1 : ((r : Int) == 0) = false := by simp [h0]
    have e2 : ((m : Int) == 0) = false := by simp [hm0]
    clear hrm h0 hm0 hsum
    go_wp2
    refine ret_of (by simp [results, Tryz.results9, go_sem, *]; repeat' (first | rfl | apply And.intro)) rfl ⟨rfl, k7⟩
def laids : List (String × DataW Unit) := Rows.fictaEndsRow.laid
theorem door_met (os : Os) (args : Array Value) : laidMetH Tryz.prog laids ((World.doorLaid Tryz.prog 80 os).forCall (fun _ _ => 0) ⟨#[], args, []⟩).memory :=
  laidMetH_of_parts3 (fuel := 8) (laidMet_of_run' 8 (by kernel_rfl) (by kernel_rfl)) (by kernel_rfl) (by kernel_rfl)
theorem tabs_of {W : World} (h : laidMetH Tryz.prog laids W) : Tabs W := by
  rw [MakeChecks.laidMetH_plain _ _ _ (by kernel_rfl)] at h
  exact tabs_of_list h (by kernel_rfl) (by kernel_rfl)
set_option maxRecDepth 100000 in
theorem lifted (os : Os) (started : os.Started) (H : Type) (enc : TypeId × Value → H) :
    ReturnsInHanded {} Tryz.checked os 9 .any (fun w args => (Rows.fictaEndsSpec.pre enc Tryz.prog Tryz.f9 [] false w args ∧ laidMetH Tryz.prog laids w) ∧ sizedMet enc Tryz.prog Tryz.f9 (OpenSpec.ofChange Rows.fictaEndsSpec) false w args) (Rows.fictaEndsSpec.post enc Tryz.prog Tryz.f9 false true false false) := by
  refine returnsInHanded_of_change_and (C := Tryz.checked) (X := fun w _ => laidMetH Tryz.prog laids w) (fun _ _ _ hh h => h.of_heap hh) own started (by kernel_rfl) Tryz.func9
    (ChangeSpec.witness_shaped (enc := enc) (C := Tryz.checked) (os := os) (X := fun w _ => laidMetH Tryz.prog laids w) false (World.doorLaid Tryz.prog 80 os) #[.slice none 0 0, .slice none 0 0, .slice none 0 0] 8 rfl (World.shaped_of_RefB (by kernel_rfl) (by kernel_rfl)) (by kernel_rfl) (by kernel_rfl) (by kernel_rfl) (door_met os _)) ?_
  intro W base args ds gs before hval0 hW _ _ hL _
  have hval : ∀ (j : Nat) t v, Tryz.f9.params[j]? = some t → args[j]? = some v → Value.okWide Tryz.prog W .any base t v := hval0
  have hW' := hW
  obtain ⟨p, q, hA0, hV, rfl, hfz, hnd⟩ := hW
  have hA : DataW.TrodAll enc Tryz.prog W 0 (fun _ => true) true Tryz.f9.params.toList args.toList ds p := hA0
  rw [Tryz.params9] at hA hval
  obtain ⟨v0, vs0, d0, ds0, p0, q0, hargs, rfl, rfl, h0, r0⟩ := trodAll_cons hA
  obtain ⟨v1, vs1, d1, ds1, p1, q1, rfl, rfl, rfl, h1, r1⟩ := trodAll_cons r0
  obtain ⟨v2, vs2, d2, ds2, p2, q2, rfl, rfl, rfl, h2, r2⟩ := trodAll_cons r1
  obtain ⟨rfl, rfl, rfl⟩ := trodAll_nil r2
  obtain rfl : args = #[v0, v1, v2] := by cases args; simp_all
  obtain ⟨rfl, rfl⟩ := trodVars_none hV
  have k0 := h0
  have lt0 : ∀ x ∈ p0, x.block < W.heap.size := by obtain ⟨m, hm⟩ := k0; exact DataW.trod_lt m _ _ _ hm
  obtain ⟨A0, n0, c0, l0, rfl, w0⟩ := arg_ints (hval 0 40 v0 rfl rfl) h0
  have k1 := h1
  have lt1 : ∀ x ∈ p1, x.block < W.heap.size := by obtain ⟨m, hm⟩ := k1; exact DataW.trod_lt m _ _ _ hm
  obtain ⟨A1, n1, c1, l1, rfl, w1⟩ := arg_ints (hval 1 40 v1 rfl rfl) h1
  have k2 := h2
  have lt2 : ∀ x ∈ p2, x.block < W.heap.size := by obtain ⟨m, hm⟩ := k2; exact DataW.trod_lt m _ _ _ hm
  obtain ⟨A2, n2, c2, l2, rfl, w2⟩ := arg_ints (hval 2 40 v2 rfl rfl) h2
  clear hA0 hval0
  refine (walk c0 c1 c2 ⟨w0.1, w0.2.1, w0.2.2⟩ ⟨w1.1, w1.2.1, w1.2.2⟩ ⟨w2.1, w2.2.1, w2.2.2⟩ (tabs_of hL)).mono fun e W' ⟨he, bel⟩ => ?_
  subst he
  exact ⟨_, rfl, _, _, _, [], _, [], hW', trodAll_mk1 (shut_bool Tryz.underlying4 _), (trodAll_cons_mk (Below.trod laidOut (by kernel_rfl) (of_decide_eq_true (by kernel_rfl)) k0 bel lt0) (trodAll_cons_mk (Below.trod laidOut (by kernel_rfl) (of_decide_eq_true (by kernel_rfl)) k1 bel lt1) (trodAll_cons_mk (Below.trod laidOut (by kernel_rfl) (of_decide_eq_true (by kernel_rfl)) k2 bel lt2) trodAll_mk0))), rfl, bel.frame _, fun h => by cases h⟩

theorem over : Rows.FictaEndsSaid :=
  OpenClaim.holds_of_wide 9 Tryz.f9 rfl rfl rfl rfl rfl rfl rfl ⟨rfl, rfl, rfl, rfl, rfl⟩ rfl rfl rfl rfl rfl (by kernel_rfl) Tryz.func9 (by kernel_rfl)
    (of_decide_eq_true (by kernel_rfl)) (by unfold Func.isWrapper; first | (rw [if_pos (by decide +kernel)]; kernel_rfl) | (rw [if_neg (by decide +kernel)]; exact ⟨rfl, rfl⟩))
    (fun os started H enc _ => lifted os started H enc)

/-- The card: the row, its variables tied to the program's text. -/
theorem proved : Rows.FictaEndsCardSaid :=
  Claim7.holds_tied_plain_at .later [] [.data, .data] true Rows.fictaEndsCard.stood.harness Rows.fictaEndsCard.stood.looks
    over (fun _ h => by cases h) (by kernel_rfl) (fun _ h => by cases h) fictaEnds_row_tie rfl ⟨rfl, rfl⟩ (by kernel_rfl) rfl
    (fun f fn hf hfn => by
      obtain rfl : f = 9 := Option.some.inj ((show Tryz.prog.funcNamed Tryz.f9.name = some 9 by kernel_rfl).symm.trans hf) |>.symm
      obtain rfl : fn = Tryz.f9 := (Option.some.inj (Tryz.func9.symm.trans hfn)).symm
      exact ⟨by kernel_rfl, fun j t ht => by
        rw [Tryz.params9] at ht
        have hm : t ∈ Tryz.f9.params.toList := by rw [Tryz.params9]; simpa using Array.mem_of_getElem? ht
        have hall : (Tryz.f9.params.toList.all fun u => !Tryz.prog.wantsStandIn u) = true := by kernel_rfl
        exact (show Tryz.prog.wantsStandIn t = false by simpa using List.all_eq_true.1 hall t hm)⟩)
    (by kernel_rfl)

end Go.Proofs.YtpkmiegccfhpnaaGreatDoor.fictaEnds
