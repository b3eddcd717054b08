/- FictaAlone holds: a voice alone has only proposals for a single note above la. No condition. -/
import Derived.Test.YtpkmiegccfhpnaaGreatDoorK01
import Derived.Test.YtpkmiegccfhpnaaGreatDoorK02
import Derived.Test.YtpkmiegccfhpnaaGreatDoorK03
import Derived.Test.YtpkmiegccfhpnaaGreatDoorK04
import Derived.Test.YtpkmiegccfhpnaaGreatDoorK05
import Derived.Test.YtpkmiegccfhpnaaGreatDoorK06
import Derived.Test.YtpkmiegccfhpnaaGreatDoorK07
import Derived.Test.YtpkmiegccfhpnaaGreatDoorK08
import Derived.Test.YtpkmiegccfhpnaaGreatDoorK09
import Derived.Test.YtpkmiegccfhpnaaGreatDoorK10
import Derived.Test.YtpkmiegccfhpnaaGreatDoorK11
import Derived.Test.YtpkmiegccfhpnaaGreatDoorK12
import Derived.Test.YtpkmiegccfhpnaaGreatDoorK13
import Derived.Test.YtpkmiegccfhpnaaGreatDoorK14
import Derived.Test.YtpkmiegccfhpnaaGreatDoorK15
import Derived.Test.YtpkmiegccfhpnaaGreatDoorK16
import Derived.Test.YtpkmiegccfhpnaaGreatDoorK17
import Derived.Test.YtpkmiegccfhpnaaGreatDoorK18
import Derived.Test.YtpkmiegccfhpnaaGreatDoorK19
import Derived.Test.YtpkmiegccfhpnaaGreatDoorK20
import Derived.Test.YtpkmiegccfhpnaaGreatDoorK21
import Derived.Test.YtpkmiegccfhpnaaGreatDoorK22
import Derived.Test.YtpkmiegccfhpnaaGreatDoorK23
import Derived.Test.YtpkmiegccfhpnaaGreatDoorM01
import Derived.Test.YtpkmiegccfhpnaaGreatDoorM02
import Derived.Test.YtpkmiegccfhpnaaGreatDoorRows
import Derived.Test.YtpkmiegccfhpnaaGreatDoorTie
import Derived.Test.YtpkmiegccfhpnaaGreatDoorCards
import Derived.ProofKit
import Derived.LaidMore
import Derived.OpenShut
import Derived.SevenTiedAt
import Derived.Lib.SmallJoins
import Derived.Lib.LaidTab
import Derived.MakeChecks
import Derived.LaidSub
import Derived.Test.YtpkmiegccfhpnaaGreatDoorProg
import Derived.WalkKit
import Derived.WalkSpells
import Derived.WalkLawsBesides
import Derived.Deep.QuietTactic
import Derived.BigQuiet
import Derived.BigGuardPart
import Derived.Lib.Hide
import Derived.RegionTactic
import Derived.ChangeAlike
import Derived.Laws.OwnMore
import Derived.Deep.AppendLies
import Derived.Deep.Draws
import Derived.Deep.RegionHeld3
import Derived.Maps.AppendAt
import Derived.OwnWalk
import Derived.StillTail
import Derived.Deep.Slices
import Derived.Deep.Fields
import Derived.ChangeSame
import Derived.ChangeArms
import Derived.BigRegion
import Derived.ArgAppend
import Derived.Stop.Joined
import Derived.ChangeOld
import Derived.Below
import Derived.Maps.OwnOps
import Derived.Maps.OwnSet
import Derived.Maps.Views
import Derived.Maps.RangeWalk
import Derived.WideKeyPair
import Derived.DeepKeys4
import Derived.IntWalk
import Derived.Deep.LoopGhost
import Derived.Carry
import Derived.RangeFuncOwn
import Derived.Deep.RegionLaw
import Derived.RangeFuncNested
import Derived.RangeFuncBound
import Derived.RangeFuncCalls
import Derived.RangeFuncLeaves
import Derived.OwnWalkIn
import Derived.TacticsInMore
import Derived.LoopNIn
import Derived.LoopIn
import Derived.Sort.LoopGhostIn
import Derived.Sort.MapsRangeIn
import Derived.Shelf.SlSortCmp.WholeK
import Derived.Shelf.SlSortCmp.NoneTotal
import Derived.Shelf.SlGeneric
import Derived.Shelf.SlLaysF0
import Derived.Ground.SlsfProg
import Derived.RangeFuncSeq
namespace Go.Proofs.YtpkmiegccfhpnaaGreatDoor.fictaAlone
open Go.RowKit Go.ChangeShapes Go.WideShapes Go.ChangeAt
set_option linter.unusedVariables false
theorem take_one {w : World} {B : Nat} {A : Option Addr} {v1 v2 v3 : List Ev} (h : ReadsV w B A 3 [v1, v2, v3]) : ReadsV w B A 1 [v1] := by
  obtain ⟨ds, h1, h2, h3⟩ := h
  match ds, h1 with
  | [d1, d2, d3], _ =>
    refine ⟨[d1], rfl, ⟨rfl, fun _ => ?_⟩, fun k d v hd hv => ?_⟩
    · obtain ⟨b, off, hA, hb, hc⟩ := h2.2 (by omega)
      refine ⟨b, off, hA, hb, fun j u hj => hc j u ?_⟩
      match j with
      | 0 => exact hj
      | j + 1 => simp [csV, slV] at hj
    · match k with
      | 0 => exact h3 0 d v hd hv
      | k + 1 => simp at hd
theorem nums_nil (w : World) : Nums w none 0 [] := ⟨Reads.none_, by omega, fun _ h => by cases h⟩
set_option maxRecDepth 100000 in
set_option maxHeartbeats 8000000 in
theorem walk {Aa : Option Addr} {na : Nat} {a : List Int} {w : World} (ca : Nat) (ha : Nums w Aa na a) (ht : Tabs w) :
    Calls Tryz.prog 6 #[.slice Aa na ca] w fun e w' => e = .returned (.bool true) ∧ Below w.heap.size w w' := by
  have HA := Lib.hid ha
  have HT := Lib.hid ht
  obtain ⟨v, hv⟩ : ∃ z, z = (voiceS 9 a).map sk := ⟨_, rfl⟩
  have hset : SetV [v] := by
    have h3 := set_of_slices (made_sl a [] [])
    exact ⟨by simp, fun u hu => h3.chk u (by rw [List.mem_singleton.1 hu, hv]; exact List.mem_cons_self)⟩
  have hs : (slicesE [v]).2 = 0 := by
    have hq : SetQ 2880 [voiceS 9 a] := ⟨by omega, by omega, by simp, fun u hu => by rw [List.mem_singleton.1 hu]; exact ⟨(voice_q 9 (by omega) a).1, (voice_q 9 (by omega) a).2.1⟩⟩
    have h0 : (slicesE [voiceS 9 a]).2 = 0 := by rw [setq_slices hq]
    exact slices_sk (l := [voiceS 9 a]) (by rw [hv]; exact (skL_idem [voiceS 9 a]).symm) h0 hset
  have EA := Lib.hid (all_eq hs)
  have HSP := Lib.hid (alone_spec hset)
  have HM := Lib.hid (show made31 a [] [] = [v, [], []] by rw [hv]; rfl)
  have hv9 : v.length ≤ 9 := by rw [hv, List.length_map]; exact (voice_q 9 (by omega) a).2.2
  obtain ⟨L, hL⟩ : ∃ z, z = allFi [v] := ⟨_, rfl⟩
  rw [← hL] at EA HSP
  obtain ⟨m, hm⟩ : ∃ z, z = L.length := ⟨_, rfl⟩
  have hm24 : m ≤ 1000000 := by
    rw [hm, hL]
    have := listF_len [v] (allF [v]).1
    have := plc_few hset
    unfold allFi
    omega
  have HLM := Lib.hid hm.symm
  clear ha ht hs hset hv hL hm
  go_enter Tryz.func6, Tryz.ntmps6
  go_wp2_with fail
  refine (known_any w HT.out).mono ?_
  rintro e w1 ⟨rfl, b1⟩
  have k1 := b1
  clear b1
  go_wp2_with fail
  refine (made31_any (HA.out.kept k1) (nums_nil _) (nums_nil _) ca 0 0).mono ?_
  rintro e w2 ⟨bA, rfl, r2, b2⟩
  have k2 := below_call k1 b2
  rw [HM.out] at r2
  have s2 := take_one r2
  clear k1 b2 r2
  go_wp2_with fail
  have q := fall_ok (some ⟨bA, 0, none⟩) 1 3 [v] w2.heap.size s2 (Nat.le_refl _) (by omega) (HT.out.kept k2)
  rw [EA.out] at q
  refine q.mono ?_
  rintro e w3 ⟨u, rfl, how, b3⟩
  obtain ⟨AF, cF, rfl, rf3, _, _⟩ := own_reads how
  have s3 := rdV s2 b3
  have k3 := below_call k2 b3
  clear q s2 how b3 k2
  simp only at rf3 ⊢
  rw [HLM.out] at rf3 ⊢
  obtain ⟨bA', oA, A0, n0, c0, hA, hbA, x0, rv, _, hn0⟩ := s3.voice (k := 0) (Nat.le_refl _) (Below.refl _ _) (by omega) rfl
  cases hA
  simp only [Nat.add_zero] at x0
  have HN0 := Lib.hid hn0
  have hn9 : n0 ≤ 9 := by omega
  have HRV := Lib.hid rv
  have HRF := Lib.hid rf3
  clear hn0 rv rf3 hv9 s3
  go_wp2_with fail
  go_loopg [7, 8] m (fun gh i _ wr => ∃ q : Nat, q + gh = m ∧ i = .int .i64 (q : Int) ∧ Below w3.heap.size w3 wr)
  case atStart => exact ⟨0, by omega, by simp, Below.refl _ _⟩
  case round =>
    obtain ⟨q, hqg, rfl, kr⟩ := hrel
    have wq : IntKind.i64.wrap ((q : Int) + 1) = (q : Int) + 1 := IntWalk.i64_in _ (by omega)
    cases gk with
    | zero =>
      have d0 : ¬ ((q : Int) < (m : Int)) := by omega
      have kk := below_call k3 kr
      clear hqg
      go_wp2
      refine ret_of (by simp [results, Tryz.results6, go_sem, *]; repeat' (first | rfl | apply And.intro)) rfl ⟨rfl, kk⟩
    | succ gh =>
      have hqm : q < m := by omega
      have d0 : (q : Int) < (m : Int) := by omega
      obtain ⟨⟨y1, y2, y3, y4⟩, hy⟩ := get_some (l := L) (k := q) (by have := HLM.out; omega)
      obtain ⟨p, g1, g2, hp2, e, xa, xb, xc, rfl, he, ha, hb, hc, h6, h5, hac⟩ := HSP.out _ (List.mem_of_getElem? hy)
      simp only at g1 g2 hp2
      rw [Prod.mk.injEq] at hp2
      obtain ⟨rfl, rfl⟩ := hp2
      subst g1 g2
      obtain ⟨bf, off, hA2, hbf, hcf⟩ := Reads.elem (f := cFic) (fun _ => rfl) (HRF.out.below (Nat.le_refl _) kr) hqm hy
      subst hA2
      have e0 := hcf 0 _ rfl
      have e1 := hcf 1 _ rfl
      have e2 := hcf 2 _ rfl
      have e3 := hcf 3 _ rfl
      simp only [Nat.add_zero, ← Nat.add_assoc] at e0 e1 e2 e3
      have lbf : bf < wr.heap.size := by have := kr.size; omega
      obtain ⟨e', rfl⟩ : ∃ e', e = e' + 1 := ⟨e - 1, by omega⟩
      rw [Nat.add_sub_cancel] at ha
      have hen : e' + 1 + 1 < n0 := by have := (List.getElem?_eq_some_iff.1 hc).1; have := HN0.out; omega
      obtain ⟨be, oe, hAe, hbe, hca⟩ := HRV.out.ev (Nat.le_refl _) kr (show e' < n0 by omega) ha
      obtain ⟨be', oe', hAe', _, hcb⟩ := HRV.out.ev (Nat.le_refl _) kr (show e' + 1 < n0 by omega) hb
      obtain ⟨be'', oe'', hAe'', _, hcc⟩ := HRV.out.ev (Nat.le_refl _) kr hen hc
      subst hAe
      cases hAe'
      cases hAe''
      obtain ⟨_, _, _, _, a4, a5, a6, _, _, _⟩ := ten hca
      obtain ⟨_, _, _, _, b4, _, _, _, _, _⟩ := ten hcb
      obtain ⟨_, _, _, _, c4, c5, c6, _, _, _⟩ := ten hcc
      rw [← hac] at c4 c5 c6
      rw [h5] at a4 c4
      rw [h6] at b4
      obtain ⟨p5, hp5⟩ : ∃ z, z = xa.pit.2.1 := ⟨_, rfl⟩
      obtain ⟨p6, hp6⟩ : ∃ z, z = xa.pit.2.2 := ⟨_, rfl⟩
      rw [← hp5] at a5 c5
      rw [← hp6] at a6 c6
      have x0' := (kr.cell (p := ⟨bA, 0, none⟩) hbA).trans x0
      have lbA : bA < wr.heap.size := by have := kr.size; omega
      have lbe : be < wr.heap.size := by have := kr.size; omega
      obtain ⟨k, hk⟩ : ∃ z, z = e' + 1 := ⟨_, rfl⟩
      rw [← hk] at e1 b4 hen c4 c5 c6
      obtain ⟨k2, hk2⟩ : ∃ z, z = k + 1 := ⟨_, rfl⟩
      rw [← hk2] at hen c4 c5 c6
      have wk1 : IntKind.i64.wrap ((k : Int) + 1) = (k2 : Int) := by rw [IntWalk.i64_in _ (by omega)]; omega
      have wk0 : IntKind.i64.wrap ((k : Int) - 1) = (e' : Int) := by rw [IntWalk.i64_in _ (by omega)]; omega
      have d1 : decide (k < 1) = false := decide_eq_false (by omega)
      have d1' : decide ((k : Int) < 1) = false := decide_eq_false (by omega)
      have d2 : decide (n0 ≤ k2) = false := decide_eq_false (by omega)
      have d2' : decide ((n0 : Int) ≤ (k2 : Int)) = false := decide_eq_false (by omega)
      have f1 : (k : Int) < (n0 : Int) := by omega
      have f2 : (k2 : Int) < (n0 : Int) := by omega
      have f3 : (e' : Int) < (n0 : Int) := by omega
      clear hy hcf ha hb hc hac h5 h6 hca hcb hcc hp5 hp6 hk hk2 he hbf
      go_wp2_with fail
      refine wp_region_calm (by kernel_rfl) (by kernel_rfl) ?_
      repeat (go_big_quiet_step (fail))
      refine wpQuiet_nil ?_
      intro w7 b7
      have k7 := below_call kr b7
      clear e0 e1 e2 e3 a4 a5 a6 b4 c4 c5 c6 x0' lbA lbe lbf b7
      go_wp2
      go_roundg gh
      case measure => omega
      case rel => exact ⟨q + 1, by omega, by go_num, k7⟩
def laids : List (String × DataW Unit) := Rows.fictaAloneRow.laid
theorem door_met (os : Os) (args : Array Value) : laidMetH Tryz.prog laids ((World.doorLaid Tryz.prog 80 os).forCall (fun _ _ => 0) ⟨#[], args, []⟩).memory :=
  laidMetH_of_parts3 (fuel := 8) (laidMet_of_run' 8 (by kernel_rfl) (by kernel_rfl)) (by kernel_rfl) (by kernel_rfl)
theorem tabs_of {W : World} (h : laidMetH Tryz.prog laids W) : Tabs W := by
  rw [MakeChecks.laidMetH_plain _ _ _ (by kernel_rfl)] at h
  exact tabs_of_list h (by kernel_rfl) (by kernel_rfl)
set_option maxRecDepth 100000 in
theorem lifted (os : Os) (started : os.Started) (H : Type) (enc : TypeId × Value → H) :
    ReturnsInHanded {} Tryz.checked os 6 .any (fun w args => (Rows.fictaAloneSpec.pre enc Tryz.prog Tryz.f6 [] false w args ∧ laidMetH Tryz.prog laids w) ∧ sizedMet enc Tryz.prog Tryz.f6 (OpenSpec.ofChange Rows.fictaAloneSpec) false w args) (Rows.fictaAloneSpec.post enc Tryz.prog Tryz.f6 false true false false) := by
  refine returnsInHanded_of_change_and (C := Tryz.checked) (X := fun w _ => laidMetH Tryz.prog laids w) (fun _ _ _ hh h => h.of_heap hh) own started (by kernel_rfl) Tryz.func6
    (ChangeSpec.witness_shaped (enc := enc) (C := Tryz.checked) (os := os) (X := fun w _ => laidMetH Tryz.prog laids w) false (World.doorLaid Tryz.prog 80 os) #[.slice none 0 0] 8 rfl (World.shaped_of_RefB (by kernel_rfl) (by kernel_rfl)) (by kernel_rfl) (by kernel_rfl) (by kernel_rfl) (door_met os _)) ?_
  intro W base args ds gs before hval0 hW _ _ hL _
  have hval : ∀ (j : Nat) t v, Tryz.f6.params[j]? = some t → args[j]? = some v → Value.okWide Tryz.prog W .any base t v := hval0
  have hW' := hW
  obtain ⟨p, q, hA0, hV, rfl, hfz, hnd⟩ := hW
  have hA : DataW.TrodAll enc Tryz.prog W 0 (fun _ => true) true Tryz.f6.params.toList args.toList ds p := hA0
  rw [Tryz.params6] at hA hval
  obtain ⟨v0, vs0, d0, ds0, p0, q0, hargs, rfl, rfl, h0, r0⟩ := trodAll_cons hA
  obtain ⟨rfl, rfl, rfl⟩ := trodAll_nil r0
  obtain rfl : args = #[v0] := by cases args; simp_all
  obtain ⟨rfl, rfl⟩ := trodVars_none hV
  have k0 := h0
  have lt0 : ∀ x ∈ p0, x.block < W.heap.size := by obtain ⟨m, hm⟩ := k0; exact DataW.trod_lt m _ _ _ hm
  obtain ⟨A0, n0, c0, l0, rfl, w0⟩ := arg_ints (hval 0 40 v0 rfl rfl) h0
  clear hA0 hval0
  refine (walk c0 ⟨w0.1, w0.2.1, w0.2.2⟩ (tabs_of hL)).mono fun e W' ⟨he, bel⟩ => ?_
  subst he
  exact ⟨_, rfl, _, _, _, [], _, [], hW', trodAll_mk1 (shut_bool Tryz.underlying4 _), (trodAll_cons_mk (Below.trod laidOut (by kernel_rfl) (of_decide_eq_true (by kernel_rfl)) k0 bel lt0) trodAll_mk0), rfl, bel.frame _, fun h => by cases h⟩

theorem over : Rows.FictaAloneSaid :=
  OpenClaim.holds_of_wide 6 Tryz.f6 rfl rfl rfl rfl rfl rfl rfl ⟨rfl, rfl, rfl, rfl, rfl⟩ rfl rfl rfl rfl rfl (by kernel_rfl) Tryz.func6 (by kernel_rfl)
    (of_decide_eq_true (by kernel_rfl)) (by unfold Func.isWrapper; first | (rw [if_pos (by decide +kernel)]; kernel_rfl) | (rw [if_neg (by decide +kernel)]; exact ⟨rfl, rfl⟩))
    (fun os started H enc _ => lifted os started H enc)

/-- The card: the row, its variables tied to the program's text. -/
theorem proved : Rows.FictaAloneCardSaid :=
  Claim7.holds_tied_plain_at .later [] [.data, .data] true Rows.fictaAloneCard.stood.harness Rows.fictaAloneCard.stood.looks
    over (fun _ h => by cases h) (by kernel_rfl) (fun _ h => by cases h) fictaAlone_row_tie rfl ⟨rfl, rfl⟩ (by kernel_rfl) rfl
    (fun f fn hf hfn => by
      obtain rfl : f = 6 := Option.some.inj ((show Tryz.prog.funcNamed Tryz.f6.name = some 6 by kernel_rfl).symm.trans hf) |>.symm
      obtain rfl : fn = Tryz.f6 := (Option.some.inj (Tryz.func6.symm.trans hfn)).symm
      exact ⟨by kernel_rfl, fun j t ht => by
        rw [Tryz.params6] at ht
        have hm : t ∈ Tryz.f6.params.toList := by rw [Tryz.params6]; simpa using Array.mem_of_getElem? ht
        have hall : (Tryz.f6.params.toList.all fun u => !Tryz.prog.wantsStandIn u) = true := by kernel_rfl
        exact (show Tryz.prog.wantsStandIn t = false by simpa using List.all_eq_true.1 hall t hm)⟩)
    (by kernel_rfl)

end Go.Proofs.YtpkmiegccfhpnaaGreatDoor.fictaAlone
