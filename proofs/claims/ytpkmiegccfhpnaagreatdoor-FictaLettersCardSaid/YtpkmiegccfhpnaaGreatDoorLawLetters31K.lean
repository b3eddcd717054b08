/- FictaLetters holds: without B and E nothing is lowered. No condition. -/
import Derived.Test.YtpkmiegccfhpnaaGreatDoorK01
import Derived.Test.YtpkmiegccfhpnaaGreatDoorK02
import Derived.Test.YtpkmiegccfhpnaaGreatDoorK03
import Derived.Test.YtpkmiegccfhpnaaGreatDoorK04
import Derived.Test.YtpkmiegccfhpnaaGreatDoorK05
import Derived.Test.YtpkmiegccfhpnaaGreatDoorK06
import Derived.Test.YtpkmiegccfhpnaaGreatDoorK07
import Derived.Test.YtpkmiegccfhpnaaGreatDoorK08
import Derived.Test.YtpkmiegccfhpnaaGreatDoorK09
import Derived.Test.YtpkmiegccfhpnaaGreatDoorK10
import Derived.Test.YtpkmiegccfhpnaaGreatDoorK11
import Derived.Test.YtpkmiegccfhpnaaGreatDoorK12
import Derived.Test.YtpkmiegccfhpnaaGreatDoorK13
import Derived.Test.YtpkmiegccfhpnaaGreatDoorK14
import Derived.Test.YtpkmiegccfhpnaaGreatDoorK15
import Derived.Test.YtpkmiegccfhpnaaGreatDoorK16
import Derived.Test.YtpkmiegccfhpnaaGreatDoorK17
import Derived.Test.YtpkmiegccfhpnaaGreatDoorK18
import Derived.Test.YtpkmiegccfhpnaaGreatDoorK19
import Derived.Test.YtpkmiegccfhpnaaGreatDoorK20
import Derived.Test.YtpkmiegccfhpnaaGreatDoorK21
import Derived.Test.YtpkmiegccfhpnaaGreatDoorK22
import Derived.Test.YtpkmiegccfhpnaaGreatDoorK23
import Derived.Test.YtpkmiegccfhpnaaGreatDoorM01
import Derived.Test.YtpkmiegccfhpnaaGreatDoorM02
import Derived.Test.YtpkmiegccfhpnaaGreatDoorRows
import Derived.Test.YtpkmiegccfhpnaaGreatDoorTie
import Derived.Test.YtpkmiegccfhpnaaGreatDoorCards
import Derived.ProofKit
import Derived.LaidMore
import Derived.OpenShut
import Derived.SevenTiedAt
import Derived.Lib.SmallJoins
import Derived.Lib.LaidTab
import Derived.MakeChecks
import Derived.LaidSub
import Derived.Test.YtpkmiegccfhpnaaGreatDoorProg
import Derived.WalkKit
import Derived.WalkSpells
import Derived.WalkLawsBesides
import Derived.Deep.QuietTactic
import Derived.BigQuiet
import Derived.BigGuardPart
import Derived.Lib.Hide
import Derived.RegionTactic
import Derived.ChangeAlike
import Derived.Laws.OwnMore
import Derived.Deep.AppendLies
import Derived.Deep.Draws
import Derived.Deep.RegionHeld3
import Derived.Maps.AppendAt
import Derived.OwnWalk
import Derived.StillTail
import Derived.Deep.Slices
import Derived.Deep.Fields
import Derived.ChangeSame
import Derived.ChangeArms
import Derived.BigRegion
import Derived.ArgAppend
import Derived.Stop.Joined
import Derived.ChangeOld
import Derived.Below
import Derived.Maps.OwnOps
import Derived.Maps.OwnSet
import Derived.Maps.Views
import Derived.Maps.RangeWalk
import Derived.WideKeyPair
import Derived.DeepKeys4
import Derived.IntWalk
import Derived.Deep.LoopGhost
import Derived.Carry
import Derived.RangeFuncOwn
import Derived.Deep.RegionLaw
import Derived.RangeFuncNested
import Derived.RangeFuncBound
import Derived.RangeFuncCalls
import Derived.RangeFuncLeaves
import Derived.OwnWalkIn
import Derived.TacticsInMore
import Derived.LoopNIn
import Derived.LoopIn
import Derived.Sort.LoopGhostIn
import Derived.Sort.MapsRangeIn
import Derived.Shelf.SlSortCmp.WholeK
import Derived.Shelf.SlSortCmp.NoneTotal
import Derived.Shelf.SlGeneric
import Derived.Shelf.SlLaysF0
import Derived.Ground.SlsfProg
import Derived.RangeFuncSeq
namespace Go.Proofs.YtpkmiegccfhpnaaGreatDoor.fictaLetters
open Go.RowKit Go.ChangeShapes Go.WideShapes Go.ChangeAt
set_option linter.unusedVariables false
theorem relabel {w : World} {base lim : Nat} {u : Value} {ds : List Pl} {l : List (List Ev)} {f : Ev → Ev} (f' : Ev → Ev) (h : CopyAt w base lim u ds l (gs f 3 0)) (hl : l.length = 3) : CopyAt w base lim u ds (l.map (List.map f)) (gs f' 0 0) where
  row := h.row
  voc := fun j d v hd hv => by
    rw [List.getElem?_map] at hv
    obtain ⟨v0, h0, rfl⟩ := Option.map_eq_some_iff.1 hv
    have := h.voc j d v0 hd h0
    rw [gs_all hl h0] at this
    rw [gs_start]
    exact this
  far := h.far
  len := by rw [List.length_map]; exact h.len
  inn := h.inn
  out := h.out
theorem set_step (done rest : List Ev) (x : Ev) (p : Int) : (csE (done ++ x :: rest)).set (done.length * 10 + 4) (.int .i64 p) = csE (done ++ { x with pit := (p, x.pit.2.1, x.pit.2.2) } :: rest) := by
  rw [m_split, m_split, ← csE_len done]; simp
theorem low_yes {x : Ev} (h : x.pit.1 = 6 ∨ x.pit.1 = 2) : { x with pit := (x.pit.1 - 1, x.pit.2.1, x.pit.2.2) } = lowE x := by unfold lowE; rw [if_pos h]
theorem low_no {x : Ev} (h : ¬ (x.pit.1 = 6 ∨ x.pit.1 = 2)) : lowE x = x := by unfold lowE; rw [if_neg h]
set_option maxRecDepth 100000 in
set_option maxHeartbeats 8000000 in
theorem walk {Aa Ab Ac : Option Addr} {na nb nc : Nat} {a b c : List Int} {w : World} (ca cb cc : Nat) (ha : Nums w Aa na a) (hb : Nums w Ab nb b) (hc : Nums w Ac nc c) (ht : Tabs w) :
    Calls Tryz.prog 7 #[.slice Aa na ca, .slice Ab nb cb, .slice Ac nc cc] w fun e w' => e = .returned (.bool true) ∧ Below w.heap.size w w' := by
  have HA := Lib.hid ha
  have HB := Lib.hid hb
  have HC := Lib.hid hc
  have HT := Lib.hid ht
  have hs := made_sl a b c
  obtain ⟨l, hl⟩ : ∃ z, z = made31 a b c := ⟨_, rfl⟩
  have HM := Lib.hid (show (madeV a b c).map (List.map sk) = l from hl.symm)
  have HL3 := Lib.hid (show l.length = 3 by rw [hl]; rfl)
  have HLV := Lib.hid (show ∀ v ∈ l, v.length ≤ 9 by
    rw [hl]; intro v hv
    unfold made31 madeV skL at hv
    simp only [List.map_cons, List.map_nil, List.mem_cons, List.not_mem_nil, or_false] at hv
    rcases hv with rfl | rfl | rfl <;> rw [List.length_map]
    · exact (voice_q 9 (by omega) a).2.2
    · exact (voice_q 9 (by omega) b).2.2
    · exact Nat.le_trans (voice_q 6 (by omega) c).2.2 (by omega))
  rw [← hl] at hs
  have hs2 := low_sl hs
  have EA := Lib.hid (all_eq hs2)
  have HSP := Lib.hid (letters_spec (set_of_slices hs2) (fun _ _ h => low_steps h))
  obtain ⟨L, hL⟩ : ∃ z, z = allFi (lowL l) := ⟨_, rfl⟩
  rw [← hL] at EA HSP
  obtain ⟨m, hm⟩ : ∃ z, z = L.length := ⟨_, rfl⟩
  have hm24 : m ≤ 1000000 := by
    rw [hm, hL]
    have := listF_len (lowL l) (allF (lowL l)).1
    have := plc_few (set_of_slices hs2)
    unfold allFi
    omega
  have HLM := Lib.hid hm.symm
  clear ha hb hc ht hs hs2 hl hL hm
  go_enter Tryz.func7, Tryz.ntmps7
  go_wp2_with fail
  refine (known_any w HT.out).mono ?_
  rintro e w1 ⟨rfl, b1⟩
  have k1 := b1
  clear b1
  go_wp2_with fail
  refine (made31_own (HA.out.kept k1) (HB.out.kept k1) (HC.out.kept k1) ca cb cc).mono ?_
  rintro e w2 ⟨bu, ds, lim, rfl, K0, hl0, b2⟩
  have k2 := below_call k1 b2
  replace K0 := relabel lowE K0 rfl
  rw [HM.out] at K0
  have HD3 := Lib.hid (show ds.length = 3 by have := K0.len; rw [HL3.out] at this; exact this)
  have kr0 : Below w1.heap.size w1 w2 := b2
  clear b2
  go_wp2_with fail
  go_loopg [9, 10] 3 (fun gh i _ wr => ∃ k : Nat, k + gh = 3 ∧ i = .int .i64 (k : Int) ∧ CopyAt wr w1.heap.size lim (.slice (some ⟨bu, 0, none⟩) 3 3) ds l (gs lowE k 0) ∧ Below w1.heap.size w1 wr ∧ lim ≤ wr.heap.size)
  case atStart => exact ⟨0, by omega, by simp, K0, kr0, hl0⟩
  case round =>
    clear K0 kr0 hl0 k2
    obtain ⟨i, hig, rfl, K, kr, hlm⟩ := hrel
    have wk : IntKind.i64.wrap ((i : Int) + 1) = (i : Int) + 1 := IntWalk.i64_in _ (by omega)
    cases gk with
    | zero =>
      have hi3 : i = 3 := by omega
      have d0 : ¬ ((i : Int) < 3) := by omega
      rw [hi3] at K
      have r2 := K.readsM lowE HL3.out
      have k2 := below_call k1 kr
      obtain ⟨w3, hw3⟩ : ∃ z, z = wr := ⟨_, rfl⟩
      subst hw3
      clear K kr hlm hig
      go_wp2_with fail
      have q := fall_ok (some ⟨bu, 0, none⟩) 3 3 (lowL l) w3.heap.size r2 (Nat.le_refl _) (by omega) (HT.out.kept k2)
      rw [EA.out] at q
      refine q.mono ?_
      rintro e w4 ⟨u, rfl, how, b3⟩
      obtain ⟨AF, cF, rfl, rf3, _, _⟩ := own_reads how
      have k3 := below_call k2 b3
      clear q how b3 k2 r2
      simp only at rf3 ⊢
      rw [HLM.out] at rf3 ⊢
      have HRF := Lib.hid rf3
      clear rf3
      go_wp2_with fail
      go_loopg [13] m (fun gh i wr => ∃ q : Nat, q + gh = m ∧ i = .int .i64 (q : Int) ∧ Below w4.heap.size w4 wr)
      case atStart => exact ⟨0, by omega, by simp, Below.refl _ _⟩
      case round =>
        obtain ⟨q, hqg, rfl, kr⟩ := hrel
        have wq : IntKind.i64.wrap ((q : Int) + 1) = (q : Int) + 1 := IntWalk.i64_in _ (by omega)
        cases gk with
        | zero =>
          have d0 : ¬ ((q : Int) < (m : Int)) := by omega
          have kk := below_call k3 kr
          clear hqg
          go_wp2
          refine ret_of (by simp [results, Tryz.results7, go_sem, *]; repeat' (first | rfl | apply And.intro)) rfl ⟨rfl, kk⟩
        | succ gh =>
          have hqm : q < m := by omega
          have d0 : (q : Int) < (m : Int) := by omega
          obtain ⟨⟨y1, y2, y3, y4⟩, hy⟩ := get_some (l := L) (k := q) (by have := HLM.out; omega)
          have hp2 := HSP.out _ (List.mem_of_getElem? hy)
          simp only at hp2
          rw [Prod.mk.injEq] at hp2
          obtain ⟨rfl, rfl⟩ := hp2
          obtain ⟨bf, off, hA2, hbf, hcf⟩ := Reads.elem (f := cFic) (fun _ => rfl) (HRF.out.below (Nat.le_refl _) kr) hqm hy
          subst hA2
          have e2 := hcf 2 _ rfl
          have e3 := hcf 3 _ rfl
          simp only [← Nat.add_assoc] at e2 e3
          have lbf : bf < wr.heap.size := by have := kr.size; omega
          clear hy hcf hbf
          go_wp2_with fail
          go_roundg gh
          case measure => omega
          case rel => exact ⟨q + 1, by omega, by go_num, kr⟩
    | succ gh =>
      have hi3 : i < 3 := by omega
      have d0 : (i : Int) < 3 := by omega
      obtain ⟨v, hv⟩ := get_some (l := l) (k := i) (by have := HL3.out; omega)
      have hv9 := HLV.out v (List.mem_of_getElem? hv)
      have HVV := Lib.hid hv
      obtain ⟨N, hN⟩ : ∃ z, z = v.length := ⟨_, rfl⟩
      have HN := Lib.hid hN
      have hN9 : N ≤ 9 := by omega
      clear hv hv9 hN
      obtain ⟨wr0, hwr0⟩ : ∃ z, z = wr := ⟨_, rfl⟩
      subst hwr0
      go_wp2_with fail
      go_loopg [10] N (fun g2 j wy => ∃ k : Nat, k + g2 = N ∧ j = .int .i64 (k : Int) ∧ CopyAt wy w1.heap.size lim (.slice (some ⟨bu, 0, none⟩) 3 3) ds l (gs lowE i k) ∧ Below w1.heap.size w1 wy ∧ lim ≤ wy.heap.size)
      case atStart => exact ⟨0, by omega, by simp, K, kr, hlm⟩
      case round =>
        clear K kr hlm
        obtain ⟨k, hkg, rfl, K, kr, hlm⟩ := hrel
        have wk2 : IntKind.i64.wrap ((k : Int) + 1) = (k : Int) + 1 := IntWalk.i64_in _ (by omega)
        cases gk with
        | zero =>
          have hk : k = N := by omega
          have d1 : ¬ ((k : Int) < (N : Int)) := by omega
          obtain ⟨bu', cu', A9, n9, c9, hu, hb9, hlt9, hcell, hd9, hrow9⟩ := K.at_ HVV.out
          have hbb : bu' = bu := by injection hu with h1; injection h1 with h1; injection h1 with h1; exact h1.symm
          subst hbb
          have hn9 : n9 = N := by
            have := hrow9.1
            rw [csE_len, gs_at] at this
            unfold mix at this
            simp at this
            have := HN.out
            omega
          subst hn9
          have KN := K.congr (g' := gs lowE (i + 1) 0) (fun j u hj => gs_step lowE i j u (fun hji => by rw [hji, HVV.out] at hj; cases hj; rw [← HN.out]; exact hk.symm))
          clear hu hrow9 hd9 K hk
          go_wp2
          go_roundg gh
          case measure => omega
          case rel => exact ⟨i + 1, by omega, by go_num, KN, kr, hlm⟩
        | succ g2 =>
          have hkN : k < N := by omega
          have d1 : (k : Int) < (N : Int) := by omega
          obtain ⟨x, hx⟩ := get_some (l := v) (k := k) (by have := HN.out; omega)
          have hg : gs lowE i k i v = (v.take k).map lowE ++ x :: v.drop (k + 1) := by rw [gs_at, mix_at hx]
          obtain ⟨bu', cu', gi, cx, nv, hu, hbu', hbase, hcu, hds, hbg, hgl, hkn, hnv, how, _, hfz⟩ := K.evk HVV.out hg (mix_len lowE hx) HD3.out
          have hbb : bu' = bu := by injection hu with h1; injection h1 with h1; injection h1 with h1; exact h1.symm
          subst hbb
          have hnN : nv = N := by
            rw [hnv, HN.out]
            have := (List.getElem?_eq_some_iff.1 hx).1
            simp
            omega
          subst hnN
          have hc4 : wr.cell? ⟨gi, k * 10 + 4, none⟩ = some (.int .i64 x.pit.1) := by
            rw [how.cellAt (k * 10 + 4) (by omega), m_get (mix_len lowE hx) 4 (by decide)]; rfl
          have hf4 := hfz (k * 10 + 4)
          have HGN := Lib.hid (show gs lowE i (k + 1) i v = (v.take k).map lowE ++ lowE x :: v.drop (k + 1) by rw [gs_at, mix_next hx])
          have HGO := Lib.hid hg
          have HML := Lib.hid (mix_len lowE hx)
          have HDS := Lib.hid hds
          have HOW := Lib.hid how
          clear hu hds hg hnv hfz hx how
          have store : ∀ p : Int, { x with pit := (p, x.pit.2.1, x.pit.2.2) } = lowE x → CopyAt (wr.setCell ⟨gi, k * 10 + 4, none⟩ (.int .i64 p)) w1.heap.size lim (.slice (some ⟨bu', 0, none⟩) 3 3) ds l (gs lowE i (k + 1)) ∧ Below w1.heap.size w1 (wr.setCell ⟨gi, k * 10 + 4, none⟩ (.int .i64 p)) ∧ lim ≤ (wr.setCell ⟨gi, k * 10 + 4, none⟩ (.int .i64 p)).heap.size := by
            intro p hp
            refine ⟨?_, kr.setCell (by show w1.heap.size ≤ gi; exact hbg) _, by simpa using hlm⟩
            refine K.put HVV.out HDS.out (fun _ _ _ _ _ _ h hne => st_one _ _ _ _ _ _ h hne) ?_ (fun j hj u => gs_ne lowE hj u)
            have h1 := (HOW.out.stored (k * 10 + 4) (.int .i64 p)).1
            have e := set_step ((v.take k).map lowE) (v.drop (k + 1)) x p
            rw [HML.out] at e
            rw [e, hp] at h1
            rw [HGN.out]
            exact h1
          have HST := Lib.hid store
          clear store
          by_cases h6 : x.pit.1 = 6
          · have hst := HST.out 5 (by rw [← low_yes (.inl h6), h6]; rfl)
            rw [h6] at hc4
            clear HOW HST K kr hlm
            go_wp2_with fail
            obtain ⟨w7, hw7⟩ : ∃ z, z = wr.setCell ⟨gi, k * 10 + 4, none⟩ (.int .i64 5) := ⟨_, rfl⟩
            rw [← hw7] at hst ⊢
            obtain ⟨K7, kr7, hl7⟩ := hst
            clear hw7 hc4 hf4 hcu
            go_roundg g2
            case measure => omega
            case rel => exact ⟨k + 1, by omega, by go_num, K7, kr7, hl7⟩
          · by_cases h2 : x.pit.1 = 2
            · have hst := HST.out 1 (by rw [← low_yes (.inr h2), h2]; rfl)
              rw [h2] at hc4
              clear HOW HST K kr hlm
              go_wp2_with fail
              obtain ⟨w7, hw7⟩ : ∃ z, z = wr.setCell ⟨gi, k * 10 + 4, none⟩ (.int .i64 1) := ⟨_, rfl⟩
              rw [← hw7] at hst ⊢
              obtain ⟨K7, kr7, hl7⟩ := hst
              clear hw7 hc4 hf4 hcu
              go_roundg g2
              case measure => omega
              case rel => exact ⟨k + 1, by omega, by go_num, K7, kr7, hl7⟩
            · have KN : CopyAt wr w1.heap.size lim (.slice (some ⟨bu', 0, none⟩) 3 3) ds l (gs lowE i (k + 1)) := by
                refine K.congr (fun j u hj => ?_)
                by_cases hji : j = i
                · subst hji
                  rw [HVV.out] at hj
                  cases hj
                  rw [HGO.out, HGN.out, low_no (fun h => h.elim h6 h2)]
                · exact gs_ne lowE hji u
              obtain ⟨z, hz⟩ : ∃ z, z = x.pit.1 := ⟨_, rfl⟩
              rw [← hz] at h6 h2 hc4
              have e6 : (z == 6) = false := by simp [h6]
              have e2 : (z == 2) = false := by simp [h2]
              clear HOW HST K hz
              go_wp2_with fail
              go_roundg g2
              case measure => omega
              case rel => exact ⟨k + 1, by omega, by go_num, KN, kr, hlm⟩
def laids : List (String × DataW Unit) := Rows.fictaLettersRow.laid
theorem door_met (os : Os) (args : Array Value) : laidMetH Tryz.prog laids ((World.doorLaid Tryz.prog 80 os).forCall (fun _ _ => 0) ⟨#[], args, []⟩).memory :=
  laidMetH_of_parts3 (fuel := 8) (laidMet_of_run' 8 (by kernel_rfl) (by kernel_rfl)) (by kernel_rfl) (by kernel_rfl)
theorem tabs_of {W : World} (h : laidMetH Tryz.prog laids W) : Tabs W := by
  rw [MakeChecks.laidMetH_plain _ _ _ (by kernel_rfl)] at h
  exact tabs_of_list h (by kernel_rfl) (by kernel_rfl)
set_option maxRecDepth 100000 in
theorem lifted (os : Os) (started : os.Started) (H : Type) (enc : TypeId × Value → H) :
    ReturnsInHanded {} Tryz.checked os 7 .any (fun w args => (Rows.fictaLettersSpec.pre enc Tryz.prog Tryz.f7 [] false w args ∧ laidMetH Tryz.prog laids w) ∧ sizedMet enc Tryz.prog Tryz.f7 (OpenSpec.ofChange Rows.fictaLettersSpec) false w args) (Rows.fictaLettersSpec.post enc Tryz.prog Tryz.f7 false true false false) := by
  refine returnsInHanded_of_change_and (C := Tryz.checked) (X := fun w _ => laidMetH Tryz.prog laids w) (fun _ _ _ hh h => h.of_heap hh) own started (by kernel_rfl) Tryz.func7
    (ChangeSpec.witness_shaped (enc := enc) (C := Tryz.checked) (os := os) (X := fun w _ => laidMetH Tryz.prog laids w) false (World.doorLaid Tryz.prog 80 os) #[.slice none 0 0, .slice none 0 0, .slice none 0 0] 8 rfl (World.shaped_of_RefB (by kernel_rfl) (by kernel_rfl)) (by kernel_rfl) (by kernel_rfl) (by kernel_rfl) (door_met os _)) ?_
  intro W base args ds gs before hval0 hW _ _ hL _
  have hval : ∀ (j : Nat) t v, Tryz.f7.params[j]? = some t → args[j]? = some v → Value.okWide Tryz.prog W .any base t v := hval0
  have hW' := hW
  obtain ⟨p, q, hA0, hV, rfl, hfz, hnd⟩ := hW
  have hA : DataW.TrodAll enc Tryz.prog W 0 (fun _ => true) true Tryz.f7.params.toList args.toList ds p := hA0
  rw [Tryz.params7] at hA hval
  obtain ⟨v0, vs0, d0, ds0, p0, q0, hargs, rfl, rfl, h0, r0⟩ := trodAll_cons hA
  obtain ⟨v1, vs1, d1, ds1, p1, q1, rfl, rfl, rfl, h1, r1⟩ := trodAll_cons r0
  obtain ⟨v2, vs2, d2, ds2, p2, q2, rfl, rfl, rfl, h2, r2⟩ := trodAll_cons r1
  obtain ⟨rfl, rfl, rfl⟩ := trodAll_nil r2
  obtain rfl : args = #[v0, v1, v2] := by cases args; simp_all
  obtain ⟨rfl, rfl⟩ := trodVars_none hV
  have k0 := h0
  have lt0 : ∀ x ∈ p0, x.block < W.heap.size := by obtain ⟨m, hm⟩ := k0; exact DataW.trod_lt m _ _ _ hm
  obtain ⟨A0, n0, c0, l0, rfl, w0⟩ := arg_ints (hval 0 40 v0 rfl rfl) h0
  have k1 := h1
  have lt1 : ∀ x ∈ p1, x.block < W.heap.size := by obtain ⟨m, hm⟩ := k1; exact DataW.trod_lt m _ _ _ hm
  obtain ⟨A1, n1, c1, l1, rfl, w1⟩ := arg_ints (hval 1 40 v1 rfl rfl) h1
  have k2 := h2
  have lt2 : ∀ x ∈ p2, x.block < W.heap.size := by obtain ⟨m, hm⟩ := k2; exact DataW.trod_lt m _ _ _ hm
  obtain ⟨A2, n2, c2, l2, rfl, w2⟩ := arg_ints (hval 2 40 v2 rfl rfl) h2
  clear hA0 hval0
  refine (walk c0 c1 c2 ⟨w0.1, w0.2.1, w0.2.2⟩ ⟨w1.1, w1.2.1, w1.2.2⟩ ⟨w2.1, w2.2.1, w2.2.2⟩ (tabs_of hL)).mono fun e W' ⟨he, bel⟩ => ?_
  subst he
  exact ⟨_, rfl, _, _, _, [], _, [], hW', trodAll_mk1 (shut_bool Tryz.underlying4 _), (trodAll_cons_mk (Below.trod laidOut (by kernel_rfl) (of_decide_eq_true (by kernel_rfl)) k0 bel lt0) (trodAll_cons_mk (Below.trod laidOut (by kernel_rfl) (of_decide_eq_true (by kernel_rfl)) k1 bel lt1) (trodAll_cons_mk (Below.trod laidOut (by kernel_rfl) (of_decide_eq_true (by kernel_rfl)) k2 bel lt2) trodAll_mk0))), rfl, bel.frame _, fun h => by cases h⟩

theorem over : Rows.FictaLettersSaid :=
  OpenClaim.holds_of_wide 7 Tryz.f7 rfl rfl rfl rfl rfl rfl rfl ⟨rfl, rfl, rfl, rfl, rfl⟩ rfl rfl rfl rfl rfl (by kernel_rfl) Tryz.func7 (by kernel_rfl)
    (of_decide_eq_true (by kernel_rfl)) (by unfold Func.isWrapper; first | (rw [if_pos (by decide +kernel)]; kernel_rfl) | (rw [if_neg (by decide +kernel)]; exact ⟨rfl, rfl⟩))
    (fun os started H enc _ => lifted os started H enc)

/-- The card: the row, its variables tied to the program's text. -/
theorem proved : Rows.FictaLettersCardSaid :=
  Claim7.holds_tied_plain_at .later [] [.data, .data] true Rows.fictaLettersCard.stood.harness Rows.fictaLettersCard.stood.looks
    over (fun _ h => by cases h) (by kernel_rfl) (fun _ h => by cases h) fictaLetters_row_tie rfl ⟨rfl, rfl⟩ (by kernel_rfl) rfl
    (fun f fn hf hfn => by
      obtain rfl : f = 7 := Option.some.inj ((show Tryz.prog.funcNamed Tryz.f7.name = some 7 by kernel_rfl).symm.trans hf) |>.symm
      obtain rfl : fn = Tryz.f7 := (Option.some.inj (Tryz.func7.symm.trans hfn)).symm
      exact ⟨by kernel_rfl, fun j t ht => by
        rw [Tryz.params7] at ht
        have hm : t ∈ Tryz.f7.params.toList := by rw [Tryz.params7]; simpa using Array.mem_of_getElem? ht
        have hall : (Tryz.f7.params.toList.all fun u => !Tryz.prog.wantsStandIn u) = true := by kernel_rfl
        exact (show Tryz.prog.wantsStandIn t = false by simpa using List.all_eq_true.1 hall t hm)⟩)
    (by kernel_rfl)

end Go.Proofs.YtpkmiegccfhpnaaGreatDoor.fictaLetters
