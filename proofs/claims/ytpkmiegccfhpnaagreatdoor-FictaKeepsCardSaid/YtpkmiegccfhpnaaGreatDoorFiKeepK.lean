/- The walk of FictaKeeps. -/
import Derived.Test.YtpkmiegccfhpnaaGreatDoorK01
import Derived.Test.YtpkmiegccfhpnaaGreatDoorK02
import Derived.Test.YtpkmiegccfhpnaaGreatDoorK03
import Derived.Test.YtpkmiegccfhpnaaGreatDoorK04
import Derived.Test.YtpkmiegccfhpnaaGreatDoorK05
import Derived.Test.YtpkmiegccfhpnaaGreatDoorK06
import Derived.Test.YtpkmiegccfhpnaaGreatDoorK07
import Derived.Test.YtpkmiegccfhpnaaGreatDoorK08
import Derived.Test.YtpkmiegccfhpnaaGreatDoorK09
import Derived.Test.YtpkmiegccfhpnaaGreatDoorK10
import Derived.Test.YtpkmiegccfhpnaaGreatDoorK11
import Derived.Test.YtpkmiegccfhpnaaGreatDoorK12
import Derived.Test.YtpkmiegccfhpnaaGreatDoorK13
import Derived.Test.YtpkmiegccfhpnaaGreatDoorK14
import Derived.Test.YtpkmiegccfhpnaaGreatDoorK15
import Derived.Test.YtpkmiegccfhpnaaGreatDoorK16
import Derived.Test.YtpkmiegccfhpnaaGreatDoorK17
import Derived.Test.YtpkmiegccfhpnaaGreatDoorK18
import Derived.Test.YtpkmiegccfhpnaaGreatDoorK19
import Derived.Test.YtpkmiegccfhpnaaGreatDoorK20
import Derived.Test.YtpkmiegccfhpnaaGreatDoorK21
import Derived.Test.YtpkmiegccfhpnaaGreatDoorK22
import Derived.Test.YtpkmiegccfhpnaaGreatDoorK23
import Derived.Test.YtpkmiegccfhpnaaGreatDoorM01
import Derived.Test.YtpkmiegccfhpnaaGreatDoorM02
import Derived.Test.YtpkmiegccfhpnaaGreatDoorRows
import Derived.Test.YtpkmiegccfhpnaaGreatDoorTie
import Derived.Test.YtpkmiegccfhpnaaGreatDoorCards
import Derived.ProofKit
import Derived.LaidMore
import Derived.OpenShut
import Derived.SevenTiedAt
import Derived.Lib.SmallJoins
import Derived.Lib.LaidTab
import Derived.MakeChecks
import Derived.LaidSub
import Derived.Test.YtpkmiegccfhpnaaGreatDoorProg
import Derived.WalkKit
import Derived.WalkSpells
import Derived.WalkLawsBesides
import Derived.Deep.QuietTactic
import Derived.BigQuiet
import Derived.BigGuardPart
import Derived.Lib.Hide
import Derived.RegionTactic
import Derived.ChangeAlike
import Derived.Laws.OwnMore
import Derived.Deep.AppendLies
import Derived.Deep.Draws
import Derived.Deep.RegionHeld3
import Derived.Maps.AppendAt
import Derived.OwnWalk
import Derived.StillTail
import Derived.Deep.Slices
import Derived.Deep.Fields
import Derived.ChangeSame
import Derived.ChangeArms
import Derived.BigRegion
import Derived.ArgAppend
import Derived.Stop.Joined
import Derived.ChangeOld
import Derived.Below
import Derived.Maps.OwnOps
import Derived.Maps.OwnSet
import Derived.Maps.Views
import Derived.Maps.RangeWalk
import Derived.WideKeyPair
import Derived.DeepKeys4
import Derived.IntWalk
import Derived.Deep.LoopGhost
import Derived.Carry
import Derived.RangeFuncOwn
import Derived.Deep.RegionLaw
import Derived.RangeFuncNested
import Derived.RangeFuncBound
import Derived.RangeFuncCalls
import Derived.RangeFuncLeaves
import Derived.OwnWalkIn
import Derived.TacticsInMore
import Derived.LoopNIn
import Derived.LoopIn
import Derived.Sort.LoopGhostIn
import Derived.Sort.MapsRangeIn
import Derived.Shelf.SlSortCmp.WholeK
import Derived.Shelf.SlSortCmp.NoneTotal
import Derived.Shelf.SlGeneric
import Derived.Shelf.SlLaysF0
import Derived.Ground.SlsfProg
import Derived.RangeFuncSeq
namespace Go.Proofs.YtpkmiegccfhpnaaGreatDoor.fictaKeeps
open Go.RowKit Go.ChangeShapes Go.WideShapes Go.ChangeAt
set_option linter.unusedVariables false
def plcV (i k : Nat) : List Plc := (List.range k).map fun (e : Nat) => ((i : Int), (e : Int))
def cntV (f : Plc → Option Fic) (i k : Nat) : Nat := ((plcV i k).filterMap f).length
def cntL (l : List (List Ev)) (f : Plc → Option Fic) (i : Nat) : Nat := (((List.range i).flatMap fun (v : Nat) => (List.range (l.getD v []).length).map fun (e : Nat) => (((v : Int), (e : Int)) : Plc)).filterMap f).length
theorem cnt_next {f : Plc → Option Fic} {i k : Nat} (h : f ((i : Int), (k : Int)) ≠ none) : cntV f i (k + 1) = cntV f i k + 1 := by
  unfold cntV plcV
  rw [List.range_succ, List.map_append, List.filterMap_append, List.length_append]
  cases hf : f ((i : Int), (k : Int)) with
  | none => exact absurd hf h
  | some y => simp [hf]
theorem cnt_same {f : Plc → Option Fic} {i k : Nat} (h : f ((i : Int), (k : Int)) = none) : cntV f i (k + 1) = cntV f i k := by
  unfold cntV plcV
  rw [List.range_succ, List.map_append, List.filterMap_append, List.length_append]
  simp [h]
theorem cnt_voice {l : List (List Ev)} {f : Plc → Option Fic} {i : Nat} {v : List Ev} (hv : l[i]? = some v) : cntL l f (i + 1) = cntL l f i + cntV f i v.length := by
  unfold cntL cntV plcV
  rw [List.range_succ, List.flatMap_append, List.filterMap_append, List.length_append]
  simp only [List.flatMap_cons, List.flatMap_nil, List.append_nil]
  rw [getD_at hv]
theorem cnt_le (f : Plc → Option Fic) (i k : Nat) : cntV f i k ≤ k := by
  unfold cntV
  refine Nat.le_trans (List.length_filterMap_le _ _) ?_
  unfold plcV
  simp
theorem cnt_all (l : List (List Ev)) (f : Plc → Option Fic) : cntL l f l.length = (listF l f).length := rfl
theorem cnt_zero (l : List (List Ev)) (f : Plc → Option Fic) : cntL l f 0 = 0 := rfl
theorem pair_blk {w w8 : World} {CX CY : Array Value} (h : w8 = ((w.alloc (.cells CX 49)).alloc (.cells CY 49)).drew) : Blk w8 w.heap.size 49 CX ∧ Blk w8 (w.heap.size + 1) 49 CY ∧ Below w.heap.size w w8 := by
  subst h
  refine ⟨((Blk.new w _ _).alloc _).drew, ?_, ?_⟩
  · have := (Blk.new (w.alloc (.cells CX 49)) 49 CY).drew
    simpa using this
  · repeat (first | with_reducible exact Below.refl _ _ | with_reducible assumption | with_reducible refine below_drewN ?_ _ | with_reducible refine Below.drew ?_ | with_reducible refine below_alloc ?_ _ | (with_reducible refine Below.setCell ?_ ?_ _; rotate_left; ((try simp only); omega)))
/-- What stands in the setting with all proposals. -/
theorem keep_facts {l : List (List Ev)} : ∃ f : Plc → Option Fic, allFi l = listF l f ∧ (∀ (i k : Nat) (v v2 : List Ev) (x x2 : Ev), l[i]? = some v → (withL l (allFi l))[i]? = some v2 → v[k]? = some x → v2[k]? = some x2 → x2 = altBy (f ((i : Int), (k : Int))) x) ∧
    ∀ p y, f p = some y → y.2.2.1 = 1 ∨ y.2.2.1 = -1 := by
  obtain ⟨⟨lF, h1, _⟩, _⟩ := allF_spec l
  refine ⟨(allF l).1, rfl, fun i k v v2 x x2 hv hv2 hx hx2 => ?_, fun p y h => ?_⟩
  · have := evA_list (m := l) h1.okf.fic ((i : Int), (k : Int))
    rw [evA_nat hv hx, show evA (withL l (listF l (allF l).1)) ((i : Int), (k : Int)) = some x2 from evA_nat hv2 hx2] at this
    cases this
    rfl
  · have := (h1.okf p y h).2.2.2.1
    exact this
set_option maxRecDepth 100000 in
set_option maxHeartbeats 8000000 in
theorem walk {Aa Ab Ac : Option Addr} {na nb nc : Nat} {a b c : List Int} {w : World} (ca cb cc : Nat) (ha : Nums w Aa na a) (hb : Nums w Ab nb b) (hc : Nums w Ac nc c) (ht : Tabs w) :
    Calls Tryz.prog 5 #[.slice Aa na ca, .slice Ab nb cb, .slice Ac nc cc] w fun e w' => e = .returned (.bool true) ∧ Below w.heap.size w w' := by
  have HA := Lib.hid ha
  have HB := Lib.hid hb
  have HC := Lib.hid hc
  have HT := Lib.hid ht
  have hs := made_sl a b c
  have HZ := Lib.hid (fun p x => made_zero (a := a) (b := b) (c := c) (p := p) (x := x))
  have HLV := Lib.hid (show ∀ v ∈ made31 a b c, v.length ≤ 9 by
    intro v hv
    unfold made31 madeV skL at hv
    simp only [List.map_cons, List.map_nil, List.mem_cons, List.not_mem_nil, or_false] at hv
    rcases hv with rfl | rfl | rfl <;> rw [List.length_map]
    · exact (voice_q 9 (by omega) a).2.2
    · exact (voice_q 9 (by omega) b).2.2
    · exact Nat.le_trans (voice_q 6 (by omega) c).2.2 (by omega))
  have HL3 := Lib.hid (show (made31 a b c).length = 3 from rfl)
  obtain ⟨l, hl⟩ : ∃ z, z = made31 a b c := ⟨_, rfl⟩
  rw [← hl] at hs HZ HLV HL3
  have HM := Lib.hid hl.symm
  have EA := Lib.hid (all_eq hs)
  have EC := Lib.hid (check_all hs)
  have EX := Lib.hid (apply_all hs)
  obtain ⟨f, hf, hev, hone⟩ := keep_facts (l := l)
  obtain ⟨L, hL⟩ : ∃ z, z = allFi l := ⟨_, rfl⟩
  obtain ⟨X, hX⟩ : ∃ z, z = withL l L := ⟨_, rfl⟩
  rw [← hL] at hf hev EA EC EX
  rw [← hX] at hev EX
  have HX3 := Lib.hid (show X.length = 3 by rw [hX, withL_len]; exact HL3.out)
  have HXV := Lib.hid (show ∀ (i : Nat) (v v2 : List Ev), l[i]? = some v → X[i]? = some v2 → v2.length = v.length by
    intro i v v2 h h2
    rw [hX] at h2
    obtain ⟨v0, h0, e⟩ := withL_vlen h2
    rw [h] at h0; cases h0; exact e)
  obtain ⟨m, hm⟩ : ∃ z, z = L.length := ⟨_, rfl⟩
  have HCN := Lib.hid (show cntL l f 3 = m by rw [hm, hf, ← cnt_all, HL3.out])
  have hm24 : m ≤ 1000000 := by
    rw [hm, hL]
    have := listF_len l (allF l).1
    have := plc_few (set_of_slices hs)
    unfold allFi
    omega
  have HEV := Lib.hid hev
  have HON := Lib.hid hone
  have HLM := Lib.hid hm.symm
  clear ha hb hc ht hs hl hL hm hX hf hev hone
  go_enter Tryz.func5, Tryz.ntmps5
  go_wp2_with fail
  refine (known_any w HT.out).mono ?_
  rintro e w1 ⟨rfl, b1⟩
  have k1 := b1
  clear b1
  go_wp2_with fail
  refine (made31_any (HA.out.kept k1) (HB.out.kept k1) (HC.out.kept k1) ca cb cc).mono ?_
  rintro e w2 ⟨bA, rfl, r2, b2⟩
  have k2 := below_call k1 b2
  rw [HM.out] at r2
  clear k1 b2
  go_wp2_with fail
  have q := fall_ok (some ⟨bA, 0, none⟩) 3 3 l w2.heap.size r2 (Nat.le_refl _) (by omega) (HT.out.kept k2)
  rw [EA.out] at q
  refine q.mono ?_
  rintro e w3 ⟨u, rfl, how, b3⟩
  obtain ⟨AF, cF, rfl, rf3, _, _⟩ := own_reads how
  have r3 := rdV r2 b3
  have k3 := below_call k2 b3
  clear q r2 how b3 k2
  simp only at rf3 ⊢
  rw [HLM.out] at rf3 ⊢
  go_wp2_with fail
  have q := fcheck_ok (some ⟨bA, 0, none⟩) 3 3 l w3.heap.size r3 (Nat.le_refl _) (by omega) AF m cF L w3.heap.size rf3 (Nat.le_refl _) hm24
  rw [EC.out] at q
  refine q.mono ?_
  rintro e w4 ⟨rfl, b4⟩
  have r4 := rdV r3 b4
  have rf4 := rd1 rf3 b4
  have k4 := below_call k3 b4
  clear q r3 rf3 b4 k3
  go_wp2_with fail
  have q := fapply_ok (some ⟨bA, 0, none⟩) 3 3 l w4.heap.size r4 (Nat.le_refl _) (by omega) AF m cF L w4.heap.size rf4 (Nat.le_refl _) hm24
  rw [EX.out] at q
  refine q.mono ?_
  rintro e w5 ⟨AX, mX, cX, rfl, rx5, b5⟩
  have r5 := rdV r4 b5
  have k5 := below_call k4 b5
  obtain rfl : 3 = mX := by have := rx5.len; simp only at this; rw [HX3.out] at this; exact this
  clear q r4 rf4 b5 k4
  simp only at rx5 ⊢
  go_wp2_with fail
  have HRV := Lib.hid r5
  have HRX := Lib.hid rx5
  clear r5 rx5
  go_loopg [15, 16, 17] 3 (fun gh ch i _ wr => ∃ k : Nat, k + gh = 3 ∧ i = .int .i64 (k : Int) ∧ ch = .int .i64 ((cntL l f k : Nat) : Int) ∧ cntL l f k ≤ 9 * k ∧ Below w5.heap.size w5 wr)
  case atStart => exact ⟨0, by omega, by simp, by simp [cnt_zero], by rw [cnt_zero]; omega, Below.refl _ _⟩
  case round =>
    obtain ⟨i, hig, rfl, rfl, hcl, kr⟩ := hrel
    have wi : IntKind.i64.wrap ((i : Int) + 1) = (i : Int) + 1 := IntWalk.i64_in _ (by omega)
    cases gk with
    | zero =>
      have hi3 : i = 3 := by omega
      have d0 : ¬ ((i : Int) < 3) := by omega
      rw [hi3] at hcl ⊢
      rw [HCN.out]
      have kk := below_call k5 kr
      clear hig hcl kr hi3
      go_wp2
      refine ret_of (by simp [results, Tryz.results5, go_sem, *]; repeat' (first | rfl | apply And.intro)) rfl ⟨rfl, kk⟩
    | succ gh =>
      have hi3 : i < 3 := by omega
      have d0 : (i : Int) < 3 := by omega
      obtain ⟨v, hv⟩ := get_some (l := l) (k := i) (by have := HL3.out; omega)
      obtain ⟨v2, hv2⟩ := get_some (l := X) (k := i) (by have := HX3.out; omega)
      have hv9 := HLV.out v (List.mem_of_getElem? hv)
      have hlen := HXV.out i v v2 hv hv2
      have HVV := Lib.hid hv
      have HV2 := Lib.hid hv2
      obtain ⟨bb, ob, A0, n0, c0, hA0, hbb, x0, rv, _, hn0⟩ := HRV.out.voice (Nat.le_refl _) kr hi3 hv
      cases hA0
      obtain ⟨bx, ox, A1, n1, c1, hA1, hbx, x1, rx, _, hn1⟩ := HRX.out.voice (Nat.le_refl _) kr hi3 hv2
      subst hA1
      obtain rfl : n0 = n1 := by omega
      have HN0 := Lib.hid hn0
      have HN1 := Lib.hid hn1
      have hn9 : n0 ≤ 9 := by omega
      have e1 : decide ((n0 : Int) = (n0 : Int)) = true := decide_eq_true rfl
      have HR0 := Lib.hid rv
      have HR1 := Lib.hid rx
      clear hv hv2 hv9 hlen hn0 hn1 rv rx
      simp only [Nat.zero_add] at x0
      obtain ⟨wo, hwo⟩ : ∃ z, z = wr := ⟨_, rfl⟩
      subst hwo
      go_wp2_with fail
      refine wp_region_calm (by kernel_rfl) (by kernel_rfl) ?_
      repeat (go_big_quiet_step (fail))
      refine wpQuiet_nil ?_
      intro w7 b7
      have k7 := below_call kr b7
      have y0 := (b7.cell (p := ⟨bA, i, none⟩) hbb).trans x0
      have y1 := (b7.cell (p := ⟨bx, ox + i, none⟩) hbx).trans x1
      have hbb7 : bA < w7.heap.size := by have := b7.size; omega
      have hbx7 : bx < w7.heap.size := by have := b7.size; omega
      have HR7 := Lib.hid (HR0.out.below kr.size b7)
      have HS7 := Lib.hid (HR1.out.below kr.size b7)
      clear x0 x1 hbb hbx kr b7 HR0 HR1
      go_wp2_with fail
      go_loopg [15, 17] n0 (fun g2 ch j wr => ∃ k : Nat, k + g2 = n0 ∧ j = .int .i64 (k : Int) ∧ ch = .int .i64 ((cntL l f i + cntV f i k : Nat) : Int) ∧ Below w7.heap.size w7 wr)
      case atStart => exact ⟨0, by omega, by simp, by simp [cntV, plcV], Below.refl _ _⟩
      case round =>
        obtain ⟨k, hkg, rfl, rfl, kr⟩ := hrel
        have wk : IntKind.i64.wrap ((k : Int) + 1) = (k : Int) + 1 := IntWalk.i64_in _ (by omega)
        have z0 := (kr.cell (p := ⟨bA, i, none⟩) hbb7).trans y0
        have z1 := (kr.cell (p := ⟨bx, ox + i, none⟩) hbx7).trans y1
        cases gk with
        | zero =>
          obtain rfl : k = n0 := by omega
          have d1 : ¬ ((k : Int) < (k : Int)) := by omega
          have hv := cnt_voice (f := f) HVV.out
          rw [HN0.out] at hv
          have hle := cnt_le f i k
          have kk := below_call k7 kr
          rw [← hv]
          have hcl' : cntL l f (i + 1) ≤ 9 * (i + 1) := by omega
          clear hv hle hkg hcl
          go_wp2
          go_roundg gh
          case measure => omega
          case rel => exact ⟨i + 1, by omega, by go_num, rfl, hcl', kk⟩
        | succ g2 =>
          have hk : k < n0 := by omega
          have d1 : (k : Int) < (n0 : Int) := by omega
          obtain ⟨x, hx⟩ := get_some (l := v) (k := k) (by have := HN0.out; omega)
          obtain ⟨x2, hx2⟩ := get_some (l := v2) (k := k) (by have := HN1.out; omega)
          have hz := HZ.out _ _ (evA_nat HVV.out hx)
          have hfx := HEV.out i k v v2 x x2 HVV.out HV2.out hx hx2
          obtain ⟨be, oe, hA, hbe, hcx⟩ := HR7.out.ev k7.size kr hk hx
          obtain ⟨bf, of_, hA2, hbf, hcy⟩ := HS7.out.ev k7.size kr hk hx2
          subst hA hA2
          obtain ⟨⟨t0, t1⟩, ⟨q0, q1⟩, ⟨p0, p1, p2⟩, rs, sg, ps⟩ := x
          simp only at hz
          subst hz
          obtain ⟨a0, a1, a2, a3, a4, a5, a6, a7, a8, a9⟩ := ten hcx
          obtain ⟨c0', c1', c2', c3, c4, c5, c6, c7, c8, c9⟩ := ten hcy
          simp only at a0 a1 a2 a3 a4 a5 a6 a7 a8 a9
          have lbA : bA < wr.heap.size := by have := kr.size; omega
          have lbx : bx < wr.heap.size := by have := kr.size; omega
          have hle := cnt_le f i k
          have hcw : cntL l f i + cntV f i k ≤ 100 := by omega
          clear hcx hcy hx hx2 hle
          cases hd : f ((i : Int), (k : Int)) with
          | none =>
            rw [hd] at hfx
            subst hfx
            rw [← cnt_same hd]
            simp only [altBy] at c0' c1' c2' c3 c4 c5 c6 c7 c8 c9
            clear hd
            go_wp2_with fail
            go_region
            all_goals
              obtain ⟨w8, hw8⟩ : ∃ z, z = ((wr.alloc (.cells #[.int .i64 t0, .int .i64 t1, .int .i64 q0, .int .i64 q1, .int .i64 p0, .int .i64 p1, .int .i64 0, .bool rs, .int .i64 sg, .int .i64 ps] 49)).alloc (.cells #[.int .i64 t0, .int .i64 t1, .int .i64 q0, .int .i64 q1, .int .i64 p0, .int .i64 p1, .int .i64 0, .bool rs, .int .i64 sg, .int .i64 ps] 49)).drew := ⟨_, rfl⟩
              rw [← hw8]
              obtain ⟨Bg, Bh, k8⟩ := pair_blk hw8
              obtain ⟨g, hg⟩ : ∃ z, z = wr.heap.size := ⟨_, rfl⟩
              obtain ⟨h, hh⟩ : ∃ z, z = wr.heap.size + 1 := ⟨_, rfl⟩
              rw [← hg] at Bg
              rw [← hh] at Bh
              rw [← hh, ← hg]
              have hgh : g ≠ h := by omega
              have lg : wr.heap.size ≤ g := by omega
              have lh : wr.heap.size ≤ h := by omega
              have g0 := Bg.cell 0
              have g1 := Bg.cell 1
              have g2' := Bg.cell 2
              have g3 := Bg.cell 3
              have g4 := Bg.cell 4
              have g5 := Bg.cell 5
              have g6 := Bg.cell 6
              have g7 := Bg.cell 7
              have g8 := Bg.cell 8
              have g9 := Bg.cell 9
              have h0 := Bh.cell 0
              have h1 := Bh.cell 1
              have h2 := Bh.cell 2
              have h3 := Bh.cell 3
              have h4 := Bh.cell 4
              have h5 := Bh.cell 5
              have h6 := Bh.cell 6
              have h7 := Bh.cell 7
              have h8 := Bh.cell 8
              have h9 := Bh.cell 9
              simp only [List.getElem?_toArray, List.getElem?_cons_zero, List.getElem?_cons_succ] at g0 g1 g2' g3 g4 g5 g6 g7 g8 g9 h0 h1 h2 h3 h4 h5 h6 h7 h8 h9
              have Fg := Bg.frozen
              have Fh := Bh.frozen
              have Lg := Bg.lt
              have Lh := Bh.lt
              clear hw8 hg hh
              go_wp2_with fail
              have K9h : Below w7.heap.size w7 (w8.setCell ⟨h, 6, none⟩ (.int .i64 0)) := below_call kr (k8.setCell (by show wr.heap.size ≤ h; exact lh) _)
              have K9g : Below w7.heap.size w7 (w8.setCell ⟨g, 6, none⟩ (.int .i64 0)) := below_call kr (k8.setCell (by show wr.heap.size ≤ g; exact lg) _)
              clear g0 g1 g2' g3 g4 g5 g6 g7 g8 g9 h0 h1 h2 h3 h4 h5 h6 h7 h8 h9 Fg Fh Lg Lh Bg Bh a0 a1 a2 a3 a4 a5 a6 a7 a8 a9 c0' c1' c2' c3 c4 c5 c6 c7 c8 c9 k8
              go_roundg g2
              case measure => omega
              case rel => first | exact ⟨k + 1, by omega, by go_num, rfl, K9h⟩ | exact ⟨k + 1, by omega, by go_num, rfl, K9g⟩
          | some y =>
            have hy := HON.out _ _ hd
            rw [hd] at hfx
            subst hfx
            have hnx := cnt_next (f := f) (i := i) (k := k) (by rw [hd]; simp)
            simp only [altBy, altE] at c0' c1' c2' c3 c4 c5 c6 c7 c8 c9
            obtain ⟨r, hr⟩ : ∃ z, z = y.2.2.1 := ⟨_, rfl⟩
            rw [← hr] at hy c6
            have hr0 : r ≠ 0 := by omega
            clear hd hy hr
            obtain ⟨c, hc⟩ : ∃ z, z = cntL l f i + cntV f i k := ⟨_, rfl⟩
            rw [← hc] at hcw ⊢
            have HCN2 := Lib.hid (show Value.int .i64 ((c : Int) + 1) = .int .i64 ((cntL l f i + cntV f i (k + 1) : Nat) : Int) by rw [show cntL l f i + cntV f i (k + 1) = c + 1 by omega]; rfl)
            have wc : IntKind.i64.wrap ((c : Int) + 1) = (c : Int) + 1 := IntWalk.i64_in _ (by omega)
            have er : (r == 0) = false := by simp [hr0]
            have er2 : decide (r = 0) = false := decide_eq_false hr0
            clear hc hnx
            go_wp2_with fail
            go_region
            all_goals
              first
                | (obtain ⟨w8, hw8⟩ : ∃ z, z = ((wr.alloc (.cells #[.int .i64 t0, .int .i64 t1, .int .i64 q0, .int .i64 q1, .int .i64 p0, .int .i64 p1, .int .i64 0, .bool rs, .int .i64 sg, .int .i64 ps] 49)).alloc (.cells #[.int .i64 t0, .int .i64 t1, .int .i64 q0, .int .i64 q1, .int .i64 p0, .int .i64 p1, .int .i64 r, .bool rs, .int .i64 sg, .int .i64 ps] 49)).drew := ⟨_, rfl⟩; rw [← hw8])
                | (obtain ⟨w8, hw8⟩ : ∃ z, z = ((wr.alloc (.cells #[.int .i64 t0, .int .i64 t1, .int .i64 q0, .int .i64 q1, .int .i64 p0, .int .i64 p1, .int .i64 r, .bool rs, .int .i64 sg, .int .i64 ps] 49)).alloc (.cells #[.int .i64 t0, .int .i64 t1, .int .i64 q0, .int .i64 q1, .int .i64 p0, .int .i64 p1, .int .i64 0, .bool rs, .int .i64 sg, .int .i64 ps] 49)).drew := ⟨_, rfl⟩; rw [← hw8])
              obtain ⟨Bg, Bh, k8⟩ := pair_blk hw8
              obtain ⟨g, hg⟩ : ∃ z, z = wr.heap.size := ⟨_, rfl⟩
              obtain ⟨h, hh⟩ : ∃ z, z = wr.heap.size + 1 := ⟨_, rfl⟩
              rw [← hg] at Bg
              rw [← hh] at Bh
              rw [← hh, ← hg]
              have hgh : g ≠ h := by omega
              have lg : wr.heap.size ≤ g := by omega
              have lh : wr.heap.size ≤ h := by omega
              have g0 := Bg.cell 0
              have g1 := Bg.cell 1
              have g2' := Bg.cell 2
              have g3 := Bg.cell 3
              have g4 := Bg.cell 4
              have g5 := Bg.cell 5
              have g6 := Bg.cell 6
              have g7 := Bg.cell 7
              have g8 := Bg.cell 8
              have g9 := Bg.cell 9
              have h0 := Bh.cell 0
              have h1 := Bh.cell 1
              have h2 := Bh.cell 2
              have h3 := Bh.cell 3
              have h4 := Bh.cell 4
              have h5 := Bh.cell 5
              have h6 := Bh.cell 6
              have h7 := Bh.cell 7
              have h8 := Bh.cell 8
              have h9 := Bh.cell 9
              simp only [List.getElem?_toArray, List.getElem?_cons_zero, List.getElem?_cons_succ] at g0 g1 g2' g3 g4 g5 g6 g7 g8 g9 h0 h1 h2 h3 h4 h5 h6 h7 h8 h9
              have Fg := Bg.frozen
              have Fh := Bh.frozen
              have Lg := Bg.lt
              have Lh := Bh.lt
              clear hw8 hg hh
              go_wp2_with fail
              have K9h : Below w7.heap.size w7 (w8.setCell ⟨h, 6, none⟩ (.int .i64 0)) := below_call kr (k8.setCell (by show wr.heap.size ≤ h; exact lh) _)
              have K9g : Below w7.heap.size w7 (w8.setCell ⟨g, 6, none⟩ (.int .i64 0)) := below_call kr (k8.setCell (by show wr.heap.size ≤ g; exact lg) _)
              clear g0 g1 g2' g3 g4 g5 g6 g7 g8 g9 h0 h1 h2 h3 h4 h5 h6 h7 h8 h9 Fg Fh Lg Lh Bg Bh a0 a1 a2 a3 a4 a5 a6 a7 a8 a9 c0' c1' c2' c3 c4 c5 c6 c7 c8 c9 k8
              go_roundg g2
              case measure => omega
              case rel => first | exact ⟨k + 1, by omega, by go_num, HCN2.out, K9h⟩ | exact ⟨k + 1, by omega, by go_num, HCN2.out, K9g⟩
end Go.Proofs.YtpkmiegccfhpnaaGreatDoor.fictaKeeps
