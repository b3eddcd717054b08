/- Further parts of the proofs of layer 31: FiApi, Nums, FiMade, FiLawM. -/
import Derived.Test.YtpkmiegccfhpnaaGreatDoorK01
import Derived.Test.YtpkmiegccfhpnaaGreatDoorK02
import Derived.Test.YtpkmiegccfhpnaaGreatDoorK03
import Derived.Test.YtpkmiegccfhpnaaGreatDoorK04
import Derived.Test.YtpkmiegccfhpnaaGreatDoorK05
import Derived.Test.YtpkmiegccfhpnaaGreatDoorK06
import Derived.Test.YtpkmiegccfhpnaaGreatDoorK07
import Derived.Test.YtpkmiegccfhpnaaGreatDoorK08
import Derived.Test.YtpkmiegccfhpnaaGreatDoorK09
import Derived.Test.YtpkmiegccfhpnaaGreatDoorK10
import Derived.Test.YtpkmiegccfhpnaaGreatDoorK11
import Derived.Test.YtpkmiegccfhpnaaGreatDoorK12
import Derived.Test.YtpkmiegccfhpnaaGreatDoorK13
import Derived.Test.YtpkmiegccfhpnaaGreatDoorK14
import Derived.Test.YtpkmiegccfhpnaaGreatDoorK15
import Derived.Test.YtpkmiegccfhpnaaGreatDoorK16
import Derived.Test.YtpkmiegccfhpnaaGreatDoorK17
import Derived.Test.YtpkmiegccfhpnaaGreatDoorK18
import Derived.Test.YtpkmiegccfhpnaaGreatDoorK19
import Derived.Test.YtpkmiegccfhpnaaGreatDoorK20
import Derived.Test.YtpkmiegccfhpnaaGreatDoorK21
import Derived.Test.YtpkmiegccfhpnaaGreatDoorK22
import Derived.Test.YtpkmiegccfhpnaaGreatDoorK23
import Derived.Test.YtpkmiegccfhpnaaGreatDoorM01
import Derived.Test.YtpkmiegccfhpnaaGreatDoorProg
import Derived.WalkKit
import Derived.WalkSpells
import Derived.WalkLawsBesides
import Derived.Deep.QuietTactic
import Derived.BigQuiet
import Derived.BigGuardPart
import Derived.Lib.Hide
import Derived.RegionTactic
import Derived.ChangeAlike
import Derived.Laws.OwnMore
import Derived.Deep.AppendLies
import Derived.Deep.Draws
import Derived.Deep.RegionHeld3
import Derived.Maps.AppendAt
import Derived.OwnWalk
import Derived.StillTail
import Derived.Maps.OwnOps
import Derived.Maps.OwnSet
import Derived.Maps.Views
import Derived.Maps.RangeWalk
import Derived.WideKeyPair
import Derived.DeepKeys4
import Derived.LaidMore
import Derived.BigRegion
import Derived.ArgAppend
import Derived.IntWalk
import Derived.Deep.LoopGhost
import Derived.Carry
import Derived.RangeFuncOwn
import Derived.Deep.RegionLaw
import Derived.RangeFuncNested
import Derived.RangeFuncBound
import Derived.RangeFuncCalls
import Derived.RangeFuncLeaves
import Derived.OwnWalkIn
import Derived.TacticsInMore
import Derived.LoopNIn
import Derived.LoopIn
import Derived.Sort.LoopGhostIn
import Derived.Sort.MapsRangeIn
import Derived.Shelf.SlSortCmp.WholeK
import Derived.Shelf.SlSortCmp.NoneTotal
import Derived.Shelf.SlGeneric
import Derived.Shelf.SlLaysF0
import Derived.Ground.SlsfProg
import Derived.RangeFuncSeq
import Derived.ProofKit
import Derived.OpenShut
import Derived.Deep.Slices
import Derived.Deep.Fields
import Derived.ChangeSame
import Derived.ChangeArms
import Derived.Test.YtpkmiegccfhpnaaGreatDoorRows
import Derived.Stop.Joined
import Derived.ChangeOld
import Derived.Below
import Derived.Lib.SmallJoins
namespace Go.Proofs.YtpkmiegccfhpnaaGreatDoor
open Go.RowKit Go.Maps
set_option maxRecDepth 100000 in
set_option maxHeartbeats 4000000 in
theorem fround_ok {w : World} (A : Option Addr) (n c : Nat) (l : List (List Ev)) (B : Nat) (hV : ReadsV w B A n l) (hB : B ≤ w.heap.size) (hn : n ≤ 1000) (hT : Tabs w) :
    Calls Tryz.prog 23 #[.slice A n c] w fun e w' => FRet (roundE l).1 (roundE l).2 w e w' := by
  have qs := slices_any A n c l B w hV hB (by omega)
  by_cases hs : (slicesE l).2 = 0
  · have q1 := fun W (hW : Below w.heap.size w W) => round_ok (w := W) (.inl ⟨rfl, rfl⟩) A n c l B (hV.below hB hW) (Nat.le_trans hB hW.size) (set_of_slices hs) hs (hT.kept hW)
    have E := Lib.hid (show roundE l = (listF l (rnd l fun _ => none), 0) by unfold roundE; rw [if_neg (fun h => h hs)]; rfl)
    have hl := set_of_slices hs
    have HO := Lib.hid (rnd_okf l (fun _ => none)).fic
    have HK := Lib.hid (HO.out.okI_ hl)
    have HP := Lib.hid (plc_few hl)
    rw [hs] at qs
    clear hV hT hl hs
    go_enter Tryz.func23, Tryz.ntmps23
    go_wp2_with fail
    refine qs.mono ?_
    rintro e w1 ⟨v, rfl, ho, hb1⟩
    clear qs ho
    go_wp2_with fail
    refine Calls.mono (q1 _ ?_) ?_
    · repeat (first | with_reducible exact Below.refl _ _ | with_reducible assumption | with_reducible refine below_drewN ?_ _ | with_reducible refine Below.drew ?_ | with_reducible refine below_alloc ?_ _ | (with_reducible refine Below.setCell ?_ ?_ _; rotate_left; ((try simp only); omega)))
    rintro e w2 ⟨mn, nn, rfl, _, _, hTN, hb2⟩
    have k2 := below_call hb1 hb2
    have q2 := sorted_any mn nn l (rnd l fun _ => none) w2 hTN HK.out HO.out (by have := HP.out; omega)
    clear q1 hTN hb2 hb1
    go_wp2_with fail
    refine q2.mono ?_
    rintro e w3 ⟨u, rfl, how, hb3⟩
    have HX := Lib.hid (show FRet (roundE l).1 (roundE l).2 w (.returned (.tuple #[u, .int .i64 0])) w3 by
      rw [E.out]; exact ⟨u, rfl, own_lower how k2.size, below_call k2 hb3⟩)
    clear q2 how hb3 k2
    go_wp2
    refine ret_of (by simp [results, Tryz.results23, go_sem, *]; repeat' (first | rfl | apply And.intro)) rfl HX.out
  · have E := Lib.hid (show roundE l = ([], (slicesE l).2) by unfold roundE; rw [if_pos hs])
    obtain ⟨r, hr⟩ : ∃ z, z = (slicesE l).2 := ⟨_, rfl⟩
    rw [← hr] at qs hs E
    have b0 : (r != 0) = true := by simpa using hs
    clear hV hT hr hs
    go_enter Tryz.func23, Tryz.ntmps23
    go_wp2_with fail
    refine qs.mono ?_
    rintro e w1 ⟨v, rfl, ho, hb1⟩
    clear qs ho
    go_wp2
    refine ret_of (by simp [results, Tryz.results23, go_sem, *]; repeat' (first | rfl | apply And.intro)) rfl ?_
    rw [E.out]
    exact FRet.nil_ hb1
end Go.Proofs.YtpkmiegccfhpnaaGreatDoor
namespace Go.Proofs.YtpkmiegccfhpnaaGreatDoor
open Go.RowKit
/-- A list of numbers that came in. -/
structure Nums (w : World) (A : Option Addr) (n : Nat) (l : List Int) : Prop where
  reads : Reads w w.heap.size 1 A n (csI l)
  len : n ≤ 9223372036854775807
  fit : ∀ x ∈ l, -9223372036854775808 ≤ x ∧ x ≤ 9223372036854775807
theorem Nums.kept {w w' : World} {A : Option Addr} {n : Nat} {l : List Int} (h : Nums w A n l) (hb : Below w.heap.size w w') : Nums w' A n l := ⟨rdi h.reads hb, h.len, h.fit⟩
theorem Nums.voice {w : World} {A : Option Addr} {n : Nat} {l : List Int} (h : Nums w A n l) (c most : Nat) (hm : most ≤ 60) :
    Calls Tryz.prog 40 #[.slice A n c, .int .i64 most] w fun e w' => ∃ A' c', e = .returned (.slice A' (voiceS most l).length c') ∧ OwnE w' w.heap.size (voiceS most l).length A' c' (voiceS most l) ∧ Below w.heap.size w w' :=
  voice_any A n c l most w h.reads h.len h.fit hm
end Go.Proofs.YtpkmiegccfhpnaaGreatDoor
namespace Go.Proofs.YtpkmiegccfhpnaaGreatDoor
open Go.RowKit
/-- The first k events changed. -/
def mix (f : Ev → Ev) (k : Nat) (v : List Ev) : List Ev := (v.take k).map f ++ v.drop k
theorem mix_at {f : Ev → Ev} {k : Nat} {v : List Ev} {x : Ev} (h : v[k]? = some x) : mix f k v = (v.take k).map f ++ x :: v.drop (k + 1) := by unfold mix; rw [drop_get h]
theorem mix_next {f : Ev → Ev} {k : Nat} {v : List Ev} {x : Ev} (h : v[k]? = some x) : mix f (k + 1) v = (v.take k).map f ++ f x :: v.drop (k + 1) := by
  unfold mix; rw [take_get h, List.map_append, List.append_assoc]; rfl
theorem mix_len {k : Nat} {v : List Ev} (f : Ev → Ev) {x : Ev} (h : v[k]? = some x) : ((v.take k).map f).length = k := by
  have := (List.getElem?_eq_some_iff.1 h).1
  rw [List.length_map, List.length_take]; omega
/-- The voices behind k events of voice i. -/
def gs (f : Ev → Ev) (i k : Nat) (j : Nat) (v : List Ev) : List Ev := if j < i then v.map f else if j = i then mix f k v else v
theorem gs_at (f : Ev → Ev) (i k : Nat) (v : List Ev) : gs f i k i v = mix f k v := by unfold gs; rw [if_neg (by omega), if_pos rfl]
theorem gs_ne (f : Ev → Ev) {i k k' j : Nat} (h : j ≠ i) (v : List Ev) : gs f i k j v = gs f i k' j v := by unfold gs; rw [if_neg h, if_neg h]
theorem gs_start (f : Ev → Ev) (j : Nat) (v : List Ev) : gs f 0 0 j v = v := by
  unfold gs mix
  rw [if_neg (by omega)]
  split <;> simp
theorem gs_step (f : Ev → Ev) (i j : Nat) {k : Nat} (v : List Ev) (hv : j = i → v.length = k) : gs f i k j v = gs f (i + 1) 0 j v := by
  unfold gs mix
  by_cases h : j < i
  · rw [if_pos h, if_pos (by omega)]
  · by_cases h2 : j = i
    · have := hv h2
      rw [if_neg h, if_pos h2, if_pos (by omega), List.take_of_length_le (by omega), List.drop_eq_nil_of_le (by omega), List.append_nil]
    · rw [if_neg h, if_neg h2, if_neg (by omega)]
      split <;> simp
def madeV (a b c : List Int) : List (List Ev) := [voiceS 9 a, voiceS 9 b, voiceS 6 c]
def made31 (a b c : List Int) : List (List Ev) := skL (madeV a b c)
theorem gs_all {f : Ev → Ev} {l : List (List Ev)} {n : Nat} (hn : l.length = n) {j : Nat} {v : List Ev} (hv : l[j]? = some v) : gs f n 0 j v = v.map f := by
  unfold gs
  rw [if_pos (by have := (List.getElem?_eq_some_iff.1 hv).1; omega)]
theorem CopyAt.readsM {w : World} {base lim n c : Nat} {A : Option Addr} {ds : List Pl} {l : List (List Ev)} (f : Ev → Ev) (h : CopyAt w base lim (.slice A n c) ds l (gs f n 0)) (hn : l.length = n) : ReadsV w w.heap.size A n (l.map (List.map f)) := by
  have hl := h.len
  obtain ⟨A9, c9, e9, r9, _, _⟩ := own_reads h.row
  cases e9
  refine ⟨ds, by rw [List.length_map]; exact hl, r9, fun j d v hd hv => ?_⟩
  rw [List.getElem?_map] at hv
  obtain ⟨x, hx, rfl⟩ := Option.map_eq_some_iff.1 hv
  obtain ⟨h1, h2⟩ := h.voc j d x hd hx
  rw [gs_all hn hx] at h1
  obtain ⟨A8, c8, e8, r8, _, _⟩ := own_reads h1
  cases e8
  exact ⟨r8, h2⟩
theorem own_blk {w : World} {base size n m c : Nat} {e : TypeId} {A : Option Addr} {xs : List Value} (h : w.ownsRow base e size (.slice A m c) n xs) : ∀ p, A = some p → base ≤ p.block ∧ p.block < w.heap.size := fun p hp => by
  subst hp; exact h.lt p.block rfl
/-- What the three calls have made. -/
theorem copy_three {w w1 w2 w3 w4 : World} {v1 v2 v3 : List Ev} {A1 A2 A3 : Option Addr} {c1 c2 c3 : Nat} (h1 : w1.ownsRow w.heap.size 49 10 (.slice A1 v1.length c1) v1.length (csE v1)) (k1 : Below w.heap.size w w1)
    (h2 : w2.ownsRow w1.heap.size 49 10 (.slice A2 v2.length c2) v2.length (csE v2)) (k2 : Below w1.heap.size w1 w2) (h3 : w3.ownsRow w2.heap.size 49 10 (.slice A3 v3.length c3) v3.length (csE v3)) (k3 : Below w2.heap.size w2 w3)
    (l1 : v1.length ≤ 1000) (l2 : v2.length ≤ 1000) (l3 : v3.length ≤ 1000) (hw : w4 = w3.alloc (.cells #[.slice A1 v1.length c1, .slice A2 v2.length c2, .slice A3 v3.length c3] 36)) :
    CopyAt w4 w.heap.size w4.heap.size (.slice (some ⟨w3.heap.size, 0, none⟩) 3 3) [(A1, v1.length, c1), (A2, v2.length, c2), (A3, v3.length, c3)] [v1, v2, v3] (gs sk 0 0) := by
  have z1 := k1.size
  have z2 := k2.size
  have z3 := k3.size
  have k4 : Below w3.heap.size w3 w4 := by rw [hw]; exact below_alloc (Below.refl _ _) _
  have b1 := own_blk h1
  have b2 := own_blk h2
  have b3 := own_blk h3
  have s4 : w4.heap.size = w3.heap.size + 1 := by rw [hw]; simp
  have r1 := own_call (own_call (own_call h1 k2) k3) k4
  have r2 := own_call (own_call h2 k3) k4
  have r3 := own_call h3 k4
  refine ⟨?_, fun j d v hd hv => ?_, fun j k d d' p q hjk hd hd' hp hq => ?_, rfl, fun d hd p hp => ?_, fun b hb => ?_⟩
  · rw [hw]
    exact own_lower (World.ownsRow_lit (e := 36) (size := 1) w3 #[.slice A1 v1.length c1, .slice A2 v2.length c2, .slice A3 v3.length c3] 3 (Nat.le_refl _) (by simp [maxLen]) rfl) (by omega)
  · rw [gs_start]
    match j with
    | 0 => simp at hd hv; subst hd hv; exact ⟨r1, by show v1.length ≤ _; omega⟩
    | 1 => simp at hd hv; subst hd hv; exact ⟨own_lower r2 (by omega), by show v2.length ≤ _; omega⟩
    | 2 => simp at hd hv; subst hd hv; exact ⟨own_lower r3 (by omega), by show v3.length ≤ _; omega⟩
    | j + 3 => simp at hd
  · match j, k with
    | 0, 1 => simp at hd hd'; subst hd hd'; have := b1 p hp; have := b2 q hq; omega
    | 0, 2 => simp at hd hd'; subst hd hd'; have := b1 p hp; have := b3 q hq; omega
    | 1, 2 => simp at hd hd'; subst hd hd'; have := b2 p hp; have := b3 q hq; omega
    | 0, 0 | 1, 0 | 1, 1 | 2, 0 | 2, 1 | 2, 2 => omega
    | j + 3, _ => simp at hd
    | 0, k + 3 | 1, k + 3 | 2, k + 3 => simp at hd'
  · simp only [List.mem_cons, List.not_mem_nil, or_false] at hd
    rcases hd with rfl | rfl | rfl
    · have := b1 p hp; omega
    · have := b2 p hp; omega
    · have := b3 p hp; omega
  · simp [Value.ownBlock] at hb
    omega
/-- The setting in rows of its own. -/
def MOwn (l : List (List Ev)) (w : World) (e : Ending) (w' : World) : Prop :=
  ∃ bu ds lim, e = .returned (.slice (some ⟨bu, 0, none⟩) 3 3) ∧ CopyAt w' w.heap.size lim (.slice (some ⟨bu, 0, none⟩) 3 3) ds l (gs sk 3 0) ∧ lim ≤ w'.heap.size ∧ Below w.heap.size w w'
def MRet (l : List (List Ev)) (w : World) (e : Ending) (w' : World) : Prop := ∃ bu, e = .returned (.slice (some ⟨bu, 0, none⟩) 3 3) ∧ ReadsV w' w'.heap.size (some ⟨bu, 0, none⟩) 3 l ∧ Below w.heap.size w w'
set_option maxRecDepth 100000 in
set_option maxHeartbeats 8000000 in
theorem made31_own {Aa Ab Ac : Option Addr} {na nb nc : Nat} {a b c : List Int} {w : World} (ha : Nums w Aa na a) (hb : Nums w Ab nb b) (hc : Nums w Ac nc c) (ca cb cc : Nat) :
    Calls Tryz.prog 21 #[.slice Aa na ca, .slice Ab nb cb, .slice Ac nc cc] w fun e w' => MOwn (madeV a b c) w e w' := by
  have HB := Lib.hid hb
  have HC := Lib.hid hc
  have q1 := ha.voice ca 9 (by omega)
  obtain ⟨v1, hv1⟩ : ∃ z, z = voiceS 9 a := ⟨_, rfl⟩
  obtain ⟨v2, hv2⟩ : ∃ z, z = voiceS 9 b := ⟨_, rfl⟩
  obtain ⟨v3, hv3⟩ : ∃ z, z = voiceS 6 c := ⟨_, rfl⟩
  have l1 : v1.length ≤ 9 := by rw [hv1]; exact (voice_q 9 (by omega) a).2.2
  have l2 : v2.length ≤ 9 := by rw [hv2]; exact (voice_q 9 (by omega) b).2.2
  have l3 : v3.length ≤ 6 := by rw [hv3]; exact (voice_q 6 (by omega) c).2.2
  have HM := Lib.hid (show madeV a b c = [v1, v2, v3] by rw [hv1, hv2, hv3]; rfl)
  have HV2 := Lib.hid hv2
  have HV3 := Lib.hid hv3
  rw [← hv1] at q1
  clear ha hb hc hv1 hv2 hv3
  go_enter Tryz.func21, Tryz.ntmps21
  go_wp2_with fail
  refine q1.mono ?_
  rintro e w1 ⟨A1, c1, rfl, ⟨h1, _, _⟩, k1⟩
  have q2 := (HB.out.kept k1).voice cb 9 (by omega)
  rw [← HV2.out] at q2
  clear q1
  go_wp2_with fail
  refine q2.mono ?_
  rintro e w2 ⟨A2, c2, rfl, ⟨h2, _, _⟩, k2⟩
  have q3 := (HC.out.kept (below_call k1 k2)).voice cc 6 (by omega)
  rw [← HV3.out] at q3
  clear q2
  go_wp2_with fail
  refine q3.mono ?_
  rintro e w3 ⟨A3, c3, rfl, ⟨h3, _, _⟩, k3⟩
  clear q3
  go_wp2_with fail
  obtain ⟨w4, hw4⟩ : ∃ z, z = w3.alloc (.cells #[.slice A1 v1.length c1, .slice A2 v2.length c2, .slice A3 v3.length c3] 36) := ⟨_, rfl⟩
  have K0 := copy_three h1 k1 h2 k2 h3 k3 (by omega) (by omega) (by omega) hw4
  have kr0 : Below w.heap.size w w4 := below_call (below_call (below_call k1 k2) k3) (by rw [hw4]; exact below_alloc (Below.refl _ _) _)
  obtain ⟨bu, hbu⟩ : ∃ z, z = w3.heap.size := ⟨_, rfl⟩
  obtain ⟨l, hl⟩ : ∃ z, z = [v1, v2, v3] := ⟨_, rfl⟩
  obtain ⟨ds, hds⟩ : ∃ z, z = [(A1, v1.length, c1), (A2, v2.length, c2), (A3, v3.length, c3)] := ⟨_, rfl⟩
  have HL3 := Lib.hid (show l.length = 3 by rw [hl]; rfl)
  have HD3 := Lib.hid (show ds.length = 3 by rw [hds]; rfl)
  have HLV := Lib.hid (show ∀ v ∈ l, v.length ≤ 9 by
    rw [hl]; intro v hv
    simp only [List.mem_cons, List.not_mem_nil, or_false] at hv
    rcases hv with rfl | rfl | rfl <;> omega)
  rw [← hl] at HM
  rw [← hbu, ← hl, ← hds] at K0
  rw [← hw4, ← hbu]
  obtain ⟨lim, hlim⟩ : ∃ z, z = w4.heap.size := ⟨_, rfl⟩
  rw [← hlim] at K0
  have hl0 : lim ≤ w4.heap.size := by omega
  clear hw4 hbu hl hds h1 h2 h3 k1 k2 k3 l1 l2 l3 HV2 HV3 hlim
  go_loopg [8, 9] 3 (fun gh i _ wr => ∃ k : Nat, k + gh = 3 ∧ i = .int .i64 (k : Int) ∧ CopyAt wr w.heap.size lim (.slice (some ⟨bu, 0, none⟩) 3 3) ds l (gs sk k 0) ∧ Below w.heap.size w wr ∧ lim ≤ wr.heap.size)
  case atStart => exact ⟨0, by omega, by simp, K0, kr0, hl0⟩
  case round =>
    clear K0 kr0 hl0
    obtain ⟨i, hig, rfl, K, kr, hlm⟩ := hrel
    have wk : IntKind.i64.wrap ((i : Int) + 1) = (i : Int) + 1 := IntWalk.i64_in _ (by omega)
    cases gk with
    | zero =>
      have hi3 : i = 3 := by omega
      have d0 : ¬ ((i : Int) < 3) := by omega
      rw [hi3] at K
      have HX := Lib.hid (show MOwn (madeV a b c) w (.returned (.slice (some ⟨bu, 0, none⟩) 3 3)) wr from ⟨bu, ds, lim, rfl, by rw [HM.out]; exact K, hlm, kr⟩)
      clear K kr hlm hig
      go_wp2
      refine ret_of (by simp [results, Tryz.results21, go_sem, *]; repeat' (first | rfl | apply And.intro)) rfl HX.out
    | succ gh =>
      have hi3 : i < 3 := by omega
      have d0 : (i : Int) < 3 := by omega
      obtain ⟨v, hv⟩ := get_some (l := l) (k := i) (by have := HL3.out; omega)
      have hv9 := HLV.out v (List.mem_of_getElem? hv)
      have HVV := Lib.hid hv
      obtain ⟨N, hN⟩ : ∃ z, z = v.length := ⟨_, rfl⟩
      have HN := Lib.hid hN
      have hN9 : N ≤ 9 := by omega
      clear hv hv9 hN
      obtain ⟨wr0, hwr0⟩ : ∃ z, z = wr := ⟨_, rfl⟩
      subst hwr0
      go_wp2_with fail
      go_loopg [9] N (fun g2 j wy => ∃ k : Nat, k + g2 = N ∧ j = .int .i64 (k : Int) ∧ CopyAt wy w.heap.size lim (.slice (some ⟨bu, 0, none⟩) 3 3) ds l (gs sk i k) ∧ Below w.heap.size w wy ∧ lim ≤ wy.heap.size)
      case atStart => exact ⟨0, by omega, by simp, K, kr, hlm⟩
      case round =>
        clear K kr hlm
        obtain ⟨k, hkg, rfl, K, kr, hlm⟩ := hrel
        have wk2 : IntKind.i64.wrap ((k : Int) + 1) = (k : Int) + 1 := IntWalk.i64_in _ (by omega)
        cases gk with
        | zero =>
          have hk : k = N := by omega
          have d1 : ¬ ((k : Int) < (N : Int)) := by omega
          obtain ⟨bu', cu', A9, n9, c9, hu, hb9, hlt9, hcell, hd9, hrow9⟩ := K.at_ HVV.out
          have hbb : bu' = bu := by injection hu with h1; injection h1 with h1; injection h1 with h1; exact h1.symm
          subst hbb
          have hn9 : n9 = N := by
            have := hrow9.1
            rw [csE_len, gs_at] at this
            unfold mix at this
            simp at this
            have := HN.out
            omega
          subst hn9
          have KN := K.congr (g' := gs sk (i + 1) 0) (fun j u hj => gs_step sk i j u (fun hji => by rw [hji, HVV.out] at hj; cases hj; rw [← HN.out]; exact hk.symm))
          clear hu hrow9 hd9 K hk
          go_wp2
          go_roundg gh
          case measure => omega
          case rel => exact ⟨i + 1, by omega, by go_num, KN, kr, hlm⟩
        | succ g2 =>
          have hkN : k < N := by omega
          have d1 : (k : Int) < (N : Int) := by omega
          obtain ⟨x, hx⟩ := get_some (l := v) (k := k) (by have := HN.out; omega)
          have hg : gs sk i k i v = (v.take k).map sk ++ x :: v.drop (k + 1) := by rw [gs_at, mix_at hx]
          obtain ⟨bu', cu', gi, cx, nv, hu, hbu', hbase, hcu, hds, hbg, hgl, hkn, hnv, how, ⟨z6, hz6⟩, hfz⟩ := K.evk HVV.out hg (mix_len sk hx) HD3.out
          have hbb : bu' = bu := by injection hu with h1; injection h1 with h1; injection h1 with h1; exact h1.symm
          subst hbb
          have hnN : nv = N := by
            rw [hnv, HN.out]
            have := (List.getElem?_eq_some_iff.1 hx).1
            simp
            omega
          subst hnN
          have hz6' : wr.cell? ⟨gi, k * 10 + 4 + 2, none⟩ = some (.int .i64 z6) := hz6
          have hf6 := hfz (k * 10 + 4 + 2)
          have HGN := Lib.hid (show gs sk i (k + 1) i v = (v.take k).map sk ++ sk x :: v.drop (k + 1) by rw [gs_at, mix_next hx])
          have HML := Lib.hid (mix_len sk hx)
          have HDS := Lib.hid hds
          have HOW := Lib.hid how
          clear hu hds hg hnv hz6 hfz hx how
          go_wp2_with fail
          obtain ⟨w7, hw7⟩ : ∃ z, z = wr.setCell ⟨gi, k * 10 + 4 + 2, none⟩ (.int .i64 0) := ⟨_, rfl⟩
          have K7 : CopyAt w7 w.heap.size lim (.slice (some ⟨bu', 0, none⟩) 3 3) ds l (gs sk i (k + 1)) := by
            rw [hw7]
            refine K.put HVV.out HDS.out (fun _ _ _ _ _ _ h hne => st_one _ _ _ _ _ _ h hne) ?_ (fun j hj u => gs_ne sk hj u)
            have h1 := (HOW.out.stored (k * 10 + 6) (.int .i64 0)).1
            have e := m_set_alt ((v.take k).map sk) (v.drop (k + 1)) x 0
            rw [HML.out] at e
            rw [e] at h1
            rw [HGN.out]
            exact h1
          have kr7 : Below w.heap.size w w7 := by rw [hw7]; exact kr.setCell (by show w.heap.size ≤ gi; exact hbg) _
          have hl7 : lim ≤ w7.heap.size := by rw [hw7]; simpa using hlm
          rw [← hw7]
          clear hw7 K kr hz6' hf6 hcu HOW
          go_roundg g2
          case measure => omega
          case rel => exact ⟨k + 1, by omega, by go_num, K7, kr7, hl7⟩
theorem made31_any {Aa Ab Ac : Option Addr} {na nb nc : Nat} {a b c : List Int} {w : World} (ha : Nums w Aa na a) (hb : Nums w Ab nb b) (hc : Nums w Ac nc c) (ca cb cc : Nat) :
    Calls Tryz.prog 21 #[.slice Aa na ca, .slice Ab nb cb, .slice Ac nc cc] w fun e w' => MRet (made31 a b c) w e w' := by
  refine (made31_own ha hb hc ca cb cc).mono ?_
  rintro e w' ⟨bu, ds, lim, rfl, K, _, kr⟩
  exact ⟨bu, rfl, K.readsM sk rfl, kr⟩
end Go.Proofs.YtpkmiegccfhpnaaGreatDoor
namespace Go.Proofs.YtpkmiegccfhpnaaGreatDoor
theorem skL_idem (l : List (List Ev)) : skL (skL l) = skL l := by
  unfold skL
  rw [List.map_map]
  congr 1
  funext v
  rw [Function.comp_apply, List.map_map]
  rfl
theorem one_rest {x : Ev} (hr : x.rest = true) (h : oneS x = 0) : x.pit = (0, 0, 0) := by
  unfold oneS at h
  split at h
  · rename_i c; exact absurd h c
  · split at h
    · rename_i c; exact absurd h c
    · split at h
      · cases h
      · split at h
        · cases h
        · rename_i c
          by_cases hp : x.pit = (0, 0, 0)
          · exact hp
          · exact absurd ⟨hr, hp⟩ c
theorem step_one {now : Tm} {x : Ev} (h : stepS now x = 0) : oneS x = 0 := by
  unfold stepS at h
  by_cases h0 : oneS x = 0
  · exact h0
  · rw [if_pos h0] at h; exact absurd h h0
theorem step_sk {now : Tm} {x : Ev} (h : stepS now x = 0) : stepS now (sk x) = 0 := by
  cases hr : x.rest with
  | false => exact step_alt hr (by omega) h
  | true =>
    have hp := one_rest hr (step_one h)
    have : sk x = x := by
      obtain ⟨t, d, p, rs, sg, ps⟩ := x
      simp only at hp
      subst hp
      rfl
    rw [this]; exact h
theorem checkFrom_sk : ∀ (v : List Ev) (now : Tm) (i : Int), (checkFrom now i v).1 = 0 → (checkFrom now i (v.map sk)).1 = 0
  | [], _, _, _ => rfl
  | x :: v, now, i, h => by
    have hs : stepS now x = 0 := by
      unfold checkFrom at h
      by_cases h0 : stepS now x = 0
      · exact h0
      · rw [if_pos h0] at h; exact absurd h h0
    have hn : (checkFrom (nextS x) (i + 1) v).1 = 0 := by
      unfold checkFrom at h
      rwa [if_neg (fun h => h hs)] at h
    show (checkFrom now i (sk x :: v.map sk)).1 = 0
    unfold checkFrom
    rw [if_neg (fun h => h (step_sk hs))]
    exact checkFrom_sk v _ _ hn
theorem SetV.sk_ {l : List (List Ev)} (h : SetV l) : SetV (skL l) := by
  refine ⟨by unfold skL; rw [List.length_map]; exact h.len, fun v hv => ?_⟩
  obtain ⟨u, hu, rfl⟩ := List.mem_map.1 hv
  have h1 := h.chk u hu
  unfold checkS at h1 ⊢
  rw [List.length_map]
  split at h1
  · cases h1
  · rw [if_neg ‹_›]; exact checkFrom_sk u _ _ h1
theorem madeV_q (a b c : List Int) : SetQ 2880 (madeV a b c) where
  pos := by omega
  big := by omega
  len := by unfold madeV; simp
  each := by
    intro v hv
    unfold madeV at hv
    simp only [List.mem_cons, List.not_mem_nil, or_false] at hv
    rcases hv with rfl | rfl | rfl
    · exact ⟨(voice_q 9 (by omega) a).1, (voice_q 9 (by omega) a).2.1⟩
    · exact ⟨(voice_q 9 (by omega) b).1, (voice_q 9 (by omega) b).2.1⟩
    · exact ⟨(voice_q 6 (by omega) c).1, (voice_q 6 (by omega) c).2.1⟩
theorem made_sl (a b c : List Int) : (slicesE (made31 a b c)).2 = 0 := by
  have h0 : (slicesE (madeV a b c)).2 = 0 := by rw [setq_slices (madeV_q a b c)]
  exact slices_sk (skL_idem _).symm h0 (set_of_slices h0).sk_
theorem made_zero {a b c : List Int} {p : Plc} {x : Ev} (h : evA (made31 a b c) p = some x) : x.pit.2.2 = 0 := by
  obtain ⟨i, j, v, rfl, hv, hx⟩ := evA_some h
  unfold made31 skL at hv
  rw [List.getElem?_map] at hv
  obtain ⟨u, _, rfl⟩ := Option.map_eq_some_iff.1 hv
  rw [List.getElem?_map] at hx
  obtain ⟨y, _, rfl⟩ := Option.map_eq_some_iff.1 hx
  rfl
/-! ### All proposals pass the check -/
theorem chkF_all {l : List (List Ev)} : ∀ (L : List Fic) (prev : Option Fic) (i : Int), (∀ y ∈ L, inF l y = true ∧ freeB l (y.1, y.2.1) = true ∧ (y.2.2.1 = 1 ∨ y.2.2.1 = -1) ∧ (1 ≤ y.2.2.2 ∧ y.2.2.2 ≤ 3)) → L.Pairwise lessF → (∀ z, prev = some z → ∀ y ∈ L, lessF z y) → chkF l prev i L = (0, 0)
  | [], _, _, _, _, _ => rfl
  | x :: L, prev, i, hg, hp, hz => by
    obtain ⟨g1, g2, g3, g4⟩ := hg x List.mem_cons_self
    rw [List.pairwise_cons] at hp
    have h1 : oneF l prev x = 0 := by
      rw [one_last g1 (by rw [g2]; simp; omega) (by omega)]
      cases prev with
      | none => rfl
      | some z => exact if_pos (hz z rfl x List.mem_cons_self)
    rw [chkF_next h1]
    exact chkF_all L (some x) (i + 1) (fun y hy => hg y (List.mem_cons_of_mem _ hy)) hp.2 (fun z e y hy => by cases e; exact hp.1 y hy)
theorem OKF.good {l : List (List Ev)} {f : Plc → Option Fic} (h : OKF l f) : ∀ y ∈ listF l f, inF l y = true ∧ freeB l (y.1, y.2.1) = true ∧ (y.2.2.1 = 1 ∨ y.2.2.1 = -1) ∧ (1 ≤ y.2.2.2 ∧ y.2.2.2 ≤ 3) := fun y hy => by
  obtain ⟨p, hp, hf⟩ := mem_listF.1 hy
  obtain ⟨h1, h2, h3, h4, h5⟩ := h p y hf
  have e : (y.1, y.2.1) = p := Prod.ext h2 h3
  refine ⟨?_, by rw [e]; exact h1, h4, h5⟩
  obtain ⟨i, j, v, rfl, hv, hj⟩ := mem_plc.1 hp
  simp only at h2 h3
  unfold inF
  rw [decide_eq_true_eq, h2, h3, Int.toNat_natCast, getD_at hv]
  have := (List.getElem?_eq_some_iff.1 hv).1
  omega
theorem check_all {l : List (List Ev)} (hs : (slicesE l).2 = 0) : checkF l (allFi l) = (0, 0) := by
  unfold checkF
  rw [if_neg (fun h => h hs)]
  obtain ⟨⟨lF, h1, _⟩, _⟩ := allF_spec l
  exact chkF_all _ _ _ h1.okf.good (listF_sorted h1.okf.fic) (fun z e => by cases e)
theorem apply_all {l : List (List Ev)} (hs : (slicesE l).2 = 0) : applyE l (allFi l) = (withL l (allFi l), 0) := by
  unfold applyE
  rw [check_all hs, if_neg (fun h => h rfl)]
theorem all_eq {l : List (List Ev)} (hs : (slicesE l).2 = 0) : allE l = (allFi l, 0) := by unfold allE; rw [if_neg (fun h => h hs)]
theorem rounds_eq {l : List (List Ev)} (hs : (slicesE l).2 = 0) : roundsE l = (((allF l).2 : Int), 0) := by unfold roundsE; rw [if_neg (fun h => h hs)]
theorem round_after {l : List (List Ev)} (hs : (slicesE l).2 = 0) : roundE (withL l (allFi l)) = ([], 0) := by
  obtain ⟨⟨lF, h1, _⟩, _⟩ := allF_spec l
  have e : withL l (allFi l) = lF := h1.is.symm
  have hd := all_done l
  unfold roundE
  rw [if_neg (fun h => h (by rw [e]; exact h1.sl hs)), hd]
theorem plc_three (v1 v2 v3 : List Ev) : (plcL [v1, v2, v3]).length = v1.length + v2.length + v3.length := by
  unfold plcL
  simp [List.range_succ, List.flatMap_cons]
  omega
/-! ### What holds of each proposal of all rounds -/
theorem allR_ind {l : List (List Ev)} {P : Plc → Fic → Prop} (hP : ∀ lk dn, Behind l lk dn → (∀ p y, dn p = some y → P p y) → ∀ p y, rnd lk dn p = some y → P p y) :
    ∀ (n : Nat) {lk : List (List Ev)} {dn : Plc → Option Fic}, Behind l lk dn → (∀ p y, dn p = some y → P p y) → ∀ p y, (allR n lk dn).1 p = some y → P p y
  | 0, _, _, _, hd => hd
  | n + 1, lk, dn, hB, hd => by
    by_cases hs : listF lk (rnd lk dn) = []
    · rw [allR_stop hs]; exact hd
    · rw [allR_go hs]
      refine allR_ind hP n hB.next fun p y hy => ?_
      unfold mergeF at hy
      cases hr : rnd lk dn p with
      | none => rw [hr] at hy; exact hd p y hy
      | some z => rw [hr] at hy; cases hy; exact hP lk dn hB hd p y hr
theorem allF_ind {l : List (List Ev)} {P : Plc → Fic → Prop} (hP : ∀ lk dn, Behind l lk dn → (∀ p y, dn p = some y → P p y) → ∀ p y, rnd lk dn p = some y → P p y) : ∀ p y, (allF l).1 p = some y → P p y :=
  allR_ind hP _ (Behind.start l) (fun _ _ h => by cases h)
theorem Behind.ev {l lk : List (List Ev)} {dn : Plc → Option Fic} (h : Behind l lk dn) {p : Plc} {x : Ev} (hx : evA lk p = some x) : ∃ x0, evA l p = some x0 ∧ x0.pit.1 = x.pit.1 ∧ x0.rest = x.rest ∧ (dn p = none → x0 = x) := by
  have h1 := h.evs p
  rw [hx] at h1
  obtain ⟨x0, h0, e⟩ := Option.map_eq_some_iff.1 h1.symm
  refine ⟨x0, h0, ?_, ?_, fun hn => ?_⟩
  · rw [← e]; unfold altBy; split <;> rfl
  · rw [← e]; unfold altBy; split <;> rfl
  · rw [← e, hn]; rfl
theorem pit_of {l : List (List Ev)} (h : SetV l) {p : Plc} {x : Ev} (hx : evA l p = some x) (hr : x.rest = false) : pchk x.pit = 0 := by
  obtain ⟨i, j, v, rfl, hv, hj⟩ := evA_some hx
  exact h.pits v (List.mem_of_getElem? hv) x (List.mem_of_getElem? hj) hr
/-- A single note above la: its step. -/
theorem above_la {a b : Pit3} (ha : pchk a = 0) (hb : pchk b = 0) (h5 : a.1 = 5) (h : numP b = numP a + 1) : b.1 = 6 := by
  have := pchk_bd ha
  have := pchk_bd hb
  unfold numP at h
  omega
/-! ### A voice alone -/
def AloneP (v : List Ev) (p : Plc) (y : Fic) : Prop := y.2.2 = (-1, 3) ∧ ∃ (e : Nat) (a b c : Ev), p = ((0 : Int), (e : Int)) ∧ 1 ≤ e ∧ v[e - 1]? = some a ∧ v[e]? = some b ∧ v[e + 1]? = some c ∧ b.pit.1 = 6 ∧ a.pit.1 = 5 ∧ a.pit = c.pit
theorem lead_two {l : List (List Ev)} {p : Plc} (h : leadB l p = true) : 2 ≤ l.length := by
  unfold leadB at h
  simp only [Bool.and_eq_true] at h
  obtain ⟨_, hw, _⟩ := h
  unfold weakB at hw
  simp only [List.any_eq_true, List.mem_range, Bool.and_eq_true] at hw
  obtain ⟨t, ht, k, _, hc, _⟩ := hw
  obtain ⟨h1, h2, h3, _⟩ := cad_parts hc
  have := getD_lt (l := l) (c := p.1.toNat) (i := p.2.toNat + 1) (by omega)
  omega
theorem alone_spec {v : List Ev} (hl : SetV [v]) : ∀ y ∈ allFi [v], ∃ p, y.1 = p.1 ∧ y.2.1 = p.2 ∧ AloneP v p y := by
  intro y hy
  obtain ⟨p, hp, hf⟩ := mem_listF.1 hy
  obtain ⟨⟨lF, h1, _⟩, _⟩ := allF_spec [v]
  obtain ⟨_, e1, e2⟩ := h1.okf.fic p y hf
  refine ⟨p, e1, e2, ?_⟩
  refine allF_ind (l := [v]) (P := AloneP v) ?_ p y hf
  intro lk dn hB hd p y hr
  have hlen := skL_len hB.skel
  obtain ⟨hdn, _, _, _, hk⟩ := rnd_some' hr
  rcases hk with ⟨hk, _⟩ | ⟨hk, _⟩ | ⟨hk, hy⟩
  · have := lead_two hk; rw [hlen] at this; simp at this
  · obtain ⟨t, a, b, hab, hb, _⟩ := triL_mem hk; rw [hlen] at hb; simp at hb; omega
  · obtain ⟨i, e, a, b, c, rfl, he, ha, hb, hc, ⟨ra, rb, rc⟩, hac, h5, hz, hnum⟩ := supL_mem hk
    have hi : i = 0 := by
      by_cases hi : i = 0
      · exact hi
      · rw [show lk.getD i [] = [] by simp [List.getD, show lk.length ≤ i by rw [hlen]; simp; omega]] at hb
        simp at hb
    subst hi
    have ea : evA lk ((0 : Int), ((e - 1 : Nat) : Int)) = some a := by
      have := evA_nat' lk 0 (e - 1)
      rw [ha] at this
      exact this
    have eb : evA lk ((0 : Int), (e : Int)) = some b := by
      have := evA_nat' lk 0 e
      rw [hb] at this
      exact this
    have ec : evA lk ((0 : Int), ((e + 1 : Nat) : Int)) = some c := by
      have := evA_nat' lk 0 (e + 1)
      rw [hc] at this
      exact this
    have key : ∀ (k : Nat) (x : Ev), evA lk ((0 : Int), (k : Int)) = some x → x.pit.1 = 5 → v[k]? = some x := by
      intro k x hx h5
      obtain ⟨x0, h0, g1, g2, g3⟩ := hB.ev hx
      have hv0 : v[k]? = some x0 := by
        have := evA_nat' [v] 0 k
        rw [show (((0 : Nat) : Int), (k : Int)) = ((0 : Int), (k : Int)) from rfl, h0] at this
        exact this.symm
      cases hdk : dn ((0 : Int), (k : Int)) with
      | none => rw [← g3 hdk]; exact hv0
      | some z =>
        obtain ⟨_, e', a', b', c', hp', _, _, hb', _, h6, _⟩ := hd _ _ hdk
        rw [Prod.mk.injEq] at hp'
        have : e' = k := by omega
        subst this
        rw [hv0] at hb'
        cases hb'
        omega
    obtain ⟨b0, h0, g1, g2, g3⟩ := hB.ev eb
    have hb0 : v[e]? = some b := by
      have := evA_nat' [v] 0 e
      rw [show (((0 : Nat) : Int), (e : Int)) = ((0 : Int), (e : Int)) from rfl, h0] at this
      rw [← g3 hdn]
      exact this.symm
    have hlk := hB.set hl
    refine ⟨hy, e, a, b, c, rfl, he, key _ _ ea h5, hb0, key _ _ ec (by rw [← hac]; exact h5), ?_, h5, hac⟩
    exact above_la (pit_of hlk ea ra) (pit_of hlk eb rb) h5 hnum
/-! ### Without B and E -/
theorem letters_spec {l : List (List Ev)} (hl : SetV l) (h0 : ∀ p x, evA l p = some x → x.pit.1 ≠ 6 ∧ x.pit.1 ≠ 2) : ∀ y ∈ allFi l, y.2.2 = (1, 1) := by
  intro y hy
  obtain ⟨p, hp, hf⟩ := mem_listF.1 hy
  refine allF_ind (l := l) (P := fun _ y => y.2.2 = (1, 1)) ?_ p y hf
  intro lk dn hB _ p y hr
  obtain ⟨hdn, _, _, _, hk⟩ := rnd_some' hr
  rcases hk with ⟨_, hy⟩ | ⟨hk, _⟩ | ⟨hk, _⟩
  · exact hy
  · obtain ⟨t, a, b, _, _, hm⟩ := triL_mem hk
    obtain ⟨x, hx, _, _, h6⟩ := triP_mem hm
    obtain ⟨x0, hx0, g1, _⟩ := hB.ev hx
    have := h0 _ _ hx0
    omega
  · obtain ⟨i, e, a, b, c, rfl, he, ha, hb, hc, ⟨ra, rb, rc⟩, hac, h5, hz, hnum⟩ := supL_mem hk
    have ea : evA lk ((i : Int), ((e - 1 : Nat) : Int)) = some a := by rw [evA_nat']; exact ha
    have eb : evA lk ((i : Int), (e : Int)) = some b := by rw [evA_nat']; exact hb
    have hlk := hB.set hl
    have h6 := above_la (pit_of hlk ea ra) (pit_of hlk eb rb) h5 hnum
    obtain ⟨x0, hx0, g1, _⟩ := hB.ev eb
    have := h0 _ _ hx0
    omega
/-! ### Each B an A, each E a D -/
def lowE (x : Ev) : Ev := if x.pit.1 = 6 ∨ x.pit.1 = 2 then { x with pit := (x.pit.1 - 1, x.pit.2.1, x.pit.2.2) } else x
def lowL (l : List (List Ev)) : List (List Ev) := l.map (List.map lowE)
theorem low_times (x : Ev) : (lowE x).at_ = x.at_ ∧ (lowE x).dur = x.dur ∧ nextS (lowE x) = nextS x := by unfold lowE; split <;> exact ⟨rfl, rfl, rfl⟩
theorem momS_low (l : List (List Ev)) : momS (lowL l) = momS l := by
  unfold momS lowL
  have hv : ∀ (v : List Ev) o, momV o (v.map lowE) = momV o v := by
    intro v
    induction v with
    | nil => intro o; rfl
    | cons x v ih =>
      intro o
      obtain ⟨h1, _, h3⟩ := low_times x
      show momV (withS (withS o (lowE x).at_) (nextS (lowE x))) (v.map lowE) = momV (withS (withS o x.at_) (nextS x)) v
      rw [h1, h3, ih]
  have key : ∀ (l : List (List Ev)) o, (l.map (List.map lowE)).foldl momV o = l.foldl momV o := by
    intro l
    induction l with
    | nil => intro o; rfl
    | cons v l ih => intro o; show (l.map (List.map lowE)).foldl momV (momV o (v.map lowE)) = _; rw [hv, ih]; rfl
  exact key l []
theorem one_pit2 {t d : Tm} {p p' : Pit3} {sg ps : Int} (hp : pchk p = 0 → pchk p' = 0) (h : oneS ⟨t, d, p, false, sg, ps⟩ = 0) : oneS ⟨t, d, p', false, sg, ps⟩ = 0 := by
  unfold oneS at h ⊢
  dsimp only at h ⊢
  split at h
  · rename_i c; exact absurd h c
  · rename_i c1
    rw [if_neg c1]
    split at h
    · rename_i c; exact absurd h c
    · rename_i c2
      rw [if_neg c2]
      split at h
      · cases h
      · rename_i c3
        rw [if_neg c3]
        split at h
        · cases h
        · rw [if_neg (fun hh => by cases hh.1)]
          split at h
          · rename_i c; exact absurd h c.2
          · rename_i c5
            rw [if_neg (fun hh => hh.2 (hp (by
              by_cases c6 : pchk p = 0
              · exact c6
              · exact absurd ⟨rfl, c6⟩ c5)))]
            exact h
theorem step_low {now : Tm} {x : Ev} (h : stepS now x = 0) : stepS now (lowE x) = 0 := by
  have h1 := step_one h
  unfold lowE
  split
  · rename_i hc
    cases hr : x.rest with
    | true =>
      have hp := one_rest hr h1
      rw [hp] at hc
      rcases hc with hc | hc <;> cases hc
    | false =>
      obtain ⟨t, d, ⟨p0, p1, p2⟩, rs, sg, ps⟩ := x
      simp only at hr hc
      subst hr
      have h2 : oneS ⟨t, d, (p0 - 1, p1, p2), false, sg, ps⟩ = 0 := one_pit2 (fun hp => by
        have := pchk_bd hp
        simp only at this
        unfold pchk
        rw [if_neg (by simp only; omega)]) h1
      unfold stepS at h ⊢
      rw [if_neg (fun h => h h1)] at h
      rw [if_neg (fun h => h h2)]
      exact h
  · exact h
theorem checkFrom_low : ∀ (v : List Ev) (now : Tm) (i : Int), (checkFrom now i v).1 = 0 → (checkFrom now i (v.map lowE)).1 = 0
  | [], _, _, _ => rfl
  | x :: v, now, i, h => by
    have hs : stepS now x = 0 := by
      unfold checkFrom at h
      by_cases h0 : stepS now x = 0
      · exact h0
      · rw [if_pos h0] at h; exact absurd h h0
    have hn : (checkFrom (nextS x) (i + 1) v).1 = 0 := by
      unfold checkFrom at h
      rwa [if_neg (fun h => h hs)] at h
    show (checkFrom now i (lowE x :: v.map lowE)).1 = 0
    unfold checkFrom
    rw [if_neg (fun h => h (step_low hs)), (low_times x).2.2]
    exact checkFrom_low v _ _ hn
theorem SetV.low_ {l : List (List Ev)} (h : SetV l) : SetV (lowL l) := by
  refine ⟨by unfold lowL; rw [List.length_map]; exact h.len, fun v hv => ?_⟩
  obtain ⟨u, hu, rfl⟩ := List.mem_map.1 hv
  have h1 := h.chk u hu
  unfold checkS at h1 ⊢
  rw [List.length_map]
  split at h1
  · cases h1
  · rw [if_neg ‹_›]; exact checkFrom_low u _ _ h1
theorem slices_mom {l l' : List (List Ev)} (hm : momS l' = momS l) (h : (slicesE l).2 = 0) (h' : SetV l') : (slicesE l').2 = 0 := by
  obtain ⟨hz, _⟩ := slicesE_ok h
  unfold slicesE at h ⊢
  rw [if_neg (fun h0 => h0 hz)] at h
  rw [if_neg (fun h0 => h0 h'.chkA), hm]
  split at h
  · rename_i h0; exact absurd h h0
  · rename_i h0; rw [if_neg h0]
theorem low_sl {l : List (List Ev)} (h : (slicesE l).2 = 0) : (slicesE (lowL l)).2 = 0 := slices_mom (momS_low l) h (set_of_slices h).low_
theorem low_steps {l : List (List Ev)} {p : Plc} {x : Ev} (h : evA (lowL l) p = some x) : x.pit.1 ≠ 6 ∧ x.pit.1 ≠ 2 := by
  obtain ⟨i, j, v, rfl, hv, hx⟩ := evA_some h
  unfold lowL at hv
  rw [List.getElem?_map] at hv
  obtain ⟨u, _, rfl⟩ := Option.map_eq_some_iff.1 hv
  rw [List.getElem?_map] at hx
  obtain ⟨y, _, rfl⟩ := Option.map_eq_some_iff.1 hx
  unfold lowE
  split
  · simp only; omega
  · omega
end Go.Proofs.YtpkmiegccfhpnaaGreatDoor
