/- Further parts of the proofs of layer 31: FiLight, ArgsF. -/
import Derived.Test.YtpkmiegccfhpnaaGreatDoorK01
import Derived.Test.YtpkmiegccfhpnaaGreatDoorK02
import Derived.Test.YtpkmiegccfhpnaaGreatDoorK03
import Derived.Test.YtpkmiegccfhpnaaGreatDoorK04
import Derived.Test.YtpkmiegccfhpnaaGreatDoorK05
import Derived.Test.YtpkmiegccfhpnaaGreatDoorK06
import Derived.Test.YtpkmiegccfhpnaaGreatDoorK07
import Derived.Test.YtpkmiegccfhpnaaGreatDoorK08
import Derived.Test.YtpkmiegccfhpnaaGreatDoorK09
import Derived.Test.YtpkmiegccfhpnaaGreatDoorK10
import Derived.Test.YtpkmiegccfhpnaaGreatDoorK11
import Derived.Test.YtpkmiegccfhpnaaGreatDoorK12
import Derived.Test.YtpkmiegccfhpnaaGreatDoorK13
import Derived.Test.YtpkmiegccfhpnaaGreatDoorK14
import Derived.Test.YtpkmiegccfhpnaaGreatDoorK15
import Derived.Test.YtpkmiegccfhpnaaGreatDoorK16
import Derived.Test.YtpkmiegccfhpnaaGreatDoorK17
import Derived.Test.YtpkmiegccfhpnaaGreatDoorK18
import Derived.Test.YtpkmiegccfhpnaaGreatDoorK19
import Derived.Test.YtpkmiegccfhpnaaGreatDoorK20
import Derived.Test.YtpkmiegccfhpnaaGreatDoorK21
import Derived.Test.YtpkmiegccfhpnaaGreatDoorK22
import Derived.Test.YtpkmiegccfhpnaaGreatDoorK23
import Derived.Test.YtpkmiegccfhpnaaGreatDoorC03
import Derived.Test.YtpkmiegccfhpnaaGreatDoorProg
import Derived.WalkKit
import Derived.WalkSpells
import Derived.WalkLawsBesides
import Derived.Deep.QuietTactic
import Derived.BigQuiet
import Derived.BigGuardPart
import Derived.Lib.Hide
import Derived.RegionTactic
import Derived.ChangeAlike
import Derived.Laws.OwnMore
import Derived.Deep.AppendLies
import Derived.Deep.Draws
import Derived.Deep.RegionHeld3
import Derived.Maps.AppendAt
import Derived.OwnWalk
import Derived.StillTail
import Derived.Maps.OwnOps
import Derived.Maps.OwnSet
import Derived.Maps.Views
import Derived.Maps.RangeWalk
import Derived.WideKeyPair
import Derived.DeepKeys4
import Derived.LaidMore
import Derived.BigRegion
import Derived.ArgAppend
import Derived.IntWalk
import Derived.Deep.LoopGhost
import Derived.Carry
import Derived.RangeFuncOwn
import Derived.Deep.RegionLaw
import Derived.RangeFuncNested
import Derived.RangeFuncBound
import Derived.RangeFuncCalls
import Derived.RangeFuncLeaves
import Derived.OwnWalkIn
import Derived.TacticsInMore
import Derived.LoopNIn
import Derived.LoopIn
import Derived.Sort.LoopGhostIn
import Derived.Sort.MapsRangeIn
import Derived.Shelf.SlSortCmp.WholeK
import Derived.Shelf.SlSortCmp.NoneTotal
import Derived.Shelf.SlGeneric
import Derived.Shelf.SlLaysF0
import Derived.Ground.SlsfProg
import Derived.RangeFuncSeq
import Derived.ProofKit
import Derived.OpenShut
import Derived.Deep.Slices
import Derived.Deep.Fields
import Derived.ChangeSame
import Derived.ChangeArms
import Derived.Test.YtpkmiegccfhpnaaGreatDoorRows
import Derived.Stop.Joined
import Derived.ChangeOld
import Derived.Below
import Derived.Lib.SmallJoins
import Derived.SizedLaws
namespace Go.Proofs.YtpkmiegccfhpnaaGreatDoor
open Go.RowKit
set_option maxRecDepth 100000 in
set_option maxHeartbeats 400000 in
theorem ownEvents_big (A : Option Addr) (n c : Nat) (l : List Ev) (B : Nat) (w : World) (h : Reads w B 10 A n (csE l)) (hB : B ≤ w.heap.size) (hn : n * 80 ≤ 140737488355328) :
    Calls Tryz.prog 28 #[.slice A n c] w fun e w' => ∃ A' c', e = .returned (.slice A' n c') ∧ OwnE w' w.heap.size n A' c' l ∧ Below w.heap.size w w' := by
  obtain ⟨i0, hi0, hz0, hz1, hz2⟩ := info_parts event_info
  go_enter Tryz.func28, Tryz.ntmps28
  go_wp2_with (at_builtin; (refine wpList_append_any _ rfl (.tmp 3) (.tmp 4) _ rfl w.heap.size 49 i0 _ 10 80 Tryz.underlying36 hi0 hz0 hz1 hz2 rfl (by omega) (.slice (some ⟨w.heap.size, 0, none⟩) 0 0) 0 [] rfl (World.ownsRow_lit w #[] 0 (Nat.le_refl _) (by simp [maxLen]) rfl) B A n c (csE l) rfl (h.below hB (below_alloc (Below.refl _ _) _)) (one_csE l) (by simp only [maxLen]; omega) (by omega) (by simp) ?_); intro v1 w1 hown1 hg1 hat1)
  go_ret
  simp only [Nat.zero_add, List.nil_append] at hown1
  obtain ⟨A', c', e, ho⟩ := ownE_form hown1
  subst e
  exact ⟨A', c', rfl, ho, (below_alloc (Below.refl _ _) _).grown hg1 (by simp) (fun k hk => by simp [Value.ownBlock] at hk; omega)⟩
/-- What light tells. -/
def LRet31 (n : Nat) (w : World) (e : Ending) (w' : World) : Prop := ∃ b : Bool, e = .returned (.bool b) ∧ (b = true → n ≤ 9) ∧ Below w.heap.size w w'
/-- What the law's copy hands back. -/
def OwnRet31 (n : Nat) (l : List (List Ev)) (w : World) (e : Ending) (w' : World) : Prop := ∃ A' c', e = .returned (.slice A' n c') ∧ ReadsV w' w'.heap.size A' n l ∧ Below w.heap.size w w'
set_option maxRecDepth 100000 in
set_option maxHeartbeats 4000000 in
theorem light31_any (A : Option Addr) (n c : Nat) (l : List (List Ev)) (B : Nat) (w : World) (h : ReadsV w B A n l) (hB : B ≤ w.heap.size) (hn : n ≤ 9223372036854775807) :
    Calls Tryz.prog 10 #[.slice A n c] w fun e w' => LRet31 n w e w' := by
  have HL := Lib.hid h.len
  have HV := Lib.hid h
  clear h
  go_enter Tryz.func10, Tryz.ntmps10
  go_wp2_with fail
  go_loopg [3, 4] (min n 10) (fun gh u i wr => ∃ (k : Nat) (s : Int), k + gh = min n 10 ∧ i = .int .i64 (k : Int) ∧ u = .int .i64 s ∧ Below w.heap.size w wr)
  case atStart => exact ⟨0, 0, by omega, by simp, rfl, Below.refl _ _⟩
  case round =>
    obtain ⟨k, s, hkg, rfl, rfl, k0⟩ := hrel
    have wk : IntKind.i64.wrap ((k : Int) + 1) = (k : Int) + 1 := IntWalk.i64_in _ (by omega)
    cases gk with
    | zero =>
      by_cases hkn : k < n
      · have d0 : (k : Int) < (n : Int) := by omega
        have d1 : ¬ ((k : Int) < 10) := by omega
        have d2 : ¬ ((n : Int) ≤ 9) := by omega
        have d2' : decide (n ≤ 9) = false := decide_eq_false (by omega)
        clear hkn hkg
        go_wp2
        refine ret_of (by simp [results, Tryz.results10, go_sem, *]; repeat' (first | rfl | apply And.intro)) rfl ⟨false, rfl, (fun h => by cases h), k0⟩
      · have d0 : ¬ ((k : Int) < (n : Int)) := by omega
        have h9 : n ≤ 10 := by omega
        by_cases hn9 : n ≤ 9
        · have d2 : (n : Int) ≤ 9 := by omega
          have d2' : decide (n ≤ 9) = true := decide_eq_true hn9
          have H9 := Lib.hid hn9
          clear hkn hkg hn9 h9
          go_wp2
          refine ret_of (by simp [results, Tryz.results10, go_sem, *]; repeat' (first | rfl | apply And.intro)) rfl ⟨_, rfl, fun _ => H9.out, k0⟩
        · have d2 : ¬ ((n : Int) ≤ 9) := by omega
          have d2' : decide (n ≤ 9) = false := decide_eq_false hn9
          clear hkn hkg hn9 h9
          go_wp2
          refine ret_of (by simp [results, Tryz.results10, go_sem, *]; repeat' (first | rfl | apply And.intro)) rfl ⟨false, rfl, (fun h => by cases h), k0⟩
    | succ g =>
      have hkn : k < n := by omega
      have d0 : (k : Int) < (n : Int) := by omega
      have d1 : (k : Int) < 10 := by omega
      obtain ⟨v, hv⟩ := get_some (l := l) (k := k) (by have := HL.out; omega)
      obtain ⟨b, off, A', n', c', rfl, hab, cv, _, _, hvn⟩ := HV.out.voice hB k0 hkn hv
      clear hv hvn
      go_wp2
      go_roundg g
      case measure => omega
      case rel => exact ⟨k + 1, _, by omega, by go_num, rfl, k0⟩
set_option maxRecDepth 100000 in
set_option maxHeartbeats 4000000 in
theorem own31_any (A : Option Addr) (n c : Nat) (l : List (List Ev)) (B : Nat) (w : World) (h : ReadsV w B A n l) (hB : B ≤ w.heap.size) (hn : n ≤ 10) (hv9 : ∀ v ∈ l, v.length * 80 ≤ 140737488355328) :
    Calls Tryz.prog 12 #[.slice A n c] w fun e w' => OwnRet31 n l w e w' := by
  have HL := Lib.hid h.len
  have HV9 := Lib.hid hv9
  clear hv9
  obtain ⟨i0, hi0, hz0, hz1, hz2⟩ := info_parts voice_info
  go_enter Tryz.func12, Tryz.ntmps12
  go_wp2
  go_loopg [3, 4] n (fun gh u i wr => ∃ (k : Nat) (ds : List Pl), k + gh = n ∧ i = .int .i64 (k : Int) ∧ wr.ownsRow w.heap.size 36 1 u k (csV ds) ∧ ds.length = k ∧ VocAt wr w.heap.size ds l ∧ Below w.heap.size w wr)
  case atStart => exact ⟨0, [], by omega, by simp, ⟨rfl, .inl ⟨rfl, rfl⟩⟩, rfl, fun k d v hd _ => by simp at hd, Below.refl _ _⟩
  case round =>
    obtain ⟨k, ds, hkg, rfl, hrow, hdl, hvs, k0⟩ := hrel
    have wk : IntKind.i64.wrap ((k : Int) + 1) = (k : Int) + 1 := IntWalk.i64_in _ (by omega)
    cases gk with
    | zero =>
      obtain rfl : k = n := by omega
      have d0 : ¬ ((k : Int) < (k : Int)) := by omega
      obtain ⟨A9, c9, rfl, r9, _, _⟩ := own_reads hrow
      have HF := Lib.hid (show ReadsV wr wr.heap.size A9 k l from ⟨ds, by rw [hdl]; exact HL.out.symm, r9, fun j d v hd hv => by
        obtain ⟨h1, h2⟩ := hvs j d v hd hv
        obtain ⟨A8, c8, e8, r8, _, _⟩ := own_reads h1
        cases e8
        exact ⟨r8, h2⟩⟩)
      clear hdl
      go_wp2
      go_ret
      exact ⟨A9, c9, rfl, HF.out, k0⟩
    | succ g =>
      have hkn : k < n := by omega
      have d0 : (k : Int) < (n : Int) := by omega
      obtain ⟨v, hv⟩ := get_some (l := l) (k := k) (by have := HL.out; omega)
      have hv24 := HV9.out v (List.mem_of_getElem? hv)
      obtain ⟨b, off, A', n', c', rfl, hab, cv, rv, hn', hvn⟩ := h.voice hB k0 hkn hv
      have HVK := Lib.hid hv
      have HDL := Lib.hid hdl
      have q1 := ownEvents_big A' n' c' v B wr rv (Nat.le_trans hB k0.size) (by omega)
      clear hv hdl
      go_wp2_with fail
      refine q1.mono ?_
      rintro e w2 ⟨A2, c2, rfl, ho2, hb2⟩
      have row2 := own_call hrow hb2
      have vs2 := hvs.kept hb2
      have k2 := below_call k0 hb2
      have kz := k0.size
      have kz2 := hb2.size
      clear hvs hrow q1
      go_wp2_with (at_builtin; (refine wpList_append_any _ rfl (.tmp 11) (.tmp 17) 22 rfl w.heap.size 36 i0 _ 1 24 Tryz.underlying22 hi0 hz0 hz1 hz2 rfl (by omega) u3 k (csV ds) rfl (own_call row2 (below_alloc (Below.refl _ _) _)) (w2.heap.size + 1) (some ⟨w2.heap.size, 0, none⟩) 1 1 (csV [(A2, n', c2)]) rfl (Reads.newAt _ _ _ 1 1 _ rfl rfl) (one_csV _) (by simp only [maxLen]; omega) (by omega) (by simp; omega) ?_); intro v4 w4 hown4 hg4 hat4)
      have hB4 : Below w.heap.size w2 w4 := Below.grown (B := w.heap.size) (a := w2) ((below_alloc (Below.refl w2.heap.size w2) (.cells #[.slice A2 n' c2] 36)).mono (by omega)) hg4 (by simp; omega) (fun x hx => (row2.lt x hx).1)
      have rowA := own_call row2 (below_alloc (Below.refl w2.heap.size w2) (.cells #[.slice A2 n' c2] 36))
      have HNV := Lib.hid (show VocAt w4 w.heap.size (ds ++ [(A2, n', c2)]) l from fun j d u hd hu => by
        rcases Nat.lt_or_ge j ds.length with hj | hj
        · rw [List.getElem?_append_left hj] at hd
          have h1 := vs2 j d u hd hu
          exact ⟨own_far (own_call h1.1 (below_alloc (Below.refl w2.heap.size w2) (.cells #[.slice A2 n' c2] 36))) rowA hg4 (by decide), h1.2⟩
        · have hjk : j = k := by
            have h9 := (List.getElem?_eq_some_iff.1 hd).1
            rw [List.length_append, HDL.out] at h9
            rw [HDL.out] at hj
            have h10 : j < k + 1 := h9
            omega
          subst hjk
          rw [List.getElem?_append_right (by rw [HDL.out]; exact Nat.le_refl _), HDL.out] at hd
          simp at hd
          subst hd
          rw [HVK.out] at hu
          cases hu
          exact ⟨own_far (own_call (own_lower ho2.1 kz) (below_alloc (Below.refl w2.heap.size w2) (.cells #[.slice A2 n' c2] 36))) rowA hg4 (by decide), hn'⟩)
      go_roundg g
      case measure => omega
      case rel => exact ⟨k + 1, ds ++ [(A2, n', c2)], by omega, by go_num, by rw [csV_append]; exact hown4, by rw [List.length_append, HDL.out]; rfl, HNV.out, k2.trans hB4⟩
set_option maxRecDepth 100000 in
set_option maxHeartbeats 1000000 in
theorem same31_any (A A' : Option Addr) (n c c' : Nat) (l : List (List Ev)) (B B' : Nat) (w : World) (h : ReadsV w B A n l) (hB : B ≤ w.heap.size) (h' : ReadsV w B' A' n l) (hB' : B' ≤ w.heap.size) (hn : n ≤ 100000) :
    Calls Tryz.prog 17 #[.slice A n c, .slice A' n c'] w fun e w' => e = .returned (.bool true) ∧ Below w.heap.size w w' := by
  have HL := Lib.hid h.len
  go_enter Tryz.func17, Tryz.ntmps17
  go_wp2
  go_loopg [5] n (fun gh i wr => ∃ k : Nat, k + gh = n ∧ i = .int .i64 (k : Int) ∧ Below w.heap.size w wr)
  case atStart => exact ⟨0, by omega, by simp, Below.refl _ _⟩
  case round =>
    obtain ⟨k, hkg, rfl, k0⟩ := hrel
    have wk : IntKind.i64.wrap ((k : Int) + 1) = (k : Int) + 1 := IntWalk.i64_in _ (by omega)
    cases gk with
    | zero =>
      have d0 : ¬ ((k : Int) < (n : Int)) := by omega
      clear hkg
      go_wp2
      go_ret
      exact ⟨rfl, k0⟩
    | succ g =>
      have hkn : k < n := by omega
      have d0 : (k : Int) < (n : Int) := by omega
      obtain ⟨v, hv⟩ := get_some (l := l) (k := k) (by have := HL.out; omega)
      obtain ⟨b, off, A2, n2, c2, rfl, hab, cv, rv, hn2, hvn⟩ := h.voice hB k0 hkn hv
      obtain ⟨b', off', A3, n3, c3, rfl, hab', cv', rv', hn3, hvn'⟩ := h'.voice hB' k0 hkn hv
      have h23 : n3 = n2 := by omega
      subst h23
      have HQ := Lib.hid (fun W (hW : Below wr.heap.size wr W) => sameEvents_any A2 A3 n3 c2 c3 v B B' W (rv.below (Nat.le_trans hB k0.size) hW) (Nat.le_trans (Nat.le_trans hB k0.size) hW.size) (rv'.below (Nat.le_trans hB' k0.size) hW) (Nat.le_trans (Nat.le_trans hB' k0.size) hW.size) (by omega))
      clear hv
      go_wp2_with fail
      refine wp_region_calm (by kernel_rfl) (by kernel_rfl) ?_
      repeat (go_big_quiet_step ((go_at_call 38; exact calm_call (HQ.out _ (Calm.h _)))))
      refine wpQuiet_nil ?_
      intro wd gd
      go_wp2
      go_roundg g
      case measure => omega
      case rel => exact ⟨k + 1, by omega, by go_num, below_call k0 gd⟩
end Go.Proofs.YtpkmiegccfhpnaaGreatDoor
namespace Go.Proofs.YtpkmiegccfhpnaaGreatDoor
set_option maxRecDepth 100000
open Go.ChangeShapes Go.WideShapes Go.Deep Go.RowKit
section
variable {H : Type} {enc : TypeId × Value → H} {w : World} {base : Nat} {spare : Nat → Bool} {held : Bool}
theorem trod_ficta {n : Nat} {cs : List Value} {x : DataW H × List MemPlace} (h : DataW.trod enc Tryz.prog w base spare held n 39 cs = some x) : ∃ y : Fic, cs = cFic y := by
  obtain ⟨ys, m, rfl, _, hl, hyl, hf⟩ := DataW.trod_struct Tryz.underlying39 h
  rw [show Tryz.prog.cellsOf 39 = 4 from by kernel_rfl] at hl
  match cs, hl with
  | [a, b, c, d], _ =>
    have h0 : DataW.trod enc Tryz.prog w base spare held m 3 ((([a, b, c, d] : List Value).drop 0).take (Tryz.prog.cellsOf 3)) = ys[0]? := hf 0 _ rfl
    have h1 : DataW.trod enc Tryz.prog w base spare held m 3 ((([a, b, c, d] : List Value).drop 1).take (Tryz.prog.cellsOf 3)) = ys[1]? := hf 1 _ rfl
    have h2 : DataW.trod enc Tryz.prog w base spare held m 3 ((([a, b, c, d] : List Value).drop 2).take (Tryz.prog.cellsOf 3)) = ys[2]? := hf 2 _ rfl
    have h3 : DataW.trod enc Tryz.prog w base spare held m 3 ((([a, b, c, d] : List Value).drop 3).take (Tryz.prog.cellsOf 3)) = ys[3]? := hf 3 _ rfl
    rw [show Tryz.prog.cellsOf 3 = 1 from by kernel_rfl] at h0 h1 h2 h3
    simp only [List.drop_zero, List.drop_succ_cons, List.take_succ_cons, List.take_zero] at h0 h1 h2 h3
    rw [List.getElem?_eq_getElem (by rw [hyl]; decide)] at h0 h1 h2 h3
    obtain ⟨x1, e0, _, _⟩ := DataW.trod_int Tryz.underlying3 h0
    obtain ⟨x2, e1, _, _⟩ := DataW.trod_int Tryz.underlying3 h1
    obtain ⟨x3, e2, _, _⟩ := DataW.trod_int Tryz.underlying3 h2
    obtain ⟨x4, e3, _, _⟩ := DataW.trod_int Tryz.underlying3 h3
    simp at e0 e1 e2 e3
    subst e0 e1 e2 e3
    exact ⟨(x1, x2, x3, x4), rfl⟩
end
section
variable {H : Type} {enc : TypeId × Value → H} {W : World} {base b0 : Nat} {spare : Nat → Bool} {held : Bool} {r : Reach} {v : Value} {d : DataW H} {p : List MemPlace}
theorem arg_ficta (hv : Value.okWide Tryz.prog W r b0 23 v) (h : DataW.Trod enc Tryz.prog W base spare held 23 v d p) :
    ∃ (A : Option Addr) (n c : Nat) (l : List Fic), v = .slice A n c ∧ Reads W W.heap.size 4 A n (csFic l) ∧ n ≤ 9223372036854775807 := by
  obtain ⟨A, n, c, rfl⟩ := okWide_slice Tryz.underlying23 hv
  obtain ⟨fuel, hf⟩ := h
  rcases open_slice Tryz.underlying23 hf with ⟨hcs, _⟩ | ⟨a, len, cap, m, n', D, Pl, hcs, hb, hl, hm, hmm, hx, hi⟩
  · simp [Value.cells] at hcs
    obtain ⟨rfl, rfl, rfl⟩ := hcs
    exact ⟨none, 0, 0, [], rfl, Reads.none_, by omega⟩
  · simp [Value.cells] at hcs
    obtain ⟨rfl, rfl, rfl⟩ := hcs
    have hlm : n ≤ m := by rw [hmm]; split <;> omega
    rw [show Tryz.prog.cellsOf 39 = 4 from by kernel_rfl] at hi
    obtain ⟨l, hl1, hl2⟩ := list_of (fun i (x : Fic) => ∀ j u, (cFic x)[j]? = some u → W.cell? (a.add (i * 4 + j)) = some u) n fun i hin => by
      obtain ⟨cs', hc, ht'⟩ := hi i (by omega)
      obtain ⟨y, rfl⟩ := trod_ficta ht'
      obtain ⟨_, hcl, hat⟩ := World.cells?_some hc
      refine ⟨y, fun j u hu => ?_⟩
      have hj : j < 4 := by
        have := (List.getElem?_eq_some_iff.1 hu).1
        simpa [cFic] using this
      have := hat j hj
      rw [← Go.Deep.add_add, this, hu]
    exact ⟨some a, n, c, l, rfl, reads_of (f := cFic) (fun _ => rfl) (by omega) hl1 hl2, by unfold maxLen at hm; omega⟩
theorem weightsAll_mem {P : Program} {e : TypeId} : ∀ {l : List (DataW H)} {d : DataW H}, d ∈ l → ∀ n ∈ d.weights P e, n ∈ DataW.weightsAll P e l
  | x :: l, d, hd, n, hn => by
    simp only [DataW.weightsAll, List.mem_append]
    rcases List.mem_cons.1 hd with rfl | hd
    · exact .inl hn
    · exact .inr (weightsAll_mem hd n hn)
theorem trod_events_sz {fuel : Nat} {x : DataW H × List MemPlace} (hf : DataW.trod enc Tryz.prog W base spare held fuel 36 [v] = some x) :
    ∃ (A : Option Addr) (n c : Nat) (l : List Ev), v = .slice A n c ∧ Reads W W.heap.size 10 A n (csE l) ∧ n ≤ 9223372036854775807 ∧ ((∀ k ∈ x.1.weights Tryz.prog 36, k ≤ reachBytes) → n * 80 ≤ 140737488355328) := by
  rcases open_slice Tryz.underlying36 hf with ⟨hcs, _⟩ | ⟨a, len, cap, m, n', D, Pl, hcs, hb, hl, hm, hmm, hx, hi⟩
  · simp at hcs
    subst hcs
    exact ⟨none, 0, 0, [], rfl, Reads.none_, by omega, fun _ => by omega⟩
  · simp at hcs
    subst hcs
    have hlm : len ≤ m := by rw [hmm]; split <;> omega
    rw [show Tryz.prog.cellsOf 49 = 10 from by kernel_rfl] at hi
    obtain ⟨l, hl1, hl2⟩ := list_of (fun i (x : Ev) => ∀ j u, (cE x)[j]? = some u → W.cell? (a.add (i * 10 + j)) = some u) len fun i hin => by
      obtain ⟨cs', hc, ht'⟩ := hi i (by omega)
      obtain ⟨y, rfl⟩ := trod_event ht'
      obtain ⟨_, hcl, hat⟩ := World.cells?_some hc
      refine ⟨y, fun j u hu => ?_⟩
      have hj : j < 10 := by
        have := (List.getElem?_eq_some_iff.1 hu).1
        simpa [cE] using this
      have := hat j hj
      rw [← Go.Deep.add_add, this, hu]
    refine ⟨some a, len, cap, l, rfl, reads_of (f := cE) (fun _ => rfl) (by omega) hl1 hl2, by unfold maxLen at hm; omega, fun hz => ?_⟩
    rw [hx] at hz
    have hb80 : Tryz.prog.bytesOf 49 = 80 := by kernel_rfl
    have h1 := hz _ (by
      unfold DataW.weights
      rw [show Tryz.prog.underlying 36 = some (.slice 49) from Tryz.underlying36]
      exact List.mem_cons_self)
    rw [hb80] at h1
    simp at h1
    unfold reachBytes at h1
    omega
theorem arg_voicez (hv : Value.okWide Tryz.prog W r b0 22 v) (h : DataW.Trod enc Tryz.prog W base spare held 22 v d p) :
    ∃ (A : Option Addr) (n c : Nat) (l : List (List Ev)), v = .slice A n c ∧ ReadsV W W.heap.size A n l ∧ n ≤ 9223372036854775807 ∧ ((∀ k ∈ d.weights Tryz.prog 22, k ≤ reachBytes) → ∀ v ∈ l, v.length * 80 ≤ 140737488355328) := by
  obtain ⟨A, n, c, rfl⟩ := okWide_slice Tryz.underlying22 hv
  obtain ⟨fuel, hf⟩ := h
  rcases open_slice1 Tryz.underlying22 cells_events hf with ⟨hcs, _⟩ | ⟨a, len, cap, m, n', V, D, P9, hcs, hb, hl, hm, hmm, hx, hi⟩
  · simp [Value.cells] at hcs
    obtain ⟨rfl, rfl, rfl⟩ := hcs
    exact ⟨none, 0, 0, [], rfl, ⟨[], rfl, Reads.none_, fun k d v hd _ => by simp at hd⟩, by omega, fun _ v hv => by cases hv⟩
  · simp [Value.cells] at hcs
    obtain ⟨rfl, rfl, rfl⟩ := hcs
    have hlm : n ≤ m := by rw [hmm]; split <;> omega
    obtain ⟨ys, hy1, hy2⟩ := list_of (fun i (y : Pl × List Ev) => W.cell? (a.add i) = some (.slice y.1.1 y.1.2.1 y.1.2.2) ∧ Reads W W.heap.size 10 y.1.1 y.1.2.1 (csE y.2) ∧ y.1.2.1 ≤ 9223372036854775807 ∧ ((∀ k ∈ (D i).weights Tryz.prog 36, k ≤ reachBytes) → y.1.2.1 * 80 ≤ 140737488355328)) n fun i hin => by
      obtain ⟨h1, h2⟩ := hi i (by omega)
      obtain ⟨A', n'', c', l', e, hr, hn', hz⟩ := trod_events_sz h2
      rw [e] at h1
      exact ⟨((A', n'', c'), l'), h1, hr, hn', hz⟩
    have hR : ReadsV W W.heap.size (some a) n (ys.map (·.2)) := by
      refine ⟨ys.map (·.1), by simp, reads_of (f := slV) (size := 1) (l := ys.map (·.1)) (fun _ => rfl) (by omega) (by simpa using hy1) ?_, ?_⟩
      · intro i x hx j u hu
        rw [List.getElem?_map] at hx
        cases hyi : ys[i]? with
        | none => rw [hyi] at hx; cases hx
        | some y =>
          rw [hyi] at hx
          simp at hx
          subst hx
          have hj : j = 0 := by
            have := (List.getElem?_eq_some_iff.1 hu).1
            simp [slV] at this; omega
          subst hj
          simp [slV] at hu
          subst hu
          simpa using (hy2 i y hyi).1
      · intro k d v hd hv
        rw [List.getElem?_map] at hd hv
        cases hyi : ys[k]? with
        | none => rw [hyi] at hd; cases hd
        | some y =>
          rw [hyi] at hd hv
          simp at hd hv
          subst hd hv
          exact ⟨(hy2 k y hyi).2.1, (hy2 k y hyi).2.2.1⟩
    refine ⟨some a, n, c, ys.map (·.2), rfl, hR, by unfold maxLen at hm; omega, fun hz v hv => ?_⟩
    obtain ⟨y, hy, rfl⟩ := List.mem_map.1 hv
    obtain ⟨i, hyi⟩ := List.mem_iff_getElem?.1 hy
    obtain ⟨_, h2, _, h4⟩ := hy2 i y hyi
    have hin : i < n := by have := (List.getElem?_eq_some_iff.1 hyi).1; omega
    have hlen : y.2.length = y.1.2.1 := by have := h2.evlen; omega
    rw [hlen]
    refine h4 fun k hk => hz k ?_
    have hd : d = .slice ((List.range n).map D) ((List.range (m - n)).map fun j => D (n + j)) := congrArg Prod.fst hx
    rw [hd]
    unfold DataW.weights
    rw [show Tryz.prog.underlying 22 = some (.slice 36) from Tryz.underlying22]
    refine List.mem_cons_of_mem _ (List.mem_append.2 (.inl (weightsAll_mem (d := D i) (List.mem_map.2 ⟨i, List.mem_range.2 hin, rfl⟩) k hk)))
end
end Go.Proofs.YtpkmiegccfhpnaaGreatDoor
