/- Further parts of the proofs of layer 31: AlRefSlices, FiRChk, FiRMade. -/
import Derived.Test.YtpkmiegccfhpnaaGreatDoorK01
import Derived.Test.YtpkmiegccfhpnaaGreatDoorK02
import Derived.Test.YtpkmiegccfhpnaaGreatDoorK03
import Derived.Test.YtpkmiegccfhpnaaGreatDoorK04
import Derived.Test.YtpkmiegccfhpnaaGreatDoorK05
import Derived.Test.YtpkmiegccfhpnaaGreatDoorK06
import Derived.Test.YtpkmiegccfhpnaaGreatDoorK07
import Derived.Test.YtpkmiegccfhpnaaGreatDoorK08
import Derived.Test.YtpkmiegccfhpnaaGreatDoorK09
import Derived.Test.YtpkmiegccfhpnaaGreatDoorK10
import Derived.Test.YtpkmiegccfhpnaaGreatDoorK11
import Derived.Test.YtpkmiegccfhpnaaGreatDoorK12
import Derived.Test.YtpkmiegccfhpnaaGreatDoorK13
import Derived.Test.YtpkmiegccfhpnaaGreatDoorK14
import Derived.Test.YtpkmiegccfhpnaaGreatDoorK15
import Derived.Test.YtpkmiegccfhpnaaGreatDoorK16
import Derived.Test.YtpkmiegccfhpnaaGreatDoorK17
import Derived.Test.YtpkmiegccfhpnaaGreatDoorK18
import Derived.Test.YtpkmiegccfhpnaaGreatDoorK19
import Derived.Test.YtpkmiegccfhpnaaGreatDoorK20
import Derived.Test.YtpkmiegccfhpnaaGreatDoorK21
import Derived.Test.YtpkmiegccfhpnaaGreatDoorK22
import Derived.Test.YtpkmiegccfhpnaaGreatDoorK23
import Derived.Test.YtpkmiegccfhpnaaGreatDoorC02
import Derived.Test.YtpkmiegccfhpnaaGreatDoorProg
import Derived.WalkKit
import Derived.WalkSpells
import Derived.WalkLawsBesides
import Derived.Deep.QuietTactic
import Derived.BigQuiet
import Derived.BigGuardPart
import Derived.Lib.Hide
import Derived.RegionTactic
import Derived.ChangeAlike
import Derived.Laws.OwnMore
import Derived.Deep.AppendLies
import Derived.Deep.Draws
import Derived.Deep.RegionHeld3
import Derived.Maps.AppendAt
import Derived.OwnWalk
import Derived.StillTail
import Derived.IntWalk
import Derived.Deep.LoopGhost
import Derived.Deep.RegionLaw
import Derived.Maps.OwnOps
import Derived.Maps.OwnSet
import Derived.Maps.Views
import Derived.Maps.RangeWalk
import Derived.WideKeyPair
import Derived.DeepKeys4
import Derived.LaidMore
import Derived.BigRegion
import Derived.ArgAppend
import Derived.Carry
import Derived.RangeFuncOwn
import Derived.RangeFuncNested
import Derived.RangeFuncBound
import Derived.RangeFuncCalls
import Derived.RangeFuncLeaves
import Derived.OwnWalkIn
import Derived.TacticsInMore
import Derived.LoopNIn
import Derived.LoopIn
import Derived.Sort.LoopGhostIn
import Derived.Sort.MapsRangeIn
import Derived.Shelf.SlSortCmp.WholeK
import Derived.Shelf.SlSortCmp.NoneTotal
import Derived.Shelf.SlGeneric
import Derived.Shelf.SlLaysF0
import Derived.Ground.SlsfProg
import Derived.RangeFuncSeq
namespace Go.Proofs.YtpkmiegccfhpnaaGreatDoor
open Go.RowKit
set_option maxRecDepth 100000 in
set_option maxHeartbeats 8000000 in
theorem refSlices_any (A : Option Addr) (n c : Nat) (l : List (List Ev)) (B : Nat) (w : World) (h : ReadsV w B A n l) (hB : B ≤ w.heap.size) (hn : n ≤ 9223372036854775807) :
    Calls Tryz.prog 33 #[.slice A n c] w fun e w' => ∃ v, e = .returned (.tuple #[v, .int .i64 (slicesE l).2]) ∧ OwnS w' w.heap.size v (slicesE l).1 ∧ Below w.heap.size w w' := by
  have HL := Lib.hid h.len
  have q1 := refAlCheck_any A n c l B w h hB hn
  by_cases hz : (checkA l).1 = 0
  · obtain ⟨f1, f2, f3, f4, f5⟩ := set_facts hz
    rw [hz] at q1
    have q2 := fun W (hW : Below w.heap.size w W) => refMoments_any A n c l B W (h.below hB hW) (Nat.le_trans hB hW.size) (by have := HL.out; omega) (fun v hv => ⟨(f2 v hv).2.1, (f2 v hv).2.2⟩)
    have hml := momS_len l (fun v hv => (f2 v hv).2.2)
    have HE := Lib.hid (show slicesE l = if durFrom (momS l) 0 ((momS l).length - 1) ≠ 0 then ([], durFrom (momS l) 0 ((momS l).length - 1)) else ((List.range ((momS l).length - 1)).map (slOf l (momS l)), 0) by unfold slicesE; rw [if_neg (fun h => h hz)])
    obtain ⟨m, hm⟩ : ∃ m, m = momS l := ⟨_, rfl⟩
    rw [← hm] at q2 hml HE f5
    have HOK := Lib.hid f5
    have HV := Lib.hid f2
    have hn8 : n ≤ 8 := by have := HL.out; omega
    clear hm f1 f2 f3 f4 f5 hz
    obtain ⟨M, hM⟩ : ∃ M, M = m.length := ⟨_, rfl⟩
    have HM := Lib.hid hM.symm
    rw [← hM] at hml HE
    have hMb : M ≤ 32000 := by have := HL.out; omega
    clear hM hml
    obtain ⟨i0, hi0, hz0, hz1, hz2⟩ := info_parts sl_info
    obtain ⟨j0, hj0, gz0, gz1, gz2⟩ := info_parts num_info
    go_enter Tryz.func33, Tryz.ntmps33
    go_wp2_with fail
    refine q1.mono ?_
    rintro e w1 ⟨rfl, hb1⟩
    go_wp2_with fail
    refine (q2 _ hb1).mono ?_
    rintro e w2 ⟨vm, rfl, hT2, hb2⟩
    have k2 := below_call hb1 hb2
    obtain ⟨Am, cm, rfl, rm, _, _⟩ := hT2
    rw [HM.out] at rm ⊢
    clear q1 q2
    go_wp2_with fail
    go_loopg [7, 8, 9, 10, 11, 12] (M - 1) (fun g v i _ _ _ _ wr => ∃ k : Nat, k + g = M - 1 ∧ i = .int .i64 k ∧ OwnS wr w2.heap.size v ((List.range k).map (slOf l m)) ∧ Hid (durFrom m k g = durFrom m 0 (M - 1)) ∧ Below w2.heap.size w2 wr)
    case atStart => exact ⟨0, by omega, rfl, OwnS.nil_ _ _, Lib.hid rfl, Below.refl _ _⟩
    case round =>
      obtain ⟨k, hkg, rfl, hO, hd, k0⟩ := hrel
      cases gk with
      | zero =>
        have dk : decide ((k : Int) + 1 < (M : Int)) = false := by simp; omega
        have HE2 := Lib.hid (show slicesE l = ((List.range k).map (slOf l m), 0) by
          have hd0 : durFrom m 0 (M - 1) = 0 := hd.out.symm
          rw [HE.out, hd0, if_neg (fun h => h rfl), show M - 1 = k by omega])
        go_wp2
        go_ret2
        rw [HE2.out]
        exact ⟨_, rfl, hO.lower k2.size, below_call k2 k0⟩
      | succ g =>
        have hk1 : k + 1 < M := by omega
        have dk : decide ((k : Int) + 1 < (M : Int)) = true := by simp; omega
        have hx := mAt_some (m := m) (i := k + 1) (by have := HM.out; omega)
        have hy := mAt_some (m := m) (i := k) (by have := HM.out; omega)
        have hoy := HOK.out _ (List.mem_of_getElem? hy)
        obtain ⟨b, off, rfl, hab, c0, c1⟩ := rm.tm (Nat.le_refl _) k0 hk1 hx
        obtain ⟨b', off', hA', _, d0, d1⟩ := rm.tm (Nat.le_refl _) k0 (show k < M by omega) hy
        cases hA'
        have q3 := refSub_any (mAt m (k + 1)) (mAt m k)
        have HD := Lib.hid (show durE m k = (((subS (mAt m (k + 1)) (mAt m k)).1, (subS (mAt m (k + 1)) (mAt m k)).2.1), (subS (mAt m (k + 1)) (mAt m k)).2.2) from rfl)
        obtain ⟨⟨s0, s1, r⟩, hs⟩ : ∃ s, s = subS (mAt m (k + 1)) (mAt m k) := ⟨_, rfl⟩
        rw [← hs] at q3 HD
        have HSL := Lib.hid (show slOf l m k = ⟨mAt m k, (durE m k).1, l.map fun v => onS v (mAt m k)⟩ from rfl)
        obtain ⟨⟨x0, x1⟩, hxe⟩ : ∃ x, x = mAt m (k + 1) := ⟨_, rfl⟩
        obtain ⟨⟨y0, y1⟩, hye⟩ : ∃ x, x = mAt m k := ⟨_, rfl⟩
        rw [← hxe] at q3 c0 c1
        rw [← hye] at q3 d0 d1 HSL hoy
        have HOy := Lib.hid hoy
        clear hs hxe hye hx hy hoy
        simp only at c0 c1 d0 d1 q3
        have t1 : ((k : Int) + 1).toNat = k + 1 := by omega
        have t2 : IntKind.i64.wrap ((k : Int) + 1) = (k : Int) + 1 := IntWalk.i64_in _ (by omega)
        have t3 : (k : Int) + 1 < (M : Int) := by omega
        have t4 : (0 : Int) ≤ (k : Int) + 1 := by omega
        have t5 : (k : Int) < (M : Int) := by omega
        obtain ⟨wq, hwq⟩ : ∃ wq, wq = wr := ⟨_, rfl⟩
        subst hwq
        go_wp2_with fail
        go_region_held3 (fun w' => w'.cell? ⟨b, off + (k + 1) * 2, none⟩ = some (.int .i64 x0) ∧ w'.cell? ⟨b, off + (k + 1) * 2 + 1, none⟩ = some (.int .i64 x1) ∧ w'.cell? ⟨b, off + k * 2, none⟩ = some (.int .i64 y0) ∧ w'.cell? ⟨b, off + k * 2 + 1, none⟩ = some (.int .i64 y1) ∧ Below wq.heap.size wq w') ((refine (fun hb => ⟨(hb.cell (p := ⟨_, _, none⟩) hab).trans c0, (hb.cell (p := ⟨_, _, none⟩) hab).trans c1, (hb.cell (p := ⟨_, _, none⟩) hab).trans d0, (hb.cell (p := ⟨_, _, none⟩) hab).trans d1, hb⟩) ?_; repeat (first | with_reducible exact Below.refl _ _ | with_reducible exact hBd | with_reducible exact (show _ ∧ _ ∧ _ ∧ _ ∧ Below wq.heap.size wq _ by assumption).2.2.2.2 | with_reducible refine Below.drew ?_ | with_reducible refine below_alloc ?_ _ | (with_reducible refine Below.setCell ?_ ?_ _; rotate_left; (first | (have hz := hBd.size; show wq.heap.size ≤ _; simp only; omega) | (show wq.heap.size ≤ _; simp only; omega)))))) (first | (go_at_call 53; refine (q3 _).mono ?_; rintro e wd ⟨rfl, hbd⟩; have hBd := below_call (show _ ∧ _ ∧ _ ∧ _ ∧ Below wq.heap.size wq _ by assumption).2.2.2.2 hbd; have hcd := (bcell hbd).1; have hfd := (bcell hbd).2; try (have hzd : wq.heap.size < wd.heap.size := by have hz := hbd.size; simp at hz; omega)))
        all_goals
          have hB5 := (show _ ∧ _ ∧ _ ∧ _ ∧ Below wq.heap.size wq _ by assumption).2.2.2.2
          obtain ⟨wv, hwv⟩ := name_world hB5
          first
            | (refine pick_block (wv := wv) (lo := wq.heap.size) (t := 45) wd.heap.size #[.int .i64 s0, .int .i64 s1] ?_ ?_ ?_; (focus (have hz := hBd.size; omega)); (focus (rw [hwv]; repeat (first | with_reducible exact Blk.new _ _ _ | (with_reducible refine Blk.newAt _ _ _ _ ?_; first | rfl | (simp; done)) | with_reducible apply Blk.alloc | with_reducible apply Blk.drewN | with_reducible apply Blk.drew | with_reducible apply Blk.set_to | (with_reducible apply Blk.far_; (simp only [ne_eq]; omega)) | (with_reducible apply Blk.kept (hb := hbd)) | rfl))); intro gx hgx hgq5 BX5)
            | (refine pick_block (wv := wv) (lo := wq.heap.size) (t := 45) wq.heap.size #[.int .i64 s0, .int .i64 s1] ?_ ?_ ?_; (focus omega); (focus (rw [hwv]; repeat (first | with_reducible exact Blk.new _ _ _ | (with_reducible refine Blk.newAt _ _ _ _ ?_; first | rfl | (simp; done)) | with_reducible apply Blk.alloc | with_reducible apply Blk.drewN | with_reducible apply Blk.drew | with_reducible apply Blk.set_to | (with_reducible apply Blk.far_; (simp only [ne_eq]; omega)) | (with_reducible apply Blk.kept (hb := hbd)) | rfl))); intro gx hgx hgq5 BX5)
          rw [← hwv] at hB5 ⊢
          rw [← hgx]
          clear hwv hgx
          have kv := below_call k0 hB5
          have hO5 := hO.kept hB5
          have n0 := (hB5.cell (p := ⟨b, off + k * 2, none⟩) hab).trans d0
          have n1 := (hB5.cell (p := ⟨b, off + k * 2 + 1, none⟩) hab).trans d1
          have p0 : wv.cell? ⟨gx, 0, none⟩ = some (.int .i64 s0) := BX5.cell 0
          have p1 : wv.cell? ⟨gx, 1, none⟩ = some (.int .i64 s1) := BX5.cell 1
          have lg := BX5.lt
          have lb : b < wv.heap.size := Nat.lt_of_lt_of_le hab hB5.size
          try clear hcd hfd
          try clear hzd
          try clear hbd hBd
          clear c0 c1 d0 d1 hab hO k0 q3 t1 t2 t3 t4
          by_cases hr : r = 0
          · subst hr
            have HDU := Lib.hid (show durE m k = ((s0, s1), 0) from HD.out)
            have HN := Lib.hid (show durFrom m (k + 1) g = durFrom m 0 (M - 1) by rw [← hd.out, durFrom_next (by rw [HDU.out])])
            go_wp2_with fail
            go_region
            all_goals
              go_wp2_with fail
              go_loopg [12] n (fun g2 j wy => ∃ (q : Nat) (sv : Value), q + g2 = n ∧ j = .int .i64 q ∧ Blk wy wv.heap.size 85 #[.int .i64 y0, .int .i64 y1, .int .i64 s0, .int .i64 s1, sv] ∧ wy.ownsRow (wv.heap.size + 1) 3 1 sv q (csN ((l.take q).map fun v => onS v (y0, y1))) ∧ Below wv.heap.size wv wy)
              case atStart => exact ⟨0, .slice none 0 0, by omega, rfl, by repeat (first | with_reducible exact BX5 | with_reducible exact Blk.new _ _ _ | (with_reducible refine Blk.newAt _ _ _ _ ?_; first | rfl | (simp; done)) | with_reducible apply Blk.alloc | with_reducible apply Blk.drewN | with_reducible apply Blk.drew | with_reducible apply Blk.set_to | (with_reducible apply Blk.far_; (simp only [ne_eq]; omega)) | rfl), ⟨rfl, .inl ⟨rfl, rfl⟩⟩, by repeat (first | with_reducible exact Below.refl _ _ | with_reducible assumption | with_reducible refine below_drewN ?_ _ | with_reducible refine Below.drew ?_ | with_reducible refine below_alloc ?_ _ | (with_reducible refine Below.setCell ?_ ?_ _; rotate_left; ((try simp only); omega)))⟩
              case round =>
                obtain ⟨q, sv, hqg, rfl, bS, hown, m0⟩ := hrel
                have lS := bS.lt
                have c4 : wr.cell? ⟨wv.heap.size, 4, none⟩ = some sv := bS.cell 4
                cases gk with
                | zero =>
                  have hqn : q = n := by omega
                  subst hqn
                  obtain ⟨As, cs, hsv, _, _, _⟩ := own_reads hown
                  subst hsv
                  obtain ⟨ps, hps, hrow, hev⟩ := hO5.kept m0
                  rw [List.length_map, List.length_range] at hrow
                  have w0c : wr.cell? ⟨wv.heap.size, 0, none⟩ = some (.int .i64 y0) := bS.cell 0
                  have w1c : wr.cell? ⟨wv.heap.size, 1, none⟩ = some (.int .i64 y1) := bS.cell 1
                  have w2c : wr.cell? ⟨wv.heap.size, 2, none⟩ = some (.int .i64 s0) := bS.cell 2
                  have w3c : wr.cell? ⟨wv.heap.size, 3, none⟩ = some (.int .i64 s1) := bS.cell 3
                  have HSF := Lib.hid (show slOf l m k = ⟨(y0, y1), (s0, s1), l.map fun v => onS v (y0, y1)⟩ by rw [HSL.out, HDU.out])
                  have HTK := Lib.hid (show l.take q = l by rw [List.take_of_length_le (by have := HL.out; omega)])
                  rw [HTK.out] at hown
                  have hszw := m0.size
                  have hszv := kv.size
                  go_wp2_with (at_builtin; (refine wpList_append_any _ rfl (.tmp 72) (.tmp 74) 55 rfl w2.heap.size 85 i0 _ 5 56 Tryz.underlying55 hi0 hz0 hz1 hz2 rfl (by omega) _ k (csS ps) rfl (own_call hrow (below_alloc (Below.refl _ _) _)) (wr.heap.size + 1) (some ⟨wr.heap.size, 0, none⟩) 1 1 (csS [(⟨(y0, y1), (s0, s1), l.map fun v => onS v (y0, y1)⟩, (As, q, cs))]) rfl (Reads.newAt _ _ _ 1 5 _ rfl rfl) (one_csS _) (by simp only [maxLen]; omega) (by omega) (by simp; omega) ?_); intro v5 w5 hown5 hg5 hat5)
                  go_roundg g
                  case measure => omega
                  case rel =>
                    have hO6 := OwnS.snoc (p := (⟨(y0, y1), (s0, s1), l.map fun v => onS v (y0, y1)⟩, (As, q, cs))) hps (by rw [List.length_map, List.length_range]) hown5 (own_call hrow (below_alloc (Below.refl _ _) _)) (hev.kept (below_alloc (Below.refl _ _) _)) ⟨by simp only [List.length_map]; exact HL.out, own_lower (own_call hown (below_alloc (Below.refl _ _) _)) (by omega)⟩ hg5
                    refine ⟨k + 1, by omega, rfl, ?_, Lib.hid HN.out, Below.grown (B := w2.heap.size) (a := w2) (below_alloc (below_call kv m0) _) hg5 (by simp; omega) (fun x hx => (hrow.lt x hx).1)⟩
                    rw [range_next, HSF.out]
                    exact hO6
                | succ g2 =>
                  have hqn : q < n := by omega
                  have hqn' : (q : Int) < (n : Int) := by omega
                  obtain ⟨v, hv⟩ := get_some (l := l) (k := q) (by have := HL.out; omega)
                  obtain ⟨bl, offl, A', n', c', rfl, hbl, cl, hr, hn', hvn⟩ := h.voice hB (below_call k2 kv) hqn hv
                  have hvf := HV.out v (List.mem_of_getElem? hv)
                  have HT := Lib.hid (show (l.take (q + 1)).map (fun v => onS v (y0, y1)) = (l.take q).map (fun v => onS v (y0, y1)) ++ [onS v (y0, y1)] by rw [take_get hv, List.map_append]; rfl)
                  have hBv : B ≤ wv.heap.size := Nat.le_trans hB (below_call k2 kv).size
                  have q3 := fun W (hW : Below wv.heap.size wr W) => on_any A' n' c' v (y0, y1) B W (hr.below hBv (m0.trans hW)) (Nat.le_trans hBv (m0.trans hW).size) hn' hvf.2.1 HOy.out
                  obtain ⟨on, hon⟩ : ∃ x, x = onS v (y0, y1) := ⟨_, rfl⟩
                  rw [← hon] at q3 HT
                  clear hon hv hvf hr
                  have u0 := (m0.cell (p := ⟨b, off + k * 2, none⟩) lb).trans n0
                  have u1 := (m0.cell (p := ⟨b, off + k * 2 + 1, none⟩) lb).trans n1
                  have ul := (m0.cell (p := ⟨bl, offl + q, none⟩) hbl).trans cl
                  have hsz := m0.size
                  have hob : ∀ x, sv.ownBlock = some x → wv.heap.size + 1 ≤ x := fun x hx => (hown.lt x hx).1
                  go_wp2_with fail
                  go_region_law ((first | (go_simp; go_at_call 54; refine (q3 _ (show Below wv.heap.size wr _ by repeat (first | with_reducible exact Below.refl _ _ | with_reducible refine Below.drew ?_ | with_reducible refine below_drewN ?_ _))).mono ?_; rintro e wd ⟨rfl, hbd'⟩; have hbd := hbd'; have hBd : Below wv.heap.size wr wd := ((show Below wv.heap.size wr _ by repeat (first | with_reducible exact Below.refl _ _ | with_reducible refine Below.drew ?_ | with_reducible refine below_drewN ?_ _))).trans (hbd.mono (by simp; omega)); have hownd := own_call (own_call hown (by repeat (first | with_reducible exact Below.refl _ _ | with_reducible refine Below.drew ?_ | with_reducible refine below_drewN ?_ _ | with_reducible refine below_alloc ?_ _))) hbd; have bSd := Blk.kept (Blk.kept bS (by repeat (first | with_reducible exact Below.refl _ _ | with_reducible refine Below.drew ?_ | with_reducible refine below_drewN ?_ _ | with_reducible refine below_alloc ?_ _))) hbd; have c4d : wd.cell? ⟨wv.heap.size, 4, none⟩ = some sv := bSd.cell 4; have lSd := bSd.lt; have hszd := hBd.size) | ((refine step_is (.tmp 59) (.tmp 69) 40 sv ?_ ?_ ?_); (focus rfl); (focus rfl); (refine step_app _ (by rfl) (.tmp 59) (.tmp 69) 40 (by rfl) (wv.heap.size + 1) 3 j0 _ 1 8 Tryz.underlying40 hj0 gz0 gz1 gz2 rfl (by omega) sv q (csN ((l.take q).map fun v => onS v (y0, y1))) (by rfl) (own_call hownd (by repeat (first | with_reducible exact Below.refl _ _ | with_reducible refine Below.drew ?_ | with_reducible refine below_drewN ?_ _ | with_reducible refine below_alloc ?_ _))) (wd.heap.size + 1) (some ⟨wd.heap.size, 0, none⟩) 1 1 (csN [on]) (by rfl) (Reads.newAt _ _ _ 1 1 _ rfl rfl) (one_csN _) (by simp only [maxLen]; omega) (by omega) (by simp; omega) ?_); intro v4 w4 hown4 hg4 hat4; have bS4 := Blk.grow (bSd.alloc (.cells #[.int .i64 on] 3)) hg4 (fun he => by have := hob _ he.symm; omega); have f4 := bS4.frozen 4; have c44 : w4.cell? ⟨wv.heap.size, 4, none⟩ = some sv := bS4.cell 4; have l4 := bS4.lt; have hB4 : Below wv.heap.size wr w4 := Below.grown (B := wv.heap.size) (a := wr) (hBd.alloc (Nat.le_trans hsz hBd.size) _) hg4 (by simp; omega) (fun x hx => Nat.le_of_succ_le (hob x hx)); clear hat4; obtain ⟨A4, c4v, hv4, _, _⟩ := own_reads hown4; subst hv4)))
                  all_goals
                    have hBt := m0.trans hB4
                    go_wp2
                    go_roundg g2
                    case measure => omega
                    case rel =>
                      refine ⟨q + 1, _, by omega, rfl, (show Blk _ _ _ _ by repeat (first | with_reducible exact bS4 | with_reducible exact Blk.new _ _ _ | (with_reducible refine Blk.newAt _ _ _ _ ?_; first | rfl | (simp; done)) | with_reducible apply Blk.alloc | with_reducible apply Blk.drewN | with_reducible apply Blk.drew | with_reducible apply Blk.set_to | (with_reducible apply Blk.far_; (simp only [ne_eq]; omega)) | rfl)), ?_, by repeat (first | with_reducible exact Below.refl _ _ | with_reducible assumption | with_reducible refine below_drewN ?_ _ | with_reducible refine Below.drew ?_ | with_reducible refine below_alloc ?_ _ | (with_reducible refine Below.setCell ?_ ?_ _; rotate_left; ((try simp only); omega)))⟩
                      rw [HT.out, csN_append]
                      first | exact own_set hown4 (by simp) | exact own_drew (own_set hown4 (by simp)) _
          · have hb : (r != 0) = true := by simpa using hr
            have HE2 := Lib.hid (show slicesE l = ([], r) by
              have h0 : durFrom m 0 (M - 1) = r := by rw [← hd.out, durFrom_bad (by rw [HD.out]; exact hr), HD.out]
              rw [HE.out, h0, if_pos hr])
            clear hr
            go_wp2
            go_ret2
            rw [HE2.out]
            exact ⟨_, rfl, OwnS.nil_ _ _, below_call k2 kv⟩
  · have hb : ((checkA l).1 != 0) = true := by simpa using hz
    have E := Lib.hid (show slicesE l = ([], (checkA l).1) by unfold slicesE; rw [if_pos hz])
    clear hz
    go_enter Tryz.func33, Tryz.ntmps33
    go_wp2_with fail
    refine q1.mono ?_
    rintro e w1 ⟨rfl, hb1⟩
    go_wp2
    go_ret2
    rw [E.out]
    exact ⟨_, rfl, OwnS.nil_ _ _, hb1⟩
end Go.Proofs.YtpkmiegccfhpnaaGreatDoor
namespace Go.Proofs.YtpkmiegccfhpnaaGreatDoor
open Go.RowKit Go.Maps
set_option maxRecDepth 100000 in
set_option maxHeartbeats 8000000 in
theorem rcheck_ok {w : World} (A : Option Addr) (n c : Nat) (l : List (List Ev)) (B : Nat) (hV : ReadsV w B A n l) (hB : B ≤ w.heap.size) (hn : n ≤ 1000) (A2 : Option Addr) (m c2 : Nat) (L : List Fic) (B2 : Nat) (h2 : Reads w B2 4 A2 m (csFic L)) (hB2 : B2 ≤ w.heap.size) (hm : m ≤ 1000000) :
    Calls Tryz.prog 14 #[.slice A n c, .slice A2 m c2] w fun e w' => e = .returned (.tuple #[.int .i64 (checkF l L).1, .int .i64 (checkF l L).2]) ∧ Below w.heap.size w w' := by
  have qs := refSlices_any A n c l B w hV hB (by omega)
  by_cases hs : (slicesE l).2 = 0
  · have E := Lib.hid (show checkF l L = chkF l none 0 L by unfold checkF; rw [if_neg (fun h => h hs)])
    rw [hs] at qs
    rw [E.out]
    have HV := Lib.hid hV
    have HR2 := Lib.hid h2
    have HLN := Lib.hid hV.len
    have HLM := Lib.hid (show L.length = m from h2.len (size := 4) (l := L) (f := cFic) (fun _ => rfl) (by decide))
    clear hV h2 hs E
    go_enter Tryz.func14, Tryz.ntmps14
    go_wp2_with fail
    refine qs.mono ?_
    rintro e w1 ⟨v, rfl, ho, hb1⟩
    clear qs ho
    go_wp2_with fail
    go_loopg [8, 9] m (fun gh i _ wr => ∃ k : Nat, k + gh = m ∧ i = .int .i64 (k : Int) ∧ Below w.heap.size w wr ∧ Hid (chkF l (prevF L k) (k : Int) (L.drop k) = chkF l none 0 L))
    case atStart => exact ⟨0, by omega, by simp, hb1, Lib.hid rfl⟩
    case round =>
      clear hb1
      obtain ⟨k, hkg, rfl, kr, hE⟩ := hrel
      have wk : IntKind.i64.wrap ((k : Int) + 1) = (k : Int) + 1 := IntWalk.i64_in _ (by omega)
      cases gk with
      | zero =>
        have hk : k = m := by omega
        have d0 : ¬ ((k : Int) < (m : Int)) := by omega
        have HB := Lib.hid (show chkF l none 0 L = (0, 0) by rw [← hE.out, List.drop_of_length_le (by have := HLM.out; omega)]; rfl)
        clear hE hkg hk
        go_wp2
        refine ret_of (by simp [results, Tryz.results14, go_sem, *]; repeat' (first | rfl | apply And.intro)) rfl ⟨?_, kr⟩
        rw [HB.out]
      | succ gh =>
        have hkm : k < m := by omega
        have d0 : (k : Int) < (m : Int) := by omega
        obtain ⟨⟨x1, x2, x3, x4⟩, hx⟩ := get_some (l := L) (k := k) (by have := HLM.out; omega)
        obtain ⟨bf, off, hA2, hbf, hcf⟩ := Reads.elem (f := cFic) (fun _ => rfl) (HR2.out.below hB2 kr) hkm hx
        subst hA2
        have e0 := hcf 0 _ rfl
        have e1 := hcf 1 _ rfl
        have e2 := hcf 2 _ rfl
        have e3 := hcf 3 _ rfl
        simp only [Nat.add_zero, ← Nat.add_assoc] at e0 e1 e2 e3
        have lbf : bf < wr.heap.size := by have := kr.size; omega
        have HD := Lib.hid (drop_get hx)
        have HX := Lib.hid hx
        clear hx hcf
        by_cases c1 : x1 < 0
        · have HOUT := Lib.hid (show inF l (x1, x2, x3, x4) = false by unfold inF; rw [decide_eq_false]; simp only; omega)
          have t1 : decide (x1 < 0) = true := decide_eq_true c1
          have HB := Lib.hid (show chkF l none 0 L = (2, (k : Int)) by rw [← hE.out, HD.out]; exact chkF_bad (one_out HOUT.out) (by decide))
          clear HOUT
          go_wp2_with fail
          obtain ⟨w5, hw5⟩ : ∃ z, z = wr.alloc (.cells #[.int .i64 x1, .int .i64 x2, .int .i64 x3, .int .i64 x4] 39) := ⟨_, rfl⟩
          have k5 : Below wr.heap.size wr w5 := by rw [hw5]; repeat (first | with_reducible exact Below.refl _ _ | with_reducible assumption | with_reducible refine below_drewN ?_ _ | with_reducible refine Below.drew ?_ | with_reducible refine below_alloc ?_ _ | (with_reducible refine Below.setCell ?_ ?_ _; rotate_left; ((try simp only); omega)))
          have b5 : Blk w5 wr.heap.size 39 #[.int .i64 x1, .int .i64 x2, .int .i64 x3, .int .i64 x4] := by rw [hw5]; exact Blk.new _ _ _
          have kr5 := below_call kr k5
          rw [← hw5]
          have f0 := b5.cell 0
          have f1 := b5.cell 1
          have lf := b5.lt
          simp only [List.getElem?_toArray, List.getElem?_cons_zero, List.getElem?_cons_succ] at f0 f1
          clear e0 e1 e2 e3 kr
          clear c1
          refine wp_region_calm (by kernel_rfl) (by kernel_rfl) ?_
          repeat (go_big_quiet_step (fail))
          refine wpQuiet_nil ?_
          intro wd gd
          have krd := below_call kr5 gd
          go_wp2
          refine ret_of (by simp [results, Tryz.results14, go_sem, *]; repeat' (first | rfl | apply And.intro)) rfl ⟨?_, by repeat (first | with_reducible exact Below.refl _ _ | with_reducible assumption | with_reducible refine below_drewN ?_ _ | with_reducible refine Below.drew ?_ | with_reducible refine below_alloc ?_ _ | (with_reducible refine Below.setCell ?_ ?_ _; rotate_left; ((try simp only); omega)))⟩
          rw [HB.out]
        · have t1 : decide (x1 < 0) = false := decide_eq_false c1
          by_cases c2 : (n : Int) ≤ x1
          · have HOUT := Lib.hid (show inF l (x1, x2, x3, x4) = false by unfold inF; rw [decide_eq_false]; simp only; have := HLN.out; omega)
            have t2 : decide ((n : Int) ≤ x1) = true := decide_eq_true c2
            have HB := Lib.hid (show chkF l none 0 L = (2, (k : Int)) by rw [← hE.out, HD.out]; exact chkF_bad (one_out HOUT.out) (by decide))
            clear HOUT
            go_wp2_with fail
            obtain ⟨w5, hw5⟩ : ∃ z, z = wr.alloc (.cells #[.int .i64 x1, .int .i64 x2, .int .i64 x3, .int .i64 x4] 39) := ⟨_, rfl⟩
            have k5 : Below wr.heap.size wr w5 := by rw [hw5]; repeat (first | with_reducible exact Below.refl _ _ | with_reducible assumption | with_reducible refine below_drewN ?_ _ | with_reducible refine Below.drew ?_ | with_reducible refine below_alloc ?_ _ | (with_reducible refine Below.setCell ?_ ?_ _; rotate_left; ((try simp only); omega)))
            have b5 : Blk w5 wr.heap.size 39 #[.int .i64 x1, .int .i64 x2, .int .i64 x3, .int .i64 x4] := by rw [hw5]; exact Blk.new _ _ _
            have kr5 := below_call kr k5
            rw [← hw5]
            have f0 := b5.cell 0
            have f1 := b5.cell 1
            have lf := b5.lt
            simp only [List.getElem?_toArray, List.getElem?_cons_zero, List.getElem?_cons_succ] at f0 f1
            clear e0 e1 e2 e3 kr
            clear c1 c2
            refine wp_region_calm (by kernel_rfl) (by kernel_rfl) ?_
            repeat (go_big_quiet_step (fail))
            refine wpQuiet_nil ?_
            intro wd gd
            have krd := below_call kr5 gd
            go_wp2
            refine ret_of (by simp [results, Tryz.results14, go_sem, *]; repeat' (first | rfl | apply And.intro)) rfl ⟨?_, by repeat (first | with_reducible exact Below.refl _ _ | with_reducible assumption | with_reducible refine below_drewN ?_ _ | with_reducible refine Below.drew ?_ | with_reducible refine below_alloc ?_ _ | (with_reducible refine Below.setCell ?_ ?_ _; rotate_left; ((try simp only); omega)))⟩
            rw [HB.out]
          · have t2 : decide ((n : Int) ≤ x1) = false := decide_eq_false c2
            obtain ⟨i, rfl⟩ : ∃ i : Nat, x1 = (i : Int) := ⟨x1.toNat, by omega⟩
            have hin : i < n := by omega
            have hin' : (i : Int) < (n : Int) := by omega
            have t2' : decide (n ≤ i) = false := decide_eq_false (by omega)
            obtain ⟨v, hv⟩ := get_some (l := l) (k := i) (by have := HLN.out; omega)
            obtain ⟨b, ob, A', n', c', rfl, hab, cv, rv, hn', hvn⟩ := HV.out.voice hB kr hin hv
            have HVV := Lib.hid hv
            have HVN := Lib.hid hvn
            clear c1 c2 hv hvn
            by_cases c3 : x2 < 0
            · have HOUT := Lib.hid (show inF l ((i : Int), x2, x3, x4) = false by unfold inF; rw [decide_eq_false]; simp only; omega)
              have t3 : decide (x2 < 0) = true := decide_eq_true c3
              have HB := Lib.hid (show chkF l none 0 L = (2, (k : Int)) by rw [← hE.out, HD.out]; exact chkF_bad (one_out HOUT.out) (by decide))
              clear HOUT
              go_wp2_with fail
              obtain ⟨w5, hw5⟩ : ∃ z, z = wr.alloc (.cells #[.int .i64 (i : Int), .int .i64 x2, .int .i64 x3, .int .i64 x4] 39) := ⟨_, rfl⟩
              have k5 : Below wr.heap.size wr w5 := by rw [hw5]; repeat (first | with_reducible exact Below.refl _ _ | with_reducible assumption | with_reducible refine below_drewN ?_ _ | with_reducible refine Below.drew ?_ | with_reducible refine below_alloc ?_ _ | (with_reducible refine Below.setCell ?_ ?_ _; rotate_left; ((try simp only); omega)))
              have b5 : Blk w5 wr.heap.size 39 #[.int .i64 (i : Int), .int .i64 x2, .int .i64 x3, .int .i64 x4] := by rw [hw5]; exact Blk.new _ _ _
              have kr5 := below_call kr k5
              rw [← hw5]
              have f0 := b5.cell 0
              have f1 := b5.cell 1
              have lf := b5.lt
              simp only [List.getElem?_toArray, List.getElem?_cons_zero, List.getElem?_cons_succ] at f0 f1
              clear e0 e1 e2 e3 kr
              clear c3
              refine wp_region_calm (by kernel_rfl) (by kernel_rfl) ?_
              repeat (go_big_quiet_step (fail))
              refine wpQuiet_nil ?_
              intro wd gd
              have krd := below_call kr5 gd
              go_wp2
              refine ret_of (by simp [results, Tryz.results14, go_sem, *]; repeat' (first | rfl | apply And.intro)) rfl ⟨?_, by repeat (first | with_reducible exact Below.refl _ _ | with_reducible assumption | with_reducible refine below_drewN ?_ _ | with_reducible refine Below.drew ?_ | with_reducible refine below_alloc ?_ _ | (with_reducible refine Below.setCell ?_ ?_ _; rotate_left; ((try simp only); omega)))⟩
              rw [HB.out]
            · have t3 : decide (x2 < 0) = false := decide_eq_false c3
              by_cases c4 : (n' : Int) ≤ x2
              · have HOUT := Lib.hid (show inF l ((i : Int), x2, x3, x4) = false by unfold inF; rw [decide_eq_false]; simp only [Int.toNat_natCast]; rw [getD_at HVV.out, HVN.out]; omega)
                have t4 : decide ((n' : Int) ≤ x2) = true := decide_eq_true c4
                have HB := Lib.hid (show chkF l none 0 L = (2, (k : Int)) by rw [← hE.out, HD.out]; exact chkF_bad (one_out HOUT.out) (by decide))
                clear HOUT
                go_wp2_with fail
                obtain ⟨w5, hw5⟩ : ∃ z, z = wr.alloc (.cells #[.int .i64 (i : Int), .int .i64 x2, .int .i64 x3, .int .i64 x4] 39) := ⟨_, rfl⟩
                have k5 : Below wr.heap.size wr w5 := by rw [hw5]; repeat (first | with_reducible exact Below.refl _ _ | with_reducible assumption | with_reducible refine below_drewN ?_ _ | with_reducible refine Below.drew ?_ | with_reducible refine below_alloc ?_ _ | (with_reducible refine Below.setCell ?_ ?_ _; rotate_left; ((try simp only); omega)))
                have b5 : Blk w5 wr.heap.size 39 #[.int .i64 (i : Int), .int .i64 x2, .int .i64 x3, .int .i64 x4] := by rw [hw5]; exact Blk.new _ _ _
                have kr5 := below_call kr k5
                rw [← hw5]
                have f0 := b5.cell 0
                have f1 := b5.cell 1
                have lf := b5.lt
                simp only [List.getElem?_toArray, List.getElem?_cons_zero, List.getElem?_cons_succ] at f0 f1
                clear e0 e1 e2 e3 kr
                have cv5 := (k5.cell (p := ⟨b, ob + i, none⟩) hab).trans cv
                have lb5 : b < w5.heap.size := by have := k5.size; omega
                clear c3 c4
                refine wp_region_calm (by kernel_rfl) (by kernel_rfl) ?_
                repeat (go_big_quiet_step (fail))
                refine wpQuiet_nil ?_
                intro wd gd
                have krd := below_call kr5 gd
                go_wp2
                refine ret_of (by simp [results, Tryz.results14, go_sem, *]; repeat' (first | rfl | apply And.intro)) rfl ⟨?_, by repeat (first | with_reducible exact Below.refl _ _ | with_reducible assumption | with_reducible refine below_drewN ?_ _ | with_reducible refine Below.drew ?_ | with_reducible refine below_alloc ?_ _ | (with_reducible refine Below.setCell ?_ ?_ _; rotate_left; ((try simp only); omega)))⟩
                rw [HB.out]
              · have t4 : decide ((n' : Int) ≤ x2) = false := decide_eq_false c4
                obtain ⟨j, rfl⟩ : ∃ j : Nat, x2 = (j : Int) := ⟨x2.toNat, by omega⟩
                have hjn : j < n' := by omega
                have t4' : decide (n' ≤ j) = false := decide_eq_false (by omega)
                have HIN := Lib.hid (show inF l ((i : Int), (j : Int), x3, x4) = true by unfold inF; rw [decide_eq_true_eq]; simp only [Int.toNat_natCast]; rw [getD_at HVV.out, HVN.out]; have := HLN.out; omega)
                obtain ⟨ev, hev⟩ := get_some (l := v) (k := j) (by have := HVN.out; omega)
                have qf := fun W (hW : Below w.heap.size w W) => rplain_ok (some ⟨b, ob, none⟩) n c l B W (HV.out.below hB hW) (Nat.le_trans hB hW.size) (evA_nat HVV.out hev)
                have hfd : ∀ d, freeB l ((i : Int), (j : Int)) = d → Hid (freeB l ((i : Int), (j : Int)) = d) := fun _ h => h
                clear c3 c4 hev
                go_wp2_with fail
                obtain ⟨w5, hw5⟩ : ∃ z, z = wr.alloc (.cells #[.int .i64 (i : Int), .int .i64 (j : Int), .int .i64 x3, .int .i64 x4] 39) := ⟨_, rfl⟩
                have k5 : Below wr.heap.size wr w5 := by rw [hw5]; repeat (first | with_reducible exact Below.refl _ _ | with_reducible assumption | with_reducible refine below_drewN ?_ _ | with_reducible refine Below.drew ?_ | with_reducible refine below_alloc ?_ _ | (with_reducible refine Below.setCell ?_ ?_ _; rotate_left; ((try simp only); omega)))
                have b5 : Blk w5 wr.heap.size 39 #[.int .i64 (i : Int), .int .i64 (j : Int), .int .i64 x3, .int .i64 x4] := by rw [hw5]; exact Blk.new _ _ _
                have kr5 := below_call kr k5
                rw [← hw5]
                have f0 := b5.cell 0
                have f1 := b5.cell 1
                have lf := b5.lt
                have cv5 := (k5.cell (p := ⟨b, ob + i, none⟩) hab).trans cv
                have lb5 : b < w5.heap.size := by have := k5.size; omega
                simp only [List.getElem?_toArray, List.getElem?_cons_zero, List.getElem?_cons_succ] at f0 f1
                clear e0 e1 e2 e3 kr cv hab k5 hw5
                refine wp_region_calm (by kernel_rfl) (by kernel_rfl) ?_
                repeat (go_big_quiet_step (fail))
                refine wpQuiet_nil ?_
                intro wd gd
                have krd := below_call kr5 gd
                have bd := b5.kept gd
                clear f0 f1 lf cv5 lb5 kr5 b5 gd
                have f0 := bd.cell 0
                have f1 := bd.cell 1
                have f2 := bd.cell 2
                have f3 := bd.cell 3
                have lf := bd.lt
                simp only [List.getElem?_toArray, List.getElem?_cons_zero, List.getElem?_cons_succ] at f0 f1 f2 f3
                go_wp2_with fail
                refine Calls.mono (qf _ krd) ?_
                rintro e w6 ⟨rfl, hb6⟩
                have kr6 := below_call krd hb6
                have b6 := bd.kept hb6
                clear f0 f1 f2 f3 lf qf bd krd hb6
                have f0 := b6.cell 0
                have f1 := b6.cell 1
                have f2 := b6.cell 2
                have f3 := b6.cell 3
                have lf := b6.lt
                simp only [List.getElem?_toArray, List.getElem?_cons_zero, List.getElem?_cons_succ] at f0 f1 f2 f3
                obtain ⟨fb, hfb⟩ : ∃ z, z = freeB l ((i : Int), (j : Int)) := ⟨_, rfl⟩
                have HFB := Lib.hid hfb.symm
                rw [← hfb]
                clear hfb
                by_cases g1 : fb = false ∨ (x3 ≠ -1 ∧ x3 ≠ 1)
                · have HB := Lib.hid (show chkF l none 0 L = (3, (k : Int)) by rw [← hE.out, HD.out]; exact chkF_bad (one_form HIN.out (by simp only; rw [HFB.out]; exact g1)) (by decide))
                  have hor : (fb = false) ∨ (fb = true ∧ (x3 != -1) = true ∧ (x3 != 1) = true) := by
                    rcases g1 with g1 | g1
                    · exact .inl g1
                    · cases fb
                      · exact .inl rfl
                      · exact .inr ⟨rfl, by simpa using g1.1, by simpa using g1.2⟩
                  clear g1
                  rcases hor with rfl | ⟨rfl, z1, z2⟩
                  · go_wp2
                    refine ret_of (by simp [results, Tryz.results14, go_sem, *]; repeat' (first | rfl | apply And.intro)) rfl ⟨?_, kr6⟩
                    rw [HB.out]
                  · go_wp2
                    refine ret_of (by simp [results, Tryz.results14, go_sem, *]; repeat' (first | rfl | apply And.intro)) rfl ⟨?_, kr6⟩
                    rw [HB.out]
                · have hg : fb = true ∧ (x3 = -1 ∨ x3 = 1) := by
                    cases fb
                    · exact absurd (.inl rfl) g1
                    · exact ⟨rfl, by omega⟩
                  obtain ⟨rfl, hx3⟩ := hg
                  have HG1 := Lib.hid (show ¬ (freeB l ((i : Int), (j : Int)) = false ∨ (x3 ≠ -1 ∧ x3 ≠ 1)) by rw [HFB.out]; exact g1)
                  clear g1
                  by_cases g2 : x4 < 1 ∨ 3 < x4
                  · have HB := Lib.hid (show chkF l none 0 L = (8, (k : Int)) by rw [← hE.out, HD.out]; exact chkF_bad (one_kind HIN.out HG1.out g2) (by decide))
                    rcases hx3 with rfl | rfl <;>
                    · by_cases g3 : x4 < 1
                      · have t5 : decide (x4 < 1) = true := decide_eq_true g3
                        clear g2 g3
                        go_wp2
                        refine ret_of (by simp [results, Tryz.results14, go_sem, *]; repeat' (first | rfl | apply And.intro)) rfl ⟨?_, kr6⟩
                        rw [HB.out]
                      · have t5 : decide (x4 < 1) = false := decide_eq_false g3
                        have t6 : decide (3 < x4) = true := decide_eq_true (by omega)
                        clear g2 g3
                        go_wp2
                        refine ret_of (by simp [results, Tryz.results14, go_sem, *]; repeat' (first | rfl | apply And.intro)) rfl ⟨?_, kr6⟩
                        rw [HB.out]
                  · have HONE := Lib.hid (one_last (p := prevF L k) HIN.out HG1.out g2)
                    have t5 : decide (x4 < 1) = false := decide_eq_false (by omega)
                    have t6 : decide (3 < x4) = false := decide_eq_false (by omega)
                    clear g2
                    by_cases hk0 : k = 0
                    · have HNX := Lib.hid (show chkF l (prevF L (k + 1)) (((k + 1 : Nat)) : Int) (L.drop (k + 1)) = chkF l none 0 L by
                        rw [prevF_next HX.out, ← hE.out, HD.out, chkF_next (HONE.out.trans (by rw [hk0]; rfl))]
                        rw [show (((k + 1 : Nat)) : Int) = (k : Int) + 1 by omega])
                      have t7 : decide (0 < k) = false := decide_eq_false (by omega)
                      have t7' : decide ((0 : Int) < (k : Int)) = false := decide_eq_false (by omega)
                      clear hk0
                      rcases hx3 with rfl | rfl <;>
                      · go_wp2_with fail
                        clear f0 f1 f2 f3 lf b6
                        refine wp_region_calm (by kernel_rfl) (by kernel_rfl) ?_
                        repeat (go_big_quiet_step (fail))
                        refine wpQuiet_nil ?_
                        intro w7 g7
                        have kr7 := below_call kr6 g7
                        go_wp2
                        go_roundg gh
                        case measure => omega
                        case rel => exact ⟨k + 1, by omega, by go_num, kr7, HNX⟩
                    · obtain ⟨kp, hkp⟩ : ∃ kp, k = kp + 1 := ⟨k - 1, by omega⟩
                      obtain ⟨⟨y1, y2, y3, y4⟩, hy⟩ := get_some (l := L) (k := kp) (by have := HLM.out; omega)
                      have HPV := Lib.hid (show prevF L k = some (y1, y2, y3, y4) by unfold prevF; rw [if_neg hk0, hkp]; exact hy)
                      obtain ⟨bf', off', hA2, hbf', hcf⟩ := Reads.elem (f := cFic) (fun _ => rfl) (HR2.out.below hB2 kr6) (show kp < m by omega) hy
                      cases hA2
                      have p0 := hcf 0 _ rfl
                      have p1 := hcf 1 _ rfl
                      simp only [Nat.add_zero, ← Nat.add_assoc] at p0 p1
                      have lbf6 : bf < w6.heap.size := by have := kr6.size; omega
                      have wk1 : IntKind.i64.wrap ((k : Int) - 1) = (kp : Int) := by rw [show (k : Int) - 1 = (kp : Int) by omega]; exact IntWalk.i64_in _ (by omega)
                      have hkpm : (kp : Int) < (m : Int) := by omega
                      have t7 : decide (0 < k) = true := decide_eq_true (by omega)
                      have t7' : decide ((0 : Int) < (k : Int)) = true := decide_eq_true (by omega)
                      have p2 := hcf 2 _ rfl
                      have p3 := hcf 3 _ rfl
                      simp only [← Nat.add_assoc] at p2 p3
                      obtain ⟨r, hr⟩ : ∃ z, z = decide (lessF (y1, y2, y3, y4) ((i : Int), (j : Int), x3, x4)) := ⟨_, rfl⟩
                      have HOR := Lib.hid hr
                      have qo := fun (W : World) => rafter_ok ((i : Int), (j : Int), x3, x4) (y1, y2, y3, y4) W
                      simp only [vF] at qo
                      simp only [← hr] at qo
                      have HKP := Lib.hid hkp
                      clear hcf hy hk0 hr hkp
                      have CD := Lib.hid (show decide (lessF (y1, y2, y3, y4) ((i : Int), (j : Int), x3, x4)) = r from HOR.out.symm)
                      cases r with
                      | true =>
                        have hle : lessF (y1, y2, y3, y4) ((i : Int), (j : Int), x3, x4) := of_decide_eq_true CD.out
                        have HNX := Lib.hid (show chkF l (prevF L (k + 1)) (((k + 1 : Nat)) : Int) (L.drop (k + 1)) = chkF l none 0 L by
                          rw [prevF_next HX.out, ← hE.out, HD.out, chkF_next (HONE.out.trans (by rw [HPV.out]; exact if_pos hle))]
                          rw [show (((k + 1 : Nat)) : Int) = (k : Int) + 1 by omega])
                        clear hle
                        rcases hx3 with rfl | rfl <;>
                        · go_wp2_with fail
                          refine wp_region_calm (by kernel_rfl) (by kernel_rfl) ?_
                          repeat (go_big_quiet_step ((go_at_call 35; with_reducible exact calm_call (qo _))))
                          refine wpQuiet_nil ?_
                          intro w7 hb7
                          have kr7 := below_call kr6 hb7
                          clear f0 f1 f2 f3 lf p0 p1 p2 p3 lbf6 b6 hb7 qo
                          go_wp2
                          go_roundg gh
                          case measure => omega
                          case rel => exact ⟨k + 1, by omega, by go_num, kr7, HNX⟩
                      | false =>
                        have hle : ¬ lessF (y1, y2, y3, y4) ((i : Int), (j : Int), x3, x4) := of_decide_eq_false CD.out
                        have HB := Lib.hid (show chkF l none 0 L = (6, (k : Int)) by rw [← hE.out, HD.out]; exact chkF_bad (HONE.out.trans (by rw [HPV.out]; exact if_neg hle)) (by decide))
                        clear hle
                        rcases hx3 with rfl | rfl <;>
                        · go_wp2_with fail
                          refine wp_region_calm (by kernel_rfl) (by kernel_rfl) ?_
                          repeat (go_big_quiet_step ((go_at_call 35; with_reducible exact calm_call (qo _))))
                          refine wpQuiet_nil ?_
                          intro w7 hb7
                          have kr7 := below_call kr6 hb7
                          clear f0 f1 f2 f3 lf p0 p1 p2 p3 lbf6 b6 hb7 qo
                          go_wp2
                          refine ret_of (by simp [results, Tryz.results14, go_sem, *]; repeat' (first | rfl | apply And.intro)) rfl ⟨?_, kr7⟩
                          rw [HB.out]
  · have E := Lib.hid (show checkF l L = ((slicesE l).2, 0) by unfold checkF; rw [if_pos hs])
    obtain ⟨r, hr⟩ : ∃ z, z = (slicesE l).2 := ⟨_, rfl⟩
    rw [← hr] at qs hs E
    have b0 : (r != 0) = true := by simpa using hs
    rw [E.out]
    clear hV h2 hr hs
    go_enter Tryz.func14, Tryz.ntmps14
    go_wp2_with fail
    refine qs.mono ?_
    rintro e w1 ⟨v, rfl, ho, hb1⟩
    clear qs ho
    go_wp2
    refine ret_of (by simp [results, Tryz.results14, go_sem, *]; repeat' (first | rfl | apply And.intro)) rfl ⟨rfl, hb1⟩
end Go.Proofs.YtpkmiegccfhpnaaGreatDoor
namespace Go.Proofs.YtpkmiegccfhpnaaGreatDoor
open Go.RowKit
set_option maxRecDepth 100000 in
set_option maxHeartbeats 8000000 in
theorem rmade_ok (A : Option Addr) (n c : Nat) (l : List (List Ev)) (B : Nat) (w : World) (h : ReadsV w B A n l) (hB : B ≤ w.heap.size) (hn : n ≤ 10) (hv9 : ∀ v ∈ l, v.length ≤ 5000) (A2 : Option Addr) (m c2 : Nat) (L : List Fic) (B2 : Nat) (h2 : Reads w B2 4 A2 m (csFic L)) (hB2 : B2 ≤ w.heap.size) (hm : m ≤ 1000000) (hin : ∀ y ∈ L, inF l y = true) :
    Calls Tryz.prog 37 #[.slice A n c, .slice A2 m c2] w fun e w' => WRet n (withL l L) w e w' := by
  have HL := Lib.hid h.len
  have HV := Lib.hid h
  have HV9 := Lib.hid hv9
  have HR2 := Lib.hid h2
  have HLM := Lib.hid (show L.length = m from h2.len (size := 4) (l := L) (f := cFic) (fun _ => rfl) (by decide))
  have HIN := Lib.hid hin
  have HNE : 49 ≠ 36 := by decide
  obtain ⟨i0, hi0, hz0, hz1, hz2⟩ := info_parts voice_info
  obtain ⟨e0, he0, hy0, hy1, hy2⟩ := info_parts event_info
  clear hv9 h h2 hin
  go_enter Tryz.func37, Tryz.ntmps37
  go_wp2
  go_loopg [5, 6] n (fun gh u i wr => ∃ (k : Nat) (ds : List Pl), k + gh = n ∧ i = .int .i64 (k : Int) ∧ wr.ownsRow w.heap.size 36 1 u k (csV ds) ∧ ds.length = k ∧ VocAt wr w.heap.size ds l ∧ Far ds ∧ Below w.heap.size w wr)
  case atStart => exact ⟨0, [], by omega, by simp, ⟨rfl, .inl ⟨rfl, rfl⟩⟩, rfl, fun k d v hd _ => by simp at hd, Far.nil_, Below.refl _ _⟩
  case round =>
    obtain ⟨k, ds, hkg, rfl, hrow, hdl, hvs, hfar, k0⟩ := hrel
    have wk : IntKind.i64.wrap ((k : Int) + 1) = (k : Int) + 1 := IntWalk.i64_in _ (by omega)
    cases gk with
    | zero =>
      have hkn : k = n := by omega
      have d0 : ¬ ((k : Int) < (n : Int)) := by omega
      subst hkn
      have K0 := CopyAt.start hrow hdl HL.out hvs hfar
      obtain ⟨A9, c9, hu9, -, _, _⟩ := own_reads hrow
      subst hu9
      have HDL := Lib.hid hdl
      obtain ⟨lim, hlim⟩ : ∃ z, z = wr.heap.size := ⟨_, rfl⟩
      rw [← hlim] at K0
      have hlim2 : lim ≤ wr.heap.size := by omega
      clear hdl hkg hrow hvs hfar wk hlim
      go_wp2_with fail
      go_loopg [7] m (fun g2 i wy => ∃ q : Nat, q + g2 = m ∧ i = .int .i64 (q : Int) ∧ CopyAt wy w.heap.size lim (.slice A9 k c9) ds l (gW l (L.take q)) ∧ Below w.heap.size w wy ∧ lim ≤ wy.heap.size)
      case atStart => exact ⟨0, by omega, by simp, K0, k0, hlim2⟩
      case round =>
        clear K0 k0 hlim2
        obtain ⟨wy, hwy⟩ : ∃ z, z = wr := ⟨_, rfl⟩
        subst hwy
        obtain ⟨q, hqg, rfl, K, kr, hlm⟩ := hrel
        have wq : IntKind.i64.wrap ((q : Int) + 1) = (q : Int) + 1 := IntWalk.i64_in _ (by omega)
        cases gk with
        | zero =>
          have hq : q = m := by omega
          have d1 : ¬ ((q : Int) < (m : Int)) := by omega
          subst hq
          have HX := Lib.hid (show WRet k (withL l L) w (.returned (.slice A9 k c9)) wy from ⟨_, _, rfl, by
            have := K.readsW HL.out
            rwa [List.take_of_length_le (by rw [HLM.out]; exact Nat.le_refl _)] at this, kr⟩)
          clear K kr hlm
          go_wp2
          refine ret_of (by simp [results, Tryz.results37, go_sem, *]; repeat' (first | rfl | apply And.intro)) rfl HX.out
        | succ g2 =>
          have hqm : q < m := by omega
          have d1 : (q : Int) < (m : Int) := by omega
          obtain ⟨⟨y1, y2, y3, y4⟩, hy⟩ := get_some (l := L) (k := q) (by have := HLM.out; omega)
          obtain ⟨bf, off, hA2, hbf, hcf⟩ := Reads.elem (f := cFic) (fun _ => rfl) (HR2.out.below hB2 kr) hqm hy
          subst hA2
          have e0 := hcf 0 _ rfl
          have e1 := hcf 1 _ rfl
          have e2 := hcf 2 _ rfl
          have e3 := hcf 3 _ rfl
          simp only [Nat.add_zero, ← Nat.add_assoc] at e0 e1 e2 e3
          obtain ⟨i, j, v, hi, hj, hv, hjv⟩ := inF_nat (HIN.out _ (List.mem_of_getElem? hy))
          simp only at hi hj
          subst hi hj
          obtain ⟨done, x, rest, hg, hdn, hg2, hgo⟩ := gW_next (L := L.take q) (y := ((i : Int), (j : Int), y3, y4)) rfl rfl hv hjv
          rw [← take_get hy] at hg2 hgo
          obtain ⟨bu, cu, gi, cx, nv, hu, hbu, hbase, hcu, hds, hbg, hgl, hjn, hnv, how, ⟨z6, hz6⟩, hfz⟩ := K.evk hv hg hdn HDL.out
          have hik : i < k := by have := (List.getElem?_eq_some_iff.1 hv).1; have := HL.out; omega
          have hik' : (i : Int) < (k : Int) := by omega
          have hjn' : (j : Int) < (nv : Int) := by omega
          have hA9 : A9 = some ⟨bu, 0, none⟩ := by injection hu
          subst hA9
          have lbf : bf < wy.heap.size := by have := kr.size; omega
          have HG2 := Lib.hid hg2
          have HGO := Lib.hid hgo
          have HDN := Lib.hid hdn
          have HVV := Lib.hid hv
          have HDS := Lib.hid hds
          clear hy hcf hv hg hg2 hgo hdn hu hds hjv hnv
          go_wp2_with fail
          have K5 := K
          have kr5 := kr
          have o5 := how
          have hlm5 := hlm
          have hg5 := hgl
          have z5 := hz6
          clear K kr hz6 how hfz hgl hlm
          refine wp_region_calm_tail 19 (by kernel_rfl) (by kernel_rfl) ?_
          simp only [List.take_succ_cons, List.take_zero, List.drop_succ_cons, List.drop_zero]
          repeat (go_big_quiet_step (fail))
          refine wpQuiet_nil ?_
          intro wd gd
          have Kd := K5.kept gd hlm5
          have krd := below_call kr5 gd
          have od := own_call o5 gd
          have fd := od.frozenAt (j * 10 + 4 + 2)
          have zd : wd.cell? ⟨gi, j * 10 + 4 + 2, none⟩ = some (.int .i64 z6) := (gd.cell (p := ⟨gi, j * 10 + 6, none⟩) hg5).trans z5
          have lgd : gi < wd.heap.size := by have := gd.size; omega
          have hlmd : lim ≤ wd.heap.size := by have := gd.size; omega
          clear K5 kr5 o5 z5 gd
          go_wp2_with fail
          obtain ⟨w7, hw7⟩ : ∃ z, z = wd.setCell ⟨gi, j * 10 + 4 + 2, none⟩ (.int .i64 y3) := ⟨_, rfl⟩
          have K7 : CopyAt w7 w.heap.size lim (.slice (some ⟨bu, 0, none⟩) k c9) ds l (gW l (L.take (q + 1))) := by
            rw [hw7]
            refine Kd.put HVV.out HDS.out (fun _ _ _ _ _ _ h hne => st_one _ _ _ _ _ _ h hne) ?_ HGO.out
            have h1 := (od.stored (j * 10 + 6) (.int .i64 y3)).1
            have e := m_set_alt done rest x y3
            rw [HDN.out] at e
            rw [e] at h1
            rw [HG2.out]
            exact h1
          have kr7 : Below w.heap.size w w7 := by rw [hw7]; exact krd.setCell (by show w.heap.size ≤ gi; exact hbg) _
          have hl7 : lim ≤ w7.heap.size := by rw [hw7]; simpa using hlmd
          rw [← hw7]
          clear hw7 Kd krd od fd zd
          go_roundg g2
          case measure => omega
          case rel => exact ⟨q + 1, by omega, by go_num, K7, kr7, hl7⟩
    | succ g =>
      have hkn : k < n := by omega
      have d0 : (k : Int) < (n : Int) := by omega
      obtain ⟨v, hv⟩ := get_some (l := l) (k := k) (by have := HL.out; omega)
      have hv24 := HV9.out v (List.mem_of_getElem? hv)
      obtain ⟨b, off, A', n', c', rfl, hab, cv, rv, hn', hvn⟩ := HV.out.voice hB k0 hkn hv
      have rv2 := rv.below (Nat.le_trans hB k0.size) (below_alloc (Below.refl wr.heap.size wr) (.cells #[] 49))
      have HVK := Lib.hid hv
      have HDL := Lib.hid hdl
      have HN' := Lib.hid hn'
      have hn24 : n' ≤ 5000 := by omega
      have kz := k0.size
      clear hv hdl hvn hv24 hn' rv
      go_wp2_with (at_builtin; (first
        | ((refine wpList_append_any _ rfl (.tmp 15) (.tmp 19) 36 rfl wr.heap.size 49 e0 _ 10 80 Tryz.underlying36 he0 hy0 hy1 hy2 rfl (by omega) (.slice (some ⟨wr.heap.size, 0, none⟩) 0 0) 0 [] rfl (World.ownsRow_lit wr #[] 0 (Nat.le_refl _) (by simp [maxLen]) rfl) B A' n' c' (csE v) rfl rv2 (one_csE v) (by simp only [maxLen]; omega) (by omega) (by simp) ?_); intro v1 w3 hown1 hg1 hat1; simp only [Nat.zero_add, List.nil_append] at hown1; have k3 : Below wr.heap.size wr w3 := (below_alloc (Below.refl _ _) _).grown hg1 (by simp) (fun k hk => by simp [Value.ownBlock] at hk; omega); obtain ⟨A3, c3, hv1, ⟨hown3, hrA3, hcA3⟩⟩ := ownE_form hown1; subst hv1; have row3 := own_call hrow k3; have vs3 := hvs.kept k3; have z3 := k3.size; clear hown1 hat1 hrA3 hcA3)
        | ((refine wpList_append_any _ rfl (.tmp 14) (.tmp 21) 22 rfl w.heap.size 36 i0 _ 1 24 Tryz.underlying22 hi0 hz0 hz1 hz2 rfl (by omega) u5 k (csV ds) rfl (own_call row3 (below_alloc (Below.refl _ _) _)) (w3.heap.size + 1) (some ⟨w3.heap.size, 0, none⟩) 1 1 (csV [(A3, n', c3)]) rfl (Reads.newAt _ _ _ 1 1 _ rfl rfl) (one_csV _) (by simp only [maxLen]; omega) (by omega) (by simp; omega) ?_); intro v4 w4 hown4 hg4 hat4)))
      have HFAR := Lib.hid (show Far (ds ++ [(A3, n', c3)]) from hfar.snoc (hvs.lt (by rw [HDL.out, HL.out]; exact Nat.le_of_lt hkn)) (fun q hq => by
        have h1 : A3 = some q := hq
        rw [h1] at hown3
        exact own_base hown3))
      have k2 := below_call k0 k3
      have hB4 : Below w.heap.size w3 w4 := Below.grown (B := w.heap.size) (a := w3) ((below_alloc (Below.refl w3.heap.size w3) (.cells #[.slice A3 n' c3] 36)).mono (by omega)) hg4 (by simp; omega) (fun x hx => (row3.lt x hx).1)
      have rowA := own_call row3 (below_alloc (Below.refl w3.heap.size w3) (.cells #[.slice A3 n' c3] 36))
      have HNV := Lib.hid (show VocAt w4 w.heap.size (ds ++ [(A3, n', c3)]) l from fun j d u hd hu => by
        rcases Nat.lt_or_ge j ds.length with hj | hj
        · rw [List.getElem?_append_left hj] at hd
          have h1 := vs3 j d u hd hu
          exact ⟨own_far (own_call h1.1 (below_alloc (Below.refl w3.heap.size w3) (.cells #[.slice A3 n' c3] 36))) rowA hg4 HNE, h1.2⟩
        · have hjk : j = k := by
            have h9 := (List.getElem?_eq_some_iff.1 hd).1
            rw [List.length_append, HDL.out] at h9
            rw [HDL.out] at hj
            have h10 : j < k + 1 := h9
            omega
          subst hjk
          rw [List.getElem?_append_right (by rw [HDL.out]; exact Nat.le_refl _), HDL.out] at hd
          simp at hd
          subst hd
          rw [HVK.out] at hu
          cases hu
          exact ⟨own_far (own_call (own_lower hown3 kz) (below_alloc (Below.refl w3.heap.size w3) (.cells #[.slice A3 n' c3] 36))) rowA hg4 HNE, HN'.out⟩)
      go_roundg g
      case measure => omega
      case rel => exact ⟨k + 1, ds ++ [(A3, n', c3)], by omega, by go_num, by rw [csV_append]; exact hown4, by rw [List.length_append, HDL.out]; rfl, HNV.out, HFAR.out, k2.trans hB4⟩
set_option maxRecDepth 100000 in
set_option maxHeartbeats 4000000 in
theorem rapply_ok {w : World} (A : Option Addr) (n c : Nat) (l : List (List Ev)) (B : Nat) (hV : ReadsV w B A n l) (hB : B ≤ w.heap.size) (hn : n ≤ 1000) (A2 : Option Addr) (m c2 : Nat) (L : List Fic) (B2 : Nat) (h2 : Reads w B2 4 A2 m (csFic L)) (hB2 : B2 ≤ w.heap.size) (hm : m ≤ 1000000) :
    Calls Tryz.prog 16 #[.slice A n c, .slice A2 m c2] w fun e w' => VRet (applyE l L).1 (applyE l L).2 w e w' := by
  have qs := rcheck_ok A n c l B hV hB hn A2 m c2 L B2 h2 hB2 hm
  by_cases hs : (checkF l L).1 = 0
  · have E := Lib.hid (show applyE l L = (withL l L, 0) by unfold applyE; rw [if_neg (fun h => h hs)])
    have hsl : (slicesE l).2 = 0 := by
      by_cases h0 : (slicesE l).2 = 0
      · exact h0
      · unfold checkF at hs; rw [if_pos h0] at hs; exact absurd hs h0
    have hl := set_of_slices hsl
    have hin : ∀ y ∈ L, inF l y = true := by
      unfold checkF at hs
      rw [if_neg (fun h => h hsl)] at hs
      exact chkF_in hs
    have qw := fun W (hW : Below w.heap.size w W) => rmade_ok A n c l B W (hV.below hB hW) (Nat.le_trans hB hW.size) (by have := hV.len; have := hl.len; omega) (fun v hv => by have := hl.few v hv; omega) A2 m c2 L B2 (h2.below hB2 hW) (Nat.le_trans hB2 hW.size) hm hin
    rw [hs] at qs
    obtain ⟨i, hi⟩ : ∃ z, z = (checkF l L).2 := ⟨_, rfl⟩
    rw [← hi] at qs
    clear hV h2 hs hsl hl hin hi
    go_enter Tryz.func16, Tryz.ntmps16
    go_wp2_with fail
    refine qs.mono ?_
    rintro e w1 ⟨rfl, hb1⟩
    clear qs
    go_wp2_with fail
    refine Calls.mono (qw _ ?_) ?_
    · repeat (first | with_reducible exact Below.refl _ _ | with_reducible assumption | with_reducible refine below_drewN ?_ _ | with_reducible refine Below.drew ?_ | with_reducible refine below_alloc ?_ _ | (with_reducible refine Below.setCell ?_ ?_ _; rotate_left; ((try simp only); omega)))
    rintro e w2 ⟨A5, c5, rfl, hr, hb2⟩
    have k2 := below_call hb1 hb2
    clear qw hb1 hb2
    have HX := Lib.hid (show VRet (applyE l L).1 (applyE l L).2 w (.returned (.tuple #[.slice A5 n c5, .int .i64 0])) w2 by rw [E.out]; exact ⟨A5, n, c5, rfl, hr, k2⟩)
    clear hr k2
    go_wp2
    refine ret_of (by simp [results, Tryz.results16, go_sem, *]; repeat' (first | rfl | apply And.intro)) rfl HX.out
  · have E := Lib.hid (show applyE l L = ([], (checkF l L).1) by unfold applyE; rw [if_pos hs])
    obtain ⟨⟨r, i⟩, hr⟩ : ∃ z, z = checkF l L := ⟨_, rfl⟩
    rw [← hr] at qs hs E
    simp only at qs hs E
    have b0 : (r != 0) = true := by simpa using hs
    clear hV h2 hr hs
    go_enter Tryz.func16, Tryz.ntmps16
    go_wp2_with fail
    refine qs.mono ?_
    rintro e w1 ⟨rfl, hb1⟩
    clear qs
    go_wp2
    refine ret_of (by simp [results, Tryz.results16, go_sem, *]; repeat' (first | rfl | apply And.intro)) rfl ?_
    rw [E.out]
    exact ⟨none, 0, 0, rfl, ⟨[], rfl, Reads.none_, fun k d v h => by simp at h⟩, hb1⟩
end Go.Proofs.YtpkmiegccfhpnaaGreatDoor
