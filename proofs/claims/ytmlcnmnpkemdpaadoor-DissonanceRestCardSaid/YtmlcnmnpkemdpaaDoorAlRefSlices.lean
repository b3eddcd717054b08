
/- The walk through the reference's Slices. -/
import Derived.Test.YtmlcnmnpkemdpaaDoorAlSlMem
import Derived.Deep.RegionLaw
namespace Go.Proofs.YtmlcnmnpkemdpaaDoor
open Go.RowKit
set_option maxRecDepth 100000 in
set_option maxHeartbeats 8000000 in
theorem refSlices_any (A : Option Addr) (n c : Nat) (l : List (List Ev)) (B : Nat) (w : World) (h : ReadsV w B A n l) (hB : B ≤ w.heap.size) (hn : n ≤ 9223372036854775807) :
    Calls Tryd.prog 35 #[.slice A n c] w fun e w' => ∃ v, e = .returned (.tuple #[v, .int .i64 (slicesE l).2]) ∧ OwnS w' w.heap.size v (slicesE l).1 ∧ Below w.heap.size w w' := by
  have HL := Lib.hid h.len
  have q1 := refAlCheck_any A n c l B w h hB hn
  by_cases hz : (checkA l).1 = 0
  · obtain ⟨f1, f2, f3, f4, f5⟩ := set_facts hz
    rw [hz] at q1
    have q2 := fun W (hW : Below w.heap.size w W) => refMoments_any A n c l B W (h.below hB hW) (Nat.le_trans hB hW.size) (by have := HL.out; omega) (fun v hv => ⟨(f2 v hv).2.1, (f2 v hv).2.2⟩)
    have hml := momS_len l (fun v hv => (f2 v hv).2.2)
    have HE := Lib.hid (show slicesE l = if durFrom (momS l) 0 ((momS l).length - 1) ≠ 0 then ([], durFrom (momS l) 0 ((momS l).length - 1)) else ((List.range ((momS l).length - 1)).map (slOf l (momS l)), 0) by unfold slicesE; rw [if_neg (fun h => h hz)])
    obtain ⟨m, hm⟩ : ∃ m, m = momS l := ⟨_, rfl⟩
    rw [← hm] at q2 hml HE f5
    have HOK := Lib.hid f5
    have HV := Lib.hid f2
    have hn8 : n ≤ 8 := by have := HL.out; omega
    clear hm f1 f2 f3 f4 f5 hz
    obtain ⟨M, hM⟩ : ∃ M, M = m.length := ⟨_, rfl⟩
    have HM := Lib.hid hM.symm
    rw [← hM] at hml HE
    have hMb : M ≤ 32000 := by have := HL.out; omega
    clear hM hml
    obtain ⟨i0, hi0, hz0, hz1, hz2⟩ := info_parts sl_info
    obtain ⟨j0, hj0, gz0, gz1, gz2⟩ := info_parts num_info
    go_enter Tryd.func35, Tryd.ntmps35
    go_wp2_with fail
    refine q1.mono ?_
    rintro e w1 ⟨rfl, hb1⟩
    go_wp2_with fail
    refine (q2 _ hb1).mono ?_
    rintro e w2 ⟨vm, rfl, hT2, hb2⟩
    have k2 := below_call hb1 hb2
    obtain ⟨Am, cm, rfl, rm, _, _⟩ := hT2
    rw [HM.out] at rm ⊢
    clear q1 q2
    go_wp2_with fail
    go_loopg [7, 8, 9, 10, 11, 12] (M - 1) (fun g v i _ _ _ _ wr => ∃ k : Nat, k + g = M - 1 ∧ i = .int .i64 k ∧ OwnS wr w2.heap.size v ((List.range k).map (slOf l m)) ∧ Hid (durFrom m k g = durFrom m 0 (M - 1)) ∧ Below w2.heap.size w2 wr)
    case atStart => exact ⟨0, by omega, rfl, OwnS.nil_ _ _, Lib.hid rfl, Below.refl _ _⟩
    case round =>
      obtain ⟨k, hkg, rfl, hO, hd, k0⟩ := hrel
      cases gk with
      | zero =>
        have dk : decide ((k : Int) + 1 < (M : Int)) = false := by simp; omega
        have HE2 := Lib.hid (show slicesE l = ((List.range k).map (slOf l m), 0) by
          have hd0 : durFrom m 0 (M - 1) = 0 := hd.out.symm
          rw [HE.out, hd0, if_neg (fun h => h rfl), show M - 1 = k by omega])
        go_wp2
        go_ret2
        rw [HE2.out]
        exact ⟨_, rfl, hO.lower k2.size, below_call k2 k0⟩
      | succ g =>
        have hk1 : k + 1 < M := by omega
        have dk : decide ((k : Int) + 1 < (M : Int)) = true := by simp; omega
        have hx := mAt_some (m := m) (i := k + 1) (by have := HM.out; omega)
        have hy := mAt_some (m := m) (i := k) (by have := HM.out; omega)
        have hoy := HOK.out _ (List.mem_of_getElem? hy)
        obtain ⟨b, off, rfl, hab, c0, c1⟩ := rm.tm (Nat.le_refl _) k0 hk1 hx
        obtain ⟨b', off', hA', _, d0, d1⟩ := rm.tm (Nat.le_refl _) k0 (show k < M by omega) hy
        cases hA'
        have q3 := refSub_any (mAt m (k + 1)) (mAt m k)
        have HD := Lib.hid (show durE m k = (((subS (mAt m (k + 1)) (mAt m k)).1, (subS (mAt m (k + 1)) (mAt m k)).2.1), (subS (mAt m (k + 1)) (mAt m k)).2.2) from rfl)
        obtain ⟨⟨s0, s1, r⟩, hs⟩ : ∃ s, s = subS (mAt m (k + 1)) (mAt m k) := ⟨_, rfl⟩
        rw [← hs] at q3 HD
        have HSL := Lib.hid (show slOf l m k = ⟨mAt m k, (durE m k).1, l.map fun v => onS v (mAt m k)⟩ from rfl)
        obtain ⟨⟨x0, x1⟩, hxe⟩ : ∃ x, x = mAt m (k + 1) := ⟨_, rfl⟩
        obtain ⟨⟨y0, y1⟩, hye⟩ : ∃ x, x = mAt m k := ⟨_, rfl⟩
        rw [← hxe] at q3 c0 c1
        rw [← hye] at q3 d0 d1 HSL hoy
        have HOy := Lib.hid hoy
        clear hs hxe hye hx hy hoy
        simp only at c0 c1 d0 d1 q3
        have t1 : ((k : Int) + 1).toNat = k + 1 := by omega
        have t2 : IntKind.i64.wrap ((k : Int) + 1) = (k : Int) + 1 := IntWalk.i64_in _ (by omega)
        have t3 : (k : Int) + 1 < (M : Int) := by omega
        have t4 : (0 : Int) ≤ (k : Int) + 1 := by omega
        have t5 : (k : Int) < (M : Int) := by omega
        obtain ⟨wq, hwq⟩ : ∃ wq, wq = wr := ⟨_, rfl⟩
        subst hwq
        go_wp2_with fail
        go_region_held3 (fun w' => w'.cell? ⟨b, off + (k + 1) * 2, none⟩ = some (.int .i64 x0) ∧ w'.cell? ⟨b, off + (k + 1) * 2 + 1, none⟩ = some (.int .i64 x1) ∧ w'.cell? ⟨b, off + k * 2, none⟩ = some (.int .i64 y0) ∧ w'.cell? ⟨b, off + k * 2 + 1, none⟩ = some (.int .i64 y1) ∧ Below wq.heap.size wq w') ((refine (fun hb => ⟨(hb.cell (p := ⟨_, _, none⟩) hab).trans c0, (hb.cell (p := ⟨_, _, none⟩) hab).trans c1, (hb.cell (p := ⟨_, _, none⟩) hab).trans d0, (hb.cell (p := ⟨_, _, none⟩) hab).trans d1, hb⟩) ?_; repeat (first | with_reducible exact Below.refl _ _ | with_reducible exact hBd | with_reducible exact (show _ ∧ _ ∧ _ ∧ _ ∧ Below wq.heap.size wq _ by assumption).2.2.2.2 | with_reducible refine Below.drew ?_ | with_reducible refine below_alloc ?_ _ | (with_reducible refine Below.setCell ?_ ?_ _; rotate_left; (first | (have hz := hBd.size; show wq.heap.size ≤ _; simp only; omega) | (show wq.heap.size ≤ _; simp only; omega)))))) (first | (go_at_call 49; refine (q3 _).mono ?_; rintro e wd ⟨rfl, hbd⟩; have hBd := below_call (show _ ∧ _ ∧ _ ∧ _ ∧ Below wq.heap.size wq _ by assumption).2.2.2.2 hbd; have hcd := (bcell hbd).1; have hfd := (bcell hbd).2; try (have hzd : wq.heap.size < wd.heap.size := by have hz := hbd.size; simp at hz; omega)))
        all_goals
          have hB5 := (show _ ∧ _ ∧ _ ∧ _ ∧ Below wq.heap.size wq _ by assumption).2.2.2.2
          obtain ⟨wv, hwv⟩ := name_world hB5
          first
            | (refine pick_block (wv := wv) (lo := wq.heap.size) (t := 52) wd.heap.size #[.int .i64 s0, .int .i64 s1] ?_ ?_ ?_; (focus (have hz := hBd.size; omega)); (focus (rw [hwv]; repeat (first | with_reducible exact Blk.new _ _ _ | (with_reducible refine Blk.newAt _ _ _ _ ?_; first | rfl | (simp; done)) | with_reducible apply Blk.alloc | with_reducible apply Blk.drewN | with_reducible apply Blk.drew | with_reducible apply Blk.set_to | (with_reducible apply Blk.far_; (simp only [ne_eq]; omega)) | (with_reducible apply Blk.kept (hb := hbd)) | rfl))); intro gx hgx hgq5 BX5)
            | (refine pick_block (wv := wv) (lo := wq.heap.size) (t := 52) wq.heap.size #[.int .i64 s0, .int .i64 s1] ?_ ?_ ?_; (focus omega); (focus (rw [hwv]; repeat (first | with_reducible exact Blk.new _ _ _ | (with_reducible refine Blk.newAt _ _ _ _ ?_; first | rfl | (simp; done)) | with_reducible apply Blk.alloc | with_reducible apply Blk.drewN | with_reducible apply Blk.drew | with_reducible apply Blk.set_to | (with_reducible apply Blk.far_; (simp only [ne_eq]; omega)) | (with_reducible apply Blk.kept (hb := hbd)) | rfl))); intro gx hgx hgq5 BX5)
          rw [← hwv] at hB5 ⊢
          rw [← hgx]
          clear hwv hgx
          have kv := below_call k0 hB5
          have hO5 := hO.kept hB5
          have n0 := (hB5.cell (p := ⟨b, off + k * 2, none⟩) hab).trans d0
          have n1 := (hB5.cell (p := ⟨b, off + k * 2 + 1, none⟩) hab).trans d1
          have p0 : wv.cell? ⟨gx, 0, none⟩ = some (.int .i64 s0) := BX5.cell 0
          have p1 : wv.cell? ⟨gx, 1, none⟩ = some (.int .i64 s1) := BX5.cell 1
          have lg := BX5.lt
          have lb : b < wv.heap.size := Nat.lt_of_lt_of_le hab hB5.size
          try clear hcd hfd
          try clear hzd
          try clear hbd hBd
          clear c0 c1 d0 d1 hab hO k0 q3 t1 t2 t3 t4
          by_cases hr : r = 0
          · subst hr
            have HDU := Lib.hid (show durE m k = ((s0, s1), 0) from HD.out)
            have HN := Lib.hid (show durFrom m (k + 1) g = durFrom m 0 (M - 1) by rw [← hd.out, durFrom_next (by rw [HDU.out])])
            go_wp2_with fail
            go_region
            all_goals
              go_wp2_with fail
              go_loopg [12] n (fun g2 j wy => ∃ (q : Nat) (sv : Value), q + g2 = n ∧ j = .int .i64 q ∧ Blk wy wv.heap.size 77 #[.int .i64 y0, .int .i64 y1, .int .i64 s0, .int .i64 s1, sv] ∧ wy.ownsRow (wv.heap.size + 1) 3 1 sv q (csN ((l.take q).map fun v => onS v (y0, y1))) ∧ Below wv.heap.size wv wy)
              case atStart => exact ⟨0, .slice none 0 0, by omega, rfl, by repeat (first | with_reducible exact BX5 | with_reducible exact Blk.new _ _ _ | (with_reducible refine Blk.newAt _ _ _ _ ?_; first | rfl | (simp; done)) | with_reducible apply Blk.alloc | with_reducible apply Blk.drewN | with_reducible apply Blk.drew | with_reducible apply Blk.set_to | (with_reducible apply Blk.far_; (simp only [ne_eq]; omega)) | rfl), ⟨rfl, .inl ⟨rfl, rfl⟩⟩, by repeat (first | with_reducible exact Below.refl _ _ | with_reducible assumption | with_reducible refine below_drewN ?_ _ | with_reducible refine Below.drew ?_ | with_reducible refine below_alloc ?_ _ | (with_reducible refine Below.setCell ?_ ?_ _; rotate_left; ((try simp only); omega)))⟩
              case round =>
                obtain ⟨q, sv, hqg, rfl, bS, hown, m0⟩ := hrel
                have lS := bS.lt
                have c4 : wr.cell? ⟨wv.heap.size, 4, none⟩ = some sv := bS.cell 4
                cases gk with
                | zero =>
                  have hqn : q = n := by omega
                  subst hqn
                  obtain ⟨As, cs, hsv, _, _, _⟩ := own_reads hown
                  subst hsv
                  obtain ⟨ps, hps, hrow, hev⟩ := hO5.kept m0
                  rw [List.length_map, List.length_range] at hrow
                  have w0c : wr.cell? ⟨wv.heap.size, 0, none⟩ = some (.int .i64 y0) := bS.cell 0
                  have w1c : wr.cell? ⟨wv.heap.size, 1, none⟩ = some (.int .i64 y1) := bS.cell 1
                  have w2c : wr.cell? ⟨wv.heap.size, 2, none⟩ = some (.int .i64 s0) := bS.cell 2
                  have w3c : wr.cell? ⟨wv.heap.size, 3, none⟩ = some (.int .i64 s1) := bS.cell 3
                  have HSF := Lib.hid (show slOf l m k = ⟨(y0, y1), (s0, s1), l.map fun v => onS v (y0, y1)⟩ by rw [HSL.out, HDU.out])
                  have HTK := Lib.hid (show l.take q = l by rw [List.take_of_length_le (by have := HL.out; omega)])
                  rw [HTK.out] at hown
                  have hszw := m0.size
                  have hszv := kv.size
                  go_wp2_with (at_builtin; (refine wpList_append_any _ rfl (.tmp 72) (.tmp 74) 61 rfl w2.heap.size 77 i0 _ 5 56 Tryd.underlying61 hi0 hz0 hz1 hz2 rfl (by omega) _ k (csS ps) rfl (own_call hrow (below_alloc (Below.refl _ _) _)) (wr.heap.size + 1) (some ⟨wr.heap.size, 0, none⟩) 1 1 (csS [(⟨(y0, y1), (s0, s1), l.map fun v => onS v (y0, y1)⟩, (As, q, cs))]) rfl (Reads.newAt _ _ _ 1 5 _ rfl rfl) (one_csS _) (by simp only [maxLen]; omega) (by omega) (by simp; omega) ?_); intro v5 w5 hown5 hg5 hat5)
                  go_roundg g
                  case measure => omega
                  case rel =>
                    have hO6 := OwnS.snoc (p := (⟨(y0, y1), (s0, s1), l.map fun v => onS v (y0, y1)⟩, (As, q, cs))) hps (by rw [List.length_map, List.length_range]) hown5 (own_call hrow (below_alloc (Below.refl _ _) _)) (hev.kept (below_alloc (Below.refl _ _) _)) ⟨by simp only [List.length_map]; exact HL.out, own_lower (own_call hown (below_alloc (Below.refl _ _) _)) (by omega)⟩ hg5
                    refine ⟨k + 1, by omega, rfl, ?_, Lib.hid HN.out, Below.grown (B := w2.heap.size) (a := w2) (below_alloc (below_call kv m0) _) hg5 (by simp; omega) (fun x hx => (hrow.lt x hx).1)⟩
                    rw [range_next, HSF.out]
                    exact hO6
                | succ g2 =>
                  have hqn : q < n := by omega
                  have hqn' : (q : Int) < (n : Int) := by omega
                  obtain ⟨v, hv⟩ := get_some (l := l) (k := q) (by have := HL.out; omega)
                  obtain ⟨bl, offl, A', n', c', rfl, hbl, cl, hr, hn', hvn⟩ := h.voice hB (below_call k2 kv) hqn hv
                  have hvf := HV.out v (List.mem_of_getElem? hv)
                  have HT := Lib.hid (show (l.take (q + 1)).map (fun v => onS v (y0, y1)) = (l.take q).map (fun v => onS v (y0, y1)) ++ [onS v (y0, y1)] by rw [take_get hv, List.map_append]; rfl)
                  have hBv : B ≤ wv.heap.size := Nat.le_trans hB (below_call k2 kv).size
                  have q3 := fun W (hW : Below wv.heap.size wr W) => on_any A' n' c' v (y0, y1) B W (hr.below hBv (m0.trans hW)) (Nat.le_trans hBv (m0.trans hW).size) hn' hvf.2.1 HOy.out
                  obtain ⟨on, hon⟩ : ∃ x, x = onS v (y0, y1) := ⟨_, rfl⟩
                  rw [← hon] at q3 HT
                  clear hon hv hvf hr
                  have u0 := (m0.cell (p := ⟨b, off + k * 2, none⟩) lb).trans n0
                  have u1 := (m0.cell (p := ⟨b, off + k * 2 + 1, none⟩) lb).trans n1
                  have ul := (m0.cell (p := ⟨bl, offl + q, none⟩) hbl).trans cl
                  have hsz := m0.size
                  have hob : ∀ x, sv.ownBlock = some x → wv.heap.size + 1 ≤ x := fun x hx => (hown.lt x hx).1
                  go_wp2_with fail
                  go_region_law ((first | (go_simp; go_at_call 50; refine (q3 _ (show Below wv.heap.size wr _ by repeat (first | with_reducible exact Below.refl _ _ | with_reducible refine Below.drew ?_ | with_reducible refine below_drewN ?_ _))).mono ?_; rintro e wd ⟨rfl, hbd'⟩; have hbd := hbd'; have hBd : Below wv.heap.size wr wd := ((show Below wv.heap.size wr _ by repeat (first | with_reducible exact Below.refl _ _ | with_reducible refine Below.drew ?_ | with_reducible refine below_drewN ?_ _))).trans (hbd.mono (by simp; omega)); have hownd := own_call (own_call hown (by repeat (first | with_reducible exact Below.refl _ _ | with_reducible refine Below.drew ?_ | with_reducible refine below_drewN ?_ _ | with_reducible refine below_alloc ?_ _))) hbd; have bSd := Blk.kept (Blk.kept bS (by repeat (first | with_reducible exact Below.refl _ _ | with_reducible refine Below.drew ?_ | with_reducible refine below_drewN ?_ _ | with_reducible refine below_alloc ?_ _))) hbd; have c4d : wd.cell? ⟨wv.heap.size, 4, none⟩ = some sv := bSd.cell 4; have lSd := bSd.lt; have hszd := hBd.size) | ((refine step_is (.tmp 59) (.tmp 69) 25 sv ?_ ?_ ?_); (focus rfl); (focus rfl); (refine step_app _ (by rfl) (.tmp 59) (.tmp 69) 25 (by rfl) (wv.heap.size + 1) 3 j0 _ 1 8 Tryd.underlying25 hj0 gz0 gz1 gz2 rfl (by omega) sv q (csN ((l.take q).map fun v => onS v (y0, y1))) (by rfl) (own_call hownd (by repeat (first | with_reducible exact Below.refl _ _ | with_reducible refine Below.drew ?_ | with_reducible refine below_drewN ?_ _ | with_reducible refine below_alloc ?_ _))) (wd.heap.size + 1) (some ⟨wd.heap.size, 0, none⟩) 1 1 (csN [on]) (by rfl) (Reads.newAt _ _ _ 1 1 _ rfl rfl) (one_csN _) (by simp only [maxLen]; omega) (by omega) (by simp; omega) ?_); intro v4 w4 hown4 hg4 hat4; have bS4 := Blk.grow (bSd.alloc (.cells #[.int .i64 on] 3)) hg4 (fun he => by have := hob _ he.symm; omega); have f4 := bS4.frozen 4; have c44 : w4.cell? ⟨wv.heap.size, 4, none⟩ = some sv := bS4.cell 4; have l4 := bS4.lt; have hB4 : Below wv.heap.size wr w4 := Below.grown (B := wv.heap.size) (a := wr) (hBd.alloc (Nat.le_trans hsz hBd.size) _) hg4 (by simp; omega) (fun x hx => Nat.le_of_succ_le (hob x hx)); clear hat4; obtain ⟨A4, c4v, hv4, _, _⟩ := own_reads hown4; subst hv4)))
                  all_goals
                    have hBt := m0.trans hB4
                    go_wp2
                    go_roundg g2
                    case measure => omega
                    case rel =>
                      refine ⟨q + 1, _, by omega, rfl, (show Blk _ _ _ _ by repeat (first | with_reducible exact bS4 | with_reducible exact Blk.new _ _ _ | (with_reducible refine Blk.newAt _ _ _ _ ?_; first | rfl | (simp; done)) | with_reducible apply Blk.alloc | with_reducible apply Blk.drewN | with_reducible apply Blk.drew | with_reducible apply Blk.set_to | (with_reducible apply Blk.far_; (simp only [ne_eq]; omega)) | rfl)), ?_, by repeat (first | with_reducible exact Below.refl _ _ | with_reducible assumption | with_reducible refine below_drewN ?_ _ | with_reducible refine Below.drew ?_ | with_reducible refine below_alloc ?_ _ | (with_reducible refine Below.setCell ?_ ?_ _; rotate_left; ((try simp only); omega)))⟩
                      rw [HT.out, csN_append]
                      first | exact own_set hown4 (by simp) | exact own_drew (own_set hown4 (by simp)) _
          · have hb : (r != 0) = true := by simpa using hr
            have HE2 := Lib.hid (show slicesE l = ([], r) by
              have h0 : durFrom m 0 (M - 1) = r := by rw [← hd.out, durFrom_bad (by rw [HD.out]; exact hr), HD.out]
              rw [HE.out, h0, if_pos hr])
            clear hr
            go_wp2
            go_ret2
            rw [HE2.out]
            exact ⟨_, rfl, OwnS.nil_ _ _, below_call k2 kv⟩
  · have hb : ((checkA l).1 != 0) = true := by simpa using hz
    have E := Lib.hid (show slicesE l = ([], (checkA l).1) by unfold slicesE; rw [if_pos hz])
    clear hz
    go_enter Tryd.func35, Tryd.ntmps35
    go_wp2_with fail
    refine q1.mono ?_
    rintro e w1 ⟨rfl, hb1⟩
    go_wp2
    go_ret2
    rw [E.out]
    exact ⟨_, rfl, OwnS.nil_ _ _, hb1⟩
end Go.Proofs.YtmlcnmnpkemdpaaDoor
