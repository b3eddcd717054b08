/- Parts of the proofs of layer 31: AlSeq. -/
import Derived.Test.YtpkmiegccfhpnaaGreatDoorK10
import Derived.Deep.RegionLaw
import Derived.RangeFuncNested
import Derived.RangeFuncBound
import Derived.RangeFuncCalls
import Derived.RangeFuncLeaves
import Derived.OwnWalkIn
import Derived.TacticsInMore
import Derived.LoopNIn
import Derived.LoopIn
namespace Go.Proofs.YtpkmiegccfhpnaaGreatDoor
open Go.RowKit
attribute [local go_sem] Oper.semAt_some
/-- What the iterator asks of a round. -/
def RoundOk (l : List (List Ev)) (m : List Tm) (lp n0 : Nat) (J : Nat → Nat → World → Prop) (Jx : Nat → World → Prop) : Prop :=
  ∀ (ba k : Nat) (W : World) (p : Sl × Pl), k + 1 < m.length → J ba k W → p.1 = slOf l m k → EvsAt W (ba + 1) [p] → ba < W.heap.size →
    ∃ fn tmps assign body, (Instr.yield lp #[.agg (cS p).toArray, .int .i64 (durE m k).2]).run Tryz.prog W = .ok (.round lp fn tmps assign body) W ∧
      RoundIn Fence.wide 0 Tryz.prog lp fn tmps assign body W fun e W' => (e = .returned (.bool true) ∧ KeepN W W' ∧ Below n0 W W' ∧ J ba (k + 1) W') ∨ (e = .returned (.bool false) ∧ Jx k W')
set_option maxRecDepth 100000 in
set_option maxHeartbeats 8000000 in
theorem slicesOf1_any (A : Option Addr) (n c : Nat) (l : List (List Ev)) (B p0 n0 lp : Nat) (w : World) (h : ReadsV w B A n l) (hB : B ≤ n0) (hn0 : n0 ≤ w.heap.size) (hz : (checkA l).1 = 0)
    (hp : Blk w p0 22 #[.slice A n c]) (J : Nat → Nat → World → Prop) (Jx : Nat → World → Prop)
    (hJ : ∀ ba k W W', w.heap.size ≤ ba → J ba k W → Gb ba W W' → J ba k W') (h0 : ∀ ba, w.heap.size ≤ ba → J ba 0 w) (hY : RoundOk l (momS l) lp n0 J Jx) :
    Calls Tryz.prog 71 #[.func (.yield lp) #[] #[], .pointer (some ⟨p0, 0, none⟩)] w fun e w' => (∃ v, e = .returned v) ∧ ((∃ ba, w.heap.size ≤ ba ∧ J ba ((momS l).length - 1) w') ∨ ∃ k, Jx k w') := by
  have HL := Lib.hid h.len
  obtain ⟨f1, f2, f3, f4, f5⟩ := set_facts hz
  have HV := Lib.hid f2
  have HOK := Lib.hid f5
  have HSA := Lib.hid f4
  have hn8 : n ≤ 8 := by have := HL.out; omega
  have q1 := fun W (hW : Below w.heap.size w W) => moments_any A n c l B W (h.below (Nat.le_trans hB hn0) hW) (Nat.le_trans (Nat.le_trans hB hn0) hW.size) hn8 HV.out
  have hml := momS_len l (fun v hv => (f2 v hv).2.2)
  obtain ⟨m, hm⟩ : ∃ m, m = momS l := ⟨_, rfl⟩
  rw [← hm] at q1 hml hY HOK HSA ⊢
  clear hm f1 f2 f3 f4 f5 hz
  obtain ⟨M, hM⟩ : ∃ M, M = m.length := ⟨_, rfl⟩
  have HM := Lib.hid hM.symm
  rw [← hM] at hml q1 ⊢
  have hMb : M ≤ 32000 := by have := HL.out; omega
  clear hM hml
  have HY := Lib.hid hY
  have HJ := Lib.hid hJ
  clear hY hJ
  have hmk : ∀ u : World, (Instr.makeSlice 40 (.int .i64 (n : Int)) (.int .i64 (n : Int))).run Tryz.prog u = .ok (.slice (some ⟨u.heap.size, 0, none⟩) n n) (u.alloc (.cells (madeCells #[.int .i64 0] n) 3)) := fun u => by
    obtain ⟨j0, hj0, gz0, gz1, gz2⟩ := info_parts num_info
    have := run_makeSlice (P := Tryz.prog) u 40 3 j0 (.int .i64 0) Tryz.underlying40 hj0 gz0 .i64 .i64 n n (by omega) (Int.le_refl _) (by rw [gz1]; simp; omega) (by rw [gz2]; show ((8 : Nat) : Int) * n ≤ _; omega) (by omega)
    rw [gz1] at this
    simpa [Value.cells] using this
  have c0 := hp.cell 0
  simp only [List.getElem?_toArray, List.getElem?_cons_zero] at c0
  obtain ⟨j0, hj0, gz0, gz1, gz2⟩ := info_parts num_info
  go_enter Tryz.func71, Tryz.ntmps71
  go_wp2_with fail
  refine (q1 _ (Below.refl _ _)).mono ?_
  rintro e w2 ⟨vm, rfl, hown, hb2⟩
  obtain ⟨Am, cm, rfl, _, _, _⟩ := own_reads hown
  have c1 := (hb2.cell (p := ⟨p0, 0, none⟩) hp.lt).trans c0
  clear q1
  have hAb : ∀ b off, Am = some ⟨b, off, none⟩ → b < w2.heap.size := fun b off e => (hown.lt b (by subst e; rfl)).2
  have hba := hb2.size
  have b1 := below_alloc (Below.refl w2.heap.size w2) (.cells (madeCells #[.int .i64 0] n) 3)
  have own1 := own_call hown b1
  have hp1 := (hp.kept hb2).kept b1
  have J1 := HJ.out w2.heap.size 0 _ _ hba (h0 _ hba) (Gb.of_below (below_alloc hb2 (.cells (madeCells #[.int .i64 0] n) 3)))
  have r1 := Row1.made w2 n
  have P1 : PtrsAt l (mAt m 0) (List.replicate n 0) := by have := ptrs_zero l (mAt m 0); rwa [HL.out] at this
  have hB1 : Below n0 w (w2.alloc (.cells (madeCells #[.int .i64 0] n) 3)) := (below_alloc hb2 _).mono hn0
  go_wp2_with fail
  clear hown hb2 h0 c1 b1
  go_loopg [5, 6, 7, 8, 9, 10, 11, 12, 46, 45] (M - 1) (fun g i _ _ _ _ _ _ _ _ _ wr => ∃ (k : Nat) (ps : List Nat), k + g = M - 1 ∧ i = .int .i64 k ∧ J w2.heap.size k wr ∧ Row1 wr w2.heap.size ps ∧ Hid (PtrsAt l (mAt m k) ps) ∧ Blk wr p0 22 #[.slice A n c] ∧ wr.ownsRow w.heap.size 45 2 (.slice Am M cm) M (csT m) ∧ Below n0 w wr)
  case atStart => exact ⟨0, _, by omega, rfl, J1, r1, Lib.hid P1, hp1, own1, hB1⟩
  case round =>
    clear J1 r1 P1 hp1 own1 hB1
    obtain ⟨k, ps, hkg, rfl, hJk, hR, hP, hpb, hown, hBw⟩ := hrel
    cases gk with
    | zero =>
      have dk : decide ((k : Int) + 1 < (M : Int)) = false := by simp; omega
      have ek : k = M - 1 := by omega
      subst ek
      go_wp2
      go_end0
      exact ⟨⟨_, rfl⟩, .inl ⟨_, hba, hJk⟩⟩
    | succ g =>
      have hk1 : k + 1 < M := by omega
      have dk : decide ((k : Int) + 1 < (M : Int)) = true := by simp; omega
      have hx := mAt_some (m := m) (i := k + 1) (by have := HM.out; omega)
      have hy := mAt_some (m := m) (i := k) (by have := HM.out; omega)
      have HLater := Lib.hid (show ok (mAt m k) ∧ ok (mAt m (k + 1)) ∧ ¬ ltT (mAt m (k + 1)) (mAt m k) from by
        refine ⟨HOK.out _ (List.mem_of_getElem? hy), HOK.out _ (List.mem_of_getElem? hx), ?_⟩
        have hlt := List.pairwise_iff_getElem.1 HSA.out k (k + 1) (by have := HM.out; omega) (by have := HM.out; omega) (by omega)
        have e1 := (List.getElem?_eq_some_iff.1 hx).2
        have e2 := (List.getElem?_eq_some_iff.1 hy).2
        rw [e1, e2] at hlt
        exact ltT_asym hlt)
      obtain ⟨_, _, e0, rm, _, _⟩ := own_reads hown
      cases e0
      obtain ⟨b, off, rfl, hab, c0, c1⟩ := rm.tm (Nat.le_refl _) (Below.refl _ wr) hk1 hx
      obtain ⟨b', off', hA', _, d0, d1⟩ := rm.tm (Nat.le_refl _) (Below.refl _ wr) (show k < M by omega) hy
      cases hA'
      have hbb := hAb b off rfl
      have q3 := sub_any (mAt m (k + 1)) (mAt m k)
      have HD := Lib.hid (show durE m k = (((subS (mAt m (k + 1)) (mAt m k)).1, (subS (mAt m (k + 1)) (mAt m k)).2.1), (subS (mAt m (k + 1)) (mAt m k)).2.2) from rfl)
      obtain ⟨⟨s0, s1, r⟩, hs⟩ : ∃ s, s = subS (mAt m (k + 1)) (mAt m k) := ⟨_, rfl⟩
      rw [← hs] at q3 HD
      have HSL := Lib.hid (show slOf l m k = ⟨mAt m k, (durE m k).1, l.map fun v => onS v (mAt m k)⟩ from rfl)
      have hP2 := hP
      obtain ⟨⟨x0, x1⟩, hxe⟩ : ∃ x, x = mAt m (k + 1) := ⟨_, rfl⟩
      obtain ⟨⟨y0, y1⟩, hye⟩ : ∃ x, x = mAt m k := ⟨_, rfl⟩
      have HYE := Lib.hid hye
      have HXE := Lib.hid hxe
      rw [← hxe] at q3 c0 c1
      rw [← hye] at q3 d0 d1 HSL hP2
      clear hs hxe hye hx hy
      simp only at c0 c1 d0 d1 q3
      have t1 : ((k : Int) + 1).toNat = k + 1 := by omega
      have t2 : IntKind.i64.wrap ((k : Int) + 1) = (k : Int) + 1 := IntWalk.i64_in _ (by omega)
      have t3 : (k : Int) + 1 < (M : Int) := by omega
      have t4 : (0 : Int) ≤ (k : Int) + 1 := by omega
      have t5 : (k : Int) < (M : Int) := by omega
      obtain ⟨wq, hwq⟩ : ∃ wq, wq = wr := ⟨_, rfl⟩
      subst hwq
      go_wp2_with fail
      go_region_held3 (fun w' => w'.cell? ⟨b, off + (k + 1) * 2, none⟩ = some (.int .i64 x0) ∧ w'.cell? ⟨b, off + (k + 1) * 2 + 1, none⟩ = some (.int .i64 x1) ∧ w'.cell? ⟨b, off + k * 2, none⟩ = some (.int .i64 y0) ∧ w'.cell? ⟨b, off + k * 2 + 1, none⟩ = some (.int .i64 y1) ∧ Below wq.heap.size wq w') ((refine (fun hb => ⟨(hb.cell (p := ⟨_, _, none⟩) hab).trans c0, (hb.cell (p := ⟨_, _, none⟩) hab).trans c1, (hb.cell (p := ⟨_, _, none⟩) hab).trans d0, (hb.cell (p := ⟨_, _, none⟩) hab).trans d1, hb⟩) ?_; repeat (first | with_reducible exact Below.refl _ _ | with_reducible exact hBd | with_reducible exact (show _ ∧ _ ∧ _ ∧ _ ∧ Below wq.heap.size wq _ by assumption).2.2.2.2 | with_reducible refine Below.drew ?_ | with_reducible refine below_alloc ?_ _ | (with_reducible refine Below.setCell ?_ ?_ _; rotate_left; (first | (have hz := hBd.size; show wq.heap.size ≤ _; simp only; omega) | (show wq.heap.size ≤ _; simp only; omega)))))) (first | (go_at_call 73; refine (q3 _).mono ?_; rintro e wd ⟨rfl, hbd⟩; have hBd := below_call (show _ ∧ _ ∧ _ ∧ _ ∧ Below wq.heap.size wq _ by assumption).2.2.2.2 hbd; have hcd := (bcell hbd).1; have hfd := (bcell hbd).2; try (have hzd : wq.heap.size < wd.heap.size := by have hz := hbd.size; simp at hz; omega)))
      all_goals
        have hB5 := (show _ ∧ _ ∧ _ ∧ _ ∧ Below wq.heap.size wq _ by assumption).2.2.2.2
        obtain ⟨wv, hwv⟩ := name_world hB5
        first
          | (refine pick_block (wv := wv) (lo := wq.heap.size) (t := 45) wd.heap.size #[.int .i64 s0, .int .i64 s1] ?_ ?_ ?_; (focus (have hz := hBd.size; omega)); (focus (rw [hwv]; repeat (first | with_reducible exact Blk.new _ _ _ | (with_reducible refine Blk.newAt _ _ _ _ ?_; first | rfl | (simp; done)) | with_reducible apply Blk.alloc | with_reducible apply Blk.drewN | with_reducible apply Blk.drew | with_reducible apply Blk.set_to | (with_reducible apply Blk.far_; (simp only [ne_eq]; omega)) | (with_reducible apply Blk.kept (hb := hbd)) | rfl))); intro gx hgx hgq5 BX5)
          | (refine pick_block (wv := wv) (lo := wq.heap.size) (t := 45) wq.heap.size #[.int .i64 s0, .int .i64 s1] ?_ ?_ ?_; (focus omega); (focus (rw [hwv]; repeat (first | with_reducible exact Blk.new _ _ _ | (with_reducible refine Blk.newAt _ _ _ _ ?_; first | rfl | (simp; done)) | with_reducible apply Blk.alloc | with_reducible apply Blk.drewN | with_reducible apply Blk.drew | with_reducible apply Blk.set_to | (with_reducible apply Blk.far_; (simp only [ne_eq]; omega)) | (with_reducible apply Blk.kept (hb := hbd)) | rfl))); intro gx hgx hgq5 BX5)
        rw [← hwv] at hB5 ⊢
        rw [← hgx]
        clear hwv hgx
        have gq : Gb w2.heap.size wq wv := Gb.of_below hB5
        have hR5 : Blk wv w2.heap.size 3 (ps.map numV).toArray := Blk.kept hR hB5
        have n0q := d0
        have n1q := d1
        have n0c := (hB5.cell (p := ⟨b, off + k * 2, none⟩) hab).trans d0
        have n1c := (hB5.cell (p := ⟨b, off + k * 2 + 1, none⟩) hab).trans d1
        have e0c : wv.cell? ⟨gx, 0, none⟩ = some (.int .i64 s0) := BX5.cell 0
        have e1c : wv.cell? ⟨gx, 1, none⟩ = some (.int .i64 s1) := BX5.cell 1
        have lg := BX5.lt
        have lb : b < wv.heap.size := Nat.lt_of_lt_of_le hab hB5.size
        have pbc : wv.cell? ⟨p0, 0, none⟩ = some (.slice A n c) := (hpb.kept hB5).cell 0
        have lp0 : p0 < w.heap.size := hp.lt
        have lp1 : p0 < wv.heap.size := (hpb.kept hB5).lt
        have lbaq : w2.heap.size < wq.heap.size := hR.lt
        have lqv := hB5.size
        have HDU := Lib.hid (show durE m k = ((s0, s1), r) from HD.out)
        try clear hcd hfd
        try clear hzd
        try clear hbd hBd
        clear c0 c1 d0 d1 hab q3 t1 t2 t3 t4 rm hAb
        go_wp2_with fail
        go_region
        all_goals
          go_wp2_with fail
          go_loopg [9, 10, 11, 12, 46] n (fun g2 _ _ _ _ j wy => ∃ (q : Nat) (sv : Value) (ps : List Nat), q + g2 = n ∧ j = .int .i64 q ∧ Blk wy wv.heap.size 85 #[.int .i64 y0, .int .i64 y1, .int .i64 s0, .int .i64 s1, sv] ∧ wy.ownsRow (wv.heap.size + 1) 3 1 sv q (csN ((l.take q).map fun v => onS v (y0, y1))) ∧ Gb w2.heap.size wq wy ∧ Row1 wy w2.heap.size ps ∧ Hid (PtrsAt l (y0, y1) ps))
          case atStart => exact ⟨0, .slice none 0 0, ps, by omega, rfl, by repeat (first | with_reducible exact BX5 | with_reducible exact Blk.new _ _ _ | (with_reducible refine Blk.newAt _ _ _ _ ?_; first | rfl | (simp; done)) | with_reducible apply Blk.alloc | with_reducible apply Blk.drewN | with_reducible apply Blk.drew | with_reducible apply Blk.set_to | (with_reducible apply Blk.far_; (simp only [ne_eq]; omega)) | rfl), ⟨rfl, .inl ⟨rfl, rfl⟩⟩, gq.tr (Gb.of_below (show Below wv.heap.size wv _ by repeat (first | with_reducible exact Below.refl _ _ | with_reducible assumption | with_reducible refine below_drewN ?_ _ | with_reducible refine Below.drew ?_ | with_reducible refine below_alloc ?_ _ | (with_reducible refine Below.setCell ?_ ?_ _; rotate_left; ((try simp only); omega))))), (show Blk _ _ _ _ by repeat (first | with_reducible exact hR5 | with_reducible exact Blk.new _ _ _ | (with_reducible refine Blk.newAt _ _ _ _ ?_; first | rfl | (simp; done)) | with_reducible apply Blk.alloc | with_reducible apply Blk.drewN | with_reducible apply Blk.drew | with_reducible apply Blk.set_to | (with_reducible apply Blk.far_; (simp only [ne_eq]; omega)) | rfl)), hP2⟩
          case round =>
            obtain ⟨q, sv, ps, hqg, rfl, bS, hrow, hG, hR6, hP6⟩ := hrel
            obtain ⟨wy, hwy⟩ : ∃ wy, wy = wr := ⟨_, rfl⟩
            subst hwy
            have lS := bS.lt
            have hBy : Below n0 wq wy := hG.below (by omega) (by omega)
            have HRV := Lib.hid ((h.lay ((hBw.trans hBy).mono hB) : ReadsV wy B A n l))
            cases gk with
            | zero =>
              have hqn : q = n := by omega
              subst hqn
              obtain ⟨As, cs, hsv, _, _, _⟩ := own_reads hrow
              subst hsv
              have w0c : wy.cell? ⟨wv.heap.size, 0, none⟩ = some (.int .i64 y0) := bS.cell 0
              have w1c : wy.cell? ⟨wv.heap.size, 1, none⟩ = some (.int .i64 y1) := bS.cell 1
              have w2c : wy.cell? ⟨wv.heap.size, 2, none⟩ = some (.int .i64 s0) := bS.cell 2
              have w3c : wy.cell? ⟨wv.heap.size, 3, none⟩ = some (.int .i64 s1) := bS.cell 3
              have w4c : wy.cell? ⟨wv.heap.size, 4, none⟩ = some (.slice As q cs) := bS.cell 4
              have HTK : l.take q = l := List.take_of_length_le (by have := HL.out; omega)
              rw [HTK] at hrow
              obtain ⟨fn, tmps, assign, body, hyd, hRd⟩ := HY.out w2.heap.size k wy (⟨(y0, y1), (s0, s1), l.map fun v => onS v (y0, y1)⟩, (As, q, cs)) (by have := HM.out; omega)
                (HJ.out _ _ _ _ hba hJk hG) (by rw [HSL.out, HDU.out]) (fun p hp => by rw [List.mem_singleton.1 hp]; exact ⟨by simp only [List.length_map]; exact HL.out, own_lower hrow (by omega)⟩) hR6.lt
              rw [HDU.out] at hyd
              simp only [cS] at hyd
              clear HTK HRV
              repeat ((fail_if_success (with_reducible show (Code.region 18 _ _).wp _ _ _ _)); go_step)
              refine (wpIn_wide (n := 1)).1 ?_
              gi_wp2
              refine hRd.mono ?_
              rintro e W3 (⟨rfl, hkn, hb3, hJ3⟩ | ⟨rfl, hx3⟩)
              · have hR7 : Row1 W3 w2.heap.size ps := Blk.keepN hR6 hkn (by decide) (by decide) (by decide)
                have hP7 : PtrsAt l (mAt m (k + 1)) ps := PtrsAt.later (t := mAt m k) (by rw [← HYE.out]; exact hP6.out) (fun v hv => (HV.out v hv).2.1) HLater.out.1 HLater.out.2.1 HLater.out.2.2
                have hp7 : Blk W3 p0 22 #[.slice A q c] := Blk.keepN (Blk.gb hpb hG (by omega)) hkn (by decide) (by decide) (by decide)
                have ho7 : W3.ownsRow w.heap.size 45 2 (.slice (some ⟨b, off, none⟩) M cm) M (csT m) := own_keepN (own_gb hown hG (fun x hx e => by cases hx; simp only at e; omega)) hkn (by decide) (by decide) (by decide)
                have hb7 : Below n0 w W3 := (hBw.trans hBy).trans hb3
                clear hyd hRd
                have t2 : IntKind.i64.wrap ((k : Int) + 1) = (k : Int) + 1 := IntWalk.i64_in _ (by omega)
                gi_wp2
                go_wp2
                go_roundg g
                case measure => omega
                case rel => exact ⟨k + 1, ps, by omega, rfl, hJ3, hR7, Lib.hid hP7, hp7, ho7, hb7⟩
              · clear hyd hRd
                gi_wp2
                go_wp2
                refine bodyPost_ret (results_none rfl _ _ _) rfl ?_
                exact ⟨⟨_, rfl⟩, .inr ⟨k, hx3⟩⟩
            | succ g2 =>
              have hqn : q < n := by omega
              have hqn' : (q : Int) < (n : Int) := by omega
              obtain ⟨v, hv⟩ := get_some (l := l) (k := q) (by have := HL.out; omega)
              obtain ⟨bl, offl, A', n', c', rfl, hbl, cl, hr, hn', hvn⟩ := HRV.out.voiceB hqn hv
              obtain ⟨hchk, hval, hvl⟩ := HV.out v (List.mem_of_getElem? hv)
              have HVal := Lib.hid hval
              have HE := Lib.hid (endS_val hchk)
              have HT := Lib.hid (show (l.take (q + 1)).map (fun v => onS v (y0, y1)) = (l.take q).map (fun v => onS v (y0, y1)) ++ [onS v (y0, y1)] by rw [take_get hv, List.map_append]; rfl)
              have HPP := Lib.hid (hP6.out.2 q v hv)
              have HSET := Lib.hid (fun p (hp : Ptr v (y0, y1) p) (hl : p ≤ v.length) => hP6.out.set hv hp hl)
              have HOy := Lib.hid (show ok (y0, y1) by rw [HYE.out]; exact HLater.out.1)
              have hvn2 : n' ≤ 2000 := by omega
              have hbl2 : bl < w2.heap.size := by omega
              have HVq := Lib.hid hv
              have HCK := Lib.hid hchk
              clear hchk hval hvl hv
              obtain ⟨p1, hp1, hp2, hp3⟩ := HPP.out
              go_wp2
              go_loopg [] (n' - p1) (fun g3 wz => ∃ (p : Nat) (ps : List Nat), p + g3 = n' ∧ Row1 wz w2.heap.size ps ∧ Hid (ps[q]? = some p) ∧ Hid (Ptr v (y0, y1) p ∧ PtrsAt l (y0, y1) ps) ∧ Gb w2.heap.size wy wz)
              case atStart => exact ⟨p1, ps, by omega, hR6, Lib.hid hp1, Lib.hid ⟨hp2, hP6.out⟩, Gb.refl _ _⟩
              case round =>
                clear hp1 hp2
                obtain ⟨p, ps, hpg, hRz, hpq, hPz, hGz⟩ := hrel
                obtain ⟨wz, hwz⟩ : ∃ wz, wz = wr := ⟨_, rfl⟩
                subst hwz
                have lz := hGz.size
                have lba := hRz.lt
                have zat : wz.cell? ⟨w2.heap.size, q, none⟩ = some (.int .i64 (p : Int)) := hRz.cell hpq.out
                have zat2 : wz.frozen? ⟨w2.heap.size, q, none⟩ = false := hRz.frozen q
                have zbox : wz.cell? ⟨p0, 0, none⟩ = some (.slice (some ⟨bl, offl, none⟩) n c) := (Blk.gb (Blk.gb hpb hG (by omega)) hGz (by omega)).cell 0
                have zv : wz.cell? ⟨bl, offl + q, none⟩ = some (.slice A' n' c') := (hGz.cell cl (by simp; omega))
                have zy0 : wz.cell? ⟨b, off + k * 2, none⟩ = some (.int .i64 y0) := ((hG.tr hGz).cell (n0q) (by simp; omega))
                have zy1 : wz.cell? ⟨b, off + k * 2 + 1, none⟩ = some (.int .i64 y1) := ((hG.tr hGz).cell (n1q) (by simp; omega))
                have lbl : bl < wz.heap.size := by omega
                have lbz : b < wz.heap.size := by omega
                have lp0z : p0 < wz.heap.size := by omega
                have t2 : IntKind.i64.wrap ((p : Int) + 1) = (p : Int) + 1 := IntWalk.i64_in _ (by omega)
                have hstep : (p + 1 < n' ∧ ∃ x, v[p + 1]? = some x ∧ ¬ ltT (y0, y1) x.at_) ∨ ((¬ p + 1 < n' ∨ (p + 1 < n' ∧ ∃ x, v[p + 1]? = some x ∧ ltT (y0, y1) x.at_)) ∧ PtrEnd v (y0, y1) p) := by
                  by_cases hd1 : p + 1 < n'
                  · obtain ⟨x, hx⟩ := get_some (l := v) (k := p + 1) (by omega)
                    by_cases hlt : ltT (y0, y1) x.at_
                    · exact .inr ⟨.inr ⟨hd1, x, hx, hlt⟩, fun z hz => by rw [hx] at hz; cases hz; exact hlt⟩
                    · exact .inl ⟨hd1, x, hx, hlt⟩
                  · exact .inr ⟨.inl hd1, fun z hz => by have := (List.getElem?_eq_some_iff.1 hz).1; omega⟩
                have HB10 := Lib.hid (fun (x : Ev) (hx : v[p + 1]? = some x) (hd1 : p + 1 < n') => hr.evB hd1 hx)
                rcases hstep with ⟨hd1, x, hx, hlt⟩ | ⟨hleave, hpe⟩
                · obtain ⟨be, oe, hA', hbe, ec0, ec1⟩ := HB10.out x hx hd1
                  subst hA'
                  have e0c := hGz.cell ec0 (by simp; omega)
                  have e1c := hGz.cell ec1 (by simp; omega)
                  have lbe : be < wz.heap.size := by omega
                  have HX := Lib.hid hx
                  have hcd : decide ((cmpS x.at_ (y0, y1)).1 ≤ 0) = true := by rw [cmp_le (HVal.out.each _ x hx).1 HOy.out]; exact decide_eq_true hlt
                  have HLT := Lib.hid hlt
                  have q5 := fun W => compare_any x.at_ (y0, y1) W
                  obtain ⟨ce, hce⟩ : ∃ ce, ce = (cmpS x.at_ (y0, y1)).1 := ⟨_, rfl⟩
                  rw [← hce] at q5 hcd
                  obtain ⟨⟨a0, a1⟩, ha⟩ : ∃ a, a = x.at_ := ⟨_, rfl⟩
                  rw [← ha] at q5 e0c e1c
                  clear hx hlt hce ec0 ec1 ha
                  simp only at e0c e1c q5
                  have d1 : decide ((p : Int) + 1 < (n' : Int)) = true := by simp; omega
                  have t3 : ((p : Int) + 1).toNat = p + 1 := by omega
                  have t4 : (0 : Int) ≤ (p : Int) + 1 := by omega
                  have t6 : (p : Int) + 1 < (n' : Int) := by omega
                  go_wp2_with fail
                  refine wp_region_calm (by kernel_rfl) (by kernel_rfl) ?_
                  repeat (go_big_quiet_step ((go_at_call 74; exact calm_call (q5 _))))
                  refine wpQuiet_nil ?_
                  intro w3 g3
                  have zatd := (g3.cell (p := ⟨w2.heap.size, q, none⟩) lba).trans zat
                  have zat2d := (g3.frozen (p := ⟨w2.heap.size, q, none⟩) lba).trans zat2
                  obtain ⟨g4, rfl⟩ : ∃ g4, gk = g4 + 1 := ⟨gk - 1, by omega⟩
                  go_wp2
                  go_roundg g4
                  case measure => omega
                  case rel =>
                    have hR3 : Row1 w3 w2.heap.size ps := Blk.kept hRz g3
                    refine ⟨p + 1, ps.set q (p + 1), by omega, Row1.set hR3 q (p + 1), Lib.hid ?_, Lib.hid ⟨.inr ⟨x, HX.out, HLT.out⟩, hPz.out.2.set HVq.out (.inr ⟨x, HX.out, HLT.out⟩) (by omega)⟩, Gb.set (hGz.call g3) rfl _⟩
                    have hlp := (List.getElem?_eq_some_iff.1 hpq.out).1
                    simp [hlp]
                · have HPE := Lib.hid hpe
                  have hhere := ptr_on HVal.out HOy.out hPz.out.1 hpe
                  have q6 := cmp_le (endV_ok HVal.out) HOy.out
                  have q5 := fun W => compare_any (endV v) (y0, y1) W
                  obtain ⟨ce, hce⟩ : ∃ ce, ce = (cmpS (endV v) (y0, y1)).1 := ⟨_, rfl⟩
                  rw [← hce] at q5 q6
                  have hON : onS v (y0, y1) = if ce ≤ 0 then -1 else (p : Int) := by
                    rw [hhere]
                    by_cases hc : ce ≤ 0
                    · rw [decide_eq_true hc] at q6
                      rw [if_pos hc, if_neg (of_decide_eq_true q6.symm)]
                    · rw [decide_eq_false hc] at q6
                      rw [if_neg hc, if_pos (Decidable.not_not.1 (of_decide_eq_false q6.symm))]
                  have q4 := fun W (hW : Below wz.heap.size wz W) => evEnd_any A' n' c' v B W ((hr.lay (hGz.below (by omega) (by omega))).lay (hW.mono (by omega))) (by have := hW.size; omega) hn'
                  obtain ⟨⟨v0, v1⟩, hve⟩ : ∃ e, e = endV v := ⟨_, rfl⟩
                  rw [← hve] at q5
                  simp only [HE.out, ← hve, vT] at q4
                  have HON := Lib.hid hON
                  clear hve hhere q6 hON hpe hce
                  simp only at q5
                  rcases hleave with hd1 | ⟨hd1, x, hx, hlt⟩
                  rotate_left
                  focus
                    obtain ⟨be, oe, hA', hbe, ec0, ec1⟩ := HB10.out x hx hd1
                    subst hA'
                    have e0c := hGz.cell ec0 (by simp; omega)
                    have e1c := hGz.cell ec1 (by simp; omega)
                    have lbe : be < wz.heap.size := by omega
                    have hcd : decide ((cmpS x.at_ (y0, y1)).1 ≤ 0) = false := by rw [cmp_le (HVal.out.each _ x hx).1 HOy.out]; exact decide_eq_false (fun h => h hlt)
                    have q7 := fun W => compare_any x.at_ (y0, y1) W
                    obtain ⟨ce2, hce2⟩ : ∃ ce, ce = (cmpS x.at_ (y0, y1)).1 := ⟨_, rfl⟩
                    rw [← hce2] at q7 hcd
                    obtain ⟨⟨a0, a1⟩, ha⟩ : ∃ a, a = x.at_ := ⟨_, rfl⟩
                    rw [← ha] at q7 e0c e1c
                    clear hx hlt hce2 ec0 ec1 ha
                    simp only at e0c e1c q7
                    have d1 : decide ((p : Int) + 1 < (n' : Int)) = true := by simp; omega
                    have t3 : ((p : Int) + 1).toNat = p + 1 := by omega
                    have t4 : (0 : Int) ≤ (p : Int) + 1 := by omega
                    have t6 : (p : Int) + 1 < (n' : Int) := by omega
                    go_wp2_with fail
                    refine wp_region_calm (by kernel_rfl) (by kernel_rfl) ?_
                    repeat (go_big_quiet_step ((go_at_call 74; exact calm_call (q7 _))))
                    refine wpQuiet_nil ?_
                    intro w3 g3
                    clear q7
                  rotate_left
                  focus
                    have d1 : decide ((p : Int) + 1 < (n' : Int)) = false := by simp; omega
                    go_wp2_with fail
                    refine wp_region_calm (by kernel_rfl) (by kernel_rfl) ?_
                    repeat (go_big_quiet_step (fail))
                    refine wpQuiet_nil ?_
                    intro w3 g3
                  all_goals
                    have zatd := (g3.cell (p := ⟨w2.heap.size, q, none⟩) lba).trans zat
                    have zboxd := (g3.cell (p := ⟨p0, 0, none⟩) lp0z).trans zbox
                    have zvd := (g3.cell (p := ⟨bl, offl + q, none⟩) lbl).trans zv
                    have y0d := (g3.cell (p := ⟨b, off + k * 2, none⟩) lbz).trans zy0
                    have y1d := (g3.cell (p := ⟨b, off + k * 2 + 1, none⟩) lbz).trans zy1
                    have l3 := g3.size
                    have lbl3 : bl < w3.heap.size := by omega
                    have lbz3 : b < w3.heap.size := by omega
                    go_wp2_with fail
                    refine Calls.mono (q4 _ ?_) ?_
                    · repeat (first | with_reducible exact Below.refl _ _ | with_reducible assumption | with_reducible refine below_drewN ?_ _ | with_reducible refine Below.drew ?_ | with_reducible refine below_alloc ?_ _ | (with_reducible refine Below.setCell ?_ ?_ _; rotate_left; ((try simp only); omega)))
                    rintro e w5 ⟨rfl, hb5⟩
                    have zatd5 := (hb5.cell (p := ⟨w2.heap.size, q, none⟩) (by simp; omega)).trans zatd
                    have y0e := (hb5.cell (p := ⟨b, off + k * 2, none⟩) lbz3).trans y0d
                    have y1e := (hb5.cell (p := ⟨b, off + k * 2 + 1, none⟩) lbz3).trans y1d
                    have l5 := hb5.size
                    have lbz5 : b < w5.heap.size := by omega
                    clear zatd zboxd zvd y0d y1d
                    by_cases hc : ce ≤ 0
                    · have dce : decide (ce ≤ 0) = true := decide_eq_true hc
                      have HON2 := Lib.hid (show onS v (y0, y1) = -1 by rw [HON.out, if_pos hc])
                      go_wp2_with fail
                      refine wp_region_calm (by kernel_rfl) (by kernel_rfl) ?_
                      repeat (go_big_quiet_step ((go_at_call 74; exact calm_call (q5 _))))
                      refine wpQuiet_nil ?_
                      intro w6 g6
                      have h6 : Below w5.heap.size w5 w6 := below_call (by repeat (first | with_reducible exact Below.refl _ _ | with_reducible assumption | with_reducible refine below_drewN ?_ _ | with_reducible refine Below.drew ?_ | with_reducible refine below_alloc ?_ _ | (with_reducible refine Below.setCell ?_ ?_ _; rotate_left; ((try simp only); omega)))) g6
                      have hG6 : Gb w2.heap.size wy w6 := ((hGz.call g3).call hb5).call h6
                      have hGw : Gb w2.heap.size wq w6 := hG.tr hG6
                      have bS6 := Blk.gb bS hG6 (by omega)
                      have lS6 := bS6.lt
                      have w4c : w6.cell? ⟨wv.heap.size, 4, none⟩ = some sv := bS6.cell 4
                      have hrow6 := own_gb_hi hrow hG6 (by omega)
                      have hR7 : Row1 w6 w2.heap.size ps := Blk.kept (Blk.kept (Blk.kept hRz g3) hb5) h6
                      have l6 := h6.size
                      have hob : ∀ x, sv.ownBlock = some x → wv.heap.size + 1 ≤ x := fun x hx => (hrow6.lt x hx).1
                      clear hb5 zatd5 y0e y1e q5 q4 g6
                      go_wp2_with (at_builtin; (refine wpList_append_any _ rfl (.tmp 106) (.tmp 108) 40 rfl (wv.heap.size + 1) 3 j0 _ 1 8 Tryz.underlying40 hj0 gz0 gz1 gz2 rfl (by omega) sv q (csN ((l.take q).map fun v => onS v (y0, y1))) rfl (own_call hrow6 (below_alloc (Below.refl _ _) _)) (w6.heap.size + 1) (some ⟨w6.heap.size, 0, none⟩) 1 1 (csN [(-1)]) rfl (Reads.newAt _ _ _ 1 1 _ rfl rfl) (one_csN _) (by simp only [maxLen]; omega) (by omega) (by simp; omega) ?_); intro v4 w7 hown4 hg4 hat4; have bS7 := Blk.grow (bS6.alloc (.cells #[.int .i64 (-1)] 3)) hg4 (fun he => by have := hob _ he.symm; omega); have f7 := bS7.frozen 4; have c47 : w7.cell? ⟨wv.heap.size, 4, none⟩ = some sv := bS7.cell 4; have l7 := bS7.lt; clear hat4; obtain ⟨A4, c4v, hv4, _, _⟩ := own_reads hown4; subst hv4)
                      go_roundg g2
                      case measure => omega
                      case rel =>
                        have hR8 : Row1 w7 w2.heap.size ps := Blk.grow (Blk.alloc hR7 (.cells #[.int .i64 (-1)] 3)) hg4 (fun he => by have := hob _ he.symm; omega)
                        have hG7 : Gb w2.heap.size wq w7 := hGw.off (Below.grown (B := wq.heap.size) (a := w6) ((below_alloc (Below.refl w6.heap.size w6) (.cells #[.int .i64 (-1)] 3)).mono (by omega)) hg4 (by simp; omega) (fun x hx => by have := hob x hx; omega))
                        refine ⟨q + 1, _, ps, by omega, rfl, (show Blk _ _ _ _ by repeat (first | with_reducible exact bS7 | with_reducible exact Blk.new _ _ _ | (with_reducible refine Blk.newAt _ _ _ _ ?_; first | rfl | (simp; done)) | with_reducible apply Blk.alloc | with_reducible apply Blk.drewN | with_reducible apply Blk.drew | with_reducible apply Blk.set_to | (with_reducible apply Blk.far_; (simp only [ne_eq]; omega)) | rfl)), ?_, hG7.off (show Below wq.heap.size w7 _ by repeat (first | with_reducible exact Below.refl _ _ | with_reducible assumption | with_reducible refine below_drewN ?_ _ | with_reducible refine Below.drew ?_ | with_reducible refine below_alloc ?_ _ | (with_reducible refine Below.setCell ?_ ?_ _; rotate_left; ((try simp only); omega)))), Blk.far hR8 (p := ⟨wv.heap.size, 4, none⟩) (by simp; omega) _, Lib.hid hPz.out.2⟩
                        rw [HT.out, csN_append, HON2.out]
                        exact own_set hown4 (by simp)
                    · have dce : decide (ce ≤ 0) = false := decide_eq_false hc
                      have HON2 := Lib.hid (show onS v (y0, y1) = (p : Int) by rw [HON.out, if_neg hc])
                      go_wp2_with fail
                      refine wp_region_calm (by kernel_rfl) (by kernel_rfl) ?_
                      repeat (go_big_quiet_step ((go_at_call 74; exact calm_call (q5 _))))
                      refine wpQuiet_nil ?_
                      intro w6 g6
                      have h6 : Below w5.heap.size w5 w6 := below_call (by repeat (first | with_reducible exact Below.refl _ _ | with_reducible assumption | with_reducible refine below_drewN ?_ _ | with_reducible refine Below.drew ?_ | with_reducible refine below_alloc ?_ _ | (with_reducible refine Below.setCell ?_ ?_ _; rotate_left; ((try simp only); omega)))) g6
                      have hG6 : Gb w2.heap.size wy w6 := ((hGz.call g3).call hb5).call h6
                      have hGw : Gb w2.heap.size wq w6 := hG.tr hG6
                      have bS6 := Blk.gb bS hG6 (by omega)
                      have lS6 := bS6.lt
                      have w4c : w6.cell? ⟨wv.heap.size, 4, none⟩ = some sv := bS6.cell 4
                      have hrow6 := own_gb_hi hrow hG6 (by omega)
                      have hR7 : Row1 w6 w2.heap.size ps := Blk.kept (Blk.kept (Blk.kept hRz g3) hb5) h6
                      have l6 := h6.size
                      have hob : ∀ x, sv.ownBlock = some x → wv.heap.size + 1 ≤ x := fun x hx => (hrow6.lt x hx).1
                      clear hb5 zatd5 y0e y1e q5 q4 g6
                      go_wp2_with (at_builtin; (refine wpList_append_any _ rfl (.tmp 106) (.tmp 108) 40 rfl (wv.heap.size + 1) 3 j0 _ 1 8 Tryz.underlying40 hj0 gz0 gz1 gz2 rfl (by omega) sv q (csN ((l.take q).map fun v => onS v (y0, y1))) rfl (own_call hrow6 (below_alloc (Below.refl _ _) _)) (w6.heap.size + 1) (some ⟨w6.heap.size, 0, none⟩) 1 1 (csN [(p : Int)]) rfl (Reads.newAt _ _ _ 1 1 _ rfl rfl) (one_csN _) (by simp only [maxLen]; omega) (by omega) (by simp; omega) ?_); intro v4 w7 hown4 hg4 hat4; have bS7 := Blk.grow (bS6.alloc (.cells #[.int .i64 (p : Int)] 3)) hg4 (fun he => by have := hob _ he.symm; omega); have f7 := bS7.frozen 4; have c47 : w7.cell? ⟨wv.heap.size, 4, none⟩ = some sv := bS7.cell 4; have l7 := bS7.lt; clear hat4; obtain ⟨A4, c4v, hv4, _, _⟩ := own_reads hown4; subst hv4)
                      go_roundg g2
                      case measure => omega
                      case rel =>
                        have hR8 : Row1 w7 w2.heap.size ps := Blk.grow (Blk.alloc hR7 (.cells #[.int .i64 (p : Int)] 3)) hg4 (fun he => by have := hob _ he.symm; omega)
                        have hG7 : Gb w2.heap.size wq w7 := hGw.off (Below.grown (B := wq.heap.size) (a := w6) ((below_alloc (Below.refl w6.heap.size w6) (.cells #[.int .i64 (p : Int)] 3)).mono (by omega)) hg4 (by simp; omega) (fun x hx => by have := hob x hx; omega))
                        refine ⟨q + 1, _, ps, by omega, rfl, (show Blk _ _ _ _ by repeat (first | with_reducible exact bS7 | with_reducible exact Blk.new _ _ _ | (with_reducible refine Blk.newAt _ _ _ _ ?_; first | rfl | (simp; done)) | with_reducible apply Blk.alloc | with_reducible apply Blk.drewN | with_reducible apply Blk.drew | with_reducible apply Blk.set_to | (with_reducible apply Blk.far_; (simp only [ne_eq]; omega)) | rfl)), ?_, hG7.off (show Below wq.heap.size w7 _ by repeat (first | with_reducible exact Below.refl _ _ | with_reducible assumption | with_reducible refine below_drewN ?_ _ | with_reducible refine Below.drew ?_ | with_reducible refine below_alloc ?_ _ | (with_reducible refine Below.setCell ?_ ?_ _; rotate_left; ((try simp only); omega)))), Blk.far hR8 (p := ⟨wv.heap.size, 4, none⟩) (by simp; omega) _, Lib.hid hPz.out.2⟩
                        rw [HT.out, csN_append, HON2.out]
                        exact own_set hown4 (by simp)
end Go.Proofs.YtpkmiegccfhpnaaGreatDoor
