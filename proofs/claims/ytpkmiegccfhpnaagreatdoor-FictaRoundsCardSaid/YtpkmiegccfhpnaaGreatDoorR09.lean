/- Parts of the proof of LawRounds31: AlSeq, AlSlices, FiStg. -/
import Derived.Test.YtpkmiegccfhpnaaGreatDoorR08
set_option maxRecDepth 100000
set_option maxHeartbeats 16000000
namespace Go.Proofs.YtpkmiegccfhpnaaGreatDoor
open Go.RowKit
attribute [local go_sem] Oper.semAt_some
def RoundOk (l : List (List Ev)) (m : List Tm) (lp n0 : Nat) (J : Nat → Nat → World → Prop) (Jx : Nat → World → Prop) : Prop :=
 ∀ (ba k : Nat) (W : World) (p : Sl × Pl), k + 1 < m.length → J ba k W → p.1 = slOf l m k → EvsAt W (ba + 1) [p] → ba < W.heap.size →
  ∃ fn tmps assign body, (Instr.yield lp #[.agg (cS p).toArray, .int .i64 (durE m k).2]).run Tryz.prog W = .ok (.round lp fn tmps assign body) W ∧
   RoundIn Fence.wide 0 Tryz.prog lp fn tmps assign body W fun e W' => (e = .returned (.bool true) ∧ KeepN W W' ∧ Below n0 W W' ∧ J ba (k + 1) W') ∨ (e = .returned (.bool false) ∧ Jx k W')
theorem slicesOf1_any (A : Option Addr) (n c : Nat) (l : List (List Ev)) (B p0 n0 lp : Nat) (w : World) (h : ReadsV w B A n l) (hB : B ≤ n0) (hn0 : n0 ≤ w.heap.size) (hz : (checkA l).1 = 0)
  (hp : Blk w p0 22 #[.slice A n c]) (J : Nat → Nat → World → Prop) (Jx : Nat → World → Prop)
  (hJ : ∀ ba k W W', w.heap.size ≤ ba → J ba k W → Gb ba W W' → J ba k W') (h0 : ∀ ba, w.heap.size ≤ ba → J ba 0 w) (hY : RoundOk l (momS l) lp n0 J Jx) :
  Calls Tryz.prog 71 #[.func (.yield lp) #[] #[], .pointer (some ⟨p0, 0, none⟩)] w fun e w' => (∃ v, e = .returned v) ∧ ((∃ ba, w.heap.size ≤ ba ∧ J ba ((momS l).length - 1) w') ∨ ∃ k, Jx k w') := by
 have HL := Lib.hid h.len
 obtain ⟨f1, f2, f3, f4, f5⟩ := set_facts hz
 have HV := Lib.hid f2
 have HOK := Lib.hid f5
 have HSA := Lib.hid f4
 have hn8 : n ≤ 8 := by have := HL.out; omega
 have q1 := fun W (hW : Below w.heap.size w W) => moments_any A n c l B W (h.below (Nat.le_trans hB hn0) hW) (Nat.le_trans (Nat.le_trans hB hn0) hW.size) hn8 HV.out
 have hml := momS_len l (fun v hv => (f2 v hv).2.2)
 obtain ⟨m, hm⟩ : ∃ m, m = momS l := ⟨_, rfl⟩
 rw [← hm] at q1 hml hY HOK HSA ⊢
 clear hm f1 f2 f3 f4 f5 hz
 obtain ⟨M, hM⟩ : ∃ M, M = m.length := ⟨_, rfl⟩
 have HM := Lib.hid hM.symm
 rw [← hM] at hml q1 ⊢
 have hMb : M ≤ 32000 := by have := HL.out; omega
 clear hM hml
 have HY := Lib.hid hY
 have HJ := Lib.hid hJ
 clear hY hJ
 have hmk : ∀ u : World, (Instr.makeSlice 40 (.int .i64 (n : Int)) (.int .i64 (n : Int))).run Tryz.prog u = .ok (.slice (some ⟨u.heap.size, 0, none⟩) n n) (u.alloc (.cells (madeCells #[.int .i64 0] n) 3)) := fun u => by
  obtain ⟨j0, hj0, gz0, gz1, gz2⟩ := info_parts num_info
  have := run_makeSlice (P := Tryz.prog) u 40 3 j0 (.int .i64 0) Tryz.underlying40 hj0 gz0 .i64 .i64 n n (by omega) (Int.le_refl _) (by rw [gz1]; simp; omega) (by rw [gz2]; show ((8 : Nat) : Int) * n ≤ _; omega) (by omega)
  rw [gz1] at this
  simpa [Value.cells] using this
 have c0 := hp.cell 0
 simp only [List.getElem?_toArray, List.getElem?_cons_zero] at c0
 obtain ⟨j0, hj0, gz0, gz1, gz2⟩ := info_parts num_info
 go_enter Tryz.func71, Tryz.ntmps71
 go_wp2_with fail
 refine (q1 _ (Below.refl _ _)).mono ?_
 rintro e w2 ⟨vm, rfl, hown, hb2⟩
 obtain ⟨Am, cm, rfl, _, _, _⟩ := own_reads hown
 have c1 := (hb2.cell (p := ⟨p0, 0, none⟩) hp.lt).trans c0
 clear q1
 have hAb : ∀ b off, Am = some ⟨b, off, none⟩ → b < w2.heap.size := fun b off e => (hown.lt b (by subst e; rfl)).2
 have hba := hb2.size
 have b1 := below_alloc (Below.refl w2.heap.size w2) (.cells (madeCells #[.int .i64 0] n) 3)
 have own1 := own_call hown b1
 have hp1 := (hp.kept hb2).kept b1
 have J1 := HJ.out w2.heap.size 0 _ _ hba (h0 _ hba) (Gb.of_below (below_alloc hb2 (.cells (madeCells #[.int .i64 0] n) 3)))
 have r1 := Row1.made w2 n
 have P1 : PtrsAt l (mAt m 0) (List.replicate n 0) := by have := ptrs_zero l (mAt m 0); rwa [HL.out] at this
 have hB1 : Below n0 w (w2.alloc (.cells (madeCells #[.int .i64 0] n) 3)) := (below_alloc hb2 _).mono hn0
 go_wp2_with fail
 clear hown hb2 h0 c1 b1
 go_loopg [5, 6, 7, 8, 9, 10, 11, 12, 46, 45] (M - 1) (fun g i _ _ _ _ _ _ _ _ _ wr => ∃ (k : Nat) (ps : List Nat), k + g = M - 1 ∧ i = .int .i64 k ∧ J w2.heap.size k wr ∧ Row1 wr w2.heap.size ps ∧ Hid (PtrsAt l (mAt m k) ps) ∧ Blk wr p0 22 #[.slice A n c] ∧ wr.ownsRow w.heap.size 45 2 (.slice Am M cm) M (csT m) ∧ Below n0 w wr)
 case atStart => exact ⟨0, _, by omega, rfl, J1, r1, Lib.hid P1, hp1, own1, hB1⟩
 case round =>
  clear J1 r1 P1 hp1 own1 hB1
  obtain ⟨k, ps, hkg, rfl, hJk, hR, hP, hpb, hown, hBw⟩ := hrel
  cases gk with
  | zero =>
   have dk : decide ((k : Int) + 1 < (M : Int)) = false := by simp; omega
   have ek : k = M - 1 := by omega
   subst ek
   go_wp2
   go_end0
   exact ⟨⟨_, rfl⟩, .inl ⟨_, hba, hJk⟩⟩
  | succ g =>
   have hk1 : k + 1 < M := by omega
   have dk : decide ((k : Int) + 1 < (M : Int)) = true := by simp; omega
   have hx := mAt_some (m := m) (i := k + 1) (by have := HM.out; omega)
   have hy := mAt_some (m := m) (i := k) (by have := HM.out; omega)
   have HLater := Lib.hid (show ok (mAt m k) ∧ ok (mAt m (k + 1)) ∧ ¬ ltT (mAt m (k + 1)) (mAt m k) from by
    refine ⟨HOK.out _ (List.mem_of_getElem? hy), HOK.out _ (List.mem_of_getElem? hx), ?_⟩
    have hlt := List.pairwise_iff_getElem.1 HSA.out k (k + 1) (by have := HM.out; omega) (by have := HM.out; omega) (by omega)
    have e1 := (List.getElem?_eq_some_iff.1 hx).2
    have e2 := (List.getElem?_eq_some_iff.1 hy).2
    rw [e1, e2] at hlt
    exact ltT_asym hlt)
   obtain ⟨_, _, e0, rm, _, _⟩ := own_reads hown
   cases e0
   obtain ⟨b, off, rfl, hab, c0, c1⟩ := rm.tm (Nat.le_refl _) (Below.refl _ wr) hk1 hx
   obtain ⟨b', off', hA', _, d0, d1⟩ := rm.tm (Nat.le_refl _) (Below.refl _ wr) (show k < M by omega) hy
   cases hA'
   have hbb := hAb b off rfl
   have q3 := sub_any (mAt m (k + 1)) (mAt m k)
   have HD := Lib.hid (show durE m k = (((subS (mAt m (k + 1)) (mAt m k)).1, (subS (mAt m (k + 1)) (mAt m k)).2.1), (subS (mAt m (k + 1)) (mAt m k)).2.2) from rfl)
   obtain ⟨⟨s0, s1, r⟩, hs⟩ : ∃ s, s = subS (mAt m (k + 1)) (mAt m k) := ⟨_, rfl⟩
   rw [← hs] at q3 HD
   have HSL := Lib.hid (show slOf l m k = ⟨mAt m k, (durE m k).1, l.map fun v => onS v (mAt m k)⟩ from rfl)
   have hP2 := hP
   obtain ⟨⟨x0, x1⟩, hxe⟩ : ∃ x, x = mAt m (k + 1) := ⟨_, rfl⟩
   obtain ⟨⟨y0, y1⟩, hye⟩ : ∃ x, x = mAt m k := ⟨_, rfl⟩
   have HYE := Lib.hid hye
   have HXE := Lib.hid hxe
   rw [← hxe] at q3 c0 c1
   rw [← hye] at q3 d0 d1 HSL hP2
   clear hs hxe hye hx hy
   simp only at c0 c1 d0 d1 q3
   have t1 : ((k : Int) + 1).toNat = k + 1 := by omega
   have t2 : IntKind.i64.wrap ((k : Int) + 1) = (k : Int) + 1 := IntWalk.i64_in _ (by omega)
   have t3 : (k : Int) + 1 < (M : Int) := by omega
   have t4 : (0 : Int) ≤ (k : Int) + 1 := by omega
   have t5 : (k : Int) < (M : Int) := by omega
   obtain ⟨wq, hwq⟩ : ∃ wq, wq = wr := ⟨_, rfl⟩
   subst hwq
   go_wp2_with fail
   go_region_held3 (fun w' => w'.cell? ⟨b, off + (k + 1) * 2, none⟩ = some (.int .i64 x0) ∧ w'.cell? ⟨b, off + (k + 1) * 2 + 1, none⟩ = some (.int .i64 x1) ∧ w'.cell? ⟨b, off + k * 2, none⟩ = some (.int .i64 y0) ∧ w'.cell? ⟨b, off + k * 2 + 1, none⟩ = some (.int .i64 y1) ∧ Below wq.heap.size wq w') ((refine (fun hb => ⟨(hb.cell (p := ⟨_, _, none⟩) hab).trans c0, (hb.cell (p := ⟨_, _, none⟩) hab).trans c1, (hb.cell (p := ⟨_, _, none⟩) hab).trans d0, (hb.cell (p := ⟨_, _, none⟩) hab).trans d1, hb⟩) ?_; repeat (first | with_reducible (first | exact Below.refl _ _ | exact hBd | exact (show _ ∧ _ ∧ _ ∧ _ ∧ Below wq.heap.size wq _ by assumption).2.2.2.2 | refine Below.drew ?_ | refine below_alloc ?_ _) | (with_reducible refine Below.setCell ?_ ?_ _; rotate_left; (first | (have hz := hBd.size; show wq.heap.size ≤ _; simp only; omega) | (show wq.heap.size ≤ _; simp only; omega)))))) (first | (go_at_call 73; refine (q3 _).mono ?_; rintro e wd ⟨rfl, hbd⟩; have hBd := below_call (show _ ∧ _ ∧ _ ∧ _ ∧ Below wq.heap.size wq _ by assumption).2.2.2.2 hbd; have hcd := (bcell hbd).1; have hfd := (bcell hbd).2; try (have hzd : wq.heap.size < wd.heap.size := by have hz := hbd.size; simp at hz; omega)))
   all_goals
    have hB5 := (show _ ∧ _ ∧ _ ∧ _ ∧ Below wq.heap.size wq _ by assumption).2.2.2.2
    obtain ⟨wv, hwv⟩ := name_world hB5
    first
     | (refine pick_block (wv := wv) (lo := wq.heap.size) (t := 45) wd.heap.size #[.int .i64 s0, .int .i64 s1] ?_ ?_ ?_; (focus (have hz := hBd.size; omega)); (focus (rw [hwv]; repeat (first | with_reducible exact Blk.new _ _ _ | (with_reducible refine Blk.newAt _ _ _ _ ?_; first | rfl | (simp; done)) | with_reducible (first | apply Blk.alloc | apply Blk.drewN | apply Blk.drew | apply Blk.set_to) | (with_reducible apply Blk.far_; (simp only [ne_eq]; omega)) | (with_reducible apply Blk.kept (hb := hbd)) | rfl))); intro gx hgx hgq5 BX5)
     | (refine pick_block (wv := wv) (lo := wq.heap.size) (t := 45) wq.heap.size #[.int .i64 s0, .int .i64 s1] ?_ ?_ ?_; (focus omega); (focus (rw [hwv]; repeat (first | with_reducible exact Blk.new _ _ _ | (with_reducible refine Blk.newAt _ _ _ _ ?_; first | rfl | (simp; done)) | with_reducible (first | apply Blk.alloc | apply Blk.drewN | apply Blk.drew | apply Blk.set_to) | (with_reducible apply Blk.far_; (simp only [ne_eq]; omega)) | (with_reducible apply Blk.kept (hb := hbd)) | rfl))); intro gx hgx hgq5 BX5)
    rw [← hwv] at hB5 ⊢
    rw [← hgx]
    clear hwv hgx
    have gq : Gb w2.heap.size wq wv := Gb.of_below hB5
    have hR5 : Blk wv w2.heap.size 3 (ps.map numV).toArray := Blk.kept hR hB5
    have n0q := d0
    have n1q := d1
    have n0c := (hB5.cell (p := ⟨b, off + k * 2, none⟩) hab).trans d0
    have n1c := (hB5.cell (p := ⟨b, off + k * 2 + 1, none⟩) hab).trans d1
    have e0c : wv.cell? ⟨gx, 0, none⟩ = some (.int .i64 s0) := BX5.cell 0
    have e1c : wv.cell? ⟨gx, 1, none⟩ = some (.int .i64 s1) := BX5.cell 1
    have lg := BX5.lt
    have lb : b < wv.heap.size := Nat.lt_of_lt_of_le hab hB5.size
    have pbc : wv.cell? ⟨p0, 0, none⟩ = some (.slice A n c) := (hpb.kept hB5).cell 0
    have lp0 : p0 < w.heap.size := hp.lt
    have lp1 : p0 < wv.heap.size := (hpb.kept hB5).lt
    have lbaq : w2.heap.size < wq.heap.size := hR.lt
    have lqv := hB5.size
    have HDU := Lib.hid (show durE m k = ((s0, s1), r) from HD.out)
    try clear hcd hfd
    try clear hzd
    try clear hbd hBd
    clear c0 c1 d0 d1 hab q3 t1 t2 t3 t4 rm hAb
    go_wp2_with fail
    go_region
    all_goals
     go_wp2_with fail
     go_loopg [9, 10, 11, 12, 46] n (fun g2 _ _ _ _ j wy => ∃ (q : Nat) (sv : Value) (ps : List Nat), q + g2 = n ∧ j = .int .i64 q ∧ Blk wy wv.heap.size 85 #[.int .i64 y0, .int .i64 y1, .int .i64 s0, .int .i64 s1, sv] ∧ wy.ownsRow (wv.heap.size + 1) 3 1 sv q (csN ((l.take q).map fun v => onS v (y0, y1))) ∧ Gb w2.heap.size wq wy ∧ Row1 wy w2.heap.size ps ∧ Hid (PtrsAt l (y0, y1) ps))
     case atStart => exact ⟨0, .slice none 0 0, ps, by omega, rfl, by repeat (first | with_reducible exact BX5 | with_reducible exact Blk.new _ _ _ | (with_reducible refine Blk.newAt _ _ _ _ ?_; first | rfl | (simp; done)) | with_reducible (first | apply Blk.alloc | apply Blk.drewN | apply Blk.drew | apply Blk.set_to) | (with_reducible apply Blk.far_; (simp only [ne_eq]; omega)) | rfl), ⟨rfl, .inl ⟨rfl, rfl⟩⟩, gq.tr (Gb.of_below (show Below wv.heap.size wv _ by repeat (first | with_reducible (first | exact Below.refl _ _ | assumption | refine below_drewN ?_ _ | refine Below.drew ?_ | refine below_alloc ?_ _) | (with_reducible refine Below.setCell ?_ ?_ _; rotate_left; ((try simp only); omega))))), (show Blk _ _ _ _ by repeat (first | with_reducible exact hR5 | with_reducible exact Blk.new _ _ _ | (with_reducible refine Blk.newAt _ _ _ _ ?_; first | rfl | (simp; done)) | with_reducible (first | apply Blk.alloc | apply Blk.drewN | apply Blk.drew | apply Blk.set_to) | (with_reducible apply Blk.far_; (simp only [ne_eq]; omega)) | rfl)), hP2⟩
     case round =>
      obtain ⟨q, sv, ps, hqg, rfl, bS, hrow, hG, hR6, hP6⟩ := hrel
      obtain ⟨wy, hwy⟩ : ∃ wy, wy = wr := ⟨_, rfl⟩
      subst hwy
      have lS := bS.lt
      have hBy : Below n0 wq wy := hG.below (by omega) (by omega)
      have HRV := Lib.hid ((h.lay ((hBw.trans hBy).mono hB) : ReadsV wy B A n l))
      cases gk with
      | zero =>
       have hqn : q = n := by omega
       subst hqn
       obtain ⟨As, cs, hsv, _, _, _⟩ := own_reads hrow
       subst hsv
       have w0c : wy.cell? ⟨wv.heap.size, 0, none⟩ = some (.int .i64 y0) := bS.cell 0
       have w1c : wy.cell? ⟨wv.heap.size, 1, none⟩ = some (.int .i64 y1) := bS.cell 1
       have w2c : wy.cell? ⟨wv.heap.size, 2, none⟩ = some (.int .i64 s0) := bS.cell 2
       have w3c : wy.cell? ⟨wv.heap.size, 3, none⟩ = some (.int .i64 s1) := bS.cell 3
       have w4c : wy.cell? ⟨wv.heap.size, 4, none⟩ = some (.slice As q cs) := bS.cell 4
       have HTK : l.take q = l := List.take_of_length_le (by have := HL.out; omega)
       rw [HTK] at hrow
       obtain ⟨fn, tmps, assign, body, hyd, hRd⟩ := HY.out w2.heap.size k wy (⟨(y0, y1), (s0, s1), l.map fun v => onS v (y0, y1)⟩, (As, q, cs)) (by have := HM.out; omega)
        (HJ.out _ _ _ _ hba hJk hG) (by rw [HSL.out, HDU.out]) (fun p hp => by rw [List.mem_singleton.1 hp]; exact ⟨by simp only [List.length_map]; exact HL.out, own_lower hrow (by omega)⟩) hR6.lt
       rw [HDU.out] at hyd
       simp only [cS] at hyd
       clear HTK HRV
       repeat ((fail_if_success (with_reducible show (Code.region 18 _ _).wp _ _ _ _)); go_step)
       refine (wpIn_wide (n := 1)).1 ?_
       gi_wp2
       refine hRd.mono ?_
       rintro e W3 (⟨rfl, hkn, hb3, hJ3⟩ | ⟨rfl, hx3⟩)
       ·have hR7 : Row1 W3 w2.heap.size ps := Blk.keepN hR6 hkn (by decide) (by decide) (by decide)
        have hP7 : PtrsAt l (mAt m (k + 1)) ps := PtrsAt.later (t := mAt m k) (by rw [← HYE.out]; exact hP6.out) (fun v hv => (HV.out v hv).2.1) HLater.out.1 HLater.out.2.1 HLater.out.2.2
        have hp7 : Blk W3 p0 22 #[.slice A q c] := Blk.keepN (Blk.gb hpb hG (by omega)) hkn (by decide) (by decide) (by decide)
        have ho7 : W3.ownsRow w.heap.size 45 2 (.slice (some ⟨b, off, none⟩) M cm) M (csT m) := own_keepN (own_gb hown hG (fun x hx e => by cases hx; simp only at e; omega)) hkn (by decide) (by decide) (by decide)
        have hb7 : Below n0 w W3 := (hBw.trans hBy).trans hb3
        clear hyd hRd
        have t2 : IntKind.i64.wrap ((k : Int) + 1) = (k : Int) + 1 := IntWalk.i64_in _ (by omega)
        gi_wp2
        go_wp2
        go_roundg g
        case measure => omega
        case rel => exact ⟨k + 1, ps, by omega, rfl, hJ3, hR7, Lib.hid hP7, hp7, ho7, hb7⟩
       ·clear hyd hRd
        gi_wp2
        go_wp2
        refine bodyPost_ret (results_none rfl _ _ _) rfl ?_
        exact ⟨⟨_, rfl⟩, .inr ⟨k, hx3⟩⟩
      | succ g2 =>
       have hqn : q < n := by omega
       have hqn' : (q : Int) < (n : Int) := by omega
       obtain ⟨v, hv⟩ := get_some (l := l) (k := q) (by have := HL.out; omega)
       obtain ⟨bl, offl, A', n', c', rfl, hbl, cl, hr, hn', hvn⟩ := HRV.out.voiceB hqn hv
       obtain ⟨hchk, hval, hvl⟩ := HV.out v (List.mem_of_getElem? hv)
       have HVal := Lib.hid hval
       have HE := Lib.hid (endS_val hchk)
       have HT := Lib.hid (show (l.take (q + 1)).map (fun v => onS v (y0, y1)) = (l.take q).map (fun v => onS v (y0, y1)) ++ [onS v (y0, y1)] by rw [take_get hv, List.map_append]; rfl)
       have HPP := Lib.hid (hP6.out.2 q v hv)
       have HSET := Lib.hid (fun p (hp : Ptr v (y0, y1) p) (hl : p ≤ v.length) => hP6.out.set hv hp hl)
       have HOy := Lib.hid (show ok (y0, y1) by rw [HYE.out]; exact HLater.out.1)
       have hvn2 : n' ≤ 2000 := by omega
       have hbl2 : bl < w2.heap.size := by omega
       have HVq := Lib.hid hv
       have HCK := Lib.hid hchk
       clear hchk hval hvl hv
       obtain ⟨p1, hp1, hp2, hp3⟩ := HPP.out
       go_wp2
       go_loopg [] (n' - p1) (fun g3 wz => ∃ (p : Nat) (ps : List Nat), p + g3 = n' ∧ Row1 wz w2.heap.size ps ∧ Hid (ps[q]? = some p) ∧ Hid (Ptr v (y0, y1) p ∧ PtrsAt l (y0, y1) ps) ∧ Gb w2.heap.size wy wz)
       case atStart => exact ⟨p1, ps, by omega, hR6, Lib.hid hp1, Lib.hid ⟨hp2, hP6.out⟩, Gb.refl _ _⟩
       case round =>
        clear hp1 hp2
        obtain ⟨p, ps, hpg, hRz, hpq, hPz, hGz⟩ := hrel
        obtain ⟨wz, hwz⟩ : ∃ wz, wz = wr := ⟨_, rfl⟩
        subst hwz
        have lz := hGz.size
        have lba := hRz.lt
        have zat : wz.cell? ⟨w2.heap.size, q, none⟩ = some (.int .i64 (p : Int)) := hRz.cell hpq.out
        have zat2 : wz.frozen? ⟨w2.heap.size, q, none⟩ = false := hRz.frozen q
        have zbox : wz.cell? ⟨p0, 0, none⟩ = some (.slice (some ⟨bl, offl, none⟩) n c) := (Blk.gb (Blk.gb hpb hG (by omega)) hGz (by omega)).cell 0
        have zv : wz.cell? ⟨bl, offl + q, none⟩ = some (.slice A' n' c') := (hGz.cell cl (by simp; omega))
        have zy0 : wz.cell? ⟨b, off + k * 2, none⟩ = some (.int .i64 y0) := ((hG.tr hGz).cell (n0q) (by simp; omega))
        have zy1 : wz.cell? ⟨b, off + k * 2 + 1, none⟩ = some (.int .i64 y1) := ((hG.tr hGz).cell (n1q) (by simp; omega))
        have lbl : bl < wz.heap.size := by omega
        have lbz : b < wz.heap.size := by omega
        have lp0z : p0 < wz.heap.size := by omega
        have t2 : IntKind.i64.wrap ((p : Int) + 1) = (p : Int) + 1 := IntWalk.i64_in _ (by omega)
        have hstep : (p + 1 < n' ∧ ∃ x, v[p + 1]? = some x ∧ ¬ ltT (y0, y1) x.at_) ∨ ((¬ p + 1 < n' ∨ (p + 1 < n' ∧ ∃ x, v[p + 1]? = some x ∧ ltT (y0, y1) x.at_)) ∧ PtrEnd v (y0, y1) p) := by
         by_cases hd1 : p + 1 < n'
         ·obtain ⟨x, hx⟩ := get_some (l := v) (k := p + 1) (by omega)
          by_cases hlt : ltT (y0, y1) x.at_
          ·exact .inr ⟨.inr ⟨hd1, x, hx, hlt⟩, fun z hz => by rw [hx] at hz; cases hz; exact hlt⟩
          ·exact .inl ⟨hd1, x, hx, hlt⟩
         ·exact .inr ⟨.inl hd1, fun z hz => by have := (List.getElem?_eq_some_iff.1 hz).1; omega⟩
        have HB10 := Lib.hid (fun (x : Ev) (hx : v[p + 1]? = some x) (hd1 : p + 1 < n') => hr.evB hd1 hx)
        rcases hstep with ⟨hd1, x, hx, hlt⟩ | ⟨hleave, hpe⟩
        ·obtain ⟨be, oe, hA', hbe, ec0, ec1⟩ := HB10.out x hx hd1
         subst hA'
         have e0c := hGz.cell ec0 (by simp; omega)
         have e1c := hGz.cell ec1 (by simp; omega)
         have lbe : be < wz.heap.size := by omega
         have HX := Lib.hid hx
         have hcd : decide ((cmpS x.at_ (y0, y1)).1 ≤ 0) = true := by rw [cmp_le (HVal.out.each _ x hx).1 HOy.out]; exact decide_eq_true hlt
         have HLT := Lib.hid hlt
         have q5 := fun W => compare_any x.at_ (y0, y1) W
         obtain ⟨ce, hce⟩ : ∃ ce, ce = (cmpS x.at_ (y0, y1)).1 := ⟨_, rfl⟩
         rw [← hce] at q5 hcd
         obtain ⟨⟨a0, a1⟩, ha⟩ : ∃ a, a = x.at_ := ⟨_, rfl⟩
         rw [← ha] at q5 e0c e1c
         clear hx hlt hce ec0 ec1 ha
         simp only at e0c e1c q5
         have d1 : decide ((p : Int) + 1 < (n' : Int)) = true := by simp; omega
         have t3 : ((p : Int) + 1).toNat = p + 1 := by omega
         have t4 : (0 : Int) ≤ (p : Int) + 1 := by omega
         have t6 : (p : Int) + 1 < (n' : Int) := by omega
         go_wp2_with fail
         refine wp_region_calm (by kernel_rfl) (by kernel_rfl) ?_
         repeat (go_big_quiet_step ((go_at_call 74; exact calm_call (q5 _))))
         refine wpQuiet_nil ?_
         intro w3 g3
         have zatd := (g3.cell (p := ⟨w2.heap.size, q, none⟩) lba).trans zat
         have zat2d := (g3.frozen (p := ⟨w2.heap.size, q, none⟩) lba).trans zat2
         obtain ⟨g4, rfl⟩ : ∃ g4, gk = g4 + 1 := ⟨gk - 1, by omega⟩
         go_wp2
         go_roundg g4
         case measure => omega
         case rel =>
          have hR3 : Row1 w3 w2.heap.size ps := Blk.kept hRz g3
          refine ⟨p + 1, ps.set q (p + 1), by omega, Row1.set hR3 q (p + 1), Lib.hid ?_, Lib.hid ⟨.inr ⟨x, HX.out, HLT.out⟩, hPz.out.2.set HVq.out (.inr ⟨x, HX.out, HLT.out⟩) (by omega)⟩, Gb.set (hGz.call g3) rfl _⟩
          have hlp := (List.getElem?_eq_some_iff.1 hpq.out).1
          simp [hlp]
        ·have HPE := Lib.hid hpe
         have hhere := ptr_on HVal.out HOy.out hPz.out.1 hpe
         have q6 := cmp_le (endV_ok HVal.out) HOy.out
         have q5 := fun W => compare_any (endV v) (y0, y1) W
         obtain ⟨ce, hce⟩ : ∃ ce, ce = (cmpS (endV v) (y0, y1)).1 := ⟨_, rfl⟩
         rw [← hce] at q5 q6
         have hON : onS v (y0, y1) = if ce ≤ 0 then -1 else (p : Int) := by
          rw [hhere]
          by_cases hc : ce ≤ 0
          ·rw [decide_eq_true hc] at q6
           rw [if_pos hc, if_neg (of_decide_eq_true q6.symm)]
          ·rw [decide_eq_false hc] at q6
           rw [if_neg hc, if_pos (Decidable.not_not.1 (of_decide_eq_false q6.symm))]
         have q4 := fun W (hW : Below wz.heap.size wz W) => evEnd_any A' n' c' v B W ((hr.lay (hGz.below (by omega) (by omega))).lay (hW.mono (by omega))) (by have := hW.size; omega) hn'
         obtain ⟨⟨v0, v1⟩, hve⟩ : ∃ e, e = endV v := ⟨_, rfl⟩
         rw [← hve] at q5
         simp only [HE.out, ← hve, vT] at q4
         have HON := Lib.hid hON
         clear hve hhere q6 hON hpe hce
         simp only at q5
         rcases hleave with hd1 | ⟨hd1, x, hx, hlt⟩
         rotate_left
         focus
          obtain ⟨be, oe, hA', hbe, ec0, ec1⟩ := HB10.out x hx hd1
          subst hA'
          have e0c := hGz.cell ec0 (by simp; omega)
          have e1c := hGz.cell ec1 (by simp; omega)
          have lbe : be < wz.heap.size := by omega
          have hcd : decide ((cmpS x.at_ (y0, y1)).1 ≤ 0) = false := by rw [cmp_le (HVal.out.each _ x hx).1 HOy.out]; exact decide_eq_false (fun h => h hlt)
          have q7 := fun W => compare_any x.at_ (y0, y1) W
          obtain ⟨ce2, hce2⟩ : ∃ ce, ce = (cmpS x.at_ (y0, y1)).1 := ⟨_, rfl⟩
          rw [← hce2] at q7 hcd
          obtain ⟨⟨a0, a1⟩, ha⟩ : ∃ a, a = x.at_ := ⟨_, rfl⟩
          rw [← ha] at q7 e0c e1c
          clear hx hlt hce2 ec0 ec1 ha
          simp only at e0c e1c q7
          have d1 : decide ((p : Int) + 1 < (n' : Int)) = true := by simp; omega
          have t3 : ((p : Int) + 1).toNat = p + 1 := by omega
          have t4 : (0 : Int) ≤ (p : Int) + 1 := by omega
          have t6 : (p : Int) + 1 < (n' : Int) := by omega
          go_wp2_with fail
          refine wp_region_calm (by kernel_rfl) (by kernel_rfl) ?_
          repeat (go_big_quiet_step ((go_at_call 74; exact calm_call (q7 _))))
          refine wpQuiet_nil ?_
          intro w3 g3
          clear q7
         rotate_left
         focus
          have d1 : decide ((p : Int) + 1 < (n' : Int)) = false := by simp; omega
          go_wp2_with fail
          refine wp_region_calm (by kernel_rfl) (by kernel_rfl) ?_
          repeat (go_big_quiet_step (fail))
          refine wpQuiet_nil ?_
          intro w3 g3
         all_goals
          have zatd := (g3.cell (p := ⟨w2.heap.size, q, none⟩) lba).trans zat
          have zboxd := (g3.cell (p := ⟨p0, 0, none⟩) lp0z).trans zbox
          have zvd := (g3.cell (p := ⟨bl, offl + q, none⟩) lbl).trans zv
          have y0d := (g3.cell (p := ⟨b, off + k * 2, none⟩) lbz).trans zy0
          have y1d := (g3.cell (p := ⟨b, off + k * 2 + 1, none⟩) lbz).trans zy1
          have l3 := g3.size
          have lbl3 : bl < w3.heap.size := by omega
          have lbz3 : b < w3.heap.size := by omega
          go_wp2_with fail
          refine Calls.mono (q4 _ ?_) ?_
          ·repeat (first | with_reducible (first | exact Below.refl _ _ | assumption | refine below_drewN ?_ _ | refine Below.drew ?_ | refine below_alloc ?_ _) | (with_reducible refine Below.setCell ?_ ?_ _; rotate_left; ((try simp only); omega)))
          rintro e w5 ⟨rfl, hb5⟩
          have zatd5 := (hb5.cell (p := ⟨w2.heap.size, q, none⟩) (by simp; omega)).trans zatd
          have y0e := (hb5.cell (p := ⟨b, off + k * 2, none⟩) lbz3).trans y0d
          have y1e := (hb5.cell (p := ⟨b, off + k * 2 + 1, none⟩) lbz3).trans y1d
          have l5 := hb5.size
          have lbz5 : b < w5.heap.size := by omega
          clear zatd zboxd zvd y0d y1d
          by_cases hc : ce ≤ 0
          ·have dce : decide (ce ≤ 0) = true := decide_eq_true hc
           have HON2 := Lib.hid (show onS v (y0, y1) = -1 by rw [HON.out, if_pos hc])
           go_wp2_with fail
           refine wp_region_calm (by kernel_rfl) (by kernel_rfl) ?_
           repeat (go_big_quiet_step ((go_at_call 74; exact calm_call (q5 _))))
           refine wpQuiet_nil ?_
           intro w6 g6
           have h6 : Below w5.heap.size w5 w6 := below_call (by repeat (first | with_reducible (first | exact Below.refl _ _ | assumption | refine below_drewN ?_ _ | refine Below.drew ?_ | refine below_alloc ?_ _) | (with_reducible refine Below.setCell ?_ ?_ _; rotate_left; ((try simp only); omega)))) g6
           have hG6 : Gb w2.heap.size wy w6 := ((hGz.call g3).call hb5).call h6
           have hGw : Gb w2.heap.size wq w6 := hG.tr hG6
           have bS6 := Blk.gb bS hG6 (by omega)
           have lS6 := bS6.lt
           have w4c : w6.cell? ⟨wv.heap.size, 4, none⟩ = some sv := bS6.cell 4
           have hrow6 := own_gb_hi hrow hG6 (by omega)
           have hR7 : Row1 w6 w2.heap.size ps := Blk.kept (Blk.kept (Blk.kept hRz g3) hb5) h6
           have l6 := h6.size
           have hob : ∀ x, sv.ownBlock = some x → wv.heap.size + 1 ≤ x := fun x hx => (hrow6.lt x hx).1
           clear hb5 zatd5 y0e y1e q5 q4 g6
           go_wp2_with (at_builtin; (refine wpList_append_any _ rfl (.tmp 106) (.tmp 108) 40 rfl (wv.heap.size + 1) 3 j0 _ 1 8 Tryz.underlying40 hj0 gz0 gz1 gz2 rfl (by omega) sv q (csN ((l.take q).map fun v => onS v (y0, y1))) rfl (own_call hrow6 (below_alloc (Below.refl _ _) _)) (w6.heap.size + 1) (some ⟨w6.heap.size, 0, none⟩) 1 1 (csN [(-1)]) rfl (Reads.newAt _ _ _ 1 1 _ rfl rfl) (one_csN _) (by simp only [maxLen]; omega) (by omega) (by simp; omega) ?_); intro v4 w7 hown4 hg4 hat4; have bS7 := Blk.grow (bS6.alloc (.cells #[.int .i64 (-1)] 3)) hg4 (fun he => by have := hob _ he.symm; omega); have f7 := bS7.frozen 4; have c47 : w7.cell? ⟨wv.heap.size, 4, none⟩ = some sv := bS7.cell 4; have l7 := bS7.lt; clear hat4; obtain ⟨A4, c4v, hv4, _, _⟩ := own_reads hown4; subst hv4)
           go_roundg g2
           case measure => omega
           case rel =>
            have hR8 : Row1 w7 w2.heap.size ps := Blk.grow (Blk.alloc hR7 (.cells #[.int .i64 (-1)] 3)) hg4 (fun he => by have := hob _ he.symm; omega)
            have hG7 : Gb w2.heap.size wq w7 := hGw.off (Below.grown (B := wq.heap.size) (a := w6) ((below_alloc (Below.refl w6.heap.size w6) (.cells #[.int .i64 (-1)] 3)).mono (by omega)) hg4 (by simp; omega) (fun x hx => by have := hob x hx; omega))
            refine ⟨q + 1, _, ps, by omega, rfl, (show Blk _ _ _ _ by repeat (first | with_reducible exact bS7 | with_reducible exact Blk.new _ _ _ | (with_reducible refine Blk.newAt _ _ _ _ ?_; first | rfl | (simp; done)) | with_reducible (first | apply Blk.alloc | apply Blk.drewN | apply Blk.drew | apply Blk.set_to) | (with_reducible apply Blk.far_; (simp only [ne_eq]; omega)) | rfl)), ?_, hG7.off (show Below wq.heap.size w7 _ by repeat (first | with_reducible (first | exact Below.refl _ _ | assumption | refine below_drewN ?_ _ | refine Below.drew ?_ | refine below_alloc ?_ _) | (with_reducible refine Below.setCell ?_ ?_ _; rotate_left; ((try simp only); omega)))), Blk.far hR8 (p := ⟨wv.heap.size, 4, none⟩) (by simp; omega) _, Lib.hid hPz.out.2⟩
            rw [HT.out, csN_append, HON2.out]
            exact own_set hown4 (by simp)
          ·have dce : decide (ce ≤ 0) = false := decide_eq_false hc
           have HON2 := Lib.hid (show onS v (y0, y1) = (p : Int) by rw [HON.out, if_neg hc])
           go_wp2_with fail
           refine wp_region_calm (by kernel_rfl) (by kernel_rfl) ?_
           repeat (go_big_quiet_step ((go_at_call 74; exact calm_call (q5 _))))
           refine wpQuiet_nil ?_
           intro w6 g6
           have h6 : Below w5.heap.size w5 w6 := below_call (by repeat (first | with_reducible (first | exact Below.refl _ _ | assumption | refine below_drewN ?_ _ | refine Below.drew ?_ | refine below_alloc ?_ _) | (with_reducible refine Below.setCell ?_ ?_ _; rotate_left; ((try simp only); omega)))) g6
           have hG6 : Gb w2.heap.size wy w6 := ((hGz.call g3).call hb5).call h6
           have hGw : Gb w2.heap.size wq w6 := hG.tr hG6
           have bS6 := Blk.gb bS hG6 (by omega)
           have lS6 := bS6.lt
           have w4c : w6.cell? ⟨wv.heap.size, 4, none⟩ = some sv := bS6.cell 4
           have hrow6 := own_gb_hi hrow hG6 (by omega)
           have hR7 : Row1 w6 w2.heap.size ps := Blk.kept (Blk.kept (Blk.kept hRz g3) hb5) h6
           have l6 := h6.size
           have hob : ∀ x, sv.ownBlock = some x → wv.heap.size + 1 ≤ x := fun x hx => (hrow6.lt x hx).1
           clear hb5 zatd5 y0e y1e q5 q4 g6
           go_wp2_with (at_builtin; (refine wpList_append_any _ rfl (.tmp 106) (.tmp 108) 40 rfl (wv.heap.size + 1) 3 j0 _ 1 8 Tryz.underlying40 hj0 gz0 gz1 gz2 rfl (by omega) sv q (csN ((l.take q).map fun v => onS v (y0, y1))) rfl (own_call hrow6 (below_alloc (Below.refl _ _) _)) (w6.heap.size + 1) (some ⟨w6.heap.size, 0, none⟩) 1 1 (csN [(p : Int)]) rfl (Reads.newAt _ _ _ 1 1 _ rfl rfl) (one_csN _) (by simp only [maxLen]; omega) (by omega) (by simp; omega) ?_); intro v4 w7 hown4 hg4 hat4; have bS7 := Blk.grow (bS6.alloc (.cells #[.int .i64 (p : Int)] 3)) hg4 (fun he => by have := hob _ he.symm; omega); have f7 := bS7.frozen 4; have c47 : w7.cell? ⟨wv.heap.size, 4, none⟩ = some sv := bS7.cell 4; have l7 := bS7.lt; clear hat4; obtain ⟨A4, c4v, hv4, _, _⟩ := own_reads hown4; subst hv4)
           go_roundg g2
           case measure => omega
           case rel =>
            have hR8 : Row1 w7 w2.heap.size ps := Blk.grow (Blk.alloc hR7 (.cells #[.int .i64 (p : Int)] 3)) hg4 (fun he => by have := hob _ he.symm; omega)
            have hG7 : Gb w2.heap.size wq w7 := hGw.off (Below.grown (B := wq.heap.size) (a := w6) ((below_alloc (Below.refl w6.heap.size w6) (.cells #[.int .i64 (p : Int)] 3)).mono (by omega)) hg4 (by simp; omega) (fun x hx => by have := hob x hx; omega))
            refine ⟨q + 1, _, ps, by omega, rfl, (show Blk _ _ _ _ by repeat (first | with_reducible exact bS7 | with_reducible exact Blk.new _ _ _ | (with_reducible refine Blk.newAt _ _ _ _ ?_; first | rfl | (simp; done)) | with_reducible (first | apply Blk.alloc | apply Blk.drewN | apply Blk.drew | apply Blk.set_to) | (with_reducible apply Blk.far_; (simp only [ne_eq]; omega)) | rfl)), ?_, hG7.off (show Below wq.heap.size w7 _ by repeat (first | with_reducible (first | exact Below.refl _ _ | assumption | refine below_drewN ?_ _ | refine Below.drew ?_ | refine below_alloc ?_ _) | (with_reducible refine Below.setCell ?_ ?_ _; rotate_left; ((try simp only); omega)))), Blk.far hR8 (p := ⟨wv.heap.size, 4, none⟩) (by simp; omega) _, Lib.hid hPz.out.2⟩
            rw [HT.out, csN_append, HON2.out]
            exact own_set hown4 (by simp)
attribute [local go_sem] Oper.semAt_some
/-! ### A range over a function whose iterator has its contract -/
def recOf (a : Act) (ps : Array Tmp) (assign body : Code) (fn : FuncId) (D : Nat) (st : LoopState) (pe : Option Code) : Loop :=
 { state := st, pending := pe, fn, tmps := a.tmps, params := ps, assign, body, defers := D }
theorem wp_rangeFunc_calls {P : Program} {g : Operand} {ps : Array Tmp} {assign body : Code} {Q : Exit → Act → World → Prop} {a : Act} {w : World} {gf : Nat} {lb : Array Value}
  (hg : a.eval g = .func (.func gf) #[] lb) (eg : ∀ args w, (callFunc gf args).run P w = .ok (.enter gf args) w)
  (h : ∀ (fn : FuncId) (rec : LoopState → Option Code → Loop) (W1 : World), rec = recOf a ps assign body fn w.heap.size → W1.heap[w.heap.size + 1]? = some (.loop (rec .ready none)) → W1.heap[w.heap.size]? = some (.deferred (some [])) →
   W1.heap.size = w.heap.size + 2 → Below w.heap.size w W1 →
   Calls P gf (#[.func (.yield (w.heap.size + 1)) #[] #[]] ++ lb) W1 fun e W2 => (∃ v, e = .returned v) ∧ ∃ st pe, st ≠ .busy ∧ W2.heap[w.heap.size + 1]? = some (.loop (rec st pe)) ∧
    (match pe with
     | none => Q .normal { a with defers := { target := .collected w.heap.size, args := #[] } :: a.defers } (W2.putObj (w.heap.size + 1) (.loop (rec .exhausted pe)))
     | some c => c.wp P Q { a with defers := { target := .collected w.heap.size, args := #[] } :: a.defers } (W2.putObj (w.heap.size + 1) (.loop (rec .exhausted pe))))) :
  (Code.rangeFunc g ps assign body).wp P Q a w := by
 refine (wpIn_wide (n := 1)).1 (wpIn_rangeFunc ?_)
 intro fn _
 obtain ⟨W1, hW1⟩ : ∃ W1, (w.alloc (.deferred (some []))).alloc (.loop (recOf a ps assign body fn w.heap.size .ready none)) = W1 := ⟨_, rfl⟩
 have hL1 : W1.heap[w.heap.size + 1]? = some (.loop (recOf a ps assign body fn w.heap.size .ready none)) := by
  rw [← hW1]; have := World.alloc_heap_new (w.alloc (.deferred (some []))) (.loop (recOf a ps assign body fn w.heap.size .ready none)); rwa [World.size_alloc] at this
 have hK1 : W1.heap[w.heap.size]? = some (.deferred (some [])) := by
  rw [← hW1]; exact (Below.heap_alloc _ _ _ (by simp)).trans (World.alloc_heap_new w _)
 have hs1 : W1.heap.size = w.heap.size + 2 := by rw [← hW1]; simp
 have hb1 : Below w.heap.size w W1 := by
  rw [← hW1]; exact below_alloc (below_alloc (Below.refl _ _) _) _
 refine ⟨w.heap.size + 1, [{ target := .collected w.heap.size, args := #[] }], W1, { target := .fn (.func gf) lb, args := #[.func (.yield (w.heap.size + 1)) #[] #[]] }, W1, gf,
  #[.func (.yield (w.heap.size + 1)) #[] #[]] ++ lb, W1, ?_, ?_, fun f' _ => trivial, ?_, fun _ => Nat.le_refl _, ?_⟩
 ·rw [← hW1]; exact run_enterLoop_outer _ _ _ _ _
 ·simp only [resolve, hg]
  simp [go_sem]
 ·simp [invoke, go_sem, eg]
 ·refine callsIn_wide.2 ((h fn _ W1 rfl hL1 hK1 hs1 hb1).mono ?_)
  rintro e W2 ⟨⟨v, rfl⟩, st, pe, hst, hl, hq⟩
  refine ⟨pe, W2.putObj (w.heap.size + 1) (.loop (recOf a ps assign body fn w.heap.size .exhausted pe)), run_endLoop hl hst, ?_⟩
  ·cases pe with
   | none => exact hq
   | some c => exact wpIn_wide.2 hq
theorem round_of_walk {P : Program} {a : Act} {ps : Array Tmp} {assign body : Code} {fn : FuncId} {L D : Nat} {W : World} {args : Array Value} {R : Ending → World → Prop}
  (hl : W.heap[L]? = some (.loop (recOf a ps assign body fn D .ready none))) (hs : args.size = ps.size)
  (h : assign.wpIn (Fence.wide.inRound L) 0 P (Exit.then (fun a₁ w₁ => ∃ w₂, (Instr.beginRound L).run P w₁ = .ok () w₂ ∧ body.wpIn (Fence.wide.inRound L) 0 P (roundPost P L R) a₁ w₂) (fun _ _ _ => False))
   { tmps := (ps.zip args).foldl (fun t (p, v) => t.setIfInBounds p v) a.tmps, defers := [] } W) :
  ∃ fn' tmps assign' body', (Instr.yield L args).run P W = .ok (.round L fn' tmps assign' body') W ∧ RoundIn Fence.wide 0 P L fn' tmps assign' body' W R :=
 ⟨fn, _, assign, body, run_yield hl hs, roundIn_of_wpIn trivial h⟩
def SJ (l : List (List Ev)) (w : World) (bo D : Nat) (r : Loop) (ba k : Nat) (W : World) : Prop := ∃ v, Blk W w.heap.size 55 #[.slice none 0 0] ∧ Blk W (w.heap.size + 1) 27 #[.int .i64 0] ∧ Blk W bo 55 #[v] ∧
 OwnS W (ba + 1) v ((List.range k).map (slOf l (momS l))) ∧ W.heap[D + 1]? = some (.loop r) ∧ W.heap[D]? = some (.deferred (some [])) ∧ Below w.heap.size w W ∧ durFrom (momS l) k ((momS l).length - 1 - k) = durFrom (momS l) 0 ((momS l).length - 1) ∧ D + 1 < ba
def SX (l : List (List Ev)) (w : World) (D : Nat) (r : Loop) (k : Nat) (W : World) : Prop := Blk W w.heap.size 55 #[.slice none 0 0] ∧ Blk W (w.heap.size + 1) 27 #[.int .i64 (slicesE l).2] ∧ (slicesE l).1 = [] ∧
 W.heap[D + 1]? = some (.loop r) ∧ W.heap[D]? = some (.deferred (some [])) ∧ Below w.heap.size w W ∧ k = k
theorem slicesE_dur {l : List (List Ev)} (hz : (checkA l).1 = 0) {k : Nat} (hd : durFrom (momS l) k ((momS l).length - 1 - k) = durFrom (momS l) 0 ((momS l).length - 1)) (hk : k + 1 < (momS l).length) (he : (durE (momS l) k).2 ≠ 0) : slicesE l = ([], (durE (momS l) k).2) := by
 rw [show (momS l).length - 1 - k = ((momS l).length - 1 - k - 1) + 1 by omega, durFrom_bad he] at hd
 unfold slicesE
 rw [if_neg (by omega), if_pos (by rw [← hd]; exact he), ← hd]
theorem slicesE_done {l : List (List Ev)} (hz : (checkA l).1 = 0) (hd : durFrom (momS l) ((momS l).length - 1) ((momS l).length - 1 - ((momS l).length - 1)) = durFrom (momS l) 0 ((momS l).length - 1)) : slicesE l = ((List.range ((momS l).length - 1)).map (slOf l (momS l)), 0) := by
 rw [Nat.sub_self] at hd
 unfold slicesE
 rw [if_neg (by omega), if_neg (by rw [← hd]; simp [durFrom])]
theorem dur_next {m : List Tm} {k : Nat} (hd : durFrom m k (m.length - 1 - k) = durFrom m 0 (m.length - 1)) (hk : k + 1 < m.length) (he : (durE m k).2 = 0) : durFrom m (k + 1) (m.length - 1 - (k + 1)) = durFrom m 0 (m.length - 1) := by
 rw [show m.length - 1 - k = (m.length - 1 - (k + 1)) + 1 by omega, durFrom_next he] at hd
 exact hd
theorem cells_new (w : World) (t : TypeId) (cs : Array Value) (g : Nat) (hg : g = w.heap.size) (j : Nat) (u : Value) (h : cs.toList[j]? = some u) : (w.alloc (.cells cs t)).cell? ((⟨g, 0, none⟩ : Addr).add j) = some u := by
 subst hg
 have := (Blk.new w t cs).cell j
 rw [Array.getElem?_toList] at h
 by_cases hj : j = 0
 ·subst hj; simpa [Addr.add] using this.trans h
 ·simpa [Addr.add, hj] using this.trans h
theorem Blk.put {w : World} {g r : Nat} {t : TypeId} {cs : Array Value} (h : Blk w g t cs) (o : Obj) (hne : g ≠ r) : Blk (w.putObj r o) g t cs := (World.putObj_heap_other hne).trans h
theorem below_put {w W : World} {B r : Nat} (h : Below B w W) (o : Obj) (hr : B ≤ r) : Below B w (W.putObj r o) := ⟨h.os, h.tape, h.output, by simpa using h.size, fun i hi => (World.putObj_heap_other (by omega)).trans (h.block i hi)⟩
theorem own_put {w : World} {base size n r : Nat} {e : TypeId} {v : Value} {xs : List Value} (h : w.ownsRow base e size v n xs) (o : Obj) (hr : r < base) : (w.putObj r o).ownsRow base e size v n xs := by
 obtain ⟨h1, h2⟩ := h
 refine ⟨h1, ?_⟩
 rcases h2 with h2 | ⟨g, cap, cur, hv, hg, hh, rest⟩
 ·exact .inl h2
 ·exact .inr ⟨g, cap, cur, hv, hg, (World.putObj_heap_other (by omega)).trans hh, rest⟩
theorem OwnS.put {w : World} {base r : Nat} {v : Value} {l : List Sl} (h : OwnS w base v l) (o : Obj) (hr : r < base) : OwnS (w.putObj r o) base v l := by
 obtain ⟨ps, h1, h2, h3⟩ := h
 exact ⟨ps, h1, own_put h2 o hr, fun p hp => ⟨(h3 p hp).1, own_put (h3 p hp).2 o hr⟩⟩
theorem OwnS.set {w : World} {base : Nat} {v u : Value} {l : List Sl} {p : Addr} (h : OwnS w base v l) (hr : p.block < base) : OwnS (w.setCell p u) base v l := by
 obtain ⟨ps, h1, h2, h3⟩ := h
 exact ⟨ps, h1, own_set h2 hr, fun p hp => ⟨(h3 p hp).1, own_set (h3 p hp).2 hr⟩⟩
theorem SJ.gb {l : List (List Ev)} {w : World} {bo D : Nat} {r : Loop} {ba k : Nat} {W W' : World} (h : SJ l w bo D r ba k W) (hg : Gb ba W W') (h1 : w.heap.size + 2 ≤ bo) (h2 : bo < D) : SJ l w bo D r ba k W' := by
 obtain ⟨v, a1, a2, a3, a4, a5, a6, a7, a8, a9⟩ := h
 have hlt := (Array.getElem?_eq_some_iff.1 a5).1
 exact ⟨v, a1.gb hg (by omega), a2.gb hg (by omega), a3.gb hg (by omega), a4.gb hg (by omega), (hg.block _ hlt (fun e => by cases e; omega)).trans a5, (hg.block _ (by omega) (fun e => by cases e; omega)).trans a6,
  a7.trans (hg.below (by omega) a7.size), a8, a9⟩
theorem slicesOf_any (A : Option Addr) (n c : Nat) (w : World) :
  Calls Tryz.prog 48 #[.slice A n c] w fun e w' => e = .returned (.func (.func 71) #[] #[.pointer (some ⟨w.heap.size, 0, none⟩)]) ∧ w' = w.alloc (.cells #[.slice A n c] 22) := by
 go_enter Tryz.func48, Tryz.ntmps48
 go_wp2
 go_ret
 exact ⟨rfl, rfl⟩
theorem slices_any (A : Option Addr) (n c : Nat) (l : List (List Ev)) (B : Nat) (w : World) (h : ReadsV w B A n l) (hB : B ≤ w.heap.size) (hn : n ≤ 9223372036854775807) :
  Calls Tryz.prog 29 #[.slice A n c] w fun e w' => ∃ v, e = .returned (.tuple #[v, .int .i64 (slicesE l).2]) ∧ OwnS w' w.heap.size v (slicesE l).1 ∧ Below w.heap.size w w' := by
 have q1 := fun W (hW : Below w.heap.size w W) => alCheck_any A n c l B W (h.below hB hW) (Nat.le_trans hB hW.size) hn
 refine (callsIn_wide (n := 1)).1 (callsIn_of_wp_marks Tryz.func29 rfl trivial ?_)
 simp only [Tryz.ntmps29, List.size_toArray, List.length_cons, List.length_nil, Nat.reduceAdd, Nat.reduceSub, Array.replicate_succ, Array.replicate_zero, List.push_toArray, List.append_toArray, List.nil_append, List.cons_append]
 refine wpIn_wide.2 ?_
 by_cases hz : (checkA l).1 = 0
 ·rw [hz] at q1
  go_wp2_with fail
  refine Calls.mono (q1 _ ?_) ?_
  ·repeat (first | with_reducible (first | exact Below.refl _ _ | assumption | refine below_drewN ?_ _ | refine Below.drew ?_ | refine below_alloc ?_ _) | (with_reducible refine Below.setCell ?_ ?_ _; rotate_left; ((try simp only); omega)))
  rintro e w1 ⟨rfl, hb1⟩
  have B2 : Blk w1 w.heap.size 55 #[.slice none 0 0] := (Blk.alloc (Blk.new _ _ _) _).kept hb1
  have B3 : Blk w1 (w.heap.size + 1) 27 #[.int .i64 0] := (Blk.newAt _ _ _ _ (by simp)).kept hb1
  go_wp2_with fail
  refine (slicesOf_any A n c _).mono ?_
  rintro e w2 ⟨rfl, rfl⟩
  go_wp2_with fail
  have hl1 : w.heap.size + 2 ≤ w1.heap.size := by have := hb1.size; simpa using this
  have hbw1 : Below w.heap.size w w1 := by
   refine Below.trans ?_ (hb1.mono (by simp; omega))
   exact below_alloc (below_alloc (Below.refl _ _) _) _
  obtain ⟨w3, hw3⟩ : ∃ w3, w3 = (w1.alloc (.cells #[.slice none 0 0] 55)).alloc (.cells #[.slice A n c] 22) := ⟨_, rfl⟩
  have hs3 : w3.heap.size = w1.heap.size + 2 := by rw [hw3]; simp
  have C2 : Blk w3 w.heap.size 55 #[.slice none 0 0] := by rw [hw3]; exact (B2.alloc _).alloc _
  have C3 : Blk w3 (w.heap.size + 1) 27 #[.int .i64 0] := by rw [hw3]; exact (B3.alloc _).alloc _
  have CO : Blk w3 w1.heap.size 55 #[.slice none 0 0] := by rw [hw3]; exact (Blk.new _ _ _).alloc _
  have CP : Blk w3 (w1.heap.size + 1) 22 #[.slice A n c] := by rw [hw3]; exact Blk.newAt _ _ _ _ (by simp)
  have hb3 : Below w.heap.size w w3 := by rw [hw3]; exact below_alloc (below_alloc hbw1 _) _
  rw [← hw3]
  clear hw3 hb1 hbw1 B2 B3
  have HS3 := Lib.hid hs3
  clear hs3
  have HML := Lib.hid (show (momS l).length ≤ 32000 by obtain ⟨f1, f2, _⟩ := set_facts hz; have := momS_len l (fun v hv => (f2 v hv).2.2); omega)
  refine wp_rangeFunc_calls rfl (fun args w => by simp [go_sem]) ?_
  intro fn rec W1 hrec hL hD hs hb
  have hb31 := hb3.trans (hb.mono (by have := hb3.size; omega))
  have HB31 := Lib.hid hb31
  have HR := Lib.hid hrec
  clear hrec
  refine (slicesOf1_any A n c l B (w1.heap.size + 1) w.heap.size (w3.heap.size + 1) W1 ?_ hB ?_ hz ?_ (SJ l w w1.heap.size w3.heap.size (rec .ready none)) (SX l w w3.heap.size (rec .done (some .ret))) ?_ ?_ ?_).mono ?_
  ·exact h.below hB hb31
  ·have := HS3.out; omega
  ·exact CP.kept hb
  ·exact fun ba k W W' h1 h2 h3 => h2.gb h3 (by omega) (by have := HS3.out; omega)
  ·intro ba hba
   exact ⟨_, C2.kept hb, C3.kept hb, CO.kept hb, OwnS.nil_ _ _, hL, hD, hb31, rfl, by omega⟩
  ·clear hL hD hb hb31 q1 CP CO C2 C3 hb3
   intro ba k W p hk hJ hp hev hba
   obtain ⟨v, c2, c3, co, how, hl, hd, hbw, hdur, hDb⟩ := hJ
   have hl' := hl
   rw [HR.out] at hl'
   refine round_of_walk hl' rfl ?_
   clear hl'
   have hlt := (Array.getElem?_eq_some_iff.1 hl).1
   obtain ⟨⟨⟨a0, a1⟩, ⟨d0, d1⟩, evs⟩, pA, pn, pc⟩ := p
   simp only [cS]
   gi_wp2
   obtain ⟨W0, hW0⟩ : ∃ W0, W0 = W.alloc (.cells #[.int .i64 a0, .int .i64 a1, .int .i64 d0, .int .i64 d1, .slice pA pn pc] 85) := ⟨_, rfl⟩
   have hs0 : W0.heap.size = W.heap.size + 1 := by rw [hW0]; simp
   have hba0 : Below W.heap.size W W0 := by rw [hW0]; exact below_alloc (Below.refl _ _) _
   have bs0 : Blk W0 W.heap.size 85 #[.int .i64 a0, .int .i64 a1, .int .i64 d0, .int .i64 d1, .slice pA pn pc] := by rw [hW0]; exact Blk.new _ _ _
   have kn0 : KeepN W W0 := by rw [hW0]; exact (KeepN.refl W).alloc _
   rw [← hW0]
   clear hW0
   have hlW := (hba0.block _ hlt).trans hl
   refine ⟨_, run_beginRound hlW (by rw [HR.out]; rfl), ?_⟩
   have hd0 := (hba0.block w3.heap.size (by omega)).trans hd
   have hbw0 := hbw.trans (hba0.mono hbw.size)
   have how0 := how.kept hba0
   have hev0 := hev.kept hba0
   have c20 := c2.kept hba0
   have c30 := c3.kept hba0
   have co0 := co.kept hba0
   obtain ⟨r1, hr1⟩ : ∃ r1 : Loop, { rec .ready none with state := .busy } = r1 := ⟨_, rfl⟩
   rw [hr1]
   obtain ⟨W2, hW2⟩ : ∃ W2, W2 = W0.putObj (w3.heap.size + 1) (.loop r1) := ⟨_, rfl⟩
   have hs2 : W2.heap.size = W.heap.size + 1 := by rw [hW2]; simp [hs0]
   have hD3 : w1.heap.size + 2 = w3.heap.size := HS3.out.symm
   have hlB : W2.heap[w3.heap.size + 1]? = some (.loop r1) := by rw [hW2]; exact World.putObj_heap_same (by omega)
   have hdB : W2.heap[w3.heap.size]? = some (.deferred (some [])) := by rw [hW2]; exact (World.putObj_heap_other (by omega)).trans hd0
   have hbB : Below w.heap.size w W2 := by rw [hW2]; exact below_put hbw0 _ (by omega)
   have howB : OwnS W2 (ba + 1) v ((List.range k).map (slOf l (momS l))) := by rw [hW2]; exact how0.put _ (by omega)
   have b2B : Blk W2 w.heap.size 55 #[.slice none 0 0] := by rw [hW2]; exact c20.put _ (by omega)
   have b3B : Blk W2 (w.heap.size + 1) 27 #[.int .i64 0] := by rw [hW2]; exact c30.put _ (by omega)
   have boB : Blk W2 w1.heap.size 55 #[v] := by rw [hW2]; exact co0.put _ (by omega)
   have bsB : Blk W2 W.heap.size 85 #[.int .i64 a0, .int .i64 a1, .int .i64 d0, .int .i64 d1, .slice pA pn pc] := by rw [hW2]; exact bs0.put _ (by omega)
   have knB : KeepN W W2 := by rw [hW2]; exact kn0.put _ hlW rfl
   have hevB : EvsAt W2 (ba + 1) [(⟨(a0, a1), (d0, d1), evs⟩, pA, pn, pc)] := by rw [hW2]; exact fun q hq => ⟨(hev0 q hq).1, own_put (hev0 q hq).2 _ (by omega)⟩
   have HWW := Lib.hid (show Below w.heap.size W W2 by rw [hW2]; exact below_put (hba0.mono (by have := hbw.size; omega)) _ (by omega))
   rw [← hW2]
   clear hW2 hs0 bs0 kn0 hlW hd0 hbw0 how0 hev0 c20 c30 co0 hba0 hl hd hbw how hev c2 c3 co hlt
   have m2 := b2B.cell 0
   have m3 := b3B.cell 0
   have mo := boB.cell 0
   have z2 := b2B.frozen 0
   have z3 := b3B.frozen 0
   simp only [List.getElem?_toArray, List.getElem?_cons_zero] at m2 m3 mo
   have HP := Lib.hid hp
   have HB := Lib.hid hbB
   have HDU := Lib.hid hdur
   have HKN := Lib.hid knB
   have HK := Lib.hid hk
   have HS2 := Lib.hid hs2
   clear hs2
   clear hp hbB hdur knB hk
   by_cases he : (durE (momS l) k).2 = 0
   ·have HE := Lib.hid he
    rw [he]
    clear he
    have s0 := bsB.cell 0
    have s1 := bsB.cell 1
    have s2 := bsB.cell 2
    have s3 := bsB.cell 3
    have s4 := bsB.cell 4
    simp only [List.getElem?_toArray, List.getElem?_cons_zero, List.getElem?_cons_succ] at s0 s1 s2 s3 s4
    obtain ⟨ps, hps, hrow, hevs⟩ := howB
    have HPS := Lib.hid hps
    rw [List.length_map, List.length_range] at hrow
    have hob : ∀ x, v.ownBlock = some x → ba + 1 ≤ x := fun x hx => (hrow.lt x hx).1
    obtain ⟨i0, hi0, hz0, hz1, hz2⟩ := info_parts sl_info
    have hA := below_alloc (Below.refl W2.heap.size W2) (.cells #[.int .i64 a0, .int .i64 a1, .int .i64 d0, .int .i64 d1, .slice pA pn pc] 85)
    have hkM : k ≤ 32000 := by have := HK.out; have := HML.out; omega
    clear hps
    repeat ((fail_if_success gi_at_builtin); gi_step)
    refine wpListIn_append_own _ rfl (.tmp 24) (.tmp 26) 55 rfl (ba + 1) 85 i0 _ 5 56 Tryz.underlying55 hi0 hz0 hz1 hz2 rfl (by omega) v k (csS ps) rfl (own_call hrow hA) ⟨W2.heap.size, 0, none⟩ 1 1 [.int .i64 a0, .int .i64 a1, .int .i64 d0, .int .i64 d1, .slice pA pn pc] rfl rfl (cells_new _ _ _ _ rfl) (by simp [Value.oneCell']) (by simp only [maxLen]; omega) (by omega) (by have := HS2.out; simp; omega) ?_
    intro v5 w5 hown5 hg5 hat5; obtain ⟨g5, cap5, rfl⟩ := ownsRow_succ hown5; have bo5 := Blk.grow (boB.kept hA) hg5 (fun he => by have := hob _ he.symm; omega); have co5 := bo5.cell 0; have fo5 := bo5.frozen 0; simp only [List.getElem?_toArray, List.getElem?_cons_zero] at co5
    gi_wp2
    have hgA : ∀ g, g ≤ ba → g < W2.heap.size → w5.heap[g]? = W2.heap[g]? := fun g h1 h2 =>
     (hg5.block g (by simp; omega) (fun he => by have := hob g he.symm; omega)).trans (hA.block g h2)
    have hsz := HS2.out
    have hl5 : (w5.setCell ⟨w1.heap.size, 0, none⟩ (.slice (some ⟨g5, 0, none⟩) (k + 1) cap5)).heap[w3.heap.size + 1]? = some (.loop r1) :=
     (Below.heap_setCell _ _ _ _ (by show w3.heap.size + 1 ≠ w1.heap.size; omega)).trans ((hgA _ (by omega) (by omega)).trans hlB)
    have hd5 : (w5.setCell ⟨w1.heap.size, 0, none⟩ (.slice (some ⟨g5, 0, none⟩) (k + 1) cap5)).heap[w3.heap.size]? = some (.deferred (some [])) :=
     (Below.heap_setCell _ _ _ _ (by show w3.heap.size ≠ w1.heap.size; omega)).trans ((hgA _ (by omega) (by omega)).trans hdB)
    have b25 : Blk w5 w.heap.size 55 #[.slice none 0 0] := (hgA _ (by omega) (by omega)).trans b2B
    have b35 : Blk w5 (w.heap.size + 1) 27 #[.int .i64 0] := (hgA _ (by omega) (by omega)).trans b3B
    have hrA := own_call hrow hA
    have hbe2 : Below w.heap.size W2 w5 := Below.grown (B := w.heap.size) (a := W2) (hA.mono (by omega)) hg5 (by simp; omega) (fun x hx => by have := hob x hx; omega)
    have hbel := HB.out.trans hbe2
    refine ⟨_, _, run_endRound none hl5, .inl ⟨rfl, ?_, ?_, ?_⟩⟩
    ·refine KeepN.put ?_ _ hl5 rfl
     refine KeepN.set (t := 55) (cs := #[v]) ?_ bo5 (.inl rfl) _
     exact KeepN.grown (HKN.out.alloc _) hrA hg5 (.inr (.inr rfl))
    ·refine below_put ?_ _ (by omega)
     exact (HWW.out.trans hbe2).setCell (by simp; omega) _
    ·refine ⟨.slice (some ⟨g5, 0, none⟩) (k + 1) cap5, ?_, ?_, ?_, ?_, ?_, ?_, ?_, ?_, hDb⟩
     ·refine Blk.put ?_ _ (by omega)
      repeat (first | with_reducible exact b25 | with_reducible exact Blk.new _ _ _ | (with_reducible refine Blk.newAt _ _ _ _ ?_; first | rfl | (simp; done)) | with_reducible (first | apply Blk.alloc | apply Blk.drewN | apply Blk.drew | apply Blk.set_to) | (with_reducible apply Blk.far_; (simp only [ne_eq]; omega)) | rfl)
     ·refine Blk.put ?_ _ (by omega)
      repeat (first | with_reducible exact b35 | with_reducible exact Blk.new _ _ _ | (with_reducible refine Blk.newAt _ _ _ _ ?_; first | rfl | (simp; done)) | with_reducible (first | apply Blk.alloc | apply Blk.drewN | apply Blk.drew | apply Blk.set_to) | (with_reducible apply Blk.far_; (simp only [ne_eq]; omega)) | rfl)
     ·refine Blk.put ?_ _ (by omega)
      exact bo5.set_ 0 _
     ·rw [range_next, ← HP.out]
      refine OwnS.put (OwnS.set ?_ (by show w1.heap.size < _; omega)) _ (by omega)
      have hown6 : w5.ownsRow (ba + 1) 85 5 (.slice (some ⟨g5, 0, none⟩) (k + 1) cap5) (k + 1) (csS ps ++ csS [(⟨(a0, a1), (d0, d1), evs⟩, pA, pn, pc)]) := hown5
      have hev1 := hevB _ (List.mem_singleton.2 rfl)
      exact OwnS.snoc (p := (⟨(a0, a1), (d0, d1), evs⟩, pA, pn, pc)) HPS.out (by simp) hown6 hrA (hevs.kept hA) ⟨hev1.1, own_call hev1.2 hA⟩ hg5
     ·have e1 : ({ r1 with state := (if (none : Option Code).isNone then LoopState.ready else .done), pending := none } : Loop) = rec .ready none := by rw [← hr1, HR.out]; rfl
      rw [e1]
      exact World.putObj_heap_same (Array.getElem?_eq_some_iff.1 hl5).1
     ·exact (World.putObj_heap_other (by omega)).trans hd5
     ·refine below_put ?_ _ (by omega)
      exact hbel.setCell (by simp; omega) _
     ·exact dur_next HDU.out HK.out HE.out
   ·have hne : ((durE (momS l) k).2 != 0) = true := by simpa using he
    have HE := Lib.hid he
    clear he
    gi_wp2
    have E := slicesE_dur hz HDU.out HK.out HE.out
    have hlC : ((W2.setCell ⟨w.heap.size, 0, none⟩ (.slice none 0 0)).setCell ⟨w.heap.size + 1, 0, none⟩ (.int .i64 (durE (momS l) k).2)).heap[w3.heap.size + 1]? = some (.loop r1) :=
     (Below.heap_setCell _ _ _ _ (by show w3.heap.size + 1 ≠ w.heap.size + 1; omega)).trans ((Below.heap_setCell _ _ _ _ (by show w3.heap.size + 1 ≠ w.heap.size; omega)).trans hlB)
    have hdC : ((W2.setCell ⟨w.heap.size, 0, none⟩ (.slice none 0 0)).setCell ⟨w.heap.size + 1, 0, none⟩ (.int .i64 (durE (momS l) k).2)).heap[w3.heap.size]? = some (.deferred (some [])) :=
     (Below.heap_setCell _ _ _ _ (by show w3.heap.size ≠ w.heap.size + 1; omega)).trans ((Below.heap_setCell _ _ _ _ (by show w3.heap.size ≠ w.heap.size; omega)).trans hdB)
    refine ⟨_, _, run_endRound (some .ret) hlC, .inr ⟨rfl, ?_, ?_, ?_, ?_, ?_, ?_, rfl⟩⟩
    ·refine Blk.put ?_ _ (by omega)
     repeat (first | with_reducible exact b2B | with_reducible exact Blk.new _ _ _ | (with_reducible refine Blk.newAt _ _ _ _ ?_; first | rfl | (simp; done)) | with_reducible (first | apply Blk.alloc | apply Blk.drewN | apply Blk.drew | apply Blk.set_to) | (with_reducible apply Blk.far_; (simp only [ne_eq]; omega)) | rfl)
    ·refine Blk.put ?_ _ (by omega)
     rw [E]
     repeat (first | with_reducible exact b3B | with_reducible exact Blk.new _ _ _ | (with_reducible refine Blk.newAt _ _ _ _ ?_; first | rfl | (simp; done)) | with_reducible (first | apply Blk.alloc | apply Blk.drewN | apply Blk.drew | apply Blk.set_to) | (with_reducible apply Blk.far_; (simp only [ne_eq]; omega)) | rfl)
    ·rw [E]
    ·rw [← hr1, HR.out]
     exact World.putObj_heap_same (Array.getElem?_eq_some_iff.1 hlC).1
    ·exact (World.putObj_heap_other (by omega)).trans hdC
    ·refine below_put ?_ _ (by omega)
     exact (HB.out.setCell (by simp) _).setCell (by simp) _
  ·clear hL hD hb hb31 q1 CP CO C2 C3 hb3
   rintro e W2 ⟨⟨v, rfl⟩, hend⟩
   refine ⟨⟨v, rfl⟩, ?_⟩
   rcases hend with ⟨ba, hba, v, c2, c3, co, how, hl, hd, hbw, hdur, hDb⟩ | ⟨k, c2, c3, hE, hl, hd, hbw, _⟩
   ·refine ⟨.ready, none, by simp, hl, ?_⟩
    simp only
    obtain ⟨Av, cv, hv, _⟩ := how.reads
    obtain ⟨N, hN⟩ : ∃ N, N = ((List.range ((momS l).length - 1)).map (slOf l (momS l))).length := ⟨_, rfl⟩
    rw [← hN] at hv
    clear hN
    subst hv
    have hlt := (Array.getElem?_eq_some_iff.1 hl).1
    have := HS3.out
    have HDU := Lib.hid hdur
    clear hdur
    have c2' := c2.put (.loop (rec .exhausted none)) (r := w3.heap.size + 1) (by have := HS3.out; omega)
    have c3' := c3.put (.loop (rec .exhausted none)) (r := w3.heap.size + 1) (by have := HS3.out; omega)
    have co' := co.put (.loop (rec .exhausted none)) (r := w3.heap.size + 1) (by have := HS3.out; omega)
    have how' := how.put (.loop (rec .exhausted none)) (r := w3.heap.size + 1) (by have := HS3.out; omega)
    have hd' := (World.putObj_heap_other (w := W2) (r := w3.heap.size + 1) (o := .loop (rec .exhausted none)) (k := w3.heap.size) (by omega)).trans hd
    have hb' := below_put hbw (.loop (rec .exhausted none)) (r := w3.heap.size + 1) (by have := HS3.out; omega)
    generalize W2.putObj (w3.heap.size + 1) (.loop (rec .exhausted none)) = W4 at *
    have k2 := c2'.cell 0
    have k3 := c3'.cell 0
    have ko := co'.cell 0
    have f2 := c2'.frozen 0
    have f3 := c3'.frozen 0
    have l2 := c2'.lt
    have l3 := c3'.lt
    simp only [List.getElem?_toArray, List.getElem?_cons_zero] at k2 k3 ko
    go_wp2
    have hd5 : ((W4.setCell ⟨w.heap.size, 0, none⟩ (.slice Av N cv)).setCell ⟨w.heap.size + 1, 0, none⟩ (.int .i64 0)).heap[w3.heap.size]? = some (.deferred (some [])) :=
     (Below.heap_setCell _ _ _ _ (by show w3.heap.size ≠ w.heap.size + 1; omega)).trans ((Below.heap_setCell _ _ _ _ (by show w3.heap.size ≠ w.heap.size; omega)).trans hd')
    refine ⟨by simp, .inl ⟨w3.heap.size, _, rfl, run_takeDeferred hd5, ?_⟩⟩
    refine ⟨.tuple #[.slice Av N cv, .int .i64 0], ?_, ?_⟩
    ·have hres : Tryz.f29.results = #[.cell 2 55, .cell 3 27] := by kernel_rfl
     have e2 : Blk (((W4.setCell ⟨w.heap.size, 0, none⟩ (.slice Av N cv)).setCell ⟨w.heap.size + 1, 0, none⟩ (.int .i64 0)).putObj w3.heap.size (.deferred none)) w.heap.size 55 #[.slice Av N cv] := by
      refine Blk.put ?_ _ (by omega)
      repeat (first | with_reducible exact c2' | with_reducible exact Blk.new _ _ _ | (with_reducible refine Blk.newAt _ _ _ _ ?_; first | rfl | (simp; done)) | with_reducible (first | apply Blk.alloc | apply Blk.drewN | apply Blk.drew | apply Blk.set_to) | (with_reducible apply Blk.far_; (simp only [ne_eq]; omega)) | rfl)
     have e3 : Blk (((W4.setCell ⟨w.heap.size, 0, none⟩ (.slice Av N cv)).setCell ⟨w.heap.size + 1, 0, none⟩ (.int .i64 0)).putObj w3.heap.size (.deferred none)) (w.heap.size + 1) 27 #[.int .i64 0] := by
      refine Blk.put ?_ _ (by omega)
      repeat (first | with_reducible exact c3' | with_reducible exact Blk.new _ _ _ | (with_reducible refine Blk.newAt _ _ _ _ ?_; first | rfl | (simp; done)) | with_reducible (first | apply Blk.alloc | apply Blk.drewN | apply Blk.drew | apply Blk.set_to) | (with_reducible apply Blk.far_; (simp only [ne_eq]; omega)) | rfl)
     generalize ((W4.setCell ⟨w.heap.size, 0, none⟩ (.slice Av N cv)).setCell ⟨w.heap.size + 1, 0, none⟩ (.int .i64 0)).putObj w3.heap.size (.deferred none) = W9 at *
     have n2 := e2.cell 0
     have n3 := e3.cell 0
     simp only [List.getElem?_toArray, List.getElem?_cons_zero] at n2 n3
     simp only [results, hres]
     go_simp
    ·have E := slicesE_done hz HDU.out
     refine ⟨_, by rw [E], ?_, ?_⟩
     ·rw [E]
      exact (((how'.set (by show w.heap.size < _; omega)).set (by show w.heap.size + 1 < _; omega)).put _ (by omega)).lower (by omega)
     ·refine below_put ?_ _ (by omega)
      exact (hb'.setCell (by simp) _).setCell (by simp) _
   ·refine ⟨.done, some .ret, by simp, hl, ?_⟩
    simp only
    have hlt := (Array.getElem?_eq_some_iff.1 hl).1
    have c2' := c2.put (.loop (rec .exhausted (some .ret))) (r := w3.heap.size + 1) (by have := HS3.out; omega)
    have c3' := c3.put (.loop (rec .exhausted (some .ret))) (r := w3.heap.size + 1) (by have := HS3.out; omega)
    have hd' := (World.putObj_heap_other (w := W2) (r := w3.heap.size + 1) (o := .loop (rec .exhausted (some .ret))) (k := w3.heap.size) (by omega)).trans hd
    have hb' := below_put hbw (.loop (rec .exhausted (some .ret))) (r := w3.heap.size + 1) (by have := HS3.out; omega)
    generalize W2.putObj (w3.heap.size + 1) (.loop (rec .exhausted (some .ret))) = W4 at *
    have HE := Lib.hid hE
    clear hE
    go_wp2
    refine ⟨by simp, .inl ⟨w3.heap.size, _, rfl, run_takeDeferred hd', ?_⟩⟩
    refine ⟨.tuple #[.slice none 0 0, .int .i64 (slicesE l).2], ?_, ?_⟩
    ·have hres : Tryz.f29.results = #[.cell 2 55, .cell 3 27] := by kernel_rfl
     have e2 := c2'.put (.deferred none) (r := w3.heap.size) (by have := HS3.out; omega)
     have e3 := c3'.put (.deferred none) (r := w3.heap.size) (by have := HS3.out; omega)
     generalize W4.putObj w3.heap.size (.deferred none) = W9 at *
     have n2 := e2.cell 0
     have n3 := e3.cell 0
     simp only [List.getElem?_toArray, List.getElem?_cons_zero] at n2 n3
     simp only [results, hres]
     go_simp
    ·refine ⟨_, rfl, ?_, below_put hb' _ (by have := HS3.out; omega)⟩
     rw [HE.out]
     exact OwnS.nil_ _ _
 ·have hb : ((checkA l).1 != 0) = true := by simpa using hz
  have E := Lib.hid (show slicesE l = ([], (checkA l).1) by unfold slicesE; rw [if_pos hz])
  clear hz
  go_wp2_with fail
  refine Calls.mono (q1 _ ?_) ?_
  ·repeat (first | with_reducible (first | exact Below.refl _ _ | assumption | refine below_drewN ?_ _ | refine Below.drew ?_ | refine below_alloc ?_ _) | (with_reducible refine Below.setCell ?_ ?_ _; rotate_left; ((try simp only); omega)))
  rintro e w1 ⟨rfl, hb1⟩
  have hc1 := (bcell hb1).1
  have hf1 := (bcell hb1).2
  have B2 : Blk w1 w.heap.size 55 #[.slice none 0 0] := (Blk.alloc (Blk.new _ _ _) _).kept hb1
  have B3 : Blk w1 (w.heap.size + 1) 27 #[.int .i64 0] := (Blk.newAt _ _ _ _ (by simp)).kept hb1
  have hbw1 : Below w.heap.size w w1 := by
   refine Below.trans ?_ (hb1.mono (by simp; omega))
   exact below_alloc (below_alloc (Below.refl _ _) _) _
  go_wp2
  refine ⟨.tuple #[.slice none 0 0, .int .i64 (checkA l).1], ?_, ?_⟩
  ·have hres : Tryz.f29.results = #[.cell 2 55, .cell 3 27] := by kernel_rfl
   have e2 : Blk ((w1.setCell ⟨w.heap.size, 0, none⟩ (.slice none 0 0)).setCell ⟨w.heap.size + 1, 0, none⟩ (.int .i64 (checkA l).1)) w.heap.size 55 #[.slice none 0 0] := by repeat (first | with_reducible exact B2 | with_reducible exact Blk.new _ _ _ | (with_reducible refine Blk.newAt _ _ _ _ ?_; first | rfl | (simp; done)) | with_reducible (first | apply Blk.alloc | apply Blk.drewN | apply Blk.drew | apply Blk.set_to) | (with_reducible apply Blk.far_; (simp only [ne_eq]; omega)) | rfl)
   have e3 : Blk ((w1.setCell ⟨w.heap.size, 0, none⟩ (.slice none 0 0)).setCell ⟨w.heap.size + 1, 0, none⟩ (.int .i64 (checkA l).1)) (w.heap.size + 1) 27 #[.int .i64 (checkA l).1] := by repeat (first | with_reducible exact B3 | with_reducible exact Blk.new _ _ _ | (with_reducible refine Blk.newAt _ _ _ _ ?_; first | rfl | (simp; done)) | with_reducible (first | apply Blk.alloc | apply Blk.drewN | apply Blk.drew | apply Blk.set_to) | (with_reducible apply Blk.far_; (simp only [ne_eq]; omega)) | rfl)
   generalize (w1.setCell ⟨w.heap.size, 0, none⟩ (.slice none 0 0)).setCell ⟨w.heap.size + 1, 0, none⟩ (.int .i64 (checkA l).1) = W9 at *
   have n2 := e2.cell 0
   have n3 := e3.cell 0
   simp only [List.getElem?_toArray, List.getElem?_cons_zero] at n2 n3
   simp only [results, hres]
   go_simp
  ·refine ⟨_, by rw [E.out], ?_, (hbw1.setCell (by simp) _).setCell (by simp) _⟩
   rw [E.out]
   exact OwnS.nil_ _ _
theorem ReadsV.more {w : World} {B B' n : Nat} {A : Option Addr} {l : List (List Ev)} (h : ReadsV w B A n l) (hB : B ≤ B') : ReadsV w B' A n l := by
 obtain ⟨ds, h1, h2, h3⟩ := h
 exact ⟨ds, h1, h2.more hB, fun k d v hd hv => ⟨(h3 k d v hd hv).1.more hB, (h3 k d v hd hv).2⟩⟩
theorem mom_big {l : List (List Ev)} (hz : (checkA l).1 = 0) : (momS l).length ≤ 32000 := by
 obtain ⟨f1, f2, _⟩ := set_facts hz; have := momS_len l (fun v hv => (f2 v hv).2.2); omega
theorem ReadsS.el {w W : World} {B n : Nat} {A : Option Addr} {l : List Sl} (h : ReadsS w B A n l) (hB : B ≤ w.heap.size) (hb : Below w.heap.size w W) {k : Nat} {s : Sl} (hk : k < n) (hs : l[k]? = some s) :
  ∃ b off p q c, A = some ⟨b, off, none⟩ ∧ b < W.heap.size ∧ s.evs.length = q ∧ Reads W W.heap.size 1 p q (csN s.evs) ∧ W.cell? ⟨b, off + k * 5, none⟩ = some (.int .i64 s.at_.1) ∧ W.cell? ⟨b, off + k * 5 + 1, none⟩ = some (.int .i64 s.at_.2) ∧
   W.cell? ⟨b, off + k * 5 + 2, none⟩ = some (.int .i64 s.dur.1) ∧ W.cell? ⟨b, off + k * 5 + 3, none⟩ = some (.int .i64 s.dur.2) ∧ W.cell? ⟨b, off + k * 5 + 4, none⟩ = some (.slice p q c) := by
 obtain ⟨ps, h1, h2, h3⟩ := h
 have hp : ∃ x, ps[k]? = some x ∧ x.1 = s := by
  rw [← h1, List.getElem?_map] at hs
  cases hx : ps[k]? with
  | none => rw [hx] at hs; cases hs
  | some x => rw [hx] at hs; exact ⟨x, rfl, by simpa using hs⟩
 obtain ⟨⟨s', p, q, c⟩, hx, rfl⟩ := hp
 obtain ⟨b, off, hA, hbB, hc⟩ := Reads.elem (f := cS) (fun _ => rfl) h2 hk hx
 obtain ⟨e1, e2⟩ := h3 _ (List.mem_of_getElem? hx)
 have hz := hb.size
 have hall : ∀ j u, (cS (s', p, q, c))[j]? = some u → W.cell? ⟨b, off + k * 5 + j, none⟩ = some u := fun j u hj => by
  rw [hb.cell (by simp; omega), Nat.add_assoc]
  exact hc j u hj
 exact ⟨b, off, p, q, c, hA, by omega, e1, (e2.below hB hb).more (by omega), hall 0 _ rfl, hall 1 _ rfl, hall 2 _ rfl, hall 3 _ rfl, hall 4 _ rfl⟩
theorem rdV {w w' : World} {A : Option Addr} {n : Nat} {l : List (List Ev)} (h : ReadsV w w.heap.size A n l) (hb : Below w.heap.size w w') : ReadsV w' w'.heap.size A n l := (h.below (Nat.le_refl _) hb).more hb.size
theorem rd1 {w w' : World} {A : Option Addr} {n size : Nat} {xs : List Value} (h : Reads w w.heap.size size A n xs) (hb : Below w.heap.size w w') : Reads w' w'.heap.size size A n xs := (h.below (Nat.le_refl _) hb).more hb.size
structure Anch (w : World) : Prop where
theorem Anch.kept {w W : World} (_ : Anch w) (hb : Below w.heap.size w W) : Below w.heap.size w W := hb
end Go.Proofs.YtpkmiegccfhpnaaGreatDoor
