/- The durations of a voice from the slices, by the reference. -/
import Derived.Test.YtbljfaocmeeljaaAlBack
import Derived.Test.YtbljfaocmeeljaaAlRefSlices
namespace Go.Proofs.Ytbljfaocmeeljaa
open Go.RowKit
theorem own_setne {w : World} {base size n : Nat} {e : TypeId} {v u : Value} {xs : List Value} {p : Addr} (h : w.ownsRow base e size v n xs) (hne : ∀ k, v.ownBlock = some k → k ≠ p.block) : (w.setCell p u).ownsRow base e size v n xs := by
  obtain ⟨h1, h2⟩ := h
  refine ⟨h1, ?_⟩
  rcases h2 with h2 | ⟨g, cap, cur, hv, hg, hh, rest⟩
  · exact .inl h2
  · exact .inr ⟨g, cap, cur, hv, hg, by rw [Below.heap_setCell w p u g (hne g (by rw [hv]; rfl))]; exact hh, rest⟩
theorem back_err {es : List Pt} : ∀ (k i : Nat), (backFrom es i k).2 ≠ 0 → (backFrom es i k).1 = []
  | 0, _, h => absurd rfl h
  | k + 1, i, h => by
    rw [back_succ] at h ⊢
    by_cases h1 : (sumI i (0, 1) es).2 ≠ 0
    · rw [if_pos h1]
    · rw [if_neg h1] at h ⊢
      by_cases h2 : (backFrom es (i + 1) k).2 ≠ 0
      · rw [if_pos h2]
      · rw [if_neg h2] at h; exact absurd rfl h
/-- The answer behind k sums. -/
def backAcc (es : List Pt) (acc : List Tm) (i k : Nat) : List Tm × Int := if (backFrom es i k).2 ≠ 0 then ([], (backFrom es i k).2) else (acc ++ (backFrom es i k).1, 0)
theorem acc_nil (es : List Pt) (k : Nat) : backAcc es [] 0 k = backFrom es 0 k := by
  unfold backAcc
  by_cases h : (backFrom es 0 k).2 ≠ 0
  · rw [if_pos h, ← back_err k 0 h]
  · rw [if_neg h, List.nil_append]
    have h0 : (backFrom es 0 k).2 = 0 := by omega
    rw [← h0]
theorem acc_bad {es : List Pt} {acc : List Tm} {i k : Nat} (h : (sumI i (0, 1) es).2 ≠ 0) : backAcc es acc i (k + 1) = ([], (sumI i (0, 1) es).2) := by
  unfold backAcc
  rw [back_succ, if_pos h, if_pos h]
theorem acc_next {es : List Pt} {acc : List Tm} {i k : Nat} {t : Tm} (h : sumI i (0, 1) es = (t, 0)) : backAcc es acc i (k + 1) = backAcc es (acc ++ [t]) (i + 1) k := by
  unfold backAcc
  rw [back_succ, h]
  by_cases h2 : (backFrom es (i + 1) k).2 = 0
  · simp [h2]
  · simp [h2]
theorem sum_skip {i : Int} {t : Tm} {p : Pt} {es : List Pt} (h : p.1 ≠ i) : sumI i t (p :: es) = sumI i t es := by conv => lhs; unfold sumI; rw [if_pos h]
theorem sum_bad {i : Int} {t : Tm} {p : Pt} {es : List Pt} (h : p.1 = i) (he : (addS t p.2).2.2 ≠ 0) : sumI i t (p :: es) = ((0, 0), (addS t p.2).2.2) := by conv => lhs; unfold sumI; rw [if_neg (fun h0 => h0 h), if_pos he]
theorem sum_ok {i : Int} {t : Tm} {p : Pt} {es : List Pt} (h : p.1 = i) (he : (addS t p.2).2.2 = 0) : sumI i t (p :: es) = sumI i ((addS t p.2).1, (addS t p.2).2.1) es := by conv => lhs; unfold sumI; rw [if_neg (fun h0 => h0 h), if_neg (fun h0 => h0 he)]
set_option maxRecDepth 100000 in
set_option maxHeartbeats 8000000 in
theorem refBack_any (A : Option Addr) (n c : Nat) (l : List (List Ev)) (j : Int) (B : Nat) (w : World) (h : ReadsV w B A n l) (hB : B ≤ w.heap.size) (hn : n ≤ 9223372036854775807) :
    Calls Try.prog 30 #[.slice A n c, .int .i64 j] w fun e w' => ∃ v, e = .returned (.tuple #[v, .int .i64 (backE l j).2]) ∧ w'.ownsRow w.heap.size 34 2 v (backE l j).1.length (csT (backE l j).1) ∧ Below w.heap.size w w' := by
  have HL := Lib.hid h.len
  have q1 := refSlices_any A n c l B w h hB hn
  go_enter Try.func30, Try.ntmps30
  go_wp2_with fail
  refine q1.mono ?_
  rintro e w1 ⟨v1, rfl, ho1, k1⟩
  clear q1
  by_cases he : (slicesE l).2 = 0
  · obtain ⟨hz, hsl⟩ := slicesE_ok he
    obtain ⟨As, cs, rfl, rs⟩ := ho1.reads
    have HKL := Lib.hid (show (slicesE l).1.length = (momS l).length - 1 by rw [hsl]; simp)
    rw [hsl] at rs
    simp only [List.length_map, List.length_range] at rs
    rw [HKL.out, he]
    have HMB := Lib.hid (mom_big hz)
    obtain ⟨K, hK⟩ : ∃ K, K = (momS l).length - 1 := ⟨_, rfl⟩
    rw [← hK] at rs HKL ⊢
    have HK := Lib.hid hK
    have HE := Lib.hid he
    have HV := Lib.hid (set_facts hz).2.1
    clear hK he hsl ho1 hz
    by_cases hj0 : j < 0
    · have E := Lib.hid (backE_range (l := l) HE.out (.inl hj0))
      go_wp2
      refine ret_of (by simp [results, Try.results30, go_sem, *]; repeat' (first | rfl | apply And.intro)) rfl ⟨.slice none 0 0, ?_, ?_, by repeat (first | with_reducible exact Below.refl _ _ | with_reducible assumption | with_reducible refine below_drewN ?_ _ | with_reducible refine Below.drew ?_ | with_reducible refine below_alloc ?_ _ | (with_reducible refine Below.setCell ?_ ?_ _; rotate_left; ((try simp only); omega)))⟩
      · rw [E.out]
      · rw [E.out]; exact ⟨rfl, .inl ⟨rfl, rfl⟩⟩
    by_cases hj1 : (n : Int) ≤ j
    · have E := Lib.hid (backE_range (l := l) HE.out (.inr (by rw [HL.out]; exact hj1)))
      have d0 : decide (j < 0) = false := decide_eq_false hj0
      go_wp2
      refine ret_of (by simp [results, Try.results30, go_sem, *]; repeat' (first | rfl | apply And.intro)) rfl ⟨.slice none 0 0, ?_, ?_, by repeat (first | with_reducible exact Below.refl _ _ | with_reducible assumption | with_reducible refine below_drewN ?_ _ | with_reducible refine Below.drew ?_ | with_reducible refine below_alloc ?_ _ | (with_reducible refine Below.setCell ?_ ?_ _; rotate_left; ((try simp only); omega)))⟩
      · rw [E.out]
      · rw [E.out]; exact ⟨rfl, .inl ⟨rfl, rfl⟩⟩
    obtain ⟨i, rfl⟩ : ∃ i : Nat, j = (i : Int) := ⟨j.toNat, by omega⟩
    have hin : i < n := by omega
    have hin' : (i : Int) < (n : Int) := by omega
    have hni' : ¬ ((n : Int) ≤ (i : Int)) := by omega
    obtain ⟨v, hv⟩ := get_some (l := l) (k := i) (by have := HL.out; omega)
    have hvl := (HV.out v (List.mem_of_getElem? hv)).2.2
    have E := Lib.hid (backE_ok HE.out hv)
    have HVI := Lib.hid hv
    obtain ⟨b, off, A', n', c', rfl, hab, cv, hre, hn', hvn⟩ := h.voice hB k1 hin hv
    rw [hvn] at E hvl
    obtain ⟨es, hes⟩ : ∃ es, es = ptsOf l v := ⟨_, rfl⟩
    have HES := Lib.hid (show ∀ k, k < K → es[k]? = some (onS v (mAt (momS l) k), (durE (momS l) k).1) from fun k hk => by
      rw [hes]; unfold ptsOf; rw [← HK.out, List.getElem?_map, List.getElem?_range hk]; rfl)
    have hesl : es.length = K := by rw [hes]; unfold ptsOf; rw [← HK.out]; simp
    have HEL := Lib.hid hesl
    rw [← hes] at E
    clear hes hesl cv hre hv
    obtain ⟨res, hres⟩ : ∃ res, res = backE l (i : Int) := ⟨_, rfl⟩
    rw [← hres] at E
    have HRES := Lib.hid hres
    clear hres
    obtain ⟨i0, hi0, hz0, hz1, hz2⟩ := info_parts tm_info
    go_wp2_with fail
    go_loopg [8, 9, 10, 11, 12, 13] n' (fun gh d ix _ _ _ _ wr => ∃ (ii : Nat) (acc : List Tm), ii + gh = n' ∧ ix = .int .i64 (ii : Int) ∧ Hid (backAcc es acc ii gh = res) ∧ wr.ownsRow w1.heap.size 34 2 d acc.length (csT acc) ∧ Hid (acc.length = ii) ∧ Below w1.heap.size w1 wr)
    case atStart => 
      refine ⟨0, [], by omega, by simp, Lib.hid ?_, ⟨rfl, .inl ⟨rfl, rfl⟩⟩, Lib.hid rfl, Below.refl _ _⟩
      rw [E.out, acc_nil]
    case round =>
      obtain ⟨ii, acc, hig, rfl, hS, hown, hal, kr⟩ := hrel
      have kw : Below w.heap.size w wr := k1.trans (kr.mono (by have := k1.size; omega))
      obtain ⟨b9, off9, A9, n9, c9, e9, hab9, cv9, _, _, hvn9⟩ := h.voice hB kw hin HVI.out
      cases e9
      have hn9 : n9 = n' := by omega
      subst hn9
      have wi : IntKind.i64.wrap ((ii : Int) + 1) = (ii : Int) + 1 := IntWalk.i64_in _ (by omega)
      cases gk with
      | zero =>
        have hii : ii = n9 := by omega
        have d0 : ¬ ((ii : Int) < (n9 : Int)) := by omega
        have E2 := Lib.hid (show res = (acc, 0) by rw [← hS.out]; unfold backAcc; rw [if_neg (fun h0 => h0 rfl)]; show (acc ++ [], 0) = _; rw [List.append_nil])
        clear hii hig
        go_wp2
        refine ret_of (by simp [results, Try.results30, go_sem, *]; repeat' (first | rfl | apply And.intro)) rfl ⟨u8, ?_, ?_, kw⟩
        · rw [← HRES.out, E2.out]
        · rw [← HRES.out, E2.out]
          exact own_lower hown k1.size
      | succ gh =>
        have d0 : (ii : Int) < (n9 : Int) := by omega
        obtain ⟨wo, rfl⟩ : ∃ wo : World, wo = wr := ⟨_, rfl⟩
        go_wp2_with fail
        obtain ⟨wt, hwt⟩ : ∃ wt, wt = wo.alloc (.cells #[.int .i64 0, .int .i64 1] 34) := ⟨_, rfl⟩
        have BT := (show Blk wt wo.heap.size 34 #[.int .i64 0, .int .i64 1] by rw [hwt]; exact Blk.new _ _ _)
        have hbt : Below wo.heap.size wo wt := by rw [hwt]; exact below_alloc (Below.refl _ _) _
        have hst := Lib.hid (show wt.heap.size = wo.heap.size + 1 by rw [hwt]; simp)
        rw [← hwt]
        clear hwt
        have hob : ∀ x, u8.ownBlock = some x → x < wo.heap.size := fun x hx => (hown.lt x hx).2
        have HOB := Lib.hid hob
        have ownt := own_call hown hbt
        have kwo := kr.size
        clear hob hown
        go_loopg [11, 12, 13] K (fun g2 kk _ _ wy => ∃ (k : Nat) (t0 t1 : Int), k + g2 = K ∧ kk = .int .i64 (k : Int) ∧ Hid (sumI (ii : Int) (t0, t1) (es.drop k) = sumI (ii : Int) (0, 1) es) ∧ Blk wy wo.heap.size 34 #[.int .i64 t0, .int .i64 t1] ∧ wy.ownsRow w1.heap.size 34 2 u8 acc.length (csT acc) ∧ Below wo.heap.size wo wy)
        case atStart => exact ⟨0, 0, 1, by omega, by simp, Lib.hid rfl, BT, ownt, hbt⟩
        case round =>
          clear BT hbt ownt
          obtain ⟨k, t0, t1, hkg, rfl, hSum, BT, hown, kz⟩ := hrel
          have lt0 := BT.lt
          have t0c : wr.cell? ⟨wo.heap.size, 0, none⟩ = some (.int .i64 t0) := BT.cell 0
          have t1c : wr.cell? ⟨wo.heap.size, 1, none⟩ = some (.int .i64 t1) := BT.cell 1
          cases gk with
          | zero =>
            have hkK : k = K := by omega
            have d1 : ¬ ((k : Int) < (K : Int)) := by omega
            have E3 : sumI (ii : Int) (0, 1) es = ((t0, t1), 0) := by rw [← hSum.out, List.drop_of_length_le (by rw [HEL.out]; omega)]; rfl
            have HN := Lib.hid (show backAcc es (acc ++ [(t0, t1)]) (ii + 1) gh = res by rw [← hS.out, acc_next E3])
            have hal1 := hal.out
            have kzs := kz.size
            clear E3 hkK hkg hSum
            go_wp2_with (at_builtin; (refine wpList_append_any _ rfl (.tmp 70) (.tmp 72) 48 rfl w1.heap.size 34 i0 _ 2 16 Try.underlying48 hi0 hz0 hz1 hz2 rfl (by omega) u8 acc.length (csT acc) rfl (own_call hown (below_alloc (Below.refl _ _) _)) (wr.heap.size + 1) (some ⟨wr.heap.size, 0, none⟩) 1 1 (csT [(t0, t1)]) rfl (Reads.newAt _ _ _ 1 2 _ rfl rfl) (one_csT _) (by simp only [maxLen]; omega) (by omega) (by simp; omega) ?_); intro v4 w4 hown4 hg4 hat4)
            have hB4 : Below w1.heap.size wr w4 := Below.grown (B := w1.heap.size) (a := wr) ((below_alloc (Below.refl wr.heap.size wr) (.cells #[.int .i64 t0, .int .i64 t1] 34)).mono (by omega)) hg4 (by simp; omega) (fun x hx => (hown.lt x hx).1)
            go_roundg gh
            case measure => omega
            case rel => exact ⟨ii + 1, acc ++ [(t0, t1)], by omega, by go_num, HN, by rw [List.length_append, csT_append]; exact hown4, Lib.hid (by rw [List.length_append, hal1]; rfl), kr.trans ((kz.mono (by omega)).trans hB4)⟩
          | succ g2 =>
            have d1 : (k : Int) < (K : Int) := by omega
            have hkK : k < K := by omega
            have wk : IntKind.i64.wrap ((k : Int) + 1) = (k : Int) + 1 := IntWalk.i64_in _ (by have := HMB.out; have := HK.out; omega)
            have hp := HES.out k hkK
            have hD : es.drop k = (onS v (mAt (momS l) k), (durE (momS l) k).1) :: es.drop (k + 1) := by
              have := List.drop_eq_getElem_cons (i := k) (l := es) (by rw [HEL.out]; omega)
              rw [this, (List.getElem?_eq_some_iff.1 hp).2]
            have hg : ((List.range K).map (slOf l (momS l)))[k]? = some (slOf l (momS l) k) := by rw [List.getElem?_map, List.getElem?_range hkK]; rfl
            obtain ⟨s, hs⟩ : ∃ s, s = slOf l (momS l) k := ⟨_, rfl⟩
            rw [← hs] at hg
            have kr1 : Below w1.heap.size w1 wr := kr.trans (kz.mono (by omega))
            obtain ⟨bs, os, p, q, kc, hAs, hbs, hq, hr, c0, c1, c2, c3, c4⟩ := rs.el (Nat.le_refl _) kr1 hkK hg
            have hdur : s.dur = (durE (momS l) k).1 := by rw [hs]; rfl
            have hevs : s.evs = l.map fun v => onS v (mAt (momS l) k) := by rw [hs]; rfl
            have hqn : n = q := by rw [← hq, hevs, List.length_map]; exact HL.out.symm
            rw [hevs] at hr
            obtain ⟨be, oe, hpe, hbe, hce⟩ := Reads.elem (f := cI) (fun _ => rfl) hr (k := i) (by omega) (by rw [List.getElem?_map, HVI.out]; rfl)
            have e0 : wr.cell? ⟨be, oe + i, none⟩ = some (.int .i64 (onS v (mAt (momS l) k))) := by have h0 : wr.cell? ⟨be, oe + (i * 1 + 0), none⟩ = some (.int .i64 (onS v (mAt (momS l) k))) := hce 0 _ rfl; simpa using h0
            rw [← hdur] at hD
            obtain ⟨on, hon9⟩ : ∃ on, on = onS v (mAt (momS l) k) := ⟨_, rfl⟩
            rw [← hon9] at hD e0
            obtain ⟨⟨a0, a1⟩, ⟨d0', d1'⟩, evs⟩ := s
            simp only at c0 c1 c2 c3 c4 hD
            have HDR := Lib.hid hD
            have hinq : (i : Int) < (q : Int) := by omega
            clear hD hs hg hp hq hevs hdur hr hce hon9 hqn
            subst hAs hpe
            by_cases hne : on = (ii : Int)
            · have f0 : (on != (ii : Int)) = false := by simp [hne]
              have q3 := refAdd_any (t0, t1) (d0', d1')
              have HBAD := Lib.hid (show (addS (t0, t1) (d0', d1')).2.2 ≠ 0 → res = ([], (addS (t0, t1) (d0', d1')).2.2) from fun he => by
                have h1 : sumI (ii : Int) (0, 1) es = ((0, 0), (addS (t0, t1) (d0', d1')).2.2) := by rw [← hSum.out, HDR.out, sum_bad hne he]
                rw [← hS.out, acc_bad (by rw [h1]; exact he), h1])
              have HGOOD := Lib.hid (show (addS (t0, t1) (d0', d1')).2.2 = 0 → sumI (ii : Int) ((addS (t0, t1) (d0', d1')).1, (addS (t0, t1) (d0', d1')).2.1) (es.drop (k + 1)) = sumI (ii : Int) (0, 1) es from fun he => by
                rw [← hSum.out, HDR.out, sum_ok hne he])
              obtain ⟨⟨s0, s1, r⟩, hsr⟩ : ∃ y, y = addS (t0, t1) (d0', d1') := ⟨_, rfl⟩
              rw [← hsr] at q3 HBAD HGOOD
              simp only at q3 HBAD HGOOD
              clear hsr hSum hne
              obtain ⟨wq, hwq⟩ : ∃ wq, wq = wr := ⟨_, rfl⟩
              subst hwq
              go_wp2_with fail
              go_region_held3 (fun w' => w'.cell? ⟨wo.heap.size, 0, none⟩ = some (.int .i64 t0) ∧ w'.cell? ⟨wo.heap.size, 1, none⟩ = some (.int .i64 t1) ∧ w'.cell? ⟨bs, os + k * 5 + 2, none⟩ = some (.int .i64 d0') ∧ w'.cell? ⟨bs, os + k * 5 + 3, none⟩ = some (.int .i64 d1') ∧ Below wq.heap.size wq w') ((refine (fun hb => ⟨(hb.cell (p := ⟨_, _, none⟩) lt0).trans t0c, (hb.cell (p := ⟨_, _, none⟩) lt0).trans t1c, (hb.cell (p := ⟨_, _, none⟩) hbs).trans c2, (hb.cell (p := ⟨_, _, none⟩) hbs).trans c3, hb⟩) ?_; repeat (first | with_reducible exact Below.refl _ _ | with_reducible exact hBd | with_reducible exact (show _ ∧ _ ∧ _ ∧ _ ∧ Below wq.heap.size wq _ by assumption).2.2.2.2 | with_reducible refine Below.drew ?_ | with_reducible refine below_alloc ?_ _ | (with_reducible refine Below.setCell ?_ ?_ _; rotate_left; (first | (have hz := hBd.size; show wq.heap.size ≤ _; simp only; omega) | (show wq.heap.size ≤ _; simp only; omega)))))) (first | (go_at_call 62; refine (q3 _).mono ?_; rintro e wd ⟨rfl, hbd⟩; have hBd := below_call (show _ ∧ _ ∧ _ ∧ _ ∧ Below wq.heap.size wq _ by assumption).2.2.2.2 hbd; have hcd := (bcell hbd).1; have hfd := (bcell hbd).2; try (have hzd : wq.heap.size < wd.heap.size := by have hz := hbd.size; simp at hz; omega)))
              all_goals
                have hB5 := (show _ ∧ _ ∧ _ ∧ _ ∧ Below wq.heap.size wq _ by assumption).2.2.2.2
                obtain ⟨wv, hwv⟩ := name_world hB5
                first
                  | (refine pick_block (wv := wv) (lo := wq.heap.size) (t := 34) wd.heap.size #[.int .i64 s0, .int .i64 s1] ?_ ?_ ?_; (focus (have hz := hBd.size; omega)); (focus (rw [hwv]; repeat (first | with_reducible exact Blk.new _ _ _ | (with_reducible refine Blk.newAt _ _ _ _ ?_; first | rfl | (simp; done)) | with_reducible apply Blk.alloc | with_reducible apply Blk.drewN | with_reducible apply Blk.drew | with_reducible apply Blk.set_to | (with_reducible apply Blk.far_; (simp only [ne_eq]; omega)) | (with_reducible apply Blk.kept (hb := hbd)) | rfl))); intro gx hgx hgq5 BX5)
                  | (refine pick_block (wv := wv) (lo := wq.heap.size) (t := 34) wq.heap.size #[.int .i64 s0, .int .i64 s1] ?_ ?_ ?_; (focus omega); (focus (rw [hwv]; repeat (first | with_reducible exact Blk.new _ _ _ | (with_reducible refine Blk.newAt _ _ _ _ ?_; first | rfl | (simp; done)) | with_reducible apply Blk.alloc | with_reducible apply Blk.drewN | with_reducible apply Blk.drew | with_reducible apply Blk.set_to | (with_reducible apply Blk.far_; (simp only [ne_eq]; omega)) | (with_reducible apply Blk.kept (hb := hbd)) | rfl))); intro gx hgx hgq5 BX5)
                rw [← hwv] at hB5 ⊢
                rw [← hgx]
                clear hwv hgx
                have x0 : wv.cell? ⟨gx, 0, none⟩ = some (.int .i64 s0) := BX5.cell 0
                have x1 : wv.cell? ⟨gx, 1, none⟩ = some (.int .i64 s1) := BX5.cell 1
                have BT5 := BT.kept hB5
                have z0 : wv.cell? ⟨wo.heap.size, 0, none⟩ = some (.int .i64 t0) := BT5.cell 0
                have z1 : wv.cell? ⟨wo.heap.size, 1, none⟩ = some (.int .i64 t1) := BT5.cell 1
                have fz0 := BT5.frozen 0
                have fz1 := BT5.frozen 1
                have lz := BT5.lt
                have own5 := own_call hown hB5
                have k5 := below_call kz hB5
                by_cases hr0 : r = 0
                · have HN := Lib.hid (HGOOD.out hr0)
                  subst hr0
                  go_wp2
                  go_roundg g2
                  case measure => omega
                  case rel => exact ⟨k + 1, s0, s1, by omega, by go_num, HN, by repeat (first | with_reducible exact BT5 | with_reducible exact Blk.new _ _ _ | (with_reducible refine Blk.newAt _ _ _ _ ?_; first | rfl | (simp; done)) | with_reducible apply Blk.alloc | with_reducible apply Blk.drewN | with_reducible apply Blk.drew | with_reducible apply Blk.set_to | (with_reducible apply Blk.far_; (simp only [ne_eq]; omega)) | rfl), own_setne (own_setne own5 (fun x hx => by have := HOB.out x hx; show x ≠ wo.heap.size; omega)) (fun x hx => by have := HOB.out x hx; show x ≠ wo.heap.size; omega), (k5.setCell (by simp) _).setCell (by simp) _⟩
                · have hrb : (r != 0) = true := by simpa using hr0
                  have HN := Lib.hid (HBAD.out hr0)
                  go_wp2
                  refine ret_of (by simp [results, Try.results30, go_sem, *]; repeat' (first | rfl | apply And.intro)) rfl ⟨.slice none 0 0, ?_, ?_, kw.trans (k5.mono (by have := k1.size; omega))⟩
                  · rw [← HRES.out, HN.out]
                  · rw [← HRES.out, HN.out]; exact ⟨rfl, .inl ⟨rfl, rfl⟩⟩
            · have f0 : (on != (ii : Int)) = true := by simp [hne]
              have HN := Lib.hid (show sumI (ii : Int) (t0, t1) (es.drop (k + 1)) = sumI (ii : Int) (0, 1) es by rw [← hSum.out, HDR.out, sum_skip hne])
              clear hSum hne
              go_wp2
              go_roundg g2
              case measure => omega
              case rel => exact ⟨k + 1, t0, t1, by omega, by go_num, HN, BT, hown, kz⟩
  · have hne : ((slicesE l).2 != 0) = true := by simpa using he
    have E := Lib.hid (backE_bad (j := j) he)
    clear he ho1
    go_wp2
    refine ret_of (by simp [results, Try.results30, go_sem, *]; repeat' (first | rfl | apply And.intro)) rfl ⟨.slice none 0 0, ?_, ?_, by repeat (first | with_reducible exact Below.refl _ _ | with_reducible assumption | with_reducible refine below_drewN ?_ _ | with_reducible refine Below.drew ?_ | with_reducible refine below_alloc ?_ _ | (with_reducible refine Below.setCell ?_ ?_ _; rotate_left; ((try simp only); omega)))⟩
    · rw [E.out]
    · rw [E.out]; exact ⟨rfl, .inl ⟨rfl, rfl⟩⟩
end Go.Proofs.Ytbljfaocmeeljaa
