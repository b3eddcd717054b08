/- The durations of a voice from the slices, by the program. -/
import Derived.Test.YtbljfaocmeeljaaAlRepeat
import Derived.Test.YtbljfaocmeeljaaAlSlice
namespace Go.Proofs.Ytbljfaocmeeljaa
open Go.RowKit
theorem undrew {w w' : World} (h : Below w.drew.heap.size w.drew w') : Below w.heap.size w w' := ⟨h.os, h.tape, h.output, h.size, h.block⟩
theorem backE_bad {l : List (List Ev)} {j : Int} (h : (slicesE l).2 ≠ 0) : backE l j = ([], (slicesE l).2) := by unfold backE; rw [if_pos h]
theorem backE_range {l : List (List Ev)} {j : Int} (h : (slicesE l).2 = 0) (hj : j < 0 ∨ (l.length : Int) ≤ j) : backE l j = ([], 2) := by unfold backE; rw [if_neg (fun h0 => h0 h), if_pos hj]
theorem backE_ok {l : List (List Ev)} {i : Nat} {v : List Ev} (h : (slicesE l).2 = 0) (hv : l[i]? = some v) : backE l (i : Int) = backFrom (ptsOf l v) 0 v.length := by
  have hi := (List.getElem?_eq_some_iff.1 hv).1
  have gv : l.getD i [] = v := by simp [List.getD, hv]
  unfold backE
  rw [if_neg (fun h0 => h0 h), if_neg (by omega), Int.toNat_natCast, gv]
theorem backE_P {l : List (List Ev)} {i : Nat} {v : List Ev} (h : (slicesE l).2 = 0) (hv : l[i]? = some v) : backE l (i : Int) = backP (List.replicate v.length (0, 1)) (ptsOf l v) := by
  obtain ⟨hz, _⟩ := slicesE_ok h
  obtain ⟨h1, h2⟩ := pts_mono hz (List.mem_of_getElem? hv)
  rw [backE_ok h hv, back_eq h1 h2]
theorem backP_neg {o : List Tm} {p : Pt} {es : List Pt} (h : p.1 < 0) : backP o (p :: es) = backP o es := by conv => lhs; unfold backP; rw [if_pos h]
theorem backP_bad {o : List Tm} {p : Pt} {es : List Pt} (h : ¬ p.1 < 0) (he : (addS (mAt o p.1.toNat) p.2).2.2 ≠ 0) : backP o (p :: es) = ([], (addS (mAt o p.1.toNat) p.2).2.2) := by conv => lhs; unfold backP; rw [if_neg h, if_pos he]
theorem backP_ok {o : List Tm} {p : Pt} {es : List Pt} (h : ¬ p.1 < 0) (he : (addS (mAt o p.1.toNat) p.2).2.2 = 0) : backP o (p :: es) = backP (o.set p.1.toNat ((addS (mAt o p.1.toNat) p.2).1, (addS (mAt o p.1.toNat) p.2).2.1)) es := by
  conv => lhs; unfold backP; rw [if_neg h, if_neg (fun h0 => h0 he)]
theorem set_app2 {α : Type} (p r : List α) (a b u v : α) : ((p ++ a :: b :: r).set p.length u).set (p.length + 1) v = p ++ u :: v :: r := by simp
theorem csT_set (o : List Tm) (i : Nat) (t : Tm) (h : i < o.length) : ((csT o).set (i * 2) (.int .i64 t.1)).set (i * 2 + 1) (.int .i64 t.2) = csT (o.set i t) := by
  have e : o = o.take i ++ o[i] :: o.drop (i + 1) := by rw [← List.drop_eq_getElem_cons h, List.take_append_drop]
  have hl : (o.take i).length = i := by rw [List.length_take]; omega
  have e2 : o.set i t = o.take i ++ t :: o.drop (i + 1) := by rw [List.set_eq_take_append_cons_drop, if_pos h]
  have e3 : ∀ y : Tm, csT (o.take i ++ y :: o.drop (i + 1)) = csT (o.take i) ++ .int .i64 y.1 :: .int .i64 y.2 :: csT (o.drop (i + 1)) := by
    intro y; rw [csT_append]; rfl
  rw [e2, e3]
  conv => lhs; rw [e, e3]
  have hc : (csT (o.take i)).length = i * 2 := by rw [csT_len, hl]
  rw [← hc, set_app2]
theorem own_tm {w : World} {base n cap g : Nat} {o : List Tm} {t : Tm} (h : w.ownsRow base 34 2 (.slice (some ⟨g, 0, none⟩) n cap) n (csT o)) {k : Nat} (hx : o[k]? = some t) (hkn : k < n) :
    w.cell? ⟨g, k * 2, none⟩ = some (.int .i64 t.1) ∧ w.cell? ⟨g, k * 2 + 1, none⟩ = some (.int .i64 t.2) := by
  have h1 := h.cellAt (k * 2 + 0) (by omega)
  have h2 := h.cellAt (k * 2 + 1) (by omega)
  have e1 := flat_get cT 2 (fun _ => rfl) o k 0 t hx (by omega)
  have e2 := flat_get cT 2 (fun _ => rfl) o k 1 t hx (by omega)
  exact ⟨h1.trans e1, h2.trans e2⟩
set_option maxRecDepth 100000 in
set_option maxHeartbeats 8000000 in
theorem back_any (A : Option Addr) (n c : Nat) (l : List (List Ev)) (j : Int) (B : Nat) (w : World) (h : ReadsV w B A n l) (hB : B ≤ w.heap.size) (hn : n ≤ 9223372036854775807) :
    Calls Try.prog 29 #[.slice A n c, .int .i64 j] w fun e w' => ∃ v, e = .returned (.tuple #[v, .int .i64 (backE l j).2]) ∧ w'.ownsRow w.heap.size 34 2 v (backE l j).1.length (csT (backE l j).1) ∧ Below w.heap.size w w' := by
  have HL := Lib.hid h.len
  have q1 := slices_any A n c l B w h hB hn
  go_enter Try.func29, Try.ntmps29
  go_wp2_with fail
  refine q1.mono ?_
  rintro e w1 ⟨v1, rfl, ho1, k1⟩
  clear q1
  by_cases he : (slicesE l).2 = 0
  · obtain ⟨hz, hsl⟩ := slicesE_ok he
    obtain ⟨As, cs, rfl, rs⟩ := ho1.reads
    have HKL := Lib.hid (show (slicesE l).1.length = (momS l).length - 1 by rw [hsl]; simp)
    rw [hsl] at rs
    simp only [List.length_map, List.length_range] at rs
    rw [HKL.out, he]
    have HMB := Lib.hid (mom_big hz)
    obtain ⟨K, hK⟩ : ∃ K, K = (momS l).length - 1 := ⟨_, rfl⟩
    rw [← hK] at rs HKL ⊢
    have HK := Lib.hid hK
    have HE := Lib.hid he
    have HV := Lib.hid (set_facts hz).2.1
    clear hK he hsl ho1 hz
    by_cases hj0 : j < 0
    · have E := Lib.hid (backE_range (l := l) HE.out (.inl hj0))
      go_wp2
      refine ret_of (by simp [results, Try.results29, go_sem, *]; repeat' (first | rfl | apply And.intro)) rfl ⟨.slice none 0 0, ?_, ?_, by repeat (first | with_reducible exact Below.refl _ _ | with_reducible assumption | with_reducible refine below_drewN ?_ _ | with_reducible refine Below.drew ?_ | with_reducible refine below_alloc ?_ _ | (with_reducible refine Below.setCell ?_ ?_ _; rotate_left; ((try simp only); omega)))⟩
      · rw [E.out]
      · rw [E.out]; exact ⟨rfl, .inl ⟨rfl, rfl⟩⟩
    by_cases hj1 : (n : Int) ≤ j
    · have E := Lib.hid (backE_range (l := l) HE.out (.inr (by rw [HL.out]; exact hj1)))
      have d0 : decide (j < 0) = false := decide_eq_false hj0
      go_wp2
      refine ret_of (by simp [results, Try.results29, go_sem, *]; repeat' (first | rfl | apply And.intro)) rfl ⟨.slice none 0 0, ?_, ?_, by repeat (first | with_reducible exact Below.refl _ _ | with_reducible assumption | with_reducible refine below_drewN ?_ _ | with_reducible refine Below.drew ?_ | with_reducible refine below_alloc ?_ _ | (with_reducible refine Below.setCell ?_ ?_ _; rotate_left; ((try simp only); omega)))⟩
      · rw [E.out]
      · rw [E.out]; exact ⟨rfl, .inl ⟨rfl, rfl⟩⟩
    obtain ⟨i, rfl⟩ : ∃ i : Nat, j = (i : Int) := ⟨j.toNat, by omega⟩
    have hin : i < n := by omega
    have hin' : (i : Int) < (n : Int) := by omega
    have hni' : ¬ ((n : Int) ≤ (i : Int)) := by omega
    obtain ⟨v, hv⟩ := get_some (l := l) (k := i) (by have := HL.out; omega)
    have hvl := (HV.out v (List.mem_of_getElem? hv)).2.2
    have E := Lib.hid (backE_P HE.out hv)
    have HVI := Lib.hid hv
    obtain ⟨b, off, A', n', c', rfl, hab, cv, hre, hn', hvn⟩ := h.voice hB k1 hin hv
    rw [hvn] at E hvl
    clear hv
    go_wp2_with fail
    have rl : Reads (w1.alloc (.cells #[.int .i64 0, .int .i64 1] 34)) (w1.heap.size + 1) 2 (some ⟨w1.heap.size, 0, none⟩) 1 (csT [(0, 1)]) := Reads.newAt _ _ _ 1 2 _ rfl rfl
    refine Calls.mono (repeat_any w1.heap.size n' _ _ rl (by simp) hvl) ?_
    rintro e w2 ⟨g, rfl, hown, hb2⟩
    have hb12 : Below w1.heap.size w1 w2 := below_call (below_alloc (Below.refl _ _) _) hb2
    have k2 := below_call k1 hb12
    have hbase : w1.heap.size + 1 ≤ g := by have := (hown.lt g rfl).1; simpa using this
    have hown0 := own_lower hown (base2 := w1.heap.size + 1) (by simp)
    obtain ⟨es, hes⟩ : ∃ es, es = ptsOf l v := ⟨_, rfl⟩
    have HES := Lib.hid (show ∀ k, k < K → es[k]? = some (onS v (mAt (momS l) k), (durE (momS l) k).1) from fun k hk => by
      rw [hes]; unfold ptsOf; rw [← HK.out, List.getElem?_map, List.getElem?_range hk]; rfl)
    have hesl : es.length = K := by rw [hes]; unfold ptsOf; rw [← HK.out]; simp
    have HEL := Lib.hid hesl
    have HB9 := Lib.hid (show ∀ p ∈ es, p.1 < (n' : Int) from fun p hp => by
      rw [hes] at hp
      obtain ⟨hz, _⟩ := slicesE_ok HE.out
      have := (pts_mono hz (List.mem_of_getElem? HVI.out)).2 p hp
      rw [hvn] at this; exact this)
    rw [← hes] at E
    clear hes hesl hown rl cv hre
    obtain ⟨o0, ho0⟩ : ∃ o0 : List Tm, o0 = List.replicate n' (0, 1) := ⟨_, rfl⟩
    have HO0 := Lib.hid ho0
    rw [← ho0] at hown0 E
    clear ho0
    obtain ⟨res, hres⟩ : ∃ res, res = backE l (i : Int) := ⟨_, rfl⟩
    rw [← hres] at E
    have HRES := Lib.hid hres
    clear hres
    go_wp2_with fail
    go_loopg [7, 10, 11, 40] K (fun gh _ _ _ nn wr => ∃ (k : Nat) (o : List Tm), k + gh = K ∧ nn = .int .i64 (k : Int) ∧ Hid (backP o (es.drop k) = res) ∧ wr.ownsRow (w1.heap.size + 1) 34 2 (.slice (some ⟨g, 0, none⟩) n' n') n' (csT o) ∧ Below (w1.heap.size + 1) w2 wr)
    case atStart => exact ⟨0, o0, by omega, by simp, Lib.hid (by rw [E.out]; rfl), hown0, Below.refl _ _⟩
    case round =>
      clear hown0
      obtain ⟨k, o, hkg, rfl, hS, hown, kr⟩ := hrel
      have hw12 := hb12.size
      have hon : o.length = n' := by have := hown.1; rw [csT_len] at this; omega
      have kw : Below w.heap.size w wr := k2.trans (kr.mono (by have := k1.size; omega))
      have kr1 : Below w1.heap.size w1 wr := hb12.trans (kr.mono (by omega))
      have lgr := (hown.lt g rfl).2
      cases gk with
      | zero =>
        obtain rfl : k = K := by omega
        have d0 : ¬ ((k : Int) < (k : Int)) := by omega
        have E2 := Lib.hid (show res = (o, 0) by rw [← hS.out, List.drop_of_length_le (by rw [HEL.out]; exact Nat.le_refl _)]; rfl)
        go_wp2
        refine ret_of (by simp [results, Try.results29, go_sem, *]; repeat' (first | rfl | apply And.intro)) rfl ⟨.slice (some ⟨g, 0, none⟩) n' n', ?_, ?_, kw⟩
        · rw [← HRES.out, E2.out]
        · rw [← HRES.out, E2.out]
          show World.ownsRow _ _ _ _ _ o.length (csT o)
          rw [hon]
          exact own_lower hown (by have := k1.size; omega)
      | succ gh =>
        have d0 : (k : Int) < (K : Int) := by omega
        have hkK : k < K := by omega
        have wk : IntKind.i64.wrap ((k : Int) + 1) = (k : Int) + 1 := IntWalk.i64_in _ (by have := HMB.out; have := HK.out; omega)
        have hp := HES.out k hkK
        have hD : es.drop k = (onS v (mAt (momS l) k), (durE (momS l) k).1) :: es.drop (k + 1) := by
          have := List.drop_eq_getElem_cons (i := k) (l := es) (by rw [HEL.out]; omega)
          rw [this, (List.getElem?_eq_some_iff.1 hp).2]
        have hbd := HB9.out _ (List.mem_of_getElem? hp)
        have hg : ((List.range K).map (slOf l (momS l)))[k]? = some (slOf l (momS l) k) := by rw [List.getElem?_map, List.getElem?_range hkK]; rfl
        obtain ⟨s, hs⟩ : ∃ s, s = slOf l (momS l) k := ⟨_, rfl⟩
        rw [← hs] at hg
        obtain ⟨bs, os, p, q, kc, hAs, hbs, hq, hr, c0, c1, c2, c3, c4⟩ := rs.el (Nat.le_refl _) kr1 hkK hg
        have hdur : s.dur = (durE (momS l) k).1 := by rw [hs]; rfl
        have hevs : s.evs = l.map fun v => onS v (mAt (momS l) k) := by rw [hs]; rfl
        have hqn : q = n := by rw [← hq, hevs, List.length_map]; exact HL.out
        rw [hevs] at hr
        obtain ⟨be, oe, hpe, hbe, hce⟩ := Reads.elem (f := cI) (fun _ => rfl) hr (k := i) (by omega) (by rw [List.getElem?_map, HVI.out]; rfl)
        have e0 : wr.cell? ⟨be, oe + i, none⟩ = some (.int .i64 (onS v (mAt (momS l) k))) := by have h0 : wr.cell? ⟨be, oe + (i * 1 + 0), none⟩ = some (.int .i64 (onS v (mAt (momS l) k))) := hce 0 _ rfl; simpa using h0
        rw [← hdur] at hD
        obtain ⟨on, hon9⟩ : ∃ on, on = onS v (mAt (momS l) k) := ⟨_, rfl⟩
        rw [← hon9] at hD e0 hbd
        obtain ⟨⟨a0, a1⟩, ⟨d0', d1'⟩, evs⟩ := s
        simp only at c0 c1 c2 c3 c4 hD hbd
        have HDR := Lib.hid hD
        clear hD hs hg hp hq hevs hdur hr hce hon9
        subst hAs hpe hqn
        by_cases hneg : on < 0
        · have HN := Lib.hid (show backP o (es.drop (k + 1)) = res by rw [← hS.out, HDR.out, backP_neg hneg])
          have d1 : decide ((0 : Int) ≤ on) = false := by simp; omega
          have d2 : ¬ (0 ≤ on) := by omega
          clear hS
          go_wp2
          go_roundg gh
          case measure => omega
          case rel => exact ⟨k + 1, o, by omega, by go_num, HN, own_call hown (below_alloc (Below.refl _ _) _), kr.alloc (by have := kr.size; omega) _⟩
        · obtain ⟨ii, rfl⟩ : ∃ ii : Nat, on = (ii : Int) := ⟨on.toNat, by omega⟩
          have hii : ii < n' := by omega
          have hii' : (ii : Int) < (n' : Int) := by omega
          obtain ⟨t, ht⟩ := get_some (l := o) (k := ii) (by omega)
          obtain ⟨t0c, t1c⟩ := own_tm hown ht hii
          have q2 := add_any t (d0', d1')
          have hmt : mAt o ii = t := mAt_get ht
          have HBAD := Lib.hid (show (addS t (d0', d1')).2.2 ≠ 0 → res = ([], (addS t (d0', d1')).2.2) from fun he => by
            rw [← hS.out, HDR.out, backP_bad (by omega) (by rw [Int.toNat_natCast, hmt]; exact he)]
            simp only [Int.toNat_natCast, hmt])
          have HGOOD := Lib.hid (show (addS t (d0', d1')).2.2 = 0 → backP (o.set ii ((addS t (d0', d1')).1, (addS t (d0', d1')).2.1)) (es.drop (k + 1)) = res from fun he => by
            rw [← hS.out, HDR.out, backP_ok (by omega) (by rw [Int.toNat_natCast, hmt]; exact he)]
            simp only [Int.toNat_natCast, hmt])
          obtain ⟨⟨s0, s1, r⟩, hsr⟩ : ∃ y, y = addS t (d0', d1') := ⟨_, rfl⟩
          rw [← hsr] at q2 HBAD HGOOD
          obtain ⟨t0, t1⟩ := t
          simp only at q2 t0c t1c HBAD HGOOD
          clear hsr hmt ht hS hneg
          go_wp2_with fail
          obtain ⟨wq, hwq⟩ : ∃ wq, wq = wr.alloc (.cells #[.int .i64 a0, .int .i64 a1, .int .i64 d0', .int .i64 d1', .slice (some ⟨be, oe, none⟩) q kc] 59) := ⟨_, rfl⟩
          have hbq : Below wr.heap.size wr wq := by rw [hwq]; exact below_alloc (Below.refl _ _) _
          have BS : Blk wq wr.heap.size 59 #[.int .i64 a0, .int .i64 a1, .int .i64 d0', .int .i64 d1', .slice (some ⟨be, oe, none⟩) q kc] := by rw [hwq]; exact Blk.new _ _ _
          rw [← hwq]
          clear hwq
          have u0 := (hbq.cell (p := ⟨g, ii * 2, none⟩) lgr).trans t0c
          have u1 := (hbq.cell (p := ⟨g, ii * 2 + 1, none⟩) lgr).trans t1c
          have v2 : wq.cell? ⟨wr.heap.size, 2, none⟩ = some (.int .i64 d0') := BS.cell 2
          have v3 : wq.cell? ⟨wr.heap.size, 3, none⟩ = some (.int .i64 d1') := BS.cell 3
          have lgq : g < wq.heap.size := by have := hbq.size; omega
          have lsq := BS.lt
          have hownq := own_call hown hbq
          have kq : Below (w1.heap.size + 1) w2 wq := kr.trans (hbq.mono (by have := kr.size; omega))
          clear t0c t1c hown kr
          by_cases hr0 : r = 0
          · have HN := Lib.hid (HGOOD.out hr0)
            subst hr0
            go_wp2_with fail
            go_region_with ((go_at_call 36; refine (q2 _).mono ?_; rintro e w4 ⟨rfl, hb4'⟩; have hb4 := undrew hb4'; have ho4 := own_call hownq hb4; have fz := ho4.frozenAt; have lg4 := (ho4.lt g rfl).2; have x0 := (hb4.cell (p := ⟨g, ii * 2, none⟩) lgq).trans u0; have x1 := (hb4.cell (p := ⟨g, ii * 2 + 1, none⟩) lgq).trans u1; have OW := Lib.hid (show ((w4.setCell ⟨g, ii * 2, none⟩ (.int .i64 s0)).setCell ⟨g, ii * 2 + 1, none⟩ (.int .i64 s1)).ownsRow (w1.heap.size + 1) 34 2 (.slice (some ⟨g, 0, none⟩) n' n') n' (csT (o.set ii (s0, s1))) by (rw [← csT_set o ii (s0, s1) (by omega)]; exact ((ho4.stored _ _).1.stored _ _).1)); have BW := Lib.hid (show Below (w1.heap.size + 1) w2 ((w4.setCell ⟨g, ii * 2, none⟩ (.int .i64 s0)).setCell ⟨g, ii * 2 + 1, none⟩ (.int .i64 s1)) from ((kq.trans (hb4.mono (by have := kq.size; omega))).setCell hbase _).setCell hbase _); clear hb4' ho4))
            all_goals
              go_wp2
              go_roundg gh
              case measure => omega
              case rel =>
                have ow := OW.out
                have bw := BW.out
                first
                  | exact ⟨k + 1, _, by omega, by go_num, HN, ow, bw⟩
                  | exact ⟨k + 1, _, by omega, by go_num, HN, ow.drew, bw.drew⟩
          · have hrb : (r != 0) = true := by simpa using hr0
            have HN := Lib.hid (HBAD.out hr0)
            go_wp2_with fail
            go_region_with ((go_at_call 36; refine (q2 _).mono ?_; rintro e w4 ⟨rfl, hb4'⟩; have hb4 := undrew hb4'; have ho4 := own_call hownq hb4; have fz := ho4.frozenAt; have lg4 := (ho4.lt g rfl).2; have x0 := (hb4.cell (p := ⟨g, ii * 2, none⟩) lgq).trans u0; have x1 := (hb4.cell (p := ⟨g, ii * 2 + 1, none⟩) lgq).trans u1; have OW := Lib.hid (show ((w4.setCell ⟨g, ii * 2, none⟩ (.int .i64 s0)).setCell ⟨g, ii * 2 + 1, none⟩ (.int .i64 s1)).ownsRow (w1.heap.size + 1) 34 2 (.slice (some ⟨g, 0, none⟩) n' n') n' (csT (o.set ii (s0, s1))) by (rw [← csT_set o ii (s0, s1) (by omega)]; exact ((ho4.stored _ _).1.stored _ _).1)); have BW := Lib.hid (show Below (w1.heap.size + 1) w2 ((w4.setCell ⟨g, ii * 2, none⟩ (.int .i64 s0)).setCell ⟨g, ii * 2 + 1, none⟩ (.int .i64 s1)) from ((kq.trans (hb4.mono (by have := kq.size; omega))).setCell hbase _).setCell hbase _); clear hb4' ho4))
            all_goals
              have bw := k2.trans (BW.out.mono (by have := k1.size; omega))
              go_wp2
              refine ret_of (by simp [results, Try.results29, go_sem, *]; repeat' (first | rfl | apply And.intro)) rfl ⟨.slice none 0 0, ?_, ?_, by first | exact bw | exact bw.drew⟩
              · rw [← HRES.out, HN.out]
              · rw [← HRES.out, HN.out]; exact ⟨rfl, .inl ⟨rfl, rfl⟩⟩
  · have hne : ((slicesE l).2 != 0) = true := by simpa using he
    have E := Lib.hid (backE_bad (j := j) he)
    clear he ho1
    go_wp2
    refine ret_of (by simp [results, Try.results29, go_sem, *]; repeat' (first | rfl | apply And.intro)) rfl ⟨.slice none 0 0, ?_, ?_, by repeat (first | with_reducible exact Below.refl _ _ | with_reducible assumption | with_reducible refine below_drewN ?_ _ | with_reducible refine Below.drew ?_ | with_reducible refine below_alloc ?_ _ | (with_reducible refine Below.setCell ?_ ?_ _; rotate_left; ((try simp only); omega)))⟩
    · rw [E.out]
    · rw [E.out]; exact ⟨rfl, .inl ⟨rfl, rfl⟩⟩
end Go.Proofs.Ytbljfaocmeeljaa
