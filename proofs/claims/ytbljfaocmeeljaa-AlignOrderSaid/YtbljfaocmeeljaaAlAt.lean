/- The slice that a time is in, by the program and by the reference. -/
import Derived.Test.YtbljfaocmeeljaaAlEnd
import Derived.Test.YtbljfaocmeeljaaAlBin
namespace Go.Proofs.Ytbljfaocmeeljaa
open Go.RowKit
theorem mom_mem (l : List (List Ev)) : ∀ (o : List Tm) (t : Tm), t ∈ l.foldl momV o ↔ t ∈ o ∨ ∃ v ∈ l, ∃ x ∈ v, t = x.at_ ∨ t = nextS x := by
  induction l with
  | nil => intro o t; simp
  | cons v l ih =>
    intro o t
    rw [List.foldl_cons, ih, momV_mem]
    constructor
    · rintro ((h | ⟨x, hx, h⟩) | ⟨u, hu, x, hx, h⟩)
      · exact .inl h
      · exact .inr ⟨v, by simp, x, hx, h⟩
      · exact .inr ⟨u, by simp [hu], x, hx, h⟩
    · rintro (h | ⟨u, hu, x, hx, h⟩)
      · exact .inl (.inl h)
      · rcases List.mem_cons.1 hu with rfl | hu
        · exact .inl (.inr ⟨x, hx, h⟩)
        · exact .inr ⟨u, hu, x, hx, h⟩
theorem mom_zero {l : List (List Ev)} (hz : (checkA l).1 = 0) : ∀ z, (momS l)[0]? = some z → z = (0, 1) := by
  intro z h0
  obtain ⟨_, f2, _, f4, f5⟩ := set_facts hz
  have hzm := List.mem_of_getElem? h0
  rcases (mom_mem l [] z).1 hzm with h1 | ⟨v, hv, x, hx, _⟩
  · cases h1
  · obtain ⟨x0, hx0⟩ := get_some (l := v) (k := 0) (List.length_pos_iff.2 (List.ne_nil_of_mem hx))
    have e0 := (f2 v hv).2.1.first x0 hx0
    have hmem : ((0 : Int), (1 : Int)) ∈ momS l := (mom_mem l [] _).2 (.inr ⟨v, hv, x0, List.mem_of_getElem? hx0, .inl e0.symm⟩)
    obtain ⟨j, hj⟩ := List.mem_iff_getElem?.1 hmem
    have hjl := (List.getElem?_eq_some_iff.1 hj).1
    have h2 := sa_mono f4 (i := 0) (j := j) (by omega) hjl
    rw [mAt_get hj, mAt_get h0] at h2
    exact ltT_tri (f5 z hzm) ok_zero (zero_le (f5 z hzm)) h2
theorem ats_take (l : List (List Ev)) : ((List.range ((momS l).length - 1)).map (slOf l (momS l))).map (·.at_) = (momS l).take ((momS l).length - 1) := by
  rw [List.map_map]
  apply List.ext_getElem?
  intro i
  rw [List.getElem?_map, List.getElem?_take]
  by_cases hi : i < (momS l).length - 1
  · rw [List.getElem?_range hi, if_pos hi, mAt_some (by omega)]; rfl
  · rw [if_neg hi, List.getElem?_eq_none (by simp; omega)]; rfl
theorem at_bin {m : List Tm} (hs : SA m) (ho : OkL m) (h0 : ∀ z, m[0]? = some z → z = (0, 1)) {t : Tm} (ht : ok t) (he : ltT t (endT m)) :
    ∃ n : Nat, atFrom m t 0 (m.length - 1) = ((n : Int), 0) ∧ (((m.take (m.length - 1))[posW (m.take (m.length - 1)) t]? = some t ∧ posW (m.take (m.length - 1)) t = n) ∨ ((m.take (m.length - 1))[posW (m.take (m.length - 1)) t]? ≠ some t ∧ posW (m.take (m.length - 1)) t = n + 1)) := by
  obtain ⟨p, hp⟩ : ∃ p, p = posW (m.take (m.length - 1)) t := ⟨_, rfl⟩
  have hM : 2 ≤ m.length := by
    rcases Nat.lt_or_ge m.length 2 with h | h
    · exfalso
      unfold endT at he
      by_cases h1 : m.length = 0
      · rw [if_pos h1] at he; exact zero_le ht he
      · rw [if_neg h1, show m.length - 1 = 0 by omega, h0 _ (mAt_some (m := m) (i := 0) (by omega))] at he
        exact zero_le ht he
    · exact h
  have hple := posW_le (m.take (m.length - 1)) t
  rw [← hp] at hple ⊢
  rw [List.length_take, Nat.min_eq_left (by omega)] at hple
  have hget : ∀ i, i < m.length - 1 → (m.take (m.length - 1))[i]? = some (mAt m i) := fun i hi => by rw [List.getElem?_take, if_pos hi, mAt_some (by omega)]
  by_cases hf : (m.take (m.length - 1))[p]? = some t
  · have hpl : p < m.length - 1 := by have := (List.getElem?_eq_some_iff.1 hf).1; simp at this; omega
    rw [hget p hpl] at hf
    have e := Option.some.inj hf
    refine ⟨p, at_one hs ho ht (n := p) (by omega) (by rw [e]; exact ltT_irr _) (by rw [← e]; exact sa_lt hs (by omega) (by omega)) _ 0 (by omega) (by omega), .inl ⟨by rw [hget p hpl, e], rfl⟩⟩
  · cases p with
    | zero =>
      exfalso
      have h1 := hget 0 (by omega)
      have h2 : ¬ ltT (mAt m 0) t := posW_at (l := m.take (m.length - 1)) (by rw [← hp]; exact h1)
      have h3 := h0 _ (mAt_some (m := m) (i := 0) (by omega))
      rw [h3] at h1 h2
      exact hf (by rw [h1, ltT_tri ok_zero ht h2 (zero_le ht)])
    | succ n =>
      have h1 : ltT (mAt m n) t := posW_lt (l := m.take (m.length - 1)) (hget n (by omega)) (by omega)
      have h2 : ltT t (mAt m (n + 1)) := by
        by_cases hl : n + 1 < m.length - 1
        · have h4 : ¬ ltT (mAt m (n + 1)) t := posW_at (l := m.take (m.length - 1)) (by rw [← hp]; exact hget _ hl)
          rcases Classical.em (ltT t (mAt m (n + 1))) with h5 | h5
          · exact h5
          · exact absurd (by rw [hget _ hl, ltT_tri (ok_mAt ho (by omega)) ht h4 h5]) hf
        · unfold endT at he
          rw [if_neg (by omega), show m.length - 1 = n + 1 by omega] at he
          exact he
      exact ⟨n, at_one hs ho ht (n := n) (by omega) (ltT_asym h1) h2 _ 0 (by omega) (by omega), .inr ⟨hf, rfl⟩⟩
theorem atE_bad {l : List (List Ev)} {t : Tm} (h : (slicesE l).2 ≠ 0) : atE l t = (0, (slicesE l).2) := by unfold atE; rw [if_pos h]
theorem atE_chk {l : List (List Ev)} {t : Tm} (h : (slicesE l).2 = 0) (hc : chk t.1 t.2 ≠ 0) : atE l t = (0, chk t.1 t.2) := by unfold atE; rw [if_neg (fun h0 => h0 h), if_pos hc]
theorem atE_go {l : List (List Ev)} {t : Tm} (h : (slicesE l).2 = 0) (hc : chk t.1 t.2 = 0) : atE l t = atFrom (momS l) t 0 ((momS l).length - 1) := by unfold atE; rw [if_neg (fun h0 => h0 h), if_neg (fun h0 => h0 hc)]
theorem endT_ok {m : List Tm} (ho : OkL m) : ok (endT m) := by
  unfold endT
  split
  · exact ok_zero
  · exact ok_mAt ho (by omega)
set_option maxRecDepth 100000 in
set_option maxHeartbeats 8000000 in
theorem at_any (A : Option Addr) (n c : Nat) (l : List (List Ev)) (t : Tm) (B : Nat) (w : World) (h : ReadsV w B A n l) (hB : B ≤ w.heap.size) (hn : n ≤ 9223372036854775807) :
    Calls Try.prog 27 #[.slice A n c, .agg #[.int .i64 t.1, .int .i64 t.2]] w fun e w' => e = .returned (.tuple #[.int .i64 (atE l t).1, .int .i64 (atE l t).2]) ∧ Below w.heap.size w w' := by
  have HL := Lib.hid h.len
  obtain ⟨t0, t1⟩ := t
  have r0 : Blk (w.alloc (.cells #[.int .i64 t0, .int .i64 t1] 34)) w.heap.size 34 #[.int .i64 t0, .int .i64 t1] := Blk.new _ _ _
  have k0 : Below w.heap.size w (w.alloc (.cells #[.int .i64 t0, .int .i64 t1] 34)) := by repeat (first | with_reducible exact Below.refl _ _ | with_reducible assumption | with_reducible refine below_drewN ?_ _ | with_reducible refine Below.drew ?_ | with_reducible refine below_alloc ?_ _ | (with_reducible refine Below.setCell ?_ ?_ _; rotate_left; ((try simp only); omega)))
  have q1 := slices_any A n c l B _ (h.below hB k0) (Nat.le_trans hB k0.size) hn
  go_enter Try.func27, Try.ntmps27
  go_wp2_with fail
  refine q1.mono ?_
  rintro e w1 ⟨v1, rfl, ho1, hb1⟩
  have r1 := r0.kept hb1
  have k1 := below_call k0 hb1
  have e0 := r1.cell 0
  have e1 := r1.cell 1
  have z1 := r1.lt
  simp only [List.getElem?_toArray, List.getElem?_cons_zero, List.getElem?_cons_succ] at e0 e1
  clear q1 hb1 r0 k0
  by_cases he : (slicesE l).2 = 0
  · obtain ⟨hz, hsl⟩ := slicesE_ok he
    have q2 := check_any t0 t1
    by_cases hc : chk t0 t1 = 0
    · have E := Lib.hid (atE_go (t := (t0, t1)) he hc)
      have HT := Lib.hid (ok_of_chk hc)
      obtain ⟨_, _, _, f4, f5⟩ := set_facts hz
      have HSA := Lib.hid f4
      have HOK := Lib.hid f5
      have HZ := Lib.hid (mom_zero hz)
      have HAT := Lib.hid (ats_take l)
      have HMB := Lib.hid (mom_big hz)
      rw [hsl] at ho1
      obtain ⟨As, cs, rfl, rs⟩ := ho1.reads
      simp only [List.length_map, List.length_range] at rs ⊢
      have q3 := fun W (hW : Below w1.heap.size w1 W) => end_any A n c l B W (h.below hB (below_call k1 hW)) (Nat.le_trans hB (below_call k1 hW).size) hn
      rw [endE_ok he] at q3
      simp only at q3
      have HEOK := Lib.hid (endT_ok f5)
      obtain ⟨⟨u0, u1⟩, hu⟩ : ∃ u, u = endT (momS l) := ⟨_, rfl⟩
      have HU := Lib.hid hu
      rw [← hu] at q3 HEOK
      rw [hc] at q2
      have q4 := fun W => compare_any (t0, t1) (u0, u1) W
      have D := cmp_lt HT.out HEOK.out
      simp only at q3 q4
      obtain ⟨⟨x, r⟩, hx⟩ : ∃ y, y = cmpS (t0, t1) (u0, u1) := ⟨_, rfl⟩
      rw [← hx] at q4 D
      have HE := Lib.hid he
      rw [he]
      clear hx hu he hz hsl hc f4 f5
      go_wp2_with fail
      refine (q2 _).mono ?_
      rintro e w2 ⟨rfl, hb2⟩
      have r2 := r1.kept hb2
      have k2 := below_call k1 hb2
      go_wp2_with fail
      refine (q3 _ hb2).mono ?_
      rintro e w3 ⟨rfl, hb3⟩
      have r3 := r2.kept hb3
      have k3 := below_call k2 hb3
      have e0 := r3.cell 0
      have e1 := r3.cell 1
      have z3 := r3.lt
      simp only [List.getElem?_toArray, List.getElem?_cons_zero, List.getElem?_cons_succ] at e0 e1
      by_cases hl : ltT (t0, t1) (u0, u1)
      · obtain ⟨nn, hn1, hn2⟩ := at_bin HSA.out HOK.out HZ.out HT.out (HU.out ▸ hl)
        have hx0 : ¬ (0 ≤ x) := by rw [decide_eq_true hl] at D; have := of_decide_eq_true D; omega
        have hx1 : decide (0 ≤ x) = false := decide_eq_false hx0
        rw [hn1] at E
        clear hn1 D hl
        go_wp2_with fail
        refine (q4 _).mono ?_
        rintro e w4 ⟨rfl, hb4⟩
        have r4 := (r3.alloc (.cells #[.int .i64 u0, .int .i64 u1] 34)).kept hb4
        have k4 := below_call (below_alloc k3 (.cells #[.int .i64 u0, .int .i64 u1] 34)) hb4
        have e0 := r4.cell 0
        have e1 := r4.cell 1
        have z4 := r4.lt
        simp only [List.getElem?_toArray, List.getElem?_cons_zero, List.getElem?_cons_succ] at e0 e1
        go_wp2_with fail
        have kw : Below w1.heap.size w1 w4 := below_call (below_alloc (below_call hb2 hb3) (.cells #[.int .i64 u0, .int .i64 u1] 34)) hb4
        have q5 := bin_any As _ cs _ (t0, t1) w1.heap.size w4 (rs.below (Nat.le_refl _) kw) kw.size (by have := HMB.out; omega) (by rw [HAT.out]; exact List.Pairwise.sublist (List.take_sublist _ _) HSA.out) (by rw [HAT.out]; exact fun u hu => HOK.out u (List.mem_of_mem_take hu)) HT.out
        rw [HAT.out] at q5
        rcases hn2 with ⟨hf, hp⟩ | ⟨hf, hp⟩
        · rw [decide_eq_true hf, hp] at q5
          clear hf hp
          refine Calls.mono q5 ?_
          rintro e w5 ⟨rfl, hb5⟩
          have k5 := below_call k4 hb5
          go_wp2
          refine ret_of (by simp [results, Try.results27, go_sem, *]; repeat' (first | rfl | apply And.intro)) rfl ⟨?_, k5⟩
          rw [E.out]
        · rw [decide_eq_false hf, hp] at q5
          have hnb : nn ≤ 32000 := by
            have := posW_le ((momS l).take ((momS l).length - 1)) (t0, t1)
            rw [hp, List.length_take] at this
            have := HMB.out; omega
          have w7 : ((nn + 1 : Nat) : Int) - 1 = (nn : Int) := by omega
          have w8 : IntKind.i64.wrap (nn : Int) = (nn : Int) := IntWalk.i64_in _ (by omega)
          clear hf hp
          refine Calls.mono q5 ?_
          rintro e w5 ⟨rfl, hb5⟩
          have k5 := below_call k4 hb5
          go_wp2
          refine ret_of (by simp [results, Try.results27, go_sem, *]; repeat' (first | rfl | apply And.intro)) rfl ⟨?_, k5⟩
          rw [E.out]
      · have hx0 : 0 ≤ x := by rw [decide_eq_false hl] at D; have := of_decide_eq_false D; omega
        have hx1 : decide (0 ≤ x) = true := decide_eq_true hx0
        rw [at_none HSA.out HOK.out HT.out (HU.out ▸ hl) _ 0 (by omega)] at E
        clear D hl
        go_wp2_with fail
        refine (q4 _).mono ?_
        rintro e w4 ⟨rfl, hb4⟩
        have k4 := below_call (below_alloc k3 (.cells #[.int .i64 u0, .int .i64 u1] 34)) hb4
        go_wp2
        refine ret_of (by simp [results, Try.results27, go_sem, *]; repeat' (first | rfl | apply And.intro)) rfl ⟨?_, k4⟩
        rw [E.out]
    · have E := Lib.hid (atE_chk (t := (t0, t1)) he hc)
      have hne : (chk t0 t1 != 0) = true := by simpa using hc
      obtain ⟨d, hd⟩ : ∃ d, d = chk t0 t1 := ⟨_, rfl⟩
      simp only at E
      rw [← hd] at q2 E hne
      rw [he]
      clear hd hc he hsl hz ho1
      go_wp2_with fail
      refine (q2 _).mono ?_
      rintro e w2 ⟨rfl, hb2⟩
      go_wp2
      refine ret_of (by simp [results, Try.results27, go_sem, *]; repeat' (first | rfl | apply And.intro)) rfl ⟨?_, below_call k1 hb2⟩
      rw [E.out]
  · have hne : ((slicesE l).2 != 0) = true := by simpa using he
    have E := Lib.hid (atE_bad (t := (t0, t1)) he)
    clear he ho1
    go_wp2
    refine ret_of (by simp [results, Try.results27, go_sem, *]; repeat' (first | rfl | apply And.intro)) rfl ⟨?_, by repeat (first | with_reducible exact Below.refl _ _ | with_reducible assumption | with_reducible refine below_drewN ?_ _ | with_reducible refine Below.drew ?_ | with_reducible refine below_alloc ?_ _ | (with_reducible refine Below.setCell ?_ ?_ _; rotate_left; ((try simp only); omega)))⟩
    rw [E.out]
end Go.Proofs.Ytbljfaocmeeljaa
