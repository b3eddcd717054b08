
/- DsClash, DsStep, DsPass, DsSusp, DsTreatP: one text. -/
import Derived.Test.YtmlcnmnpkemdpaaDoorDsSetg
import Derived.Test.YtmlcnmnpkemdpaaDoorDsPlain
import Derived.Test.YtmlcnmnpkemdpaaDoorChMade
/- The program's questions of a setting: the clash of two voices in a slice, whether a voice starts, the step to the next event, whether an event is short. -/

namespace Go.Proofs.YtmlcnmnpkemdpaaDoor
open Go.RowKit
set_option maxRecDepth 100000 in
set_option maxHeartbeats 2000000 in
theorem clash_ok {w : World} {g : Nat} {A S Q : Option Addr} {n c K d q : Nat} {l : List (List Ev)} (h : SetR w g A S Q n c K d q l) {k a b : Nat} (hk : k < K) (ha : a < n) (hb : b < n) :
    Calls Tryd.prog 37 #[.pointer (some ⟨g, 0, none⟩), .int .i64 k, .int .i64 a, .int .i64 b] w fun e w' => e = .returned (.int .i64 (clE l (mAt (momS l) k) a b)) ∧ Below w.heap.size w w' := by
  obtain ⟨_, hn8⟩ := h.stg.big
  have E := Lib.hid (kindF_any h.pits (mAt (momS l) k) a b)
  obtain ⟨bq, oq, mq, rfl, hbq, zq, hmq⟩ := h.map (Below.refl _ _) hk
  have hl := h.c2
  have hlt := h.lt
  have hkk : (k : Int) < (K : Int) := by omega
  have look : ∀ x y : Nat, x < n → y < n → (Instr.lookup 91 (.map (some mq)) (.agg #[.int .i64 (x : Int), .int .i64 (y : Int)]) false).run Tryd.prog w = .ok (.int .i64 (kindF l (mAt (momS l) k) [(x : Int), (y : Int)])) w := fun x y hx hy =>
    hmq.look key_two Tryd.underlying91 (ks := [(x : Int), (y : Int)]) ⟨rfl, by
      intro z hz
      simp only [List.mem_cons, List.not_mem_nil, or_false] at hz
      unfold okI
      rcases hz with rfl | rfl <;> omega⟩
  have E2 := E.out
  clear h hmq E
  rcases Nat.lt_trichotomy a b with hab | rfl | hab
  · have lk := look a b ha hb
    have e1 : min (a : Int) b = a := by omega
    have e2 : max (a : Int) b = b := by omega
    rw [e1, e2] at E2
    have E := Lib.hid E2
    have d1 : (a : Int) < (b : Int) := by omega
    clear E2 e1 e2 look
    go_enter Tryd.func37, Tryd.ntmps37
    go_wp2
    refine ret_of (by simp [results, Tryd.results37, go_sem, *]; repeat' (first | rfl | apply And.intro)) rfl ⟨?_, by repeat (first | with_reducible exact Below.refl _ _ | with_reducible assumption | with_reducible refine below_drewN ?_ _ | with_reducible refine Below.drew ?_ | with_reducible refine below_alloc ?_ _ | (with_reducible refine Below.setCell ?_ ?_ _; rotate_left; ((try simp only); omega)))⟩
    rw [E.out]
  · have lk := look a a ha hb
    have e1 : min (a : Int) a = a := by omega
    have e2 : max (a : Int) a = a := by omega
    rw [e1, e2] at E2
    have E := Lib.hid E2
    clear E2 e1 e2 look
    go_enter Tryd.func37, Tryd.ntmps37
    go_wp2
    refine ret_of (by simp [results, Tryd.results37, go_sem, *]; repeat' (first | rfl | apply And.intro)) rfl ⟨?_, by repeat (first | with_reducible exact Below.refl _ _ | with_reducible assumption | with_reducible refine below_drewN ?_ _ | with_reducible refine Below.drew ?_ | with_reducible refine below_alloc ?_ _ | (with_reducible refine Below.setCell ?_ ?_ _; rotate_left; ((try simp only); omega)))⟩
    rw [E.out]
  · have lk := look b a hb ha
    have e1 : min (a : Int) b = b := by omega
    have e2 : max (a : Int) b = a := by omega
    rw [e1, e2] at E2
    have E := Lib.hid E2
    have d1 : (b : Int) < (a : Int) := by omega
    clear E2 e1 e2 look
    go_enter Tryd.func37, Tryd.ntmps37
    go_wp2
    refine ret_of (by simp [results, Tryd.results37, go_sem, *]; repeat' (first | rfl | apply And.intro)) rfl ⟨?_, by repeat (first | with_reducible exact Below.refl _ _ | with_reducible assumption | with_reducible refine below_drewN ?_ _ | with_reducible refine Below.drew ?_ | with_reducible refine below_alloc ?_ _ | (with_reducible refine Below.setCell ?_ ?_ _; rotate_left; ((try simp only); omega)))⟩
    rw [E.out]
end Go.Proofs.YtmlcnmnpkemdpaaDoor

/- The program's questions of a setting: whether a voice starts in a slice, the step to the next event, whether an event is short. -/
namespace Go.Proofs.YtmlcnmnpkemdpaaDoor
open Go.RowKit
/-- What a walk reads of voice i. -/
theorem SetR.voice {w W : World} {g : Nat} {A S Q : Option Addr} {n c K d q : Nat} {l : List (List Ev)} (h : SetR w g A S Q n c K d q l) (hb : Below w.heap.size w W) {i : Nat} (hi : i < n) :
    ∃ v ba oa A' n' c', l[i]? = some v ∧ l.getD i [] = v ∧ A = some ⟨ba, oa, none⟩ ∧ ba < W.heap.size ∧ W.cell? ⟨ba, oa + i, none⟩ = some (.slice A' n' c') ∧ Reads W W.heap.size 10 A' n' (csE v) ∧ v.length = n' ∧ n' ≤ 2000 := by
  obtain ⟨v, hv⟩ := get_some (l := l) (k := i) (by have := h.stg.len; omega)
  obtain ⟨ba, oa, A', n', c', hA, hba, cv, hre, _, hvn⟩ := h.stg.voices.voice (Nat.le_refl _) hb hi hv
  have h2 := ((set_facts h.stg.good).2.1 v (List.mem_of_getElem? hv)).2.2
  exact ⟨v, ba, oa, A', n', c', hv, getD_at hv, hA, hba, cv, hre.more hb.size, hvn, by omega⟩
theorem start_neg {v : List Ev} {t : Tm} (h : onS v t < 0) : startB v t = false := by
  unfold startB
  cases e : onS v t with
  | ofNat k => rw [e] at h; exact absurd h (by show ¬ ((k : Int) < 0); omega)
  | negSucc k => rfl
theorem start_ev {v : List Ev} {t : Tm} {k : Nat} {x : Ev} (h : onS v t = (k : Int)) (hx : v[k]? = some x) : startB v t = decide (x.at_ = t) := by
  unfold startB
  rw [h]
  show (match v[k]? with | some x => decide (x.at_ = t) | none => false) = _
  rw [hx]
set_option maxRecDepth 100000 in
set_option maxHeartbeats 2000000 in
theorem starts_ok {w : World} {g : Nat} {A S Q : Option Addr} {n c K d q : Nat} {l : List (List Ev)} (h : SetR w g A S Q n c K d q l) {k i : Nat} (hk : k < K) (hi : i < n) :
    Calls Tryd.prog 51 #[.pointer (some ⟨g, 0, none⟩), .int .i64 k, .int .i64 i] w fun e w' => e = .returned (.bool (startB (l.getD i []) (mAt (momS l) k))) ∧ Below w.heap.size w w' := by
  obtain ⟨v, hv⟩ := get_some (l := l) (k := i) (by have := h.stg.len; omega)
  rw [getD_at hv]
  obtain ⟨ba, oa, bs, os, be, oe, ce, A', n', c', rfl, rfl, hba, hbs, hbe, x0, x1, x4, y0, z0, hre, hvn⟩ := h.stg.at_ (Below.refl _ _) hi hk hv
  have g0 := h.c0
  have g1 := h.c1
  have glt := h.lt
  have hik : (i : Int) < (n : Int) := by omega
  have hkk : (k : Int) < (K : Int) := by omega
  rcases h.stg.onK hk hv with ho | ⟨j, x, ho, hx⟩
  · have E := Lib.hid (start_neg (v := v) (t := mAt (momS l) k) (by omega))
    rw [ho] at y0
    clear ho h x0 x1 hre hvn hv
    go_enter Tryd.func51, Tryd.ntmps51
    go_wp2_with fail
    refine wp_region_calm (by kernel_rfl) (by kernel_rfl) ?_
    repeat (go_big_quiet_step (fail))
    refine wpQuiet_nil ?_
    intro wd gd
    go_wp2
    refine ret_of (by simp [results, Tryd.results51, go_sem, *]; repeat' (first | rfl | apply And.intro)) rfl ⟨?_, by repeat (first | with_reducible exact Below.refl _ _ | with_reducible assumption | with_reducible refine below_drewN ?_ _ | with_reducible refine Below.drew ?_ | with_reducible refine below_alloc ?_ _ | (with_reducible refine Below.setCell ?_ ?_ _; rotate_left; ((try simp only); omega)))⟩
    rw [E.out]
  · rw [ho] at y0
    have hjn : j < n' := by have := (List.getElem?_eq_some_iff.1 hx).1; omega
    have hjn' : (j : Int) < (n' : Int) := by omega
    obtain ⟨bx, ox, rfl, hbx, hcx⟩ := hre.ev (Nat.le_refl _) (Below.refl _ _) hjn hx
    obtain ⟨c0, c1, c2, c3, c4, c5, c6, c7, c8, c9⟩ := ten hcx
    have E := Lib.hid (start_ev (t := mAt (momS l) k) ho hx)
    obtain ⟨⟨t0, t1⟩, ht⟩ : ∃ t, t = mAt (momS l) k := ⟨_, rfl⟩
    obtain ⟨⟨a0, a1⟩, _, _, _, _, _⟩ := x
    rw [← ht] at x0 x1 E ⊢
    simp only at c0 c1 x0 x1 E
    have E2 := Lib.hid (show decide ((a0, a1) = (t0, t1)) = ((a0 == t0) && (a1 == t1)) by
      rw [Bool.eq_iff_iff]; simp)
    clear ho h hre hvn hv hcx c2 c3 c4 c5 c6 c7 c8 c9 hx ht
    by_cases e0 : a0 = t0
    · have e0' : (a0 == t0) = true := by simpa using e0
      by_cases e1 : a1 = t1
      · have e1' : (a1 == t1) = true := by simpa using e1
        go_enter Tryd.func51, Tryd.ntmps51
        go_wp2_with fail
        refine wp_region_calm (by kernel_rfl) (by kernel_rfl) ?_
        repeat (go_big_quiet_step (fail))
        refine wpQuiet_nil ?_
        intro wd gd
        go_wp2
        refine ret_of (by simp [results, Tryd.results51, go_sem, *]; repeat' (first | rfl | apply And.intro)) rfl ⟨?_, by repeat (first | with_reducible exact Below.refl _ _ | with_reducible assumption | with_reducible refine below_drewN ?_ _ | with_reducible refine Below.drew ?_ | with_reducible refine below_alloc ?_ _ | (with_reducible refine Below.setCell ?_ ?_ _; rotate_left; ((try simp only); omega)))⟩
        rw [E.out, E2.out]
        rw [e0', e1']
        rfl
      · have e1' : (a1 == t1) = false := by simpa using e1
        go_enter Tryd.func51, Tryd.ntmps51
        go_wp2_with fail
        refine wp_region_calm (by kernel_rfl) (by kernel_rfl) ?_
        repeat (go_big_quiet_step (fail))
        refine wpQuiet_nil ?_
        intro wd gd
        go_wp2
        refine ret_of (by simp [results, Tryd.results51, go_sem, *]; repeat' (first | rfl | apply And.intro)) rfl ⟨?_, by repeat (first | with_reducible exact Below.refl _ _ | with_reducible assumption | with_reducible refine below_drewN ?_ _ | with_reducible refine Below.drew ?_ | with_reducible refine below_alloc ?_ _ | (with_reducible refine Below.setCell ?_ ?_ _; rotate_left; ((try simp only); omega)))⟩
        rw [E.out, E2.out]
        rw [e0', e1']
        rfl
    · have e0' : (a0 == t0) = false := by simpa using e0
      go_enter Tryd.func51, Tryd.ntmps51
      go_wp2_with fail
      refine wp_region_calm (by kernel_rfl) (by kernel_rfl) ?_
      repeat (go_big_quiet_step (fail))
      refine wpQuiet_nil ?_
      intro wd gd
      go_wp2
      refine ret_of (by simp [results, Tryd.results51, go_sem, *]; repeat' (first | rfl | apply And.intro)) rfl ⟨?_, by repeat (first | with_reducible exact Below.refl _ _ | with_reducible assumption | with_reducible refine below_drewN ?_ _ | with_reducible refine Below.drew ?_ | with_reducible refine below_alloc ?_ _ | (with_reducible refine Below.setCell ?_ ?_ _; rotate_left; ((try simp only); omega)))⟩
      rw [E.out, E2.out]
      rw [e0']
      rfl
/-- Cases of the step. -/
theorem step_neg {v : List Ev} {i : Int} (h : i < 0) : oneD (stepD v i) = 0 := by unfold stepD; rw [if_pos h]; rfl
theorem step_end {v : List Ev} {k : Nat} (h : v.length ≤ k + 1) : oneD (stepD v k) = 0 := by
  unfold stepD
  rw [if_neg (by omega), Int.toNat_natCast, List.getElem?_eq_none (show v.length ≤ k + 1 by omega)]
  cases v[k]? <;> rfl
theorem step_two {v : List Ev} {k : Nat} {x y : Ev} (hx : v[k]? = some x) (hy : v[k + 1]? = some y) : stepD v k = if x.rest = true ∨ y.rest = true then 0 else numP y.pit - numP x.pit := by
  unfold stepD
  rw [if_neg (by omega), Int.toNat_natCast, hx, hy]
set_option maxRecDepth 100000 in
set_option maxHeartbeats 4000000 in
theorem step_ok {w : World} {g : Nat} {A S Q : Option Addr} {n c K d q : Nat} {l : List (List Ev)} (h : SetR w g A S Q n c K d q l) {a : Nat} (ha : a < n) {i : Int} (hi : -10 ≤ i) (hi' : i ≤ 100000) (hT : Tabs w) :
    Calls Tryd.prog 73 #[.pointer (some ⟨g, 0, none⟩), .int .i64 a, .int .i64 i] w fun e w' => e = .returned (.int .i64 (oneD (stepD (l.getD a []) i))) ∧ Below w.heap.size w w' := by
  obtain ⟨v, ba, oa, A', n', c', hv, hd, rfl, hba, z0, hre, hvn, hn'⟩ := h.voice (Below.refl _ _) ha
  rw [hd]
  have hp := h.pits v (List.mem_of_getElem? hv)
  have g0 := h.c0
  have glt := h.lt
  have hak : (a : Int) < (n : Int) := by omega
  have wk : IntKind.i64.wrap (i + 1) = i + 1 := IntWalk.i64_in _ (by omega)
  clear hv hd h
  by_cases h0 : i < 0
  · have E := Lib.hid (step_neg (v := v) h0)
    clear hre hvn hp
    go_enter Tryd.func73, Tryd.ntmps73
    go_wp2
    refine ret_of (by simp [results, Tryd.results73, go_sem, *]; repeat' (first | rfl | apply And.intro)) rfl ⟨?_, by repeat (first | with_reducible exact Below.refl _ _ | with_reducible assumption | with_reducible refine below_drewN ?_ _ | with_reducible refine Below.drew ?_ | with_reducible refine below_alloc ?_ _ | (with_reducible refine Below.setCell ?_ ?_ _; rotate_left; ((try simp only); omega)))⟩
    rw [E.out]
  · obtain ⟨k, rfl⟩ : ∃ k : Nat, i = (k : Int) := ⟨i.toNat, by omega⟩
    by_cases h1 : n' ≤ k + 1
    · have E := Lib.hid (step_end (v := v) (k := k) (by omega))
      have d1 : decide ((n' : Int) ≤ (k : Int) + 1) = true := by simp; omega
      clear hre hvn hp h1
      go_enter Tryd.func73, Tryd.ntmps73
      go_wp2
      refine ret_of (by simp [results, Tryd.results73, go_sem, *]; repeat' (first | rfl | apply And.intro)) rfl ⟨?_, by repeat (first | with_reducible exact Below.refl _ _ | with_reducible assumption | with_reducible refine below_drewN ?_ _ | with_reducible refine Below.drew ?_ | with_reducible refine below_alloc ?_ _ | (with_reducible refine Below.setCell ?_ ?_ _; rotate_left; ((try simp only); omega)))⟩
      rw [E.out]
    · obtain ⟨x, hx⟩ := get_some (l := v) (k := k) (by omega)
      obtain ⟨y, hy⟩ := get_some (l := v) (k := k + 1) (by omega)
      have E := Lib.hid (step_two hx hy)
      obtain ⟨k1, hk1⟩ : ∃ z, z = k + 1 := ⟨_, rfl⟩
      rw [← hk1] at hy h1
      replace wk : IntKind.i64.wrap ((k : Int) + 1) = (k1 : Int) := by rw [wk]; omega
      have d2 : (k : Int) < (n' : Int) := by omega
      have d3 : (k1 : Int) < (n' : Int) := by omega
      have d1 : decide (n' ≤ k1) = false := by simp; omega
      obtain ⟨bx, ox, rfl, hbx, hcx⟩ := hre.ev (Nat.le_refl _) (Below.refl _ _) (k := k) (by omega) hx
      obtain ⟨by_, oy, hA, hby, hcy⟩ := hre.ev (Nat.le_refl _) (Below.refl _ _) (k := k1) (by omega) hy
      cases hA
      obtain ⟨_, _, _, _, c4, c5, c6, c7, _, _⟩ := ten hcx
      obtain ⟨_, _, _, _, f4, f5, f6, f7, _, _⟩ := ten hcy
      have px := hp x (List.mem_of_getElem? hx)
      have py := hp y (List.mem_of_getElem? hy)
      obtain ⟨_, _, ⟨p0, p1, p2⟩, xr, _, _⟩ := x
      obtain ⟨_, _, ⟨q0, q1, q2⟩, yr, _, _⟩ := y
      simp only at c4 c5 c6 c7 f4 f5 f6 f7 px py E
      clear hx hy hcx hcy hre hvn hp h0 h1 hk1
      cases xr with
      | true =>
        clear px py f4 f5 f6 f7
        go_enter Tryd.func73, Tryd.ntmps73
        go_wp2
        refine ret_of (by simp [results, Tryd.results73, go_sem, *]; repeat' (first | rfl | apply And.intro)) rfl ⟨?_, by repeat (first | with_reducible exact Below.refl _ _ | with_reducible assumption | with_reducible refine below_drewN ?_ _ | with_reducible refine Below.drew ?_ | with_reducible refine below_alloc ?_ _ | (with_reducible refine Below.setCell ?_ ?_ _; rotate_left; ((try simp only); omega)))⟩
        rw [E.out]
        rfl
      | false =>
        cases yr with
        | true =>
          clear px py
          go_enter Tryd.func73, Tryd.ntmps73
          go_wp2
          refine ret_of (by simp [results, Tryd.results73, go_sem, *]; repeat' (first | rfl | apply And.intro)) rfl ⟨?_, by repeat (first | with_reducible exact Below.refl _ _ | with_reducible assumption | with_reducible refine below_drewN ?_ _ | with_reducible refine Below.drew ?_ | with_reducible refine below_alloc ?_ _ | (with_reducible refine Below.setCell ?_ ?_ _; rotate_left; ((try simp only); omega)))⟩
          rw [E.out]
          rfl
        | false =>
          have qb := btw_ok (p0, p1, p2) (q0, q1, q2) (px rfl) (py rfl)
          have e1 : (btw (p0, p1, p2) (q0, q1, q2)).1 = numP (q0, q1, q2) - numP (p0, p1, p2) := rfl
          rw [if_neg (by simp)] at E
          rw [← e1] at E
          obtain ⟨⟨s, s2⟩, hs⟩ : ∃ s, s = btw (p0, p1, p2) (q0, q1, q2) := ⟨_, rfl⟩
          rw [← hs] at E qb
          simp only at E qb
          clear px py hs e1
          go_enter Tryd.func73, Tryd.ntmps73
          go_wp2_with fail
          go_region_held3 (fun w' => w'.cell? ⟨g, 0, none⟩ = some (.slice (some ⟨ba, oa, none⟩) n c) ∧ w'.cell? ⟨ba, oa + a, none⟩ = some (.slice (some ⟨bx, ox, none⟩) n' c') ∧ w'.cell? ⟨bx, ox + k * 10 + 4, none⟩ = some (.int .i64 p0) ∧ w'.cell? ⟨bx, ox + k * 10 + 5, none⟩ = some (.int .i64 p1) ∧ w'.cell? ⟨bx, ox + k * 10 + 6, none⟩ = some (.int .i64 p2) ∧ w'.cell? ⟨bx, ox + k1 * 10 + 4, none⟩ = some (.int .i64 q0) ∧ w'.cell? ⟨bx, ox + k1 * 10 + 5, none⟩ = some (.int .i64 q1) ∧ w'.cell? ⟨bx, ox + k1 * 10 + 6, none⟩ = some (.int .i64 q2) ∧ Below w.heap.size w w') ((refine (fun hb => ⟨(hb.cell (p := ⟨_, _, none⟩) glt).trans g0, (hb.cell (p := ⟨_, _, none⟩) hba).trans z0, (hb.cell (p := ⟨_, _, none⟩) hbx).trans c4, (hb.cell (p := ⟨_, _, none⟩) hbx).trans c5, (hb.cell (p := ⟨_, _, none⟩) hbx).trans c6, (hb.cell (p := ⟨_, _, none⟩) hbx).trans f4, (hb.cell (p := ⟨_, _, none⟩) hbx).trans f5, (hb.cell (p := ⟨_, _, none⟩) hbx).trans f6, hb⟩) ?_; repeat (first | with_reducible exact Below.refl _ _ | with_reducible exact hBd | with_reducible exact (show _ ∧ _ ∧ _ ∧ _ ∧ _ ∧ _ ∧ _ ∧ _ ∧ Below w.heap.size w _ by assumption).2.2.2.2.2.2.2.2 | with_reducible refine Below.drew ?_ | with_reducible refine below_alloc ?_ _ | (with_reducible refine Below.setCell ?_ ?_ _; rotate_left; (first | (have hz := hBd.size; show w.heap.size ≤ _; simp only; omega) | (show w.heap.size ≤ _; simp only; omega)))))) (first | (go_at_call 96; refine (qb _ (hT.kept (show _ ∧ _ ∧ _ ∧ _ ∧ _ ∧ _ ∧ _ ∧ _ ∧ Below w.heap.size w _ by assumption).2.2.2.2.2.2.2.2)).mono ?_; rintro e wd ⟨rfl, hbd⟩; have hBd := below_call (show _ ∧ _ ∧ _ ∧ _ ∧ _ ∧ _ ∧ _ ∧ _ ∧ Below w.heap.size w _ by assumption).2.2.2.2.2.2.2.2 hbd; have hcd := (bcell hbd).1; have hfd := (bcell hbd).2; try (have hzd : w.heap.size < wd.heap.size := by have hz := hbd.size; simp at hz; omega)))
          all_goals
            have hB5 := (show _ ∧ _ ∧ _ ∧ _ ∧ _ ∧ _ ∧ _ ∧ _ ∧ Below w.heap.size w _ by assumption).2.2.2.2.2.2.2.2
            obtain ⟨wv, hwv⟩ := name_world hB5
            first
              | (refine pick_block (wv := wv) (lo := w.heap.size) (t := 135) wd.heap.size #[.int .i64 s, .int .i64 s2] ?_ ?_ ?_; (focus (have hz := hBd.size; omega)); (focus (rw [hwv]; repeat (first | with_reducible exact Blk.new _ _ _ | (with_reducible refine Blk.newAt _ _ _ _ ?_; first | rfl | (simp; done)) | with_reducible apply Blk.alloc | with_reducible apply Blk.drewN | with_reducible apply Blk.drew | with_reducible apply Blk.set_to | (with_reducible apply Blk.far_; (simp only [ne_eq]; omega)) | (with_reducible apply Blk.kept (hb := hbd)) | rfl))); intro gx hgx hgq5 BX5)
              | (refine pick_block (wv := wv) (lo := w.heap.size) (t := 135) w.heap.size #[.int .i64 s, .int .i64 s2] ?_ ?_ ?_; (focus omega); (focus (rw [hwv]; repeat (first | with_reducible exact Blk.new _ _ _ | (with_reducible refine Blk.newAt _ _ _ _ ?_; first | rfl | (simp; done)) | with_reducible apply Blk.alloc | with_reducible apply Blk.drewN | with_reducible apply Blk.drew | with_reducible apply Blk.set_to | (with_reducible apply Blk.far_; (simp only [ne_eq]; omega)) | (with_reducible apply Blk.kept (hb := hbd)) | rfl))); intro gx hgx hgq5 BX5)
            rw [← hwv] at hB5 ⊢
            rw [← hgx]
            clear hwv hgx
            have x0 : wv.cell? ⟨gx, 0, none⟩ = some (.int .i64 s) := BX5.cell 0
            have lX := BX5.lt
            rcases (show s = 1 ∨ s = -1 ∨ ((s == 1) = false ∧ (s == -1) = false) by
              by_cases z1 : s = 1
              · exact .inl z1
              · by_cases z2 : s = -1
                · exact .inr (.inl z2)
                · exact .inr (.inr ⟨by simpa using z1, by simpa using z2⟩)) with rfl | rfl | ⟨z1, z2⟩
            all_goals
              go_wp2
              refine ret_of (by simp [results, Tryd.results73, go_sem, *]; repeat' (first | rfl | apply And.intro)) rfl ⟨?_, hB5⟩
              rw [E.out]
              try rfl
            unfold oneD
            rw [if_neg]
            rintro (rfl | rfl)
            · cases z1
            · cases z2
end Go.Proofs.YtmlcnmnpkemdpaaDoor

/- The program's treatments: passing, turning, suspended. -/

namespace Go.Proofs.YtmlcnmnpkemdpaaDoor
open Go.RowKit
@[reducible] def vPl (n a b : Nat) (i k : Int) : Value := .agg #[.int .i64 n, .int .i64 a, .int .i64 b, .int .i64 i, .int .i64 k]
theorem one_cases (d : Int) : oneD d = 0 ∨ (oneD d = d ∧ (d = 1 ∨ d = -1)) := by
  unfold oneD
  by_cases h : d = 1 ∨ d = -1
  · rw [if_pos h]; exact .inr ⟨rfl, h⟩
  · rw [if_neg h]; exact .inl rfl
theorem one_eq {d e : Int} (h : oneD d ≠ 0) : (oneD e = oneD d) ↔ e = d := by
  rcases one_cases d with h1 | ⟨h1, h2⟩
  · exact absurd h1 h
  · rcases one_cases e with h3 | ⟨h3, h4⟩
    · rw [h3, h1]
      constructor
      · intro h5; omega
      · intro h5; subst h5; omega
    · rw [h3, h1]
theorem short_at {v : List Ev} {j : Nat} {x : Ev} (h : v[j]? = some x) : shortV v j = shortB x := by unfold shortV; rw [Int.toNat_natCast, h]
set_option maxRecDepth 100000 in
set_option maxHeartbeats 2000000 in
theorem short_ok {w : World} {g : Nat} {A S Q : Option Addr} {n c K d q : Nat} {l : List (List Ev)} (h : SetR w g A S Q n c K d q l) {a : Nat} (ha : a < n) {j : Nat} {x : Ev} (hx : (l.getD a [])[j]? = some x) (m b : Nat) (k : Int) :
    Calls Tryd.prog 74 #[.pointer (some ⟨g, 0, none⟩), vPl m a b j k] w fun e w' => e = .returned (.bool (shortV (l.getD a []) j)) ∧ Below w.heap.size w w' := by
  obtain ⟨v, ba, oa, A', n', c', hv, hd, rfl, hba, z0, hre, hvn, hn'⟩ := h.voice (Below.refl _ _) ha
  rw [hd] at hx ⊢
  have E := Lib.hid (short_at hx)
  have g0 := h.c0
  have glt := h.lt
  have hak : (a : Int) < (n : Int) := by omega
  have hjn : j < n' := by have := (List.getElem?_eq_some_iff.1 hx).1; omega
  have hjn' : (j : Int) < (n' : Int) := by omega
  obtain ⟨bx, ox, rfl, hbx, hcx⟩ := hre.ev (Nat.le_refl _) (Below.refl _ _) hjn hx
  obtain ⟨c0, c1, c2, c3, c4, c5, c6, c7, c8, c9⟩ := ten hcx
  have q1 := cmp_any x.dur (1, 1)
  obtain ⟨⟨z, r⟩, hz⟩ : ∃ t, t = cmpS x.dur (1, 1) := ⟨_, rfl⟩
  have E2 := Lib.hid (show shortB x = decide (z ≤ 0) by unfold shortB; rw [← hz])
  rw [← hz] at q1
  obtain ⟨_, ⟨d0, d1⟩, _, _, _, _⟩ := x
  simp only at c2 c3 q1 E2
  clear hz hx hv hd h hre hvn hcx c0 c1 c4 c5 c6 c7 c8 c9
  go_enter Tryd.func74, Tryd.ntmps74
  go_wp2_with fail
  obtain ⟨wq, hwq⟩ : ∃ y, y = w.alloc (.cells #[.int .i64 (m : Int), .int .i64 (a : Int), .int .i64 (b : Int), .int .i64 (j : Int), .int .i64 k] 99) := ⟨_, rfl⟩
  have BX : Blk wq w.heap.size 99 #[.int .i64 (m : Int), .int .i64 (a : Int), .int .i64 (b : Int), .int .i64 (j : Int), .int .i64 k] := by rw [hwq]; exact Blk.new _ _ _
  have kq : Below w.heap.size w wq := by rw [hwq]; exact below_alloc (Below.refl _ _) _
  rw [← hwq]
  have x1 := BX.cell 1
  have x3 := BX.cell 3
  have xl := BX.lt
  have zq := kq.size
  have g0' := (kq.cell (p := ⟨g, 0, none⟩) glt).trans g0
  have z0' := (kq.cell (p := ⟨ba, oa + a, none⟩) hba).trans z0
  have c2' := (kq.cell (p := ⟨bx, ox + j * 10 + 2, none⟩) hbx).trans c2
  have c3' := (kq.cell (p := ⟨bx, ox + j * 10 + 3, none⟩) hbx).trans c3
  have l1 : g < wq.heap.size := by omega
  have l2 : ba < wq.heap.size := by omega
  have l3 : bx < wq.heap.size := by omega
  clear hwq g0 z0 c2 c3 zq
  refine wp_region_calm (by kernel_rfl) (by kernel_rfl) ?_
  repeat (go_big_quiet_step ((go_at_call 84; exact calm_call (q1 _))))
  refine wpQuiet_nil ?_
  intro wd gd
  have kd := below_call kq gd
  go_wp2
  refine ret_of (by simp [results, Tryd.results74, go_sem, *]; repeat' (first | rfl | apply And.intro)) rfl ⟨?_, kd⟩
  rw [E.out, E2.out]
set_option maxRecDepth 100000 in
set_option maxHeartbeats 2000000 in
theorem passing_ok {w : World} {g : Nat} {A S Q : Option Addr} {n c K d q : Nat} {l : List (List Ev)} (h : SetR w g A S Q n c K d q l) {a : Nat} (ha : a < n) {j : Nat} {x : Ev} (hx : (l.getD a [])[j]? = some x) (hj : j ≤ 100000) (m b : Nat) (k : Int) (hT : Tabs w) :
    Calls Tryd.prog 52 #[.pointer (some ⟨g, 0, none⟩), vPl m a b j k] w fun e w' => e = .returned (.bool (passB (l.getD a []) j)) ∧ Below w.heap.size w w' := by
  have q1 := fun W (hW : Below w.heap.size w W) => step_ok (h.kept hW) ha (i := (j : Int) - 1) (by omega) (by omega) (hT.kept hW)
  have q2 := fun W (hW : Below w.heap.size w W) => short_ok (h.kept hW) ha hx m b k
  have q3 := fun W (hW : Below w.heap.size w W) => step_ok (h.kept hW) ha (i := (j : Int)) (by omega) (by omega) (hT.kept hW)
  have wj : IntKind.i64.wrap ((j : Int) - 1) = (j : Int) - 1 := IntWalk.i64_in _ (by omega)
  obtain ⟨to, hto⟩ : ∃ z, z = oneD (stepD (l.getD a []) ((j : Int) - 1)) := ⟨_, rfl⟩
  obtain ⟨f, hf⟩ : ∃ z, z = oneD (stepD (l.getD a []) (j : Int)) := ⟨_, rfl⟩
  obtain ⟨bs, hbs⟩ : ∃ z, z = shortV (l.getD a []) j := ⟨_, rfl⟩
  have E := Lib.hid (show passB (l.getD a []) j = (bs && (decide (to ≠ 0) && decide (f = to))) by
    unfold passB
    rw [← hbs, ← hto]
    by_cases h0 : to = 0
    · rw [decide_eq_false (fun hh => hh h0)]; rfl
    · congr 2
      rw [hto] at h0
      rw [decide_eq_decide, hf, hto, one_eq h0])
  rw [← hto] at q1
  rw [← hbs] at q2
  rw [← hf] at q3
  have ht : Anch w := ⟨⟩
  clear hto hf hbs hT h hx
  cases bs with
  | false =>
    go_enter Tryd.func52, Tryd.ntmps52
    go_wp2_with fail
    refine Calls.mono (q1 _ ?_) ?_
    · exact ht.kept (by repeat (first | exact Below.refl _ _ | refine below_drewN ?_ _ | refine Below.drew ?_ | refine below_alloc ?_ _ | (refine below_call ?_ (by assumption)) | (refine Below.setCell ?_ ?_ _; rotate_left; (simp; try omega))))
    rintro e w1 ⟨rfl, hb1⟩
    have BX1 : Blk w1 (w.heap.size) 99 #[.int .i64 m, .int .i64 a, .int .i64 b, .int .i64 j, .int .i64 k] := by
      refine Blk.kept ?_ hb1
      repeat (first | with_reducible exact Blk.new _ _ _ | (with_reducible refine Blk.newAt _ _ _ _ ?_; first | rfl | (simp; done)) | with_reducible apply Blk.alloc | with_reducible apply Blk.drewN | with_reducible apply Blk.drew | with_reducible apply Blk.set_to | (with_reducible apply Blk.far_; (simp only [ne_eq]; omega)) | rfl)
    have cX0_1 : w1.cell? ⟨w.heap.size, 0, none⟩ = some (.int .i64 m) := BX1.cell 0
    have cX1_1 : w1.cell? ⟨w.heap.size, 1, none⟩ = some (.int .i64 a) := BX1.cell 1
    have cX2_1 : w1.cell? ⟨w.heap.size, 2, none⟩ = some (.int .i64 b) := BX1.cell 2
    have cX3_1 : w1.cell? ⟨w.heap.size, 3, none⟩ = some (.int .i64 j) := BX1.cell 3
    have cX4_1 : w1.cell? ⟨w.heap.size, 4, none⟩ = some (.int .i64 k) := BX1.cell 4
    have lX1 : w.heap.size < w1.heap.size := BX1.lt
    have mX1 : w.heap.size < w1.heap.size + 1 := by omega
    have nX1 : w.heap.size < w1.heap.size + 1 + 1 := by omega
    have hs1 : w.heap.size ≤ w1.heap.size := by have h := hb1.size; (try simp at h); omega
    go_wp2_with fail
    refine Calls.mono (q2 _ ?_) ?_
    · exact ht.kept (by repeat (first | exact Below.refl _ _ | refine below_drewN ?_ _ | refine Below.drew ?_ | refine below_alloc ?_ _ | (refine below_call ?_ (by assumption)) | (refine Below.setCell ?_ ?_ _; rotate_left; (simp; try omega))))
    rintro e w2 ⟨rfl, hb2⟩
    have BX2 : Blk w2 (w.heap.size) 99 #[.int .i64 m, .int .i64 a, .int .i64 b, .int .i64 j, .int .i64 k] := by
      refine Blk.kept ?_ hb2
      repeat (first | with_reducible exact BX1 | with_reducible exact Blk.new _ _ _ | (with_reducible refine Blk.newAt _ _ _ _ ?_; first | rfl | (simp; done)) | with_reducible apply Blk.alloc | with_reducible apply Blk.drewN | with_reducible apply Blk.drew | with_reducible apply Blk.set_to | (with_reducible apply Blk.far_; (simp only [ne_eq]; omega)) | rfl)
    have cX0_2 : w2.cell? ⟨w.heap.size, 0, none⟩ = some (.int .i64 m) := BX2.cell 0
    have cX1_2 : w2.cell? ⟨w.heap.size, 1, none⟩ = some (.int .i64 a) := BX2.cell 1
    have cX2_2 : w2.cell? ⟨w.heap.size, 2, none⟩ = some (.int .i64 b) := BX2.cell 2
    have cX3_2 : w2.cell? ⟨w.heap.size, 3, none⟩ = some (.int .i64 j) := BX2.cell 3
    have cX4_2 : w2.cell? ⟨w.heap.size, 4, none⟩ = some (.int .i64 k) := BX2.cell 4
    have lX2 : w.heap.size < w2.heap.size := BX2.lt
    have mX2 : w.heap.size < w2.heap.size + 1 := by omega
    have nX2 : w.heap.size < w2.heap.size + 1 + 1 := by omega
    clear BX1 lX1 mX1 nX1 cX0_1 cX1_1 cX2_1 cX3_1 cX4_1
    have hs2 : w.heap.size ≤ w2.heap.size := by have h := hb2.size; (try simp at h); omega
    go_wp2
    refine ret_of (by simp [results, Tryd.results52, go_sem, *]; repeat' (first | rfl | apply And.intro)) rfl ⟨?_, by repeat (first | exact Below.refl _ _ | refine below_drewN ?_ _ | refine Below.drew ?_ | refine below_alloc ?_ _ | (refine below_call ?_ (by assumption)) | (refine Below.setCell ?_ ?_ _; rotate_left; (simp; try omega)))⟩
    rw [E.out]
    rfl
  | true =>
    by_cases h0 : to = 0
    · subst h0
      go_enter Tryd.func52, Tryd.ntmps52
      go_wp2_with fail
      refine Calls.mono (q1 _ ?_) ?_
      · exact ht.kept (by repeat (first | exact Below.refl _ _ | refine below_drewN ?_ _ | refine Below.drew ?_ | refine below_alloc ?_ _ | (refine below_call ?_ (by assumption)) | (refine Below.setCell ?_ ?_ _; rotate_left; (simp; try omega))))
      rintro e w1 ⟨rfl, hb1⟩
      have BX1 : Blk w1 (w.heap.size) 99 #[.int .i64 m, .int .i64 a, .int .i64 b, .int .i64 j, .int .i64 k] := by
        refine Blk.kept ?_ hb1
        repeat (first | with_reducible exact Blk.new _ _ _ | (with_reducible refine Blk.newAt _ _ _ _ ?_; first | rfl | (simp; done)) | with_reducible apply Blk.alloc | with_reducible apply Blk.drewN | with_reducible apply Blk.drew | with_reducible apply Blk.set_to | (with_reducible apply Blk.far_; (simp only [ne_eq]; omega)) | rfl)
      have cX0_1 : w1.cell? ⟨w.heap.size, 0, none⟩ = some (.int .i64 m) := BX1.cell 0
      have cX1_1 : w1.cell? ⟨w.heap.size, 1, none⟩ = some (.int .i64 a) := BX1.cell 1
      have cX2_1 : w1.cell? ⟨w.heap.size, 2, none⟩ = some (.int .i64 b) := BX1.cell 2
      have cX3_1 : w1.cell? ⟨w.heap.size, 3, none⟩ = some (.int .i64 j) := BX1.cell 3
      have cX4_1 : w1.cell? ⟨w.heap.size, 4, none⟩ = some (.int .i64 k) := BX1.cell 4
      have lX1 : w.heap.size < w1.heap.size := BX1.lt
      have mX1 : w.heap.size < w1.heap.size + 1 := by omega
      have nX1 : w.heap.size < w1.heap.size + 1 + 1 := by omega
      have hs1 : w.heap.size ≤ w1.heap.size := by have h := hb1.size; (try simp at h); omega
      go_wp2_with fail
      refine Calls.mono (q2 _ ?_) ?_
      · exact ht.kept (by repeat (first | exact Below.refl _ _ | refine below_drewN ?_ _ | refine Below.drew ?_ | refine below_alloc ?_ _ | (refine below_call ?_ (by assumption)) | (refine Below.setCell ?_ ?_ _; rotate_left; (simp; try omega))))
      rintro e w2 ⟨rfl, hb2⟩
      have BX2 : Blk w2 (w.heap.size) 99 #[.int .i64 m, .int .i64 a, .int .i64 b, .int .i64 j, .int .i64 k] := by
        refine Blk.kept ?_ hb2
        repeat (first | with_reducible exact BX1 | with_reducible exact Blk.new _ _ _ | (with_reducible refine Blk.newAt _ _ _ _ ?_; first | rfl | (simp; done)) | with_reducible apply Blk.alloc | with_reducible apply Blk.drewN | with_reducible apply Blk.drew | with_reducible apply Blk.set_to | (with_reducible apply Blk.far_; (simp only [ne_eq]; omega)) | rfl)
      have cX0_2 : w2.cell? ⟨w.heap.size, 0, none⟩ = some (.int .i64 m) := BX2.cell 0
      have cX1_2 : w2.cell? ⟨w.heap.size, 1, none⟩ = some (.int .i64 a) := BX2.cell 1
      have cX2_2 : w2.cell? ⟨w.heap.size, 2, none⟩ = some (.int .i64 b) := BX2.cell 2
      have cX3_2 : w2.cell? ⟨w.heap.size, 3, none⟩ = some (.int .i64 j) := BX2.cell 3
      have cX4_2 : w2.cell? ⟨w.heap.size, 4, none⟩ = some (.int .i64 k) := BX2.cell 4
      have lX2 : w.heap.size < w2.heap.size := BX2.lt
      have mX2 : w.heap.size < w2.heap.size + 1 := by omega
      have nX2 : w.heap.size < w2.heap.size + 1 + 1 := by omega
      clear BX1 lX1 mX1 nX1 cX0_1 cX1_1 cX2_1 cX3_1 cX4_1
      have hs2 : w.heap.size ≤ w2.heap.size := by have h := hb2.size; (try simp at h); omega
      go_wp2
      refine ret_of (by simp [results, Tryd.results52, go_sem, *]; repeat' (first | rfl | apply And.intro)) rfl ⟨?_, by repeat (first | exact Below.refl _ _ | refine below_drewN ?_ _ | refine Below.drew ?_ | refine below_alloc ?_ _ | (refine below_call ?_ (by assumption)) | (refine Below.setCell ?_ ?_ _; rotate_left; (simp; try omega)))⟩
      rw [E.out]
      rfl
    · have h1 : (to != 0) = true := by simpa using h0
      have h2 : (to == 0) = false := by simpa using h0
      go_enter Tryd.func52, Tryd.ntmps52
      go_wp2_with fail
      refine Calls.mono (q1 _ ?_) ?_
      · exact ht.kept (by repeat (first | exact Below.refl _ _ | refine below_drewN ?_ _ | refine Below.drew ?_ | refine below_alloc ?_ _ | (refine below_call ?_ (by assumption)) | (refine Below.setCell ?_ ?_ _; rotate_left; (simp; try omega))))
      rintro e w1 ⟨rfl, hb1⟩
      have BX1 : Blk w1 (w.heap.size) 99 #[.int .i64 m, .int .i64 a, .int .i64 b, .int .i64 j, .int .i64 k] := by
        refine Blk.kept ?_ hb1
        repeat (first | with_reducible exact Blk.new _ _ _ | (with_reducible refine Blk.newAt _ _ _ _ ?_; first | rfl | (simp; done)) | with_reducible apply Blk.alloc | with_reducible apply Blk.drewN | with_reducible apply Blk.drew | with_reducible apply Blk.set_to | (with_reducible apply Blk.far_; (simp only [ne_eq]; omega)) | rfl)
      have cX0_1 : w1.cell? ⟨w.heap.size, 0, none⟩ = some (.int .i64 m) := BX1.cell 0
      have cX1_1 : w1.cell? ⟨w.heap.size, 1, none⟩ = some (.int .i64 a) := BX1.cell 1
      have cX2_1 : w1.cell? ⟨w.heap.size, 2, none⟩ = some (.int .i64 b) := BX1.cell 2
      have cX3_1 : w1.cell? ⟨w.heap.size, 3, none⟩ = some (.int .i64 j) := BX1.cell 3
      have cX4_1 : w1.cell? ⟨w.heap.size, 4, none⟩ = some (.int .i64 k) := BX1.cell 4
      have lX1 : w.heap.size < w1.heap.size := BX1.lt
      have mX1 : w.heap.size < w1.heap.size + 1 := by omega
      have nX1 : w.heap.size < w1.heap.size + 1 + 1 := by omega
      have hs1 : w.heap.size ≤ w1.heap.size := by have h := hb1.size; (try simp at h); omega
      go_wp2_with fail
      refine Calls.mono (q2 _ ?_) ?_
      · exact ht.kept (by repeat (first | exact Below.refl _ _ | refine below_drewN ?_ _ | refine Below.drew ?_ | refine below_alloc ?_ _ | (refine below_call ?_ (by assumption)) | (refine Below.setCell ?_ ?_ _; rotate_left; (simp; try omega))))
      rintro e w2 ⟨rfl, hb2⟩
      have BX2 : Blk w2 (w.heap.size) 99 #[.int .i64 m, .int .i64 a, .int .i64 b, .int .i64 j, .int .i64 k] := by
        refine Blk.kept ?_ hb2
        repeat (first | with_reducible exact BX1 | with_reducible exact Blk.new _ _ _ | (with_reducible refine Blk.newAt _ _ _ _ ?_; first | rfl | (simp; done)) | with_reducible apply Blk.alloc | with_reducible apply Blk.drewN | with_reducible apply Blk.drew | with_reducible apply Blk.set_to | (with_reducible apply Blk.far_; (simp only [ne_eq]; omega)) | rfl)
      have cX0_2 : w2.cell? ⟨w.heap.size, 0, none⟩ = some (.int .i64 m) := BX2.cell 0
      have cX1_2 : w2.cell? ⟨w.heap.size, 1, none⟩ = some (.int .i64 a) := BX2.cell 1
      have cX2_2 : w2.cell? ⟨w.heap.size, 2, none⟩ = some (.int .i64 b) := BX2.cell 2
      have cX3_2 : w2.cell? ⟨w.heap.size, 3, none⟩ = some (.int .i64 j) := BX2.cell 3
      have cX4_2 : w2.cell? ⟨w.heap.size, 4, none⟩ = some (.int .i64 k) := BX2.cell 4
      have lX2 : w.heap.size < w2.heap.size := BX2.lt
      have mX2 : w.heap.size < w2.heap.size + 1 := by omega
      have nX2 : w.heap.size < w2.heap.size + 1 + 1 := by omega
      clear BX1 lX1 mX1 nX1 cX0_1 cX1_1 cX2_1 cX3_1 cX4_1
      have hs2 : w.heap.size ≤ w2.heap.size := by have h := hb2.size; (try simp at h); omega
      go_wp2_with fail
      refine Calls.mono (q3 _ ?_) ?_
      · exact ht.kept (by repeat (first | exact Below.refl _ _ | refine below_drewN ?_ _ | refine Below.drew ?_ | refine below_alloc ?_ _ | (refine below_call ?_ (by assumption)) | (refine Below.setCell ?_ ?_ _; rotate_left; (simp; try omega))))
      rintro e w3 ⟨rfl, hb3⟩
      have BX3 : Blk w3 (w.heap.size) 99 #[.int .i64 m, .int .i64 a, .int .i64 b, .int .i64 j, .int .i64 k] := by
        refine Blk.kept ?_ hb3
        repeat (first | with_reducible exact BX2 | with_reducible exact Blk.new _ _ _ | (with_reducible refine Blk.newAt _ _ _ _ ?_; first | rfl | (simp; done)) | with_reducible apply Blk.alloc | with_reducible apply Blk.drewN | with_reducible apply Blk.drew | with_reducible apply Blk.set_to | (with_reducible apply Blk.far_; (simp only [ne_eq]; omega)) | rfl)
      have cX0_3 : w3.cell? ⟨w.heap.size, 0, none⟩ = some (.int .i64 m) := BX3.cell 0
      have cX1_3 : w3.cell? ⟨w.heap.size, 1, none⟩ = some (.int .i64 a) := BX3.cell 1
      have cX2_3 : w3.cell? ⟨w.heap.size, 2, none⟩ = some (.int .i64 b) := BX3.cell 2
      have cX3_3 : w3.cell? ⟨w.heap.size, 3, none⟩ = some (.int .i64 j) := BX3.cell 3
      have cX4_3 : w3.cell? ⟨w.heap.size, 4, none⟩ = some (.int .i64 k) := BX3.cell 4
      have lX3 : w.heap.size < w3.heap.size := BX3.lt
      have mX3 : w.heap.size < w3.heap.size + 1 := by omega
      have nX3 : w.heap.size < w3.heap.size + 1 + 1 := by omega
      clear BX2 lX2 mX2 nX2 cX0_2 cX1_2 cX2_2 cX3_2 cX4_2
      have hs3 : w.heap.size ≤ w3.heap.size := by have h := hb3.size; (try simp at h); omega
      go_wp2
      refine ret_of (by simp [results, Tryd.results52, go_sem, *]; repeat' (first | rfl | apply And.intro)) rfl ⟨?_, by repeat (first | exact Below.refl _ _ | refine below_drewN ?_ _ | refine Below.drew ?_ | refine below_alloc ?_ _ | (refine below_call ?_ (by assumption)) | (refine Below.setCell ?_ ?_ _; rotate_left; (simp; try omega)))⟩
      rw [E.out]
      rw [show (f == to) = decide (f = to) by rw [Bool.eq_iff_iff]; simp, decide_eq_true h0]
      rfl
theorem turn_eq {v : List Ev} {j : Nat} {bs : Bool} {to : Int} (h : bs = shortV v j) (h' : to = oneD (stepD v ((j : Int) - 1))) : turnB v j = (bs && (decide (to ≠ 0) && sameB v j)) := by unfold turnB; rw [← h, ← h']
theorem same_none {v : List Ev} {j : Nat} (h : v.length ≤ j + 1) : sameB v j = false := by
  unfold sameB
  rw [Int.toNat_natCast, List.getElem?_eq_none (show v.length ≤ j + 1 by omega)]
theorem same_two {v : List Ev} {j p : Nat} {y z : Ev} (hj : j = p + 1) (hy : v[j + 1]? = some y) (hz : v[p]? = some z) : sameB v j = (!y.rest && decide (y.pit = z.pit)) := by
  unfold sameB
  rw [Int.toNat_natCast, hy, show ((j : Int) - 1).toNat = p by omega, hz]
set_option maxRecDepth 100000 in
set_option maxHeartbeats 4000000 in
theorem turning_ok {w : World} {g : Nat} {A S Q : Option Addr} {n c K d q : Nat} {l : List (List Ev)} (h : SetR w g A S Q n c K d q l) {a : Nat} (ha : a < n) {j : Nat} {x : Ev} (hx : (l.getD a [])[j]? = some x) (hj : j ≤ 100000) (m b : Nat) (k : Int) (hT : Tabs w) :
    Calls Tryd.prog 53 #[.pointer (some ⟨g, 0, none⟩), vPl m a b j k] w fun e w' => e = .returned (.bool (turnB (l.getD a []) j)) ∧ Below w.heap.size w w' := by
  have q1 := fun W (hW : Below w.heap.size w W) => step_ok (h.kept hW) ha (i := (j : Int) - 1) (by omega) (by omega) (hT.kept hW)
  have q2 := fun W (hW : Below w.heap.size w W) => short_ok (h.kept hW) ha hx m b k
  have wj : IntKind.i64.wrap ((j : Int) - 1) = (j : Int) - 1 := IntWalk.i64_in _ (by omega)
  obtain ⟨to, hto⟩ : ∃ z, z = oneD (stepD (l.getD a []) ((j : Int) - 1)) := ⟨_, rfl⟩
  obtain ⟨bs, hbs⟩ : ∃ z, z = shortV (l.getD a []) j := ⟨_, rfl⟩
  have HE := Lib.hid (turn_eq hbs hto)
  have HST := Lib.hid (step_notes (v := l.getD a []) (i := (j : Int) - 1))
  rw [← hto] at q1 HST
  rw [← hbs] at q2
  have ht : Anch w := ⟨⟩
  have g0 := h.c0
  have glt := h.lt
  obtain ⟨v, ba, oa, A', n', c', hv, hd, rfl, hba, z0, hre, hvn, hn'⟩ := h.voice (Below.refl _ _) ha
  have hak : (a : Int) < (n : Int) := by omega
  rw [hd] at HE HST hx ⊢
  clear hto hbs hT h hv hd
  cases bs with
  | false =>
    have E := Lib.hid (show turnB v j = false by rw [HE.out]; rfl)
    clear HE HST hre hvn hx
    go_enter Tryd.func53, Tryd.ntmps53
    go_wp2_with fail
    obtain ⟨wq, hwq⟩ : ∃ y, y = w.alloc (.cells #[.int .i64 (m : Int), .int .i64 (a : Int), .int .i64 (b : Int), .int .i64 (j : Int), .int .i64 k] 99) := ⟨_, rfl⟩
    have BX : Blk wq w.heap.size 99 #[.int .i64 (m : Int), .int .i64 (a : Int), .int .i64 (b : Int), .int .i64 (j : Int), .int .i64 k] := by rw [hwq]; exact Blk.new _ _ _
    have kq : Below w.heap.size w wq := by rw [hwq]; exact below_alloc (Below.refl _ _) _
    rw [← hwq]
    have x1 := BX.cell 1
    have xl := BX.lt
    have g0' := (kq.cell (p := ⟨g, 0, none⟩) glt).trans g0
    have z0' := (kq.cell (p := ⟨ba, oa + a, none⟩) hba).trans z0
    have l1 : g < wq.heap.size := by have := kq.size; omega
    have l2 : ba < wq.heap.size := by have := kq.size; omega
    clear hwq g0 z0 glt hba
    refine wp_region_calm (by kernel_rfl) (by kernel_rfl) ?_
    repeat (go_big_quiet_step (fail))
    refine wpQuiet_nil ?_
    intro wd gd
    have kd := below_call kq gd
    have BD := BX.kept gd
    have cd := BD.cell
    have ld := BD.lt
    clear x1 xl g0' z0' l1 l2 gd kq BX
    have y0 := BD.cell 0
    have y1 := BD.cell 1
    have y2 := BD.cell 2
    have y3 := BD.cell 3
    have y4 := BD.cell 4
    clear cd
    go_wp2_with fail
    refine wp_region_calm (by kernel_rfl) (by kernel_rfl) ?_
    repeat (go_big_quiet_step ((first | (go_at_call 74; with_reducible exact calm_call (q2 _ (below_call kd (Calm.h _)))) | (go_at_call 73; with_reducible exact calm_call (q1 _ (below_call kd (Calm.h _)))))))
    refine wpQuiet_nil ?_
    intro we ge
    have ke := below_call kd ge
    go_wp2
    refine ret_of (by simp [results, Tryd.results53, go_sem, *]; repeat' (first | rfl | apply And.intro)) rfl ⟨?_, ke⟩
    rw [E.out]
  | true =>
    by_cases h0 : to = 0
    · subst h0
      have E := Lib.hid (show turnB v j = false by rw [HE.out]; rfl)
      clear HE HST hre hvn hx
      go_enter Tryd.func53, Tryd.ntmps53
      go_wp2_with fail
      obtain ⟨wq, hwq⟩ : ∃ y, y = w.alloc (.cells #[.int .i64 (m : Int), .int .i64 (a : Int), .int .i64 (b : Int), .int .i64 (j : Int), .int .i64 k] 99) := ⟨_, rfl⟩
      have BX : Blk wq w.heap.size 99 #[.int .i64 (m : Int), .int .i64 (a : Int), .int .i64 (b : Int), .int .i64 (j : Int), .int .i64 k] := by rw [hwq]; exact Blk.new _ _ _
      have kq : Below w.heap.size w wq := by rw [hwq]; exact below_alloc (Below.refl _ _) _
      rw [← hwq]
      have x1 := BX.cell 1
      have xl := BX.lt
      have g0' := (kq.cell (p := ⟨g, 0, none⟩) glt).trans g0
      have z0' := (kq.cell (p := ⟨ba, oa + a, none⟩) hba).trans z0
      have l1 : g < wq.heap.size := by have := kq.size; omega
      have l2 : ba < wq.heap.size := by have := kq.size; omega
      clear hwq g0 z0 glt hba
      refine wp_region_calm (by kernel_rfl) (by kernel_rfl) ?_
      repeat (go_big_quiet_step (fail))
      refine wpQuiet_nil ?_
      intro wd gd
      have kd := below_call kq gd
      have BD := BX.kept gd
      have cd := BD.cell
      have ld := BD.lt
      clear x1 xl g0' z0' l1 l2 gd kq BX
      have y0 := BD.cell 0
      have y1 := BD.cell 1
      have y2 := BD.cell 2
      have y3 := BD.cell 3
      have y4 := BD.cell 4
      clear cd
      go_wp2_with fail
      refine wp_region_calm (by kernel_rfl) (by kernel_rfl) ?_
      repeat (go_big_quiet_step ((first | (go_at_call 74; with_reducible exact calm_call (q2 _ (below_call kd (Calm.h _)))) | (go_at_call 73; with_reducible exact calm_call (q1 _ (below_call kd (Calm.h _)))))))
      refine wpQuiet_nil ?_
      intro we ge
      have ke := below_call kd ge
      go_wp2
      refine ret_of (by simp [results, Tryd.results53, go_sem, *]; repeat' (first | rfl | apply And.intro)) rfl ⟨?_, ke⟩
      rw [E.out]
    · have h1 : (to != 0) = true := by simpa using h0
      have h2 : (to == 0) = false := by simpa using h0
      obtain ⟨hj0, z, _, hz, _⟩ := HST.out h0
      obtain ⟨p, hp⟩ : ∃ p, j = p + 1 := ⟨j - 1, by omega⟩
      rw [show ((j : Int) - 1).toNat = p by omega] at hz
      replace wj : IntKind.i64.wrap ((j : Int) - 1) = (p : Int) := by rw [wj]; omega
      replace q1 := fun W (hW : Below w.heap.size w W) => by have h := q1 W hW; rw [show (j : Int) - 1 = (p : Int) by omega] at h; exact h
      have HE2 := Lib.hid (show turnB v j = sameB v j by rw [HE.out, decide_eq_true h0]; rfl)
      obtain ⟨j1, hj1⟩ : ∃ j1, j1 = j + 1 := ⟨_, rfl⟩
      have wj1 : IntKind.i64.wrap ((j : Int) + 1) = (j1 : Int) := by rw [IntWalk.i64_in _ (by omega)]; omega
      by_cases hn : n' ≤ j1
      · have E := Lib.hid (show turnB v j = false by rw [HE2.out, same_none (by omega)])
        have d1 : decide (j1 < n') = false := by simp; omega
        clear HE HE2 HST hre hvn hx hz hp hj1 hn h0 hj0
        go_enter Tryd.func53, Tryd.ntmps53
        go_wp2_with fail
        obtain ⟨wq, hwq⟩ : ∃ y, y = w.alloc (.cells #[.int .i64 (m : Int), .int .i64 (a : Int), .int .i64 (b : Int), .int .i64 (j : Int), .int .i64 k] 99) := ⟨_, rfl⟩
        have BX : Blk wq w.heap.size 99 #[.int .i64 (m : Int), .int .i64 (a : Int), .int .i64 (b : Int), .int .i64 (j : Int), .int .i64 k] := by rw [hwq]; exact Blk.new _ _ _
        have kq : Below w.heap.size w wq := by rw [hwq]; exact below_alloc (Below.refl _ _) _
        rw [← hwq]
        have x1 := BX.cell 1
        have xl := BX.lt
        have g0' := (kq.cell (p := ⟨g, 0, none⟩) glt).trans g0
        have z0' := (kq.cell (p := ⟨ba, oa + a, none⟩) hba).trans z0
        have l1 : g < wq.heap.size := by have := kq.size; omega
        have l2 : ba < wq.heap.size := by have := kq.size; omega
        clear hwq g0 z0 glt hba
        refine wp_region_calm (by kernel_rfl) (by kernel_rfl) ?_
        repeat (go_big_quiet_step (fail))
        refine wpQuiet_nil ?_
        intro wd gd
        have kd := below_call kq gd
        have BD := BX.kept gd
        have cd := BD.cell
        have ld := BD.lt
        clear x1 xl g0' z0' l1 l2 gd kq BX
        have y0 := BD.cell 0
        have y1 := BD.cell 1
        have y2 := BD.cell 2
        have y3 := BD.cell 3
        have y4 := BD.cell 4
        clear cd
        go_wp2_with fail
        refine wp_region_calm (by kernel_rfl) (by kernel_rfl) ?_
        repeat (go_big_quiet_step ((first | (go_at_call 74; with_reducible exact calm_call (q2 _ (below_call kd (Calm.h _)))) | (go_at_call 73; with_reducible exact calm_call (q1 _ (below_call kd (Calm.h _)))))))
        refine wpQuiet_nil ?_
        intro we ge
        have ke := below_call kd ge
        go_wp2
        refine ret_of (by simp [results, Tryd.results53, go_sem, *]; repeat' (first | rfl | apply And.intro)) rfl ⟨?_, ke⟩
        rw [E.out]
      · have d1 : decide (j1 < n') = true := by simp; omega
        have d2 : (j1 : Int) < (n' : Int) := by omega
        have d3 : (p : Int) < (n' : Int) := by omega
        obtain ⟨y, hy⟩ := get_some (l := v) (k := j + 1) (by omega)
        have HE3 := Lib.hid (show turnB v j = (!y.rest && decide (y.pit = z.pit)) by rw [HE2.out, same_two hp hy hz])
        rw [← hj1] at hy
        obtain ⟨bx, ox, rfl, hbx, hcx⟩ := hre.ev (Nat.le_refl _) (Below.refl _ _) (k := j1) (by omega) hy
        obtain ⟨_, _, hA, hby, hcy⟩ := hre.ev (Nat.le_refl _) (Below.refl _ _) (k := p) (by omega) hz
        cases hA
        obtain ⟨_, _, _, _, c4, c5, c6, c7, _, _⟩ := ten hcx
        obtain ⟨_, _, _, _, f4, f5, f6, f7, _, _⟩ := ten hcy
        obtain ⟨_, _, ⟨p0, p1, p2⟩, yr, _, _⟩ := y
        obtain ⟨_, _, ⟨r0, r1, r2⟩, zr, _, _⟩ := z
        simp only at c4 c5 c6 c7 f4 f5 f6 f7 HE3
        have HR := Lib.hid (show ∀ W, Below w.heap.size w W → ba < W.heap.size ∧ bx < W.heap.size ∧ W.cell? ⟨bx, ox + j1 * 10 + 7, none⟩ = some (.bool yr) ∧ W.cell? ⟨bx, ox + j1 * 10 + 4, none⟩ = some (.int .i64 p0) ∧ W.cell? ⟨bx, ox + j1 * 10 + 5, none⟩ = some (.int .i64 p1) ∧ W.cell? ⟨bx, ox + j1 * 10 + 6, none⟩ = some (.int .i64 p2) ∧ W.cell? ⟨bx, ox + p * 10 + 4, none⟩ = some (.int .i64 r0) ∧ W.cell? ⟨bx, ox + p * 10 + 5, none⟩ = some (.int .i64 r1) ∧ W.cell? ⟨bx, ox + p * 10 + 6, none⟩ = some (.int .i64 r2) from fun W hW => by
          have hz := hW.size
          exact ⟨by omega, by omega, (hW.cell (p := ⟨_, _, none⟩) hbx).trans c7, (hW.cell (p := ⟨_, _, none⟩) hbx).trans c4, (hW.cell (p := ⟨_, _, none⟩) hbx).trans c5, (hW.cell (p := ⟨_, _, none⟩) hbx).trans c6, (hW.cell (p := ⟨_, _, none⟩) hbx).trans f4, (hW.cell (p := ⟨_, _, none⟩) hbx).trans f5, (hW.cell (p := ⟨_, _, none⟩) hbx).trans f6⟩)
        clear HE HE2 HST hre hvn hx hy hz hp hj1 hn h0 hj0 hcx hcy c4 c5 c6 c7 f4 f5 f6 f7 hbx hby
        cases yr with
        | true =>
          have E := Lib.hid (show turnB v j = false by rw [HE3.out]; rfl)
          clear HE3
          go_enter Tryd.func53, Tryd.ntmps53
          go_wp2_with fail
          obtain ⟨wq, hwq⟩ : ∃ y, y = w.alloc (.cells #[.int .i64 (m : Int), .int .i64 (a : Int), .int .i64 (b : Int), .int .i64 (j : Int), .int .i64 k] 99) := ⟨_, rfl⟩
          have BX : Blk wq w.heap.size 99 #[.int .i64 (m : Int), .int .i64 (a : Int), .int .i64 (b : Int), .int .i64 (j : Int), .int .i64 k] := by rw [hwq]; exact Blk.new _ _ _
          have kq : Below w.heap.size w wq := by rw [hwq]; exact below_alloc (Below.refl _ _) _
          rw [← hwq]
          have x1 := BX.cell 1
          have xl := BX.lt
          have g0' := (kq.cell (p := ⟨g, 0, none⟩) glt).trans g0
          have z0' := (kq.cell (p := ⟨ba, oa + a, none⟩) hba).trans z0
          have l1 : g < wq.heap.size := by have := kq.size; omega
          have l2 : ba < wq.heap.size := by have := kq.size; omega
          clear hwq g0 z0 glt hba
          refine wp_region_calm (by kernel_rfl) (by kernel_rfl) ?_
          repeat (go_big_quiet_step (fail))
          refine wpQuiet_nil ?_
          intro wd gd
          have kd := below_call kq gd
          have BD := BX.kept gd
          have cd := BD.cell
          have ld := BD.lt
          clear x1 xl g0' z0' l1 l2 gd kq BX
          obtain ⟨hba, hbx, u7, u4, u5, u6, v4, v5, v6⟩ := HR.out wd kd
          have y0 := BD.cell 0
          have y1 := BD.cell 1
          have y2 := BD.cell 2
          have y3 := BD.cell 3
          have y4 := BD.cell 4
          clear cd
          go_wp2_with fail
          refine wp_region_calm (by kernel_rfl) (by kernel_rfl) ?_
          repeat (go_big_quiet_step ((first | (go_at_call 74; with_reducible exact calm_call (q2 _ (below_call kd (Calm.h _)))) | (go_at_call 73; with_reducible exact calm_call (q1 _ (below_call kd (Calm.h _)))))))
          refine wpQuiet_nil ?_
          intro we ge
          have ke := below_call kd ge
          go_wp2
          refine ret_of (by simp [results, Tryd.results53, go_sem, *]; repeat' (first | rfl | apply And.intro)) rfl ⟨?_, ke⟩
          rw [E.out]
        | false =>
          rcases three_parts p0 p1 p2 r0 r1 r2 with ⟨rfl, rfl, rfl⟩ | e0 | ⟨rfl, e1⟩ | ⟨rfl, rfl, e2⟩
          · have E := Lib.hid (show turnB v j = true by rw [HE3.out]; simp)
            clear HE3
            go_enter Tryd.func53, Tryd.ntmps53
            go_wp2_with fail
            obtain ⟨wq, hwq⟩ : ∃ y, y = w.alloc (.cells #[.int .i64 (m : Int), .int .i64 (a : Int), .int .i64 (b : Int), .int .i64 (j : Int), .int .i64 k] 99) := ⟨_, rfl⟩
            have BX : Blk wq w.heap.size 99 #[.int .i64 (m : Int), .int .i64 (a : Int), .int .i64 (b : Int), .int .i64 (j : Int), .int .i64 k] := by rw [hwq]; exact Blk.new _ _ _
            have kq : Below w.heap.size w wq := by rw [hwq]; exact below_alloc (Below.refl _ _) _
            rw [← hwq]
            have x1 := BX.cell 1
            have xl := BX.lt
            have g0' := (kq.cell (p := ⟨g, 0, none⟩) glt).trans g0
            have z0' := (kq.cell (p := ⟨ba, oa + a, none⟩) hba).trans z0
            have l1 : g < wq.heap.size := by have := kq.size; omega
            have l2 : ba < wq.heap.size := by have := kq.size; omega
            clear hwq g0 z0 glt hba
            refine wp_region_calm (by kernel_rfl) (by kernel_rfl) ?_
            repeat (go_big_quiet_step (fail))
            refine wpQuiet_nil ?_
            intro wd gd
            have kd := below_call kq gd
            have BD := BX.kept gd
            have cd := BD.cell
            have ld := BD.lt
            clear x1 xl g0' z0' l1 l2 gd kq BX
            obtain ⟨hba, hbx, u7, u4, u5, u6, v4, v5, v6⟩ := HR.out wd kd
            have y0 := BD.cell 0
            have y1 := BD.cell 1
            have y2 := BD.cell 2
            have y3 := BD.cell 3
            have y4 := BD.cell 4
            clear cd
            go_wp2_with fail
            refine wp_region_calm (by kernel_rfl) (by kernel_rfl) ?_
            repeat (go_big_quiet_step ((first | (go_at_call 74; with_reducible exact calm_call (q2 _ (below_call kd (Calm.h _)))) | (go_at_call 73; with_reducible exact calm_call (q1 _ (below_call kd (Calm.h _)))))))
            refine wpQuiet_nil ?_
            intro we ge
            have ke := below_call kd ge
            go_wp2
            refine ret_of (by simp [results, Tryd.results53, go_sem, *]; repeat' (first | rfl | apply And.intro)) rfl ⟨?_, ke⟩
            rw [E.out]
          · have E := Lib.hid (show turnB v j = false by rw [HE3.out]; simp [e0])
            have e0' : (p0 == r0) = false := by simpa using e0
            clear HE3
            go_enter Tryd.func53, Tryd.ntmps53
            go_wp2_with fail
            obtain ⟨wq, hwq⟩ : ∃ y, y = w.alloc (.cells #[.int .i64 (m : Int), .int .i64 (a : Int), .int .i64 (b : Int), .int .i64 (j : Int), .int .i64 k] 99) := ⟨_, rfl⟩
            have BX : Blk wq w.heap.size 99 #[.int .i64 (m : Int), .int .i64 (a : Int), .int .i64 (b : Int), .int .i64 (j : Int), .int .i64 k] := by rw [hwq]; exact Blk.new _ _ _
            have kq : Below w.heap.size w wq := by rw [hwq]; exact below_alloc (Below.refl _ _) _
            rw [← hwq]
            have x1 := BX.cell 1
            have xl := BX.lt
            have g0' := (kq.cell (p := ⟨g, 0, none⟩) glt).trans g0
            have z0' := (kq.cell (p := ⟨ba, oa + a, none⟩) hba).trans z0
            have l1 : g < wq.heap.size := by have := kq.size; omega
            have l2 : ba < wq.heap.size := by have := kq.size; omega
            clear hwq g0 z0 glt hba
            refine wp_region_calm (by kernel_rfl) (by kernel_rfl) ?_
            repeat (go_big_quiet_step (fail))
            refine wpQuiet_nil ?_
            intro wd gd
            have kd := below_call kq gd
            have BD := BX.kept gd
            have cd := BD.cell
            have ld := BD.lt
            clear x1 xl g0' z0' l1 l2 gd kq BX
            obtain ⟨hba, hbx, u7, u4, u5, u6, v4, v5, v6⟩ := HR.out wd kd
            have y0 := BD.cell 0
            have y1 := BD.cell 1
            have y2 := BD.cell 2
            have y3 := BD.cell 3
            have y4 := BD.cell 4
            clear cd
            go_wp2_with fail
            refine wp_region_calm (by kernel_rfl) (by kernel_rfl) ?_
            repeat (go_big_quiet_step ((first | (go_at_call 74; with_reducible exact calm_call (q2 _ (below_call kd (Calm.h _)))) | (go_at_call 73; with_reducible exact calm_call (q1 _ (below_call kd (Calm.h _)))))))
            refine wpQuiet_nil ?_
            intro we ge
            have ke := below_call kd ge
            go_wp2
            refine ret_of (by simp [results, Tryd.results53, go_sem, *]; repeat' (first | rfl | apply And.intro)) rfl ⟨?_, ke⟩
            rw [E.out]
          · have E := Lib.hid (show turnB v j = false by rw [HE3.out]; simp [e1])
            have e1' : (p1 == r1) = false := by simpa using e1
            clear HE3
            go_enter Tryd.func53, Tryd.ntmps53
            go_wp2_with fail
            obtain ⟨wq, hwq⟩ : ∃ y, y = w.alloc (.cells #[.int .i64 (m : Int), .int .i64 (a : Int), .int .i64 (b : Int), .int .i64 (j : Int), .int .i64 k] 99) := ⟨_, rfl⟩
            have BX : Blk wq w.heap.size 99 #[.int .i64 (m : Int), .int .i64 (a : Int), .int .i64 (b : Int), .int .i64 (j : Int), .int .i64 k] := by rw [hwq]; exact Blk.new _ _ _
            have kq : Below w.heap.size w wq := by rw [hwq]; exact below_alloc (Below.refl _ _) _
            rw [← hwq]
            have x1 := BX.cell 1
            have xl := BX.lt
            have g0' := (kq.cell (p := ⟨g, 0, none⟩) glt).trans g0
            have z0' := (kq.cell (p := ⟨ba, oa + a, none⟩) hba).trans z0
            have l1 : g < wq.heap.size := by have := kq.size; omega
            have l2 : ba < wq.heap.size := by have := kq.size; omega
            clear hwq g0 z0 glt hba
            refine wp_region_calm (by kernel_rfl) (by kernel_rfl) ?_
            repeat (go_big_quiet_step (fail))
            refine wpQuiet_nil ?_
            intro wd gd
            have kd := below_call kq gd
            have BD := BX.kept gd
            have cd := BD.cell
            have ld := BD.lt
            clear x1 xl g0' z0' l1 l2 gd kq BX
            obtain ⟨hba, hbx, u7, u4, u5, u6, v4, v5, v6⟩ := HR.out wd kd
            have y0 := BD.cell 0
            have y1 := BD.cell 1
            have y2 := BD.cell 2
            have y3 := BD.cell 3
            have y4 := BD.cell 4
            clear cd
            go_wp2_with fail
            refine wp_region_calm (by kernel_rfl) (by kernel_rfl) ?_
            repeat (go_big_quiet_step ((first | (go_at_call 74; with_reducible exact calm_call (q2 _ (below_call kd (Calm.h _)))) | (go_at_call 73; with_reducible exact calm_call (q1 _ (below_call kd (Calm.h _)))))))
            refine wpQuiet_nil ?_
            intro we ge
            have ke := below_call kd ge
            go_wp2
            refine ret_of (by simp [results, Tryd.results53, go_sem, *]; repeat' (first | rfl | apply And.intro)) rfl ⟨?_, ke⟩
            rw [E.out]
          · have E := Lib.hid (show turnB v j = false by rw [HE3.out]; simp [e2])
            have e2' : (p2 == r2) = false := by simpa using e2
            clear HE3
            go_enter Tryd.func53, Tryd.ntmps53
            go_wp2_with fail
            obtain ⟨wq, hwq⟩ : ∃ y, y = w.alloc (.cells #[.int .i64 (m : Int), .int .i64 (a : Int), .int .i64 (b : Int), .int .i64 (j : Int), .int .i64 k] 99) := ⟨_, rfl⟩
            have BX : Blk wq w.heap.size 99 #[.int .i64 (m : Int), .int .i64 (a : Int), .int .i64 (b : Int), .int .i64 (j : Int), .int .i64 k] := by rw [hwq]; exact Blk.new _ _ _
            have kq : Below w.heap.size w wq := by rw [hwq]; exact below_alloc (Below.refl _ _) _
            rw [← hwq]
            have x1 := BX.cell 1
            have xl := BX.lt
            have g0' := (kq.cell (p := ⟨g, 0, none⟩) glt).trans g0
            have z0' := (kq.cell (p := ⟨ba, oa + a, none⟩) hba).trans z0
            have l1 : g < wq.heap.size := by have := kq.size; omega
            have l2 : ba < wq.heap.size := by have := kq.size; omega
            clear hwq g0 z0 glt hba
            refine wp_region_calm (by kernel_rfl) (by kernel_rfl) ?_
            repeat (go_big_quiet_step (fail))
            refine wpQuiet_nil ?_
            intro wd gd
            have kd := below_call kq gd
            have BD := BX.kept gd
            have cd := BD.cell
            have ld := BD.lt
            clear x1 xl g0' z0' l1 l2 gd kq BX
            obtain ⟨hba, hbx, u7, u4, u5, u6, v4, v5, v6⟩ := HR.out wd kd
            have y0 := BD.cell 0
            have y1 := BD.cell 1
            have y2 := BD.cell 2
            have y3 := BD.cell 3
            have y4 := BD.cell 4
            clear cd
            go_wp2_with fail
            refine wp_region_calm (by kernel_rfl) (by kernel_rfl) ?_
            repeat (go_big_quiet_step ((first | (go_at_call 74; with_reducible exact calm_call (q2 _ (below_call kd (Calm.h _)))) | (go_at_call 73; with_reducible exact calm_call (q1 _ (below_call kd (Calm.h _)))))))
            refine wpQuiet_nil ?_
            intro we ge
            have ke := below_call kd ge
            go_wp2
            refine ret_of (by simp [results, Tryd.results53, go_sem, *]; repeat' (first | rfl | apply And.intro)) rfl ⟨?_, ke⟩
            rw [E.out]
end Go.Proofs.YtmlcnmnpkemdpaaDoor

/- The program's suspended: whether a dissonance is suspended. -/
namespace Go.Proofs.YtmlcnmnpkemdpaaDoor
open Go.RowKit
/-- What a walk reads of slice k. -/
theorem SetR.slice {w W : World} {g : Nat} {A S Q : Option Addr} {n c K d q : Nat} {l : List (List Ev)} (h : SetR w g A S Q n c K d q l) (hb : Below w.heap.size w W) {k i0 : Nat} (hk : k < K) (hi0 : i0 < n) :
    ∃ bs os be oe ce, S = some ⟨bs, os, none⟩ ∧ bs < W.heap.size ∧ be < W.heap.size ∧ W.cell? ⟨bs, os + k * 5, none⟩ = some (.int .i64 (mAt (momS l) k).1) ∧ W.cell? ⟨bs, os + k * 5 + 1, none⟩ = some (.int .i64 (mAt (momS l) k).2) ∧
      W.cell? ⟨bs, os + k * 5 + 4, none⟩ = some (.slice (some ⟨be, oe, none⟩) n ce) ∧ ∀ i, i < n → W.cell? ⟨be, oe + i, none⟩ = some (.int .i64 (evI l (momS l) k i)) := by
  have hg : ((List.range K).map (slOf l (momS l)))[k]? = some (slOf l (momS l) k) := by rw [List.getElem?_map, List.getElem?_range hk]; rfl
  obtain ⟨bs, os, p, q, ce, hS, hbs, hq, hr, c0, c1, _, _, c4⟩ := h.stg.slices.el (Nat.le_refl _) hb hk hg
  have hqn : q = n := by rw [← hq]; show (l.map _).length = n; rw [List.length_map]; exact h.stg.len
  subst hqn
  have key : ∀ i, i < q → ∃ be oe, p = some ⟨be, oe, none⟩ ∧ be < W.heap.size ∧ W.cell? ⟨be, oe + i, none⟩ = some (.int .i64 (evI l (momS l) k i)) := fun i hi => by
    obtain ⟨v, hv⟩ := get_some (l := l) (k := i) (by have := h.stg.len; omega)
    obtain ⟨be, oe, hp, hbe, hce⟩ := Reads.elem (f := cI) (fun _ => rfl) hr (k := i) hi (x := onS v (mAt (momS l) k)) (by show (l.map _)[i]? = _; rw [List.getElem?_map, hv]; rfl)
    have h0 := hce 0 _ rfl
    unfold evI
    rw [getD_at hv]
    exact ⟨be, oe, hp, hbe, by simpa using h0⟩
  obtain ⟨be, oe, hp, hbe, _⟩ := key i0 hi0
  refine ⟨bs, os, be, oe, ce, hS, hbs, hbe, c0, c1, by rw [← hp]; exact c4, fun i hi => ?_⟩
  obtain ⟨be', oe', hp', _, h1⟩ := key i hi
  rw [hp] at hp'
  cases hp'
  exact h1
theorem SetR.slice2 {w W : World} {g bs os : Nat} {A Q : Option Addr} {n c K d q : Nat} {l : List (List Ev)} (h : SetR w g A (some ⟨bs, os, none⟩) Q n c K d q l) (hb : Below w.heap.size w W) {k i0 : Nat} (hk : k < K) (hi0 : i0 < n) :
    ∃ be oe ce, bs < W.heap.size ∧ be < W.heap.size ∧ W.cell? ⟨bs, os + k * 5, none⟩ = some (.int .i64 (mAt (momS l) k).1) ∧ W.cell? ⟨bs, os + k * 5 + 1, none⟩ = some (.int .i64 (mAt (momS l) k).2) ∧
      W.cell? ⟨bs, os + k * 5 + 4, none⟩ = some (.slice (some ⟨be, oe, none⟩) n ce) ∧ ∀ i, i < n → W.cell? ⟨be, oe + i, none⟩ = some (.int .i64 (evI l (momS l) k i)) := by
  obtain ⟨bs', os', be, oe, ce, hS, r⟩ := h.slice hb hk hi0
  cases hS
  exact ⟨be, oe, ce, r⟩
theorem ev_bd {l : List (List Ev)} (hz : (checkA l).1 = 0) {k : Nat} (hk : k < (momS l).length) (i : Nat) : -1 ≤ evI l (momS l) k i ∧ evI l (momS l) k i ≤ 2000 := by
  obtain ⟨_, f2, _, _, f5⟩ := set_facts hz
  unfold evI
  rcases Nat.lt_or_ge i l.length with hi | hi
  · obtain ⟨v, hv⟩ := get_some hi
    rw [getD_at hv]
    obtain ⟨_, h2, h3⟩ := f2 v (List.mem_of_getElem? hv)
    rcases on_char h2 (ok_mAt f5 hk) with ⟨j, x, hx, _, e⟩ | e
    · have := (List.getElem?_eq_some_iff.1 hx).1
      omega
    · omega
  · rw [show l.getD i [] = [] by simp [List.getD, hi]]
    show -1 ≤ onFrom 0 [] _ ∧ onFrom 0 [] _ ≤ 2000
    unfold onFrom; omega
theorem SetR.evs {w : World} {g : Nat} {A S Q : Option Addr} {n c K d q : Nat} {l : List (List Ev)} (h : SetR w g A S Q n c K d q l) {k : Nat} (hk : k < K) (i : Nat) : -1 ≤ evI l (momS l) k i ∧ evI l (momS l) k i ≤ 2000 := ev_bd h.stg.good (by have := h.stg.many; omega) i
theorem susp_first {l : List (List Ev)} {m : List Tm} {a b : Nat} : suspB l m 0 a b = false := by unfold suspB; rw [if_pos (.inl rfl)]
theorem susp_no {l : List (List Ev)} {m : List Tm} {n a b : Nat} (h : evI l m n b ≠ evI l m (n + 1) b ∨ clE l (mAt m n) a b ≠ 0 ∨ oneD (stepD (l.getD b []) (evI l m (n + 1) b)) ≠ -1) : suspB l m (n + 1) a b = false := by
  unfold suspB
  rw [if_pos]
  rcases h with h | h | h
  · exact .inr (.inl h)
  · exact .inr (.inr (.inl h))
  · refine .inr (.inr (.inr fun e => h ?_))
    rw [e]; rfl
theorem susp_yes {l : List (List Ev)} {m : List Tm} {n a b : Nat} (h1 : evI l m n b = evI l m (n + 1) b) (h2 : clE l (mAt m n) a b = 0) (h3 : oneD (stepD (l.getD b []) (evI l m (n + 1) b)) = -1) :
    suspB l m (n + 1) a b = susF l m a b (evI l m (n + 1) a) (evI l m (n + 1) b) (n + 2) (m.length - 1 - (n + 2)) := by
  unfold suspB
  have h4 : stepD (l.getD b []) (evI l m (n + 1) b) = -1 := by
    rcases one_cases (stepD (l.getD b []) (evI l m (n + 1) b)) with e | ⟨e, _⟩
    · omega
    · omega
  rw [if_neg]
  rintro (h | h | h | h)
  · omega
  · exact h h1
  · exact h h2
  · exact h h4
set_option maxRecDepth 100000 in
set_option maxHeartbeats 4000000 in
theorem susp_ok {w : World} {g : Nat} {A S Q : Option Addr} {n c K d q : Nat} {l : List (List Ev)} (h : SetR w g A S Q n c K d q l) {a b m : Nat} (hm : m < K) (ha : a < n) (hb : b < n) (hT : Tabs w) :
    Calls Tryd.prog 54 #[.pointer (some ⟨g, 0, none⟩), vPl m a b (evI l (momS l) m a) (evI l (momS l) m b)] w fun e w' => e = .returned (.bool (suspB l (momS l) m a b)) ∧ Below w.heap.size w w' := by
  have hbig := h.stg.big
  have ei := h.evs hm a
  have ek := h.evs hm b
  cases m with
  | zero =>
    have E := Lib.hid (susp_first (l := l) (m := momS l) (a := a) (b := b))
    obtain ⟨i, hi⟩ : ∃ z, z = evI l (momS l) 0 a := ⟨_, rfl⟩
    obtain ⟨k, hk⟩ : ∃ z, z = evI l (momS l) 0 b := ⟨_, rfl⟩
    rw [← hi, ← hk]
    clear h hi hk
    go_enter Tryd.func54, Tryd.ntmps54
    go_wp2_with fail
    obtain ⟨wq, hwq⟩ : ∃ y, y = w.alloc (.cells #[.int .i64 0, .int .i64 (a : Int), .int .i64 (b : Int), .int .i64 i, .int .i64 k] 99) := ⟨_, rfl⟩
    have BX : Blk wq w.heap.size 99 #[.int .i64 0, .int .i64 (a : Int), .int .i64 (b : Int), .int .i64 i, .int .i64 k] := by rw [hwq]; exact Blk.new _ _ _
    have kq : Below w.heap.size w wq := by rw [hwq]; exact below_alloc (Below.refl _ _) _
    rw [← hwq]
    have v0 := BX.cell 0
    have v1 := BX.cell 1
    have v2 := BX.cell 2
    have v3 := BX.cell 3
    have v4 := BX.cell 4
    have xl := BX.lt
    clear hwq
    refine wp_region_calm (by kernel_rfl) (by kernel_rfl) ?_
    repeat (go_big_quiet_step (fail))
    refine wpQuiet_nil ?_
    intro wd gd
    have kd := below_call kq gd
    go_wp2
    refine ret_of (by simp [results, Tryd.results54, go_sem, *]; repeat' (first | rfl | apply And.intro)) rfl ⟨?_, kd⟩
    rw [E.out]
  | succ m =>
    obtain ⟨bs, os, _, _, _, rfl, _⟩ := h.slice (Below.refl _ _) hm ha
    have h0 := fun W (hW : Below w.heap.size w W) => h.slice2 hW (k := m) (by omega) ha
    have q1 := fun W (hW : Below w.heap.size w W) => clash_ok (h.kept hW) (k := m) (a := a) (b := b) (by omega) ha hb
    have q2 := fun W (hW : Below w.heap.size w W) => step_ok (h.kept hW) hb (i := evI l (momS l) (m + 1) b) (by omega) (by omega) (hT.kept hW)
    have HS := Lib.hid (fun W (hW : Below w.heap.size w W) k (hk : k < K) => h.slice2 hW hk ha)
    have HC := Lib.hid (fun W (hW : Below w.heap.size w W) k (hk : k < K) => clash_ok (h.kept hW) hk ha hb)
    have HNO := Lib.hid (susp_no (l := l) (m := momS l) (n := m) (a := a) (b := b))
    have HYES := Lib.hid (susp_yes (l := l) (m := momS l) (n := m) (a := a) (b := b))
    have hg1 := h.c1
    have hlt := h.lt
    have hmany := Lib.hid h.stg.many
    obtain ⟨i, hi⟩ : ∃ z, z = evI l (momS l) (m + 1) a := ⟨_, rfl⟩
    obtain ⟨k, hk⟩ : ∃ z, z = evI l (momS l) (m + 1) b := ⟨_, rfl⟩
    obtain ⟨k0, hk0⟩ : ∃ z, z = evI l (momS l) m b := ⟨_, rfl⟩
    obtain ⟨cl, hcl⟩ : ∃ z, z = clE l (mAt (momS l) m) a b := ⟨_, rfl⟩
    obtain ⟨sp, hsp⟩ : ∃ z, z = oneD (stepD (l.getD b []) (evI l (momS l) (m + 1) b)) := ⟨_, rfl⟩
    rw [← hsp] at q2 HNO HYES
    rw [← hk] at q2 HNO HYES
    rw [← hi] at HYES
    rw [← hk0, ← hcl] at HNO HYES
    rw [← hcl] at q1
    rw [← hi, ← hk]
    rw [← hk] at ek
    rw [← hi] at ei
    have wm : IntKind.i64.wrap (((m + 1 : Nat) : Int) - 1) = (m : Int) := by rw [IntWalk.i64_in _ (by omega)]; omega
    have wk2 : IntKind.i64.wrap (k + 1) = k + 1 := IntWalk.i64_in _ (by omega)
    have dm : (m : Int) < (K : Int) := by omega
    have db : (b : Int) < (n : Int) := by omega
    have da : (a : Int) < (n : Int) := by omega
    obtain ⟨m1, hm1⟩ : ∃ z, z = m + 1 := ⟨_, rfl⟩
    have wm2 : IntKind.i64.wrap ((m1 : Int) + 1) = (m1 : Int) + 1 := IntWalk.i64_in _ (by omega)
    have hmK : m1 < K := by omega
    have dn : ((m1 : Int) == 0) = false := by simp; omega
    have HM1 := Lib.hid hm1
    rw [← hm1] at wm ⊢
    have HK0 := Lib.hid hk0
    clear h hT hi hk hcl hsp hm1 hk0
    by_cases e1 : k0 = k
    · have f1 : (k0 != k) = false := by simpa using e1
      by_cases e2 : cl = 0
      · have f2 : (cl != 0) = false := by simpa using e2
        by_cases e3 : sp = -1
        · have f3 : (sp != -1) = false := by simpa using e3
          have E0 := Lib.hid (show suspB l (momS l) m1 a b = susF l (momS l) a b i k (m1 + 1) (K - (m1 + 1)) by rw [HM1.out, hmany.out]; exact HYES.out e1 e2 e3)
          obtain ⟨R, hR⟩ : ∃ z, z = suspB l (momS l) m1 a b := ⟨_, rfl⟩
          rw [← hR] at E0 ⊢
          have HR := Lib.hid E0.out.symm
          clear HNO HYES e1 e2 e3 E0 hR
          go_enter Tryd.func54, Tryd.ntmps54
          go_wp2_with fail
          obtain ⟨wq, hwq⟩ : ∃ y, y = w.alloc (.cells #[.int .i64 (m1 : Int), .int .i64 (a : Int), .int .i64 (b : Int), .int .i64 i, .int .i64 k] 99) := ⟨_, rfl⟩
          have BX : Blk wq w.heap.size 99 #[.int .i64 (m1 : Int), .int .i64 (a : Int), .int .i64 (b : Int), .int .i64 i, .int .i64 k] := by rw [hwq]; exact Blk.new _ _ _
          have kq : Below w.heap.size w wq := by rw [hwq]; exact below_alloc (Below.refl _ _) _
          rw [← hwq]
          have v0 := BX.cell 0
          have v1 := BX.cell 1
          have v2 := BX.cell 2
          have v3 := BX.cell 3
          have v4 := BX.cell 4
          have xl := BX.lt
          clear hwq
          obtain ⟨be, oe, ce, hbs, hbe, _, _, x4, y0⟩ := h0 wq kq
          have y1 := y0 b hb
          rw [← HK0.out] at y1
          clear y0
          have g1 := (kq.cell (p := ⟨g, 1, none⟩) hlt).trans hg1
          have lg : g < wq.heap.size := by have := kq.size; omega
          refine wp_region_calm (by kernel_rfl) (by kernel_rfl) ?_
          repeat (go_big_quiet_step ((first | (go_at_call 37; with_reducible exact calm_call (q1 _ (below_call kq (Calm.h _)))) | (go_at_call 73; with_reducible exact calm_call (q2 _ (below_call kq (Calm.h _)))))))
          refine wpQuiet_nil ?_
          intro wd gd
          have kd := below_call kq gd
          have BD := BX.kept gd
          have d0 := BD.cell 0
          have dl := BD.lt
          clear v0 v1 v2 v3 v4 xl x4 y1 g1 lg gd kq BX hbs hbe h0 q1 q2
          go_wp2_with fail
          go_loopg [5] (K - (m1 + 1)) (fun gh x wr => ∃ nn : Nat, nn + gh = K ∧ x = .int .i64 (nn : Int) ∧ Below w.heap.size w wr ∧ Blk wr w.heap.size 99 #[.int .i64 (m1 : Int), .int .i64 (a : Int), .int .i64 (b : Int), .int .i64 i, .int .i64 k] ∧ Hid (susF l (momS l) a b i k nn (K - nn) = R))
          case atStart => exact ⟨m1 + 1, by omega, by go_num, kd, BD, HR⟩
          case round =>
            obtain ⟨nn, hg, rfl, kr, BR, hsus⟩ := hrel
            have wn : IntKind.i64.wrap ((nn : Int) + 1) = (nn : Int) + 1 := IntWalk.i64_in _ (by omega)
            have g1 := (kr.cell (p := ⟨g, 1, none⟩) hlt).trans hg1
            have lg : g < wr.heap.size := by have := kr.size; omega
            cases gk with
            | zero =>
              have hn : nn = K := by omega
              subst hn
              have dK : ¬ ((nn : Int) < (nn : Int)) := by omega
              have E := Lib.hid (show R = false by rw [← hsus.out, Nat.sub_self]; rfl)
              clear hg hsus BD BR
              go_wp2
              refine ret_of (by simp [results, Tryd.results54, go_sem, *]; repeat' (first | rfl | apply And.intro)) rfl ⟨?_, kr⟩
              rw [E.out]
            | succ gh =>
              have hnK : nn < K := by omega
              have dK : (nn : Int) < (K : Int) := by omega
              obtain ⟨be, oe, ce, hbs, hbe, _, _, x4, y0⟩ := HS.out wr kr nn hnK
              have y1 := y0 b hb
              have y2 := y0 a ha
              have v1 := BR.cell 1
              have v2 := BR.cell 2
              have v3 := BR.cell 3
              have v4 := BR.cell 4
              have xl := BR.lt
              obtain ⟨eb, heb⟩ : ∃ z, z = evI l (momS l) nn b := ⟨_, rfl⟩
              obtain ⟨ea, hea⟩ : ∃ z, z = evI l (momS l) nn a := ⟨_, rfl⟩
              obtain ⟨cn, hcn⟩ : ∃ z, z = clE l (mAt (momS l) nn) a b := ⟨_, rfl⟩
              have q1 := fun W (hW : Below w.heap.size w W) => HC.out W hW nn hnK
              have HN := Lib.hid (show (if eb = k + 1 then decide (ea = i) && decide (cn = 0) else susF l (momS l) a b i k (nn + 1) (K - (nn + 1))) = R by
                rw [← hsus.out, show K - nn = (K - (nn + 1)) + 1 by omega, susF, ← heb, ← hea, ← hcn])
              rw [← heb] at y1
              rw [← hea] at y2
              rw [← hcn] at q1
              clear heb hea hcn hsus y0
              by_cases e1 : eb = k + 1
              · have f1 : (eb == k + 1) = true := by simpa using e1
                have E := Lib.hid (show R = (decide (ea = i) && decide (cn = 0)) by rw [← HN.out, if_pos e1])
                clear HN e1
                have f2 : (ea == i) = true ∨ (ea == i) = false := by cases (ea == i) <;> simp
                have E2 := Lib.hid (show decide (ea = i) = (ea == i) by rw [Bool.eq_iff_iff]; simp)
                have E3 := Lib.hid (show decide (cn = 0) = (cn == 0) by rw [Bool.eq_iff_iff]; simp)
                rcases f2 with f2 | f2
                all_goals
                  go_wp2_with fail
                  refine wp_region_calm (by kernel_rfl) (by kernel_rfl) ?_
                  repeat (go_big_quiet_step (fail))
                  refine wpQuiet_nil ?_
                  intro wt gt
                  have kt := below_call kr gt
                  have BT := BR.kept gt
                  have u1 := BT.cell 1
                  have u2 := BT.cell 2
                  have u3 := BT.cell 3
                  have ul := BT.lt
                  have h1 := (gt.cell (p := ⟨g, 1, none⟩) lg).trans g1
                  have x5 := (gt.cell (p := ⟨bs, os + nn * 5 + 4, none⟩) hbs).trans x4
                  have z2 := (gt.cell (p := ⟨be, oe + a, none⟩) hbe).trans y2
                  have n1 : g < wt.heap.size := by have := gt.size; omega
                  have n2 : bs < wt.heap.size := by have := gt.size; omega
                  have n3 : be < wt.heap.size := by have := gt.size; omega
                  clear BR v1 v2 v3 v4 xl g1 lg x4 y1 y2 hbs hbe gt kr
                  go_wp2_with fail
                  refine wp_region_calm (by kernel_rfl) (by kernel_rfl) ?_
                  repeat (go_big_quiet_step ((go_at_call 37; with_reducible exact calm_call (q1 _ (below_call kt (Calm.h _))))))
                  refine wpQuiet_nil ?_
                  intro wu gu
                  have ku := below_call kt gu
                  go_wp2
                  refine ret_of (by simp [results, Tryd.results54, go_sem, *]; repeat' (first | rfl | apply And.intro)) rfl ⟨?_, ku⟩
                  rw [E.out, E2.out, E3.out, f2]
                  try rfl
              · have f1 : (eb == k + 1) = false := by simpa using e1
                have HN2 := Lib.hid (show susF l (momS l) a b i k (nn + 1) (K - (nn + 1)) = R by rw [← HN.out, if_neg e1])
                clear HN e1 q1
                go_wp2_with fail
                refine wp_region_calm (by kernel_rfl) (by kernel_rfl) ?_
                repeat (go_big_quiet_step (fail))
                refine wpQuiet_nil ?_
                intro wt gt
                have kt := below_call kr gt
                have BT := BR.kept gt
                clear BR gt
                go_wp2_with fail
                go_roundg gh
                case measure => omega
                case rel => exact ⟨nn + 1, by omega, by go_num, kt, BT, HN2⟩
        · have f3 : (sp != -1) = true := by simpa using e3
          have E := Lib.hid (show suspB l (momS l) m1 a b = false by rw [HM1.out]; exact HNO.out (.inr (.inr e3)))
          clear HNO HYES e1 e2 e3
          go_enter Tryd.func54, Tryd.ntmps54
          go_wp2_with fail
          obtain ⟨wq, hwq⟩ : ∃ y, y = w.alloc (.cells #[.int .i64 (m1 : Int), .int .i64 (a : Int), .int .i64 (b : Int), .int .i64 i, .int .i64 k] 99) := ⟨_, rfl⟩
          have BX : Blk wq w.heap.size 99 #[.int .i64 (m1 : Int), .int .i64 (a : Int), .int .i64 (b : Int), .int .i64 i, .int .i64 k] := by rw [hwq]; exact Blk.new _ _ _
          have kq : Below w.heap.size w wq := by rw [hwq]; exact below_alloc (Below.refl _ _) _
          rw [← hwq]
          have v0 := BX.cell 0
          have v1 := BX.cell 1
          have v2 := BX.cell 2
          have v3 := BX.cell 3
          have v4 := BX.cell 4
          have xl := BX.lt
          clear hwq
          obtain ⟨be, oe, ce, hbs, hbe, _, _, x4, y0⟩ := h0 wq kq
          have y1 := y0 b hb
          rw [← HK0.out] at y1
          clear y0
          have g1 := (kq.cell (p := ⟨g, 1, none⟩) hlt).trans hg1
          have lg : g < wq.heap.size := by have := kq.size; omega
          refine wp_region_calm (by kernel_rfl) (by kernel_rfl) ?_
          repeat (go_big_quiet_step ((first | (go_at_call 37; with_reducible exact calm_call (q1 _ (below_call kq (Calm.h _)))) | (go_at_call 73; with_reducible exact calm_call (q2 _ (below_call kq (Calm.h _)))))))
          refine wpQuiet_nil ?_
          intro wd gd
          have kd := below_call kq gd
          go_wp2
          refine ret_of (by simp [results, Tryd.results54, go_sem, *]; repeat' (first | rfl | apply And.intro)) rfl ⟨?_, kd⟩
          rw [E.out]
      · have f2 : (cl != 0) = true := by simpa using e2
        have E := Lib.hid (show suspB l (momS l) m1 a b = false by rw [HM1.out]; exact HNO.out (.inr (.inl e2)))
        clear HNO HYES e1 e2
        go_enter Tryd.func54, Tryd.ntmps54
        go_wp2_with fail
        obtain ⟨wq, hwq⟩ : ∃ y, y = w.alloc (.cells #[.int .i64 (m1 : Int), .int .i64 (a : Int), .int .i64 (b : Int), .int .i64 i, .int .i64 k] 99) := ⟨_, rfl⟩
        have BX : Blk wq w.heap.size 99 #[.int .i64 (m1 : Int), .int .i64 (a : Int), .int .i64 (b : Int), .int .i64 i, .int .i64 k] := by rw [hwq]; exact Blk.new _ _ _
        have kq : Below w.heap.size w wq := by rw [hwq]; exact below_alloc (Below.refl _ _) _
        rw [← hwq]
        have v0 := BX.cell 0
        have v1 := BX.cell 1
        have v2 := BX.cell 2
        have v3 := BX.cell 3
        have v4 := BX.cell 4
        have xl := BX.lt
        clear hwq
        obtain ⟨be, oe, ce, hbs, hbe, _, _, x4, y0⟩ := h0 wq kq
        have y1 := y0 b hb
        rw [← HK0.out] at y1
        clear y0
        have g1 := (kq.cell (p := ⟨g, 1, none⟩) hlt).trans hg1
        have lg : g < wq.heap.size := by have := kq.size; omega
        refine wp_region_calm (by kernel_rfl) (by kernel_rfl) ?_
        repeat (go_big_quiet_step ((first | (go_at_call 37; with_reducible exact calm_call (q1 _ (below_call kq (Calm.h _)))) | (go_at_call 73; with_reducible exact calm_call (q2 _ (below_call kq (Calm.h _)))))))
        refine wpQuiet_nil ?_
        intro wd gd
        have kd := below_call kq gd
        go_wp2
        refine ret_of (by simp [results, Tryd.results54, go_sem, *]; repeat' (first | rfl | apply And.intro)) rfl ⟨?_, kd⟩
        rw [E.out]
    · have f1 : (k0 != k) = true := by simpa using e1
      have E := Lib.hid (show suspB l (momS l) m1 a b = false by rw [HM1.out]; exact HNO.out (.inl e1))
      clear HNO HYES e1
      go_enter Tryd.func54, Tryd.ntmps54
      go_wp2_with fail
      obtain ⟨wq, hwq⟩ : ∃ y, y = w.alloc (.cells #[.int .i64 (m1 : Int), .int .i64 (a : Int), .int .i64 (b : Int), .int .i64 i, .int .i64 k] 99) := ⟨_, rfl⟩
      have BX : Blk wq w.heap.size 99 #[.int .i64 (m1 : Int), .int .i64 (a : Int), .int .i64 (b : Int), .int .i64 i, .int .i64 k] := by rw [hwq]; exact Blk.new _ _ _
      have kq : Below w.heap.size w wq := by rw [hwq]; exact below_alloc (Below.refl _ _) _
      rw [← hwq]
      have v0 := BX.cell 0
      have v1 := BX.cell 1
      have v2 := BX.cell 2
      have v3 := BX.cell 3
      have v4 := BX.cell 4
      have xl := BX.lt
      clear hwq
      obtain ⟨be, oe, ce, hbs, hbe, _, _, x4, y0⟩ := h0 wq kq
      have y1 := y0 b hb
      rw [← HK0.out] at y1
      clear y0
      have g1 := (kq.cell (p := ⟨g, 1, none⟩) hlt).trans hg1
      have lg : g < wq.heap.size := by have := kq.size; omega
      refine wp_region_calm (by kernel_rfl) (by kernel_rfl) ?_
      repeat (go_big_quiet_step ((first | (go_at_call 37; with_reducible exact calm_call (q1 _ (below_call kq (Calm.h _)))) | (go_at_call 73; with_reducible exact calm_call (q2 _ (below_call kq (Calm.h _)))))))
      refine wpQuiet_nil ?_
      intro wd gd
      have kd := below_call kq gd
      go_wp2
      refine ret_of (by simp [results, Tryd.results54, go_sem, *]; repeat' (first | rfl | apply And.intro)) rfl ⟨?_, kd⟩
      rw [E.out]
end Go.Proofs.YtmlcnmnpkemdpaaDoor

/- The program's treat: the treatment of a dissonance that begins in a slice. -/
namespace Go.Proofs.YtmlcnmnpkemdpaaDoor
open Go.RowKit
theorem start_val {v : List Ev} {t : Tm} (h : startB v t = true) : ∃ (j : Nat) (x : Ev), onS v t = (j : Int) ∧ v[j]? = some x := by
  unfold startB at h
  cases e : onS v t with
  | negSucc k => rw [e] at h; cases h
  | ofNat k =>
    rw [e] at h
    replace h : (match v[k]? with | some x => decide (x.at_ = t) | none => false) = true := h
    cases hx : v[k]? with
    | none => rw [hx] at h; cases h
    | some x => exact ⟨k, x, rfl, hx⟩
set_option maxRecDepth 100000 in
set_option maxHeartbeats 4000000 in
theorem treat_same {w : World} {g : Nat} {A S Q : Option Addr} {n c K d q : Nat} {l : List (List Ev)} (h : SetR w g A S Q n c K d q l) {a b k : Nat} (hk : k < K) (ha : a < n) (hb : b < n) (hs : startB (l.getD a []) (mAt (momS l) k) = startB (l.getD b []) (mAt (momS l) k)) :
    Calls Tryd.prog 38 #[.pointer (some ⟨g, 0, none⟩), .int .i64 k, .int .i64 a, .int .i64 b] w fun e w' => e = .returned (.int .i64 (treatD l (momS l) k a b)) ∧ Below w.heap.size w w' := by
  have qa := fun W (hW : Below w.heap.size w W) => starts_ok (h.kept hW) hk ha
  have qb := fun W (hW : Below w.heap.size w W) => starts_ok (h.kept hW) hk hb
  have E := Lib.hid (show treatD l (momS l) k a b = 4 by unfold treatD; rw [if_pos hs])
  rw [← hs] at qb
  obtain ⟨sa, hsa⟩ : ∃ z, z = startB (l.getD a []) (mAt (momS l) k) := ⟨_, rfl⟩
  rw [← hsa] at qa qb
  have kq := Below.refl w.heap.size w
  clear h hs hsa
  cases sa
  all_goals
    go_enter Tryd.func38, Tryd.ntmps38
    go_wp2_with fail
    refine (qa w kq).mono ?_
    rintro e w1 ⟨rfl, b1⟩
    have k1 := below_call kq b1
    go_wp2_with fail
    refine (qb w1 k1).mono ?_
    rintro e wd ⟨rfl, b2⟩
    have kd := below_call k1 b2
    clear b1 b2 k1
    go_wp2
    refine ret_of (by simp [results, Tryd.results38, go_sem, *]; repeat' (first | rfl | apply And.intro)) rfl ⟨?_, kd⟩
    rw [E.out]
set_option maxRecDepth 100000 in
set_option maxHeartbeats 4000000 in
theorem treat_a {w : World} {g : Nat} {A S Q : Option Addr} {n c K d q : Nat} {l : List (List Ev)} (h : SetR w g A S Q n c K d q l) {a b k : Nat} (hk : k < K) (ha : a < n) (hb : b < n) (hT : Tabs w) (hsa : startB (l.getD a []) (mAt (momS l) k) = true) (hsb : startB (l.getD b []) (mAt (momS l) k) = false) :
    Calls Tryd.prog 38 #[.pointer (some ⟨g, 0, none⟩), .int .i64 k, .int .i64 a, .int .i64 b] w fun e w' => e = .returned (.int .i64 (treatD l (momS l) k a b)) ∧ Below w.heap.size w w' := by
  have qa := fun W (hW : Below w.heap.size w W) => starts_ok (h.kept hW) hk ha
  have qb := fun W (hW : Below w.heap.size w W) => starts_ok (h.kept hW) hk hb
  have E1 : treatD l (momS l) k a b = treatM l (momS l) k a b := by unfold treatD; rw [hsa, hsb]; rfl
  obtain ⟨jm, x, hj, hx⟩ := start_val hsa
  have hjb := (h.evs hk a).2
  rw [hsa] at qa
  rw [hsb] at qb
  have hej : evI l (momS l) k a = (jm : Int) := hj
  have qp := fun W (hW : Below w.heap.size w W) => passing_ok (h.kept hW) ha hx (by omega) k b (evI l (momS l) k b) (hT.kept hW)
  have qt := fun W (hW : Below w.heap.size w W) => turning_ok (h.kept hW) ha hx (by omega) k b (evI l (momS l) k b) (hT.kept hW)
  have qs := fun W (hW : Below w.heap.size w W) => susp_ok (h.kept hW) hk ha hb (hT.kept hW)
  obtain ⟨bs, os, be, oe, ce, rfl, hbs, hbe, _, _, x4, y0⟩ := h.slice (Below.refl _ _) hk ha
  have ym := y0 a ha
  have yh := y0 b hb
  rw [hej] at qs ym
  obtain ⟨kk, hkk⟩ : ∃ z, z = evI l (momS l) k b := ⟨_, rfl⟩
  rw [← hkk] at qp qt qs yh
  obtain ⟨bp, hbp⟩ : ∃ z, z = passB (l.getD a []) jm := ⟨_, rfl⟩
  obtain ⟨bt, hbt⟩ : ∃ z, z = turnB (l.getD a []) jm := ⟨_, rfl⟩
  obtain ⟨bu, hbu⟩ : ∃ z, z = suspB l (momS l) k a b := ⟨_, rfl⟩
  have HE := Lib.hid (show treatD l (momS l) k a b = (if bp = true then 1 else if bt = true then 2 else if bu = true then 3 else 4) by rw [E1]; unfold treatM; rw [hej, hbp, hbt, hbu])
  rw [← hbp] at qp
  rw [← hbt] at qt
  rw [← hbu] at qs
  have kq := Below.refl w.heap.size w
  have g1 := h.c1
  have glt := h.lt
  have hkK : (k : Int) < (K : Int) := by omega
  have hmn : (a : Int) < (n : Int) := by omega
  have hhn : (b : Int) < (n : Int) := by omega
  clear h hT hsa hsb E1 hj hx hjb hej y0 hkk hbp hbt hbu
  go_enter Tryd.func38, Tryd.ntmps38
  go_wp2_with fail
  refine (qa w kq).mono ?_
  rintro e w1 ⟨rfl, b1⟩
  have k1 := below_call kq b1
  go_wp2_with fail
  refine (qb w1 k1).mono ?_
  rintro e wd ⟨rfl, b2⟩
  have kd := below_call k1 b2
  clear b1 b2 k1
  have h1 := (kd.cell (p := ⟨g, 1, none⟩) glt).trans g1
  have h2 := (kd.cell (p := ⟨bs, os + k * 5 + 4, none⟩) hbs).trans x4
  have h3 := (kd.cell (p := ⟨be, oe + a, none⟩) hbe).trans ym
  have h4 := (kd.cell (p := ⟨be, oe + b, none⟩) hbe).trans yh
  have zd := kd.size
  have l1 : g < wd.heap.size := by omega
  have l2 : bs < wd.heap.size := by omega
  have l3 : be < wd.heap.size := by omega
  clear g1 x4 ym yh zd hbs hbe glt
  go_wp2_with fail
  go_region
  obtain ⟨wq, hwq⟩ : ∃ z, z = (wd.alloc (.cells #[.int .i64 (k : Int), .int .i64 (a : Int), .int .i64 (b : Int), .int .i64 (jm : Int), .int .i64 kk] 99)).drew := ⟨_, rfl⟩
  have BX : Blk wq wd.heap.size 99 #[.int .i64 (k : Int), .int .i64 (a : Int), .int .i64 (b : Int), .int .i64 (jm : Int), .int .i64 kk] := by rw [hwq]; exact (Blk.new _ _ _).drew
  have kq2 : Below wd.heap.size wd wq := by rw [hwq]; exact (below_alloc (Below.refl _ _) _).drew
  rw [← hwq]
  have k2 := below_call kd kq2
  clear hwq h1 h2 h3 h4 l1 l2 l3 kq2 kq
  go_wp2_with fail
  obtain ⟨wf, hwf⟩ : ∃ z, z = wq.alloc (.cells #[.func (.func 52) #[] #[], .func (.func 53) #[] #[], .func (.func 54) #[] #[]] 100) := ⟨_, rfl⟩
  have BF : Blk wf wq.heap.size 100 #[.func (.func 52) #[] #[], .func (.func 53) #[] #[], .func (.func 54) #[] #[]] := by rw [hwf]; exact Blk.new _ _ _
  have k3 : Below wq.heap.size wq wf := by rw [hwf]; exact below_alloc (Below.refl _ _) _
  rw [← hwf]
  replace BX := BX.kept k3
  replace k3 := below_call k2 k3
  clear hwf k2
  go_loopg [12, 13, 56] 3 (fun gh _ _ x wr => ∃ t : Nat, t + gh = 3 ∧ x = .int .i64 (t : Int) ∧ Below w.heap.size w wr ∧ Blk wr wd.heap.size 99 #[.int .i64 (k : Int), .int .i64 (a : Int), .int .i64 (b : Int), .int .i64 (jm : Int), .int .i64 kk] ∧ Blk wr wq.heap.size 100 #[.func (.func 52) #[] #[], .func (.func 53) #[] #[], .func (.func 54) #[] #[]] ∧ Hid ((1 ≤ t → bp = false) ∧ (2 ≤ t → bt = false) ∧ (3 ≤ t → bu = false)))
  case atStart => exact ⟨0, by omega, by simp, k3, BX, BF, Lib.hid ⟨fun h => by omega, fun h => by omega, fun h => by omega⟩⟩
  case round =>
    obtain ⟨t, htg, rfl, kr, BR, FR, hno⟩ := hrel
    cases gk with
    | zero =>
      have ht3 : t = 3 := by omega
      subst ht3
      obtain ⟨f1, f2, f3⟩ := hno.out
      have E := Lib.hid (show treatD l (momS l) k a b = 4 by rw [HE.out, f1 (by omega), f2 (by omega), f3 (by omega)]; rfl)
      clear hno f1 f2 f3 BR FR htg
      go_wp2
      refine ret_of (by simp [results, Tryd.results38, go_sem, *]; repeat' (first | rfl | apply And.intro)) rfl ⟨?_, kr⟩
      rw [E.out]
    | succ gh =>
      have x0 := BR.cell 0
      have x1 := BR.cell 1
      have x2 := BR.cell 2
      have x3 := BR.cell 3
      have x4 := BR.cell 4
      have xl := BR.lt
      have z0 := FR.cell 0
      have z1 := FR.cell 1
      have z2 := FR.cell 2
      have zl := FR.lt
      obtain ⟨f1, f2, f3⟩ := hno.out
      rcases (show t = 0 ∨ t = 1 ∨ t = 2 by omega) with rfl | rfl | rfl
      · clear f1 f2 f3 hno
        go_wp2_with fail
        refine (qp wr kr).mono ?_
        rintro e w4 ⟨rfl, b4⟩
        have k4 := below_call kr b4
        by_cases hv : bp = true
        · have E := Lib.hid (show treatD l (momS l) k a b = 1 by rw [HE.out, if_pos hv])
          go_wp2
          refine ret_of (by simp [results, Tryd.results38, go_sem, *]; repeat' (first | rfl | apply And.intro)) rfl ⟨?_, k4⟩
          rw [E.out]
        · replace hv : bp = false := by simpa using hv
          go_wp2_with fail
          go_roundg gh
          case measure => omega
          case rel => exact ⟨1, by omega, by go_num, k4, BR.kept b4, FR.kept b4, Lib.hid ⟨fun _ => hv, fun h => by omega, fun h => by omega⟩⟩
      · replace f1 := f1 (by omega)
        clear f2 f3 hno
        go_wp2_with fail
        refine (qt wr kr).mono ?_
        rintro e w4 ⟨rfl, b4⟩
        have k4 := below_call kr b4
        by_cases hv : bt = true
        · have E := Lib.hid (show treatD l (momS l) k a b = 2 by rw [HE.out, f1, if_neg (by simp), if_pos hv])
          go_wp2
          refine ret_of (by simp [results, Tryd.results38, go_sem, *]; repeat' (first | rfl | apply And.intro)) rfl ⟨?_, k4⟩
          rw [E.out]
        · replace hv : bt = false := by simpa using hv
          go_wp2_with fail
          go_roundg gh
          case measure => omega
          case rel => exact ⟨2, by omega, by go_num, k4, BR.kept b4, FR.kept b4, Lib.hid ⟨fun _ => f1, fun _ => hv, fun h => by omega⟩⟩
      · replace f1 := f1 (by omega)
        replace f2 := f2 (by omega)
        clear f3 hno
        go_wp2_with fail
        refine (qs wr kr).mono ?_
        rintro e w4 ⟨rfl, b4⟩
        have k4 := below_call kr b4
        by_cases hv : bu = true
        · have E := Lib.hid (show treatD l (momS l) k a b = 3 by rw [HE.out, f1, f2, if_neg (by simp), if_neg (by simp), if_pos hv])
          go_wp2
          refine ret_of (by simp [results, Tryd.results38, go_sem, *]; repeat' (first | rfl | apply And.intro)) rfl ⟨?_, k4⟩
          rw [E.out]
        · replace hv : bu = false := by simpa using hv
          go_wp2_with fail
          go_roundg gh
          case measure => omega
          case rel => exact ⟨3, by omega, by go_num, k4, BR.kept b4, FR.kept b4, Lib.hid ⟨fun _ => f1, fun _ => f2, fun _ => hv⟩⟩
set_option maxRecDepth 100000 in
set_option maxHeartbeats 4000000 in
theorem treat_b {w : World} {g : Nat} {A S Q : Option Addr} {n c K d q : Nat} {l : List (List Ev)} (h : SetR w g A S Q n c K d q l) {a b k : Nat} (hk : k < K) (ha : a < n) (hb : b < n) (hT : Tabs w) (hsa : startB (l.getD a []) (mAt (momS l) k) = false) (hsb : startB (l.getD b []) (mAt (momS l) k) = true) :
    Calls Tryd.prog 38 #[.pointer (some ⟨g, 0, none⟩), .int .i64 k, .int .i64 a, .int .i64 b] w fun e w' => e = .returned (.int .i64 (treatD l (momS l) k a b)) ∧ Below w.heap.size w w' := by
  have qa := fun W (hW : Below w.heap.size w W) => starts_ok (h.kept hW) hk ha
  have qb := fun W (hW : Below w.heap.size w W) => starts_ok (h.kept hW) hk hb
  have E1 : treatD l (momS l) k a b = treatM l (momS l) k b a := by unfold treatD; rw [hsa, hsb]; rfl
  obtain ⟨jm, x, hj, hx⟩ := start_val hsb
  have hjb := (h.evs hk b).2
  rw [hsa] at qa
  rw [hsb] at qb
  have hej : evI l (momS l) k b = (jm : Int) := hj
  have qp := fun W (hW : Below w.heap.size w W) => passing_ok (h.kept hW) hb hx (by omega) k a (evI l (momS l) k a) (hT.kept hW)
  have qt := fun W (hW : Below w.heap.size w W) => turning_ok (h.kept hW) hb hx (by omega) k a (evI l (momS l) k a) (hT.kept hW)
  have qs := fun W (hW : Below w.heap.size w W) => susp_ok (h.kept hW) hk hb ha (hT.kept hW)
  obtain ⟨bs, os, be, oe, ce, rfl, hbs, hbe, _, _, x4, y0⟩ := h.slice (Below.refl _ _) hk ha
  have ym := y0 b hb
  have yh := y0 a ha
  rw [hej] at qs ym
  obtain ⟨kk, hkk⟩ : ∃ z, z = evI l (momS l) k a := ⟨_, rfl⟩
  rw [← hkk] at qp qt qs yh
  obtain ⟨bp, hbp⟩ : ∃ z, z = passB (l.getD b []) jm := ⟨_, rfl⟩
  obtain ⟨bt, hbt⟩ : ∃ z, z = turnB (l.getD b []) jm := ⟨_, rfl⟩
  obtain ⟨bu, hbu⟩ : ∃ z, z = suspB l (momS l) k b a := ⟨_, rfl⟩
  have HE := Lib.hid (show treatD l (momS l) k a b = (if bp = true then 1 else if bt = true then 2 else if bu = true then 3 else 4) by rw [E1]; unfold treatM; rw [hej, hbp, hbt, hbu])
  rw [← hbp] at qp
  rw [← hbt] at qt
  rw [← hbu] at qs
  have kq := Below.refl w.heap.size w
  have g1 := h.c1
  have glt := h.lt
  have hkK : (k : Int) < (K : Int) := by omega
  have hmn : (b : Int) < (n : Int) := by omega
  have hhn : (a : Int) < (n : Int) := by omega
  clear h hT hsa hsb E1 hj hx hjb hej y0 hkk hbp hbt hbu
  go_enter Tryd.func38, Tryd.ntmps38
  go_wp2_with fail
  refine (qa w kq).mono ?_
  rintro e w1 ⟨rfl, b1⟩
  have k1 := below_call kq b1
  go_wp2_with fail
  refine (qb w1 k1).mono ?_
  rintro e wd ⟨rfl, b2⟩
  have kd := below_call k1 b2
  clear b1 b2 k1
  have h1 := (kd.cell (p := ⟨g, 1, none⟩) glt).trans g1
  have h2 := (kd.cell (p := ⟨bs, os + k * 5 + 4, none⟩) hbs).trans x4
  have h3 := (kd.cell (p := ⟨be, oe + b, none⟩) hbe).trans ym
  have h4 := (kd.cell (p := ⟨be, oe + a, none⟩) hbe).trans yh
  have zd := kd.size
  have l1 : g < wd.heap.size := by omega
  have l2 : bs < wd.heap.size := by omega
  have l3 : be < wd.heap.size := by omega
  clear g1 x4 ym yh zd hbs hbe glt
  go_wp2_with fail
  go_region
  obtain ⟨wq, hwq⟩ : ∃ z, z = (wd.alloc (.cells #[.int .i64 (k : Int), .int .i64 (b : Int), .int .i64 (a : Int), .int .i64 (jm : Int), .int .i64 kk] 99)).drew := ⟨_, rfl⟩
  have BX : Blk wq wd.heap.size 99 #[.int .i64 (k : Int), .int .i64 (b : Int), .int .i64 (a : Int), .int .i64 (jm : Int), .int .i64 kk] := by rw [hwq]; exact (Blk.new _ _ _).drew
  have kq2 : Below wd.heap.size wd wq := by rw [hwq]; exact (below_alloc (Below.refl _ _) _).drew
  rw [← hwq]
  have k2 := below_call kd kq2
  clear hwq h1 h2 h3 h4 l1 l2 l3 kq2 kq
  go_wp2_with fail
  obtain ⟨wf, hwf⟩ : ∃ z, z = wq.alloc (.cells #[.func (.func 52) #[] #[], .func (.func 53) #[] #[], .func (.func 54) #[] #[]] 100) := ⟨_, rfl⟩
  have BF : Blk wf wq.heap.size 100 #[.func (.func 52) #[] #[], .func (.func 53) #[] #[], .func (.func 54) #[] #[]] := by rw [hwf]; exact Blk.new _ _ _
  have k3 : Below wq.heap.size wq wf := by rw [hwf]; exact below_alloc (Below.refl _ _) _
  rw [← hwf]
  replace BX := BX.kept k3
  replace k3 := below_call k2 k3
  clear hwf k2
  go_loopg [12, 13, 56] 3 (fun gh _ _ x wr => ∃ t : Nat, t + gh = 3 ∧ x = .int .i64 (t : Int) ∧ Below w.heap.size w wr ∧ Blk wr wd.heap.size 99 #[.int .i64 (k : Int), .int .i64 (b : Int), .int .i64 (a : Int), .int .i64 (jm : Int), .int .i64 kk] ∧ Blk wr wq.heap.size 100 #[.func (.func 52) #[] #[], .func (.func 53) #[] #[], .func (.func 54) #[] #[]] ∧ Hid ((1 ≤ t → bp = false) ∧ (2 ≤ t → bt = false) ∧ (3 ≤ t → bu = false)))
  case atStart => exact ⟨0, by omega, by simp, k3, BX, BF, Lib.hid ⟨fun h => by omega, fun h => by omega, fun h => by omega⟩⟩
  case round =>
    obtain ⟨t, htg, rfl, kr, BR, FR, hno⟩ := hrel
    cases gk with
    | zero =>
      have ht3 : t = 3 := by omega
      subst ht3
      obtain ⟨f1, f2, f3⟩ := hno.out
      have E := Lib.hid (show treatD l (momS l) k a b = 4 by rw [HE.out, f1 (by omega), f2 (by omega), f3 (by omega)]; rfl)
      clear hno f1 f2 f3 BR FR htg
      go_wp2
      refine ret_of (by simp [results, Tryd.results38, go_sem, *]; repeat' (first | rfl | apply And.intro)) rfl ⟨?_, kr⟩
      rw [E.out]
    | succ gh =>
      have x0 := BR.cell 0
      have x1 := BR.cell 1
      have x2 := BR.cell 2
      have x3 := BR.cell 3
      have x4 := BR.cell 4
      have xl := BR.lt
      have z0 := FR.cell 0
      have z1 := FR.cell 1
      have z2 := FR.cell 2
      have zl := FR.lt
      obtain ⟨f1, f2, f3⟩ := hno.out
      rcases (show t = 0 ∨ t = 1 ∨ t = 2 by omega) with rfl | rfl | rfl
      · clear f1 f2 f3 hno
        go_wp2_with fail
        refine (qp wr kr).mono ?_
        rintro e w4 ⟨rfl, b4⟩
        have k4 := below_call kr b4
        by_cases hv : bp = true
        · have E := Lib.hid (show treatD l (momS l) k a b = 1 by rw [HE.out, if_pos hv])
          go_wp2
          refine ret_of (by simp [results, Tryd.results38, go_sem, *]; repeat' (first | rfl | apply And.intro)) rfl ⟨?_, k4⟩
          rw [E.out]
        · replace hv : bp = false := by simpa using hv
          go_wp2_with fail
          go_roundg gh
          case measure => omega
          case rel => exact ⟨1, by omega, by go_num, k4, BR.kept b4, FR.kept b4, Lib.hid ⟨fun _ => hv, fun h => by omega, fun h => by omega⟩⟩
      · replace f1 := f1 (by omega)
        clear f2 f3 hno
        go_wp2_with fail
        refine (qt wr kr).mono ?_
        rintro e w4 ⟨rfl, b4⟩
        have k4 := below_call kr b4
        by_cases hv : bt = true
        · have E := Lib.hid (show treatD l (momS l) k a b = 2 by rw [HE.out, f1, if_neg (by simp), if_pos hv])
          go_wp2
          refine ret_of (by simp [results, Tryd.results38, go_sem, *]; repeat' (first | rfl | apply And.intro)) rfl ⟨?_, k4⟩
          rw [E.out]
        · replace hv : bt = false := by simpa using hv
          go_wp2_with fail
          go_roundg gh
          case measure => omega
          case rel => exact ⟨2, by omega, by go_num, k4, BR.kept b4, FR.kept b4, Lib.hid ⟨fun _ => f1, fun _ => hv, fun h => by omega⟩⟩
      · replace f1 := f1 (by omega)
        replace f2 := f2 (by omega)
        clear f3 hno
        go_wp2_with fail
        refine (qs wr kr).mono ?_
        rintro e w4 ⟨rfl, b4⟩
        have k4 := below_call kr b4
        by_cases hv : bu = true
        · have E := Lib.hid (show treatD l (momS l) k a b = 3 by rw [HE.out, f1, f2, if_neg (by simp), if_neg (by simp), if_pos hv])
          go_wp2
          refine ret_of (by simp [results, Tryd.results38, go_sem, *]; repeat' (first | rfl | apply And.intro)) rfl ⟨?_, k4⟩
          rw [E.out]
        · replace hv : bu = false := by simpa using hv
          go_wp2_with fail
          go_roundg gh
          case measure => omega
          case rel => exact ⟨3, by omega, by go_num, k4, BR.kept b4, FR.kept b4, Lib.hid ⟨fun _ => f1, fun _ => f2, fun _ => hv⟩⟩
theorem treat_ok {w : World} {g : Nat} {A S Q : Option Addr} {n c K d q : Nat} {l : List (List Ev)} (h : SetR w g A S Q n c K d q l) {a b k : Nat} (hk : k < K) (ha : a < n) (hb : b < n) (hT : Tabs w) :
    Calls Tryd.prog 38 #[.pointer (some ⟨g, 0, none⟩), .int .i64 k, .int .i64 a, .int .i64 b] w fun e w' => e = .returned (.int .i64 (treatD l (momS l) k a b)) ∧ Below w.heap.size w w' := by
  cases hsa : startB (l.getD a []) (mAt (momS l) k) with
  | true =>
    cases hsb : startB (l.getD b []) (mAt (momS l) k) with
    | true => exact treat_same h hk ha hb (by rw [hsa, hsb])
    | false => exact treat_a h hk ha hb hT hsa hsb
  | false =>
    cases hsb : startB (l.getD b []) (mAt (momS l) k) with
    | true => exact treat_b h hk ha hb hT hsa hsb
    | false => exact treat_same h hk ha hb (by rw [hsa, hsb])
end Go.Proofs.YtmlcnmnpkemdpaaDoor

