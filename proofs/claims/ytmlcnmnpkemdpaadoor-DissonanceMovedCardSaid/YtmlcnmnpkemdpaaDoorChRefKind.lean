
/- The walks through the reference's numbers, heights, intervals and kinds. -/
import Derived.Test.YtmlcnmnpkemdpaaDoorChHeight
import Derived.Test.YtmlcnmnpkemdpaaDoorChKind
namespace Go.Proofs.YtmlcnmnpkemdpaaDoor
open Go.RowKit
theorem rnumber_ok (p : Int × Int × Int) (h : pchk p = 0) (w : World) :
    Calls Tryd.prog 99 #[vP p] w fun e w' => e = .returned (.int .i64 (numP p)) ∧ Below w.heap.size w w' := by
  have q1 := refNumber_any p
  rw [numE_ok h] at q1
  clear h
  obtain ⟨x, hx⟩ : ∃ x, x = numP p := ⟨_, rfl⟩
  rw [← hx] at q1 ⊢
  clear hx
  obtain ⟨a, b, c⟩ := p
  go_enter Tryd.func99, Tryd.ntmps99
  go_wp2_with fail
  refine (q1 _).mono ?_
  rintro e w1 ⟨rfl, hb1⟩
  have BP1 : Blk w1 (w.heap.size) 32 #[.int .i64 a, .int .i64 b, .int .i64 c] := by
    refine Blk.kept ?_ hb1
    repeat (first | with_reducible exact Blk.new _ _ _ | (with_reducible refine Blk.newAt _ _ _ _ ?_; first | rfl | (simp; done)) | with_reducible apply Blk.alloc | with_reducible apply Blk.drewN | with_reducible apply Blk.drew | with_reducible apply Blk.set_to | (with_reducible apply Blk.far_; (simp only [ne_eq]; omega)) | rfl)
  have cP0_1 : w1.cell? ⟨w.heap.size, 0, none⟩ = some (.int .i64 a) := BP1.cell 0
  have cP1_1 : w1.cell? ⟨w.heap.size, 1, none⟩ = some (.int .i64 b) := BP1.cell 1
  have cP2_1 : w1.cell? ⟨w.heap.size, 2, none⟩ = some (.int .i64 c) := BP1.cell 2
  have lP1 : w.heap.size < w1.heap.size := BP1.lt
  have mP1 : w.heap.size < w1.heap.size + 1 := by omega
  have nP1 : w.heap.size < w1.heap.size + 1 + 1 := by omega
  have hs1 : w.heap.size ≤ w1.heap.size := by have h := hb1.size; (try simp at h); omega
  go_wp2
  go_ret
  exact ⟨rfl, by repeat (first | exact Below.refl _ _ | refine below_drewN ?_ _ | refine Below.drew ?_ | refine below_alloc ?_ _ | (refine below_call ?_ (by assumption)) | (refine Below.setCell ?_ ?_ _; rotate_left; (simp; try omega)))⟩
theorem rheight_ok (p : Int × Int × Int) (h : pchk p = 0) (w : World) :
    Calls Tryd.prog 100 #[vP p] w fun e w' => e = .returned (.int .i64 (htP p)) ∧ Below w.heap.size w w' := by
  have q1 := refHeight_ok p h
  clear h
  obtain ⟨x, hx⟩ : ∃ x, x = htP p := ⟨_, rfl⟩
  rw [← hx] at q1 ⊢
  clear hx
  obtain ⟨a, b, c⟩ := p
  go_enter Tryd.func100, Tryd.ntmps100
  go_wp2_with fail
  refine (q1 _).mono ?_
  rintro e w1 ⟨rfl, hb1⟩
  have BP1 : Blk w1 (w.heap.size) 32 #[.int .i64 a, .int .i64 b, .int .i64 c] := by
    refine Blk.kept ?_ hb1
    repeat (first | with_reducible exact Blk.new _ _ _ | (with_reducible refine Blk.newAt _ _ _ _ ?_; first | rfl | (simp; done)) | with_reducible apply Blk.alloc | with_reducible apply Blk.drewN | with_reducible apply Blk.drew | with_reducible apply Blk.set_to | (with_reducible apply Blk.far_; (simp only [ne_eq]; omega)) | rfl)
  have cP0_1 : w1.cell? ⟨w.heap.size, 0, none⟩ = some (.int .i64 a) := BP1.cell 0
  have cP1_1 : w1.cell? ⟨w.heap.size, 1, none⟩ = some (.int .i64 b) := BP1.cell 1
  have cP2_1 : w1.cell? ⟨w.heap.size, 2, none⟩ = some (.int .i64 c) := BP1.cell 2
  have lP1 : w.heap.size < w1.heap.size := BP1.lt
  have mP1 : w.heap.size < w1.heap.size + 1 := by omega
  have nP1 : w.heap.size < w1.heap.size + 1 + 1 := by omega
  have hs1 : w.heap.size ≤ w1.heap.size := by have h := hb1.size; (try simp at h); omega
  go_wp2
  go_ret
  exact ⟨rfl, by repeat (first | exact Below.refl _ _ | refine below_drewN ?_ _ | refine Below.drew ?_ | refine below_alloc ?_ _ | (refine below_call ?_ (by assumption)) | (refine Below.setCell ?_ ?_ _; rotate_left; (simp; try omega)))⟩
set_option maxRecDepth 100000 in
set_option maxHeartbeats 1000000 in
theorem rlower_ok (p q : Int × Int × Int) (hp : pchk p = 0) (hq : pchk q = 0) (w : World) :
    Calls Tryd.prog 76 #[vP p, vP q] w fun e w' => e = .returned (vP (loP p q)) ∧ Below w.heap.size w w' := by
  have q1 := rnumber_ok p hp
  have q2 := rnumber_ok q hq
  have q3 := rheight_ok p hp
  have q4 := rheight_ok q hq
  obtain ⟨x, hx⟩ : ∃ x, x = numP p := ⟨_, rfl⟩
  obtain ⟨y, hy⟩ : ∃ x, x = numP q := ⟨_, rfl⟩
  obtain ⟨u, hu⟩ : ∃ x, x = htP p := ⟨_, rfl⟩
  obtain ⟨v, hv⟩ : ∃ x, x = htP q := ⟨_, rfl⟩
  have E := Lib.hid (lo_of hx hy hu hv)
  rw [← hx] at q1
  rw [← hy] at q2
  rw [← hu] at q3
  rw [← hv] at q4
  clear hx hy hu hv hp hq
  obtain ⟨a, b, c⟩ := p
  obtain ⟨a', b', c'⟩ := q
  have r0 : Blk (((w.alloc (.cells #[.int .i64 a, .int .i64 b, .int .i64 c] 32)).alloc (.cells #[.int .i64 a', .int .i64 b', .int .i64 c'] 32)).alloc (.cells #[.int .i64 0, .int .i64 0, .int .i64 0] 32)) w.heap.size 32 #[.int .i64 a, .int .i64 b, .int .i64 c] := ((Blk.new _ _ _).alloc _).alloc _
  have s0 : Blk (((w.alloc (.cells #[.int .i64 a, .int .i64 b, .int .i64 c] 32)).alloc (.cells #[.int .i64 a', .int .i64 b', .int .i64 c'] 32)).alloc (.cells #[.int .i64 0, .int .i64 0, .int .i64 0] 32)) (w.heap.size + 1) 32 #[.int .i64 a', .int .i64 b', .int .i64 c'] := Blk.alloc (Blk.newAt _ _ _ _ (by simp)) _
  have t0 : Blk (((w.alloc (.cells #[.int .i64 a, .int .i64 b, .int .i64 c] 32)).alloc (.cells #[.int .i64 a', .int .i64 b', .int .i64 c'] 32)).alloc (.cells #[.int .i64 0, .int .i64 0, .int .i64 0] 32)) (w.heap.size + 1 + 1) 32 #[.int .i64 0, .int .i64 0, .int .i64 0] := Blk.newAt _ _ _ _ (by simp)
  have k0 : Below w.heap.size w (((w.alloc (.cells #[.int .i64 a, .int .i64 b, .int .i64 c] 32)).alloc (.cells #[.int .i64 a', .int .i64 b', .int .i64 c'] 32)).alloc (.cells #[.int .i64 0, .int .i64 0, .int .i64 0] 32)) := by repeat (first | exact Below.refl _ _ | refine below_drewN ?_ _ | refine Below.drew ?_ | refine below_alloc ?_ _ | (refine below_call ?_ (by assumption)) | (refine Below.setCell ?_ ?_ _; rotate_left; (simp; try omega)))
  go_enter Tryd.func76, Tryd.ntmps76
  go_wp2_with fail
  obtain ⟨wv, hwv⟩ := name_world k0
  rw [← hwv] at r0 s0 t0 k0 ⊢
  clear hwv
  have cr := r0.cell; have cs := s0.cell; have lr := r0.lt; have ls := s0.lt; have lt := t0.lt
  by_cases h1 : y < x
  · have d1 : decide (y < x) = true := by simpa using h1
    refine wp_region_calm (by kernel_rfl) (by kernel_rfl) ?_
    repeat (go_big_quiet_step ((first | (go_at_call 99; (first | with_reducible exact calm_call (q1 _) | with_reducible exact calm_call (q2 _))) | (go_at_call 100; (first | with_reducible exact calm_call (q3 _) | with_reducible exact calm_call (q4 _))))))
    refine wpQuiet_nil ?_
    intro w1 hb1
    have t1 := t0.kept hb1
    replace cr := (r0.kept hb1).cell; replace cs := (s0.kept hb1).cell; replace lr := (r0.kept hb1).lt; replace ls := (s0.kept hb1).lt; have ct := t1.cell; have ft := t1.frozen; replace lt := t1.lt
    have k1 := below_call k0 hb1
    go_wp2
    refine ret_of (by simp [results, Tryd.results76, go_sem, *]; repeat' (first | rfl | apply And.intro)) rfl ⟨?_, by repeat (first | with_reducible exact Below.refl _ _ | with_reducible assumption | with_reducible refine below_drewN ?_ _ | with_reducible refine Below.drew ?_ | with_reducible refine below_alloc ?_ _ | (with_reducible refine Below.setCell ?_ ?_ _; rotate_left; ((try simp only); omega)))⟩
    rw [(E.out.1 (by omega)).1]
  · have d1 : decide (y < x) = false := by simpa using h1
    by_cases h2 : y = x
    · subst h2
      by_cases h3 : v < u
      · have HS := Lib.hid (E.out.1 (Or.inr ⟨rfl, h3⟩)).1
        have d3 : decide (v < u) = true := by simpa using h3
        refine wp_region_calm (by kernel_rfl) (by kernel_rfl) ?_
        repeat (go_big_quiet_step ((first | (go_at_call 99; (first | with_reducible exact calm_call (q1 _) | with_reducible exact calm_call (q2 _))) | (go_at_call 100; (first | with_reducible exact calm_call (q3 _) | with_reducible exact calm_call (q4 _))))))
        refine wpQuiet_nil ?_
        intro w1 hb1
        have t1 := t0.kept hb1
        replace cr := (r0.kept hb1).cell; replace cs := (s0.kept hb1).cell; replace lr := (r0.kept hb1).lt; replace ls := (s0.kept hb1).lt; have ct := t1.cell; have ft := t1.frozen; replace lt := t1.lt
        have k1 := below_call k0 hb1
        go_wp2
        refine ret_of (by simp [results, Tryd.results76, go_sem, *]; repeat' (first | rfl | apply And.intro)) rfl ⟨?_, by repeat (first | with_reducible exact Below.refl _ _ | with_reducible assumption | with_reducible refine below_drewN ?_ _ | with_reducible refine Below.drew ?_ | with_reducible refine below_alloc ?_ _ | (with_reducible refine Below.setCell ?_ ?_ _; rotate_left; ((try simp only); omega)))⟩
        first | (rw [HS.out]; done) | (rw [HS.out]; simp)
      · have d3 : decide (v < u) = false := by simpa using h3
        refine wp_region_calm (by kernel_rfl) (by kernel_rfl) ?_
        repeat (go_big_quiet_step ((first | (go_at_call 99; (first | with_reducible exact calm_call (q1 _) | with_reducible exact calm_call (q2 _))) | (go_at_call 100; (first | with_reducible exact calm_call (q3 _) | with_reducible exact calm_call (q4 _))))))
        refine wpQuiet_nil ?_
        intro w1 hb1
        have t1 := t0.kept hb1
        replace cr := (r0.kept hb1).cell; replace cs := (s0.kept hb1).cell; replace lr := (r0.kept hb1).lt; replace ls := (s0.kept hb1).lt; have ct := t1.cell; have ft := t1.frozen; replace lt := t1.lt
        have k1 := below_call k0 hb1
        go_wp2
        refine ret_of (by simp [results, Tryd.results76, go_sem, *]; repeat' (first | rfl | apply And.intro)) rfl ⟨?_, by repeat (first | with_reducible exact Below.refl _ _ | with_reducible assumption | with_reducible refine below_drewN ?_ _ | with_reducible refine Below.drew ?_ | with_reducible refine below_alloc ?_ _ | (with_reducible refine Below.setCell ?_ ?_ _; rotate_left; ((try simp only); omega)))⟩
        rw [(E.out.2 (by omega)).1]
    · have d2 : (y == x) = false := by simpa using h2
      refine wp_region_calm (by kernel_rfl) (by kernel_rfl) ?_
      repeat (go_big_quiet_step ((first | (go_at_call 99; (first | with_reducible exact calm_call (q1 _) | with_reducible exact calm_call (q2 _))) | (go_at_call 100; (first | with_reducible exact calm_call (q3 _) | with_reducible exact calm_call (q4 _))))))
      refine wpQuiet_nil ?_
      intro w1 hb1
      have t1 := t0.kept hb1
      replace cr := (r0.kept hb1).cell; replace cs := (s0.kept hb1).cell; replace lr := (r0.kept hb1).lt; replace ls := (s0.kept hb1).lt; have ct := t1.cell; have ft := t1.frozen; replace lt := t1.lt
      have k1 := below_call k0 hb1
      go_wp2
      refine ret_of (by simp [results, Tryd.results76, go_sem, *]; repeat' (first | rfl | apply And.intro)) rfl ⟨?_, by repeat (first | with_reducible exact Below.refl _ _ | with_reducible assumption | with_reducible refine below_drewN ?_ _ | with_reducible refine Below.drew ?_ | with_reducible refine below_alloc ?_ _ | (with_reducible refine Below.setCell ?_ ?_ _; rotate_left; ((try simp only); omega)))⟩
      rw [(E.out.2 (by omega)).1]
set_option maxRecDepth 100000 in
set_option maxHeartbeats 1000000 in
theorem rUp_ok (p q : Int × Int × Int) (hp : pchk p = 0) (hq : pchk q = 0) (w : World) :
    Calls Tryd.prog 98 #[vP p, vP q] w fun e w' => e = .returned (.agg #[.int .i64 (upI p q).1, .int .i64 (upI p q).2]) ∧ Below w.heap.size w w' := by
  have q1 := rnumber_ok p hp
  have q2 := rnumber_ok q hq
  have q3 := rheight_ok p hp
  have q4 := rheight_ok q hq
  have b1 := numP_bd hp; have b2 := numP_bd hq; have b3 := htP_bd hp; have b4 := htP_bd hq
  have U1 : ∀ x y u v, x = numP p → y = numP q → u = htP p → v = htP q → (y < x ∨ (y = x ∧ v < u)) → upI p q = (x - y, u - v) := by
    intro x y u v hx hy hu hv h
    have := (lo_of hx hy hu hv).1 h
    unfold upI btw
    rw [this.1, this.2, hx, hy, hu, hv]
  have U2 : ∀ x y u v, x = numP p → y = numP q → u = htP p → v = htP q → ¬ (y < x ∨ (y = x ∧ v < u)) → upI p q = (y - x, v - u) := by
    intro x y u v hx hy hu hv h
    have := (lo_of hx hy hu hv).2 h
    unfold upI btw
    rw [this.1, this.2, hx, hy, hu, hv]
  obtain ⟨x, hx⟩ : ∃ x, x = numP p := ⟨_, rfl⟩
  obtain ⟨y, hy⟩ : ∃ x, x = numP q := ⟨_, rfl⟩
  obtain ⟨u, hu⟩ : ∃ x, x = htP p := ⟨_, rfl⟩
  obtain ⟨v, hv⟩ : ∃ x, x = htP q := ⟨_, rfl⟩
  have E1 := Lib.hid (U1 x y u v hx hy hu hv)
  have E2 := Lib.hid (U2 x y u v hx hy hu hv)
  rw [← hx] at q1 b1
  rw [← hy] at q2 b2
  rw [← hu] at q3 b3
  rw [← hv] at q4 b4
  clear hx hy hu hv hp hq U1 U2
  obtain ⟨a, b, c⟩ := p
  obtain ⟨a', b', c'⟩ := q
  have r0 : Blk (((w.alloc (.cells #[.int .i64 a, .int .i64 b, .int .i64 c] 32)).alloc (.cells #[.int .i64 a', .int .i64 b', .int .i64 c'] 32)).alloc (.cells #[.int .i64 0, .int .i64 0] 135)) w.heap.size 32 #[.int .i64 a, .int .i64 b, .int .i64 c] := ((Blk.new _ _ _).alloc _).alloc _
  have s0 : Blk (((w.alloc (.cells #[.int .i64 a, .int .i64 b, .int .i64 c] 32)).alloc (.cells #[.int .i64 a', .int .i64 b', .int .i64 c'] 32)).alloc (.cells #[.int .i64 0, .int .i64 0] 135)) (w.heap.size + 1) 32 #[.int .i64 a', .int .i64 b', .int .i64 c'] := Blk.alloc (Blk.newAt _ _ _ _ (by simp)) _
  have t0 : Blk (((w.alloc (.cells #[.int .i64 a, .int .i64 b, .int .i64 c] 32)).alloc (.cells #[.int .i64 a', .int .i64 b', .int .i64 c'] 32)).alloc (.cells #[.int .i64 0, .int .i64 0] 135)) (w.heap.size + 1 + 1) 135 #[.int .i64 0, .int .i64 0] := Blk.newAt _ _ _ _ (by simp)
  have k0 : Below w.heap.size w (((w.alloc (.cells #[.int .i64 a, .int .i64 b, .int .i64 c] 32)).alloc (.cells #[.int .i64 a', .int .i64 b', .int .i64 c'] 32)).alloc (.cells #[.int .i64 0, .int .i64 0] 135)) := by repeat (first | exact Below.refl _ _ | refine below_drewN ?_ _ | refine Below.drew ?_ | refine below_alloc ?_ _ | (refine below_call ?_ (by assumption)) | (refine Below.setCell ?_ ?_ _; rotate_left; (simp; try omega)))
  go_enter Tryd.func98, Tryd.ntmps98
  go_wp2_with fail
  obtain ⟨wv, hwv⟩ := name_world k0
  rw [← hwv] at r0 s0 t0 k0 ⊢
  clear hwv
  have cr := r0.cell; have cs := s0.cell; have lr := r0.lt; have ls := s0.lt; have lt := t0.lt
  by_cases h1 : y < x
  · have d1 : decide (y < x) = true := by simpa using h1
    have HS := Lib.hid (E1.out (Or.inl h1))
    refine wp_region_calm (by kernel_rfl) (by kernel_rfl) ?_
    repeat (go_big_quiet_step ((first | (go_at_call 99; (first | with_reducible exact calm_call (q1 _) | with_reducible exact calm_call (q2 _))) | (go_at_call 100; (first | with_reducible exact calm_call (q3 _) | with_reducible exact calm_call (q4 _))))))
    refine wpQuiet_nil ?_
    intro w1 hb1
    have r1 := r0.kept hb1; have s1 := s0.kept hb1; have t1 := t0.kept hb1; have k1 := below_call k0 hb1
    clear cr cs lr ls lt
    have cr := r1.cell; have cs := s1.cell; have lr := r1.lt; have ls := s1.lt; have lt := t1.lt; have fr := r1.frozen; have fs := s1.frozen
    go_wp2_with fail
    have hne : w.heap.size ≠ w.heap.size + 1 := by omega
    have k2 := k1
    obtain ⟨w2, k2, r2, s2, t2, hw2⟩ : ∃ w2, Below w.heap.size w w2 ∧ Blk w2 w.heap.size 32 #[.int .i64 a', .int .i64 b', .int .i64 c'] ∧ Blk w2 (w.heap.size + 1) 32 #[.int .i64 a, .int .i64 b, .int .i64 c] ∧ Blk w2 (w.heap.size + 1 + 1) 135 #[.int .i64 0, .int .i64 0] ∧ w2 = (((((w1.setCell ⟨w.heap.size, 0, none⟩ (.int .i64 a')).setCell ⟨w.heap.size, 1, none⟩ (.int .i64 b')).setCell ⟨w.heap.size, 2, none⟩ (.int .i64 c')).setCell ⟨w.heap.size + 1, 0, none⟩ (.int .i64 a)).setCell ⟨w.heap.size + 1, 1, none⟩ (.int .i64 b)).setCell ⟨w.heap.size + 1, 2, none⟩ (.int .i64 c) := ⟨_, by repeat (first | with_reducible exact Below.refl _ _ | with_reducible assumption | with_reducible refine below_drewN ?_ _ | with_reducible refine Below.drew ?_ | with_reducible refine below_alloc ?_ _ | (with_reducible refine Below.setCell ?_ ?_ _; rotate_left; ((try simp only); omega))), by repeat (first | with_reducible exact r1 | with_reducible exact Blk.new _ _ _ | (with_reducible refine Blk.newAt _ _ _ _ ?_; first | rfl | (simp; done)) | with_reducible apply Blk.alloc | with_reducible apply Blk.drewN | with_reducible apply Blk.drew | with_reducible apply Blk.set_to | (with_reducible apply Blk.far_; (simp only [ne_eq]; omega)) | rfl), by repeat (first | with_reducible exact s1 | with_reducible exact Blk.new _ _ _ | (with_reducible refine Blk.newAt _ _ _ _ ?_; first | rfl | (simp; done)) | with_reducible apply Blk.alloc | with_reducible apply Blk.drewN | with_reducible apply Blk.drew | with_reducible apply Blk.set_to | (with_reducible apply Blk.far_; (simp only [ne_eq]; omega)) | rfl), by repeat (first | with_reducible exact t1 | with_reducible exact Blk.new _ _ _ | (with_reducible refine Blk.newAt _ _ _ _ ?_; first | rfl | (simp; done)) | with_reducible apply Blk.alloc | with_reducible apply Blk.drewN | with_reducible apply Blk.drew | with_reducible apply Blk.set_to | (with_reducible apply Blk.far_; (simp only [ne_eq]; omega)) | rfl), rfl⟩
    rw [← hw2]
    clear hw2
    clear cr cs lr ls lt fr fs
    have cr := r2.cell; have cs := s2.cell; have lr := r2.lt; have ls := s2.lt; have lt := t2.lt
    refine wp_region_calm_tail 11 (by kernel_rfl) (by kernel_rfl) ?_
    simp only [List.take_succ_cons, List.take_zero, List.drop_succ_cons, List.drop_zero]
    repeat (go_big_quiet_step ((first | (go_at_call 99; (first | with_reducible exact calm_call (q1 _) | with_reducible exact calm_call (q2 _))) | (go_at_call 100; (first | with_reducible exact calm_call (q3 _) | with_reducible exact calm_call (q4 _))))))
    refine wpQuiet_nil ?_
    intro w3 hb3
    have t3 := t2.kept hb3; have ct := t3.cell; have ft := t3.frozen; have lt3 := t3.lt; have k3 := below_call k2 hb3
    go_wp2
    refine ret_of (by simp [results, Tryd.results98, go_sem, *]; repeat' (first | rfl | apply And.intro)) rfl ⟨?_, by repeat (first | with_reducible exact Below.refl _ _ | with_reducible assumption | with_reducible refine below_drewN ?_ _ | with_reducible refine Below.drew ?_ | with_reducible refine below_alloc ?_ _ | (with_reducible refine Below.setCell ?_ ?_ _; rotate_left; ((try simp only); omega)))⟩
    first | (rw [HS.out]; done) | (rw [HS.out]; simp)
  · have d1 : decide (y < x) = false := by simpa using h1
    by_cases h2 : y = x
    · by_cases h3 : v < u
      · have HS := Lib.hid (E1.out (Or.inr ⟨h2, h3⟩))
        subst h2
        have d3 : decide (v < u) = true := by simpa using h3
        refine wp_region_calm (by kernel_rfl) (by kernel_rfl) ?_
        repeat (go_big_quiet_step ((first | (go_at_call 99; (first | with_reducible exact calm_call (q1 _) | with_reducible exact calm_call (q2 _))) | (go_at_call 100; (first | with_reducible exact calm_call (q3 _) | with_reducible exact calm_call (q4 _))))))
        refine wpQuiet_nil ?_
        intro w1 hb1
        have r1 := r0.kept hb1; have s1 := s0.kept hb1; have t1 := t0.kept hb1; have k1 := below_call k0 hb1
        clear cr cs lr ls lt
        have cr := r1.cell; have cs := s1.cell; have lr := r1.lt; have ls := s1.lt; have lt := t1.lt; have fr := r1.frozen; have fs := s1.frozen
        go_wp2_with fail
        have hne : w.heap.size ≠ w.heap.size + 1 := by omega
        have k2 := k1
        obtain ⟨w2, k2, r2, s2, t2, hw2⟩ : ∃ w2, Below w.heap.size w w2 ∧ Blk w2 w.heap.size 32 #[.int .i64 a', .int .i64 b', .int .i64 c'] ∧ Blk w2 (w.heap.size + 1) 32 #[.int .i64 a, .int .i64 b, .int .i64 c] ∧ Blk w2 (w.heap.size + 1 + 1) 135 #[.int .i64 0, .int .i64 0] ∧ w2 = (((((w1.setCell ⟨w.heap.size, 0, none⟩ (.int .i64 a')).setCell ⟨w.heap.size, 1, none⟩ (.int .i64 b')).setCell ⟨w.heap.size, 2, none⟩ (.int .i64 c')).setCell ⟨w.heap.size + 1, 0, none⟩ (.int .i64 a)).setCell ⟨w.heap.size + 1, 1, none⟩ (.int .i64 b)).setCell ⟨w.heap.size + 1, 2, none⟩ (.int .i64 c) := ⟨_, by repeat (first | with_reducible exact Below.refl _ _ | with_reducible assumption | with_reducible refine below_drewN ?_ _ | with_reducible refine Below.drew ?_ | with_reducible refine below_alloc ?_ _ | (with_reducible refine Below.setCell ?_ ?_ _; rotate_left; ((try simp only); omega))), by repeat (first | with_reducible exact r1 | with_reducible exact Blk.new _ _ _ | (with_reducible refine Blk.newAt _ _ _ _ ?_; first | rfl | (simp; done)) | with_reducible apply Blk.alloc | with_reducible apply Blk.drewN | with_reducible apply Blk.drew | with_reducible apply Blk.set_to | (with_reducible apply Blk.far_; (simp only [ne_eq]; omega)) | rfl), by repeat (first | with_reducible exact s1 | with_reducible exact Blk.new _ _ _ | (with_reducible refine Blk.newAt _ _ _ _ ?_; first | rfl | (simp; done)) | with_reducible apply Blk.alloc | with_reducible apply Blk.drewN | with_reducible apply Blk.drew | with_reducible apply Blk.set_to | (with_reducible apply Blk.far_; (simp only [ne_eq]; omega)) | rfl), by repeat (first | with_reducible exact t1 | with_reducible exact Blk.new _ _ _ | (with_reducible refine Blk.newAt _ _ _ _ ?_; first | rfl | (simp; done)) | with_reducible apply Blk.alloc | with_reducible apply Blk.drewN | with_reducible apply Blk.drew | with_reducible apply Blk.set_to | (with_reducible apply Blk.far_; (simp only [ne_eq]; omega)) | rfl), rfl⟩
        rw [← hw2]
        clear hw2
        clear cr cs lr ls lt fr fs
        have cr := r2.cell; have cs := s2.cell; have lr := r2.lt; have ls := s2.lt; have lt := t2.lt
        refine wp_region_calm_tail 11 (by kernel_rfl) (by kernel_rfl) ?_
        simp only [List.take_succ_cons, List.take_zero, List.drop_succ_cons, List.drop_zero]
        repeat (go_big_quiet_step ((first | (go_at_call 99; (first | with_reducible exact calm_call (q1 _) | with_reducible exact calm_call (q2 _))) | (go_at_call 100; (first | with_reducible exact calm_call (q3 _) | with_reducible exact calm_call (q4 _))))))
        refine wpQuiet_nil ?_
        intro w3 hb3
        have t3 := t2.kept hb3; have ct := t3.cell; have ft := t3.frozen; have lt3 := t3.lt; have k3 := below_call k2 hb3
        go_wp2
        refine ret_of (by simp [results, Tryd.results98, go_sem, *]; repeat' (first | rfl | apply And.intro)) rfl ⟨?_, by repeat (first | with_reducible exact Below.refl _ _ | with_reducible assumption | with_reducible refine below_drewN ?_ _ | with_reducible refine Below.drew ?_ | with_reducible refine below_alloc ?_ _ | (with_reducible refine Below.setCell ?_ ?_ _; rotate_left; ((try simp only); omega)))⟩
        first | (rw [HS.out]; done) | (rw [HS.out]; simp)
      · have HS := Lib.hid (E2.out (by rintro (h | h); exact h1 h; exact h3 h.2))
        subst h2
        have d3 : decide (v < u) = false := by simpa using h3
        refine wp_region_calm (by kernel_rfl) (by kernel_rfl) ?_
        repeat (go_big_quiet_step ((first | (go_at_call 99; (first | with_reducible exact calm_call (q1 _) | with_reducible exact calm_call (q2 _))) | (go_at_call 100; (first | with_reducible exact calm_call (q3 _) | with_reducible exact calm_call (q4 _))))))
        refine wpQuiet_nil ?_
        intro w1 hb1
        have r1 := r0.kept hb1; have s1 := s0.kept hb1; have t1 := t0.kept hb1; have k1 := below_call k0 hb1
        clear cr cs lr ls lt
        have cr := r1.cell; have cs := s1.cell; have lr := r1.lt; have ls := s1.lt; have lt := t1.lt; have fr := r1.frozen; have fs := s1.frozen
        go_wp2_with fail
        obtain ⟨w2, k2, r2, s2, t2, hw2⟩ : ∃ w2, Below w.heap.size w w2 ∧ Blk w2 w.heap.size 32 #[.int .i64 a, .int .i64 b, .int .i64 c] ∧ Blk w2 (w.heap.size + 1) 32 #[.int .i64 a', .int .i64 b', .int .i64 c'] ∧ Blk w2 (w.heap.size + 1 + 1) 135 #[.int .i64 0, .int .i64 0] ∧ w2 = w1 := ⟨_, k1, r1, s1, t1, rfl⟩
        rw [← hw2]
        clear hw2
        clear cr cs lr ls lt fr fs
        have cr := r2.cell; have cs := s2.cell; have lr := r2.lt; have ls := s2.lt; have lt := t2.lt
        refine wp_region_calm_tail 11 (by kernel_rfl) (by kernel_rfl) ?_
        simp only [List.take_succ_cons, List.take_zero, List.drop_succ_cons, List.drop_zero]
        repeat (go_big_quiet_step ((first | (go_at_call 99; (first | with_reducible exact calm_call (q1 _) | with_reducible exact calm_call (q2 _))) | (go_at_call 100; (first | with_reducible exact calm_call (q3 _) | with_reducible exact calm_call (q4 _))))))
        refine wpQuiet_nil ?_
        intro w3 hb3
        have t3 := t2.kept hb3; have ct := t3.cell; have ft := t3.frozen; have lt3 := t3.lt; have k3 := below_call k2 hb3
        go_wp2
        refine ret_of (by simp [results, Tryd.results98, go_sem, *]; repeat' (first | rfl | apply And.intro)) rfl ⟨?_, by repeat (first | with_reducible exact Below.refl _ _ | with_reducible assumption | with_reducible refine below_drewN ?_ _ | with_reducible refine Below.drew ?_ | with_reducible refine below_alloc ?_ _ | (with_reducible refine Below.setCell ?_ ?_ _; rotate_left; ((try simp only); omega)))⟩
        first | (rw [HS.out]; done) | (rw [HS.out]; simp)
    · have HS := Lib.hid (E2.out (by rintro (h | h); exact h1 h; exact h2 h.1))
      have d2 : (y == x) = false := by simpa using h2
      refine wp_region_calm (by kernel_rfl) (by kernel_rfl) ?_
      repeat (go_big_quiet_step ((first | (go_at_call 99; (first | with_reducible exact calm_call (q1 _) | with_reducible exact calm_call (q2 _))) | (go_at_call 100; (first | with_reducible exact calm_call (q3 _) | with_reducible exact calm_call (q4 _))))))
      refine wpQuiet_nil ?_
      intro w1 hb1
      have r1 := r0.kept hb1; have s1 := s0.kept hb1; have t1 := t0.kept hb1; have k1 := below_call k0 hb1
      clear cr cs lr ls lt
      have cr := r1.cell; have cs := s1.cell; have lr := r1.lt; have ls := s1.lt; have lt := t1.lt; have fr := r1.frozen; have fs := s1.frozen
      go_wp2_with fail
      obtain ⟨w2, k2, r2, s2, t2, hw2⟩ : ∃ w2, Below w.heap.size w w2 ∧ Blk w2 w.heap.size 32 #[.int .i64 a, .int .i64 b, .int .i64 c] ∧ Blk w2 (w.heap.size + 1) 32 #[.int .i64 a', .int .i64 b', .int .i64 c'] ∧ Blk w2 (w.heap.size + 1 + 1) 135 #[.int .i64 0, .int .i64 0] ∧ w2 = w1 := ⟨_, k1, r1, s1, t1, rfl⟩
      rw [← hw2]
      clear hw2
      clear cr cs lr ls lt fr fs
      have cr := r2.cell; have cs := s2.cell; have lr := r2.lt; have ls := s2.lt; have lt := t2.lt
      refine wp_region_calm_tail 11 (by kernel_rfl) (by kernel_rfl) ?_
      simp only [List.take_succ_cons, List.take_zero, List.drop_succ_cons, List.drop_zero]
      repeat (go_big_quiet_step ((first | (go_at_call 99; (first | with_reducible exact calm_call (q1 _) | with_reducible exact calm_call (q2 _))) | (go_at_call 100; (first | with_reducible exact calm_call (q3 _) | with_reducible exact calm_call (q4 _))))))
      refine wpQuiet_nil ?_
      intro w3 hb3
      have t3 := t2.kept hb3; have ct := t3.cell; have ft := t3.frozen; have lt3 := t3.lt; have k3 := below_call k2 hb3
      go_wp2
      refine ret_of (by simp [results, Tryd.results98, go_sem, *]; repeat' (first | rfl | apply And.intro)) rfl ⟨?_, by repeat (first | with_reducible exact Below.refl _ _ | with_reducible assumption | with_reducible refine below_drewN ?_ _ | with_reducible refine Below.drew ?_ | with_reducible refine below_alloc ?_ _ | (with_reducible refine Below.setCell ?_ ?_ _; rotate_left; ((try simp only); omega)))⟩
      first | (rw [HS.out]; done) | (rw [HS.out]; simp)
end Go.Proofs.YtmlcnmnpkemdpaaDoor
