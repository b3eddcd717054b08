/- The walks through the kit's small makers: Mod, Zero, Span, Plus, EndOf. -/
import Derived.Test.YtiphacmmglohaaaKitE
import Derived.Test.YtiphacmmglohaaaVoiceMath2
namespace Go.Proofs.Ytiphacmmglohaaa
open Go.RowKit
theorem tmod_neg (a n : Int) (h : 1 ≤ n) (ha : a < 0) : -n < a.tmod n ∧ a.tmod n ≤ 0 ∧ (a.tmod n = 0 → a % n = 0) ∧ (a.tmod n < 0 → a % n = a.tmod n + n) := by
  have h1 := Int.emod_nonneg a (show n ≠ 0 by omega)
  have h2 := Int.emod_lt_of_pos a (show 0 < n by omega)
  have e := Int.tmod_eq_emod (a := a) (b := n)
  by_cases hd : n ∣ a
  · rw [if_pos (.inr hd)] at e
    have := Int.emod_eq_zero_of_dvd hd
    omega
  · rw [if_neg (by rintro (hh | hh); · omega
                   · exact hd hh)] at e
    have : a % n ≠ 0 := fun h0 => hd (Int.dvd_of_emod_eq_zero h0)
    omega
set_option maxHeartbeats 400000 in
theorem mod_any (a n : Int) (w : World) (h : 1 ≤ n) (hn : n ≤ 4611686018427387904) (h0 : -9223372036854775808 ≤ a) (h1 : a ≤ 9223372036854775807) :
    Calls Try.prog 31 #[.int .i64 a, .int .i64 n] w fun e w' => e = .returned (.int .i64 (a % n)) ∧ w = w' := by
  by_cases ha : 0 ≤ a
  · have m0 := Int.emod_nonneg a (show n ≠ 0 by omega)
    have m1 := Int.emod_lt_of_pos a (show 0 < n by omega)
    go_enter Try.func31, Try.ntmps31
    go_wp2
    all_goals
      go_ret
      exact ⟨rfl, rfl⟩
  · obtain ⟨t0, t1, t2, t3⟩ := tmod_neg a n h (by omega)
    have T := Lib.hid (And.intro t2 t3); clear t2 t3
    go_enter Try.func31, Try.ntmps31
    go_wp2
    all_goals
      go_ret
      refine ⟨ret_int ?_, rfl⟩
      obtain ⟨t2, t3⟩ := T.out
      omega
set_option maxHeartbeats 400000 in
theorem zero_any (w : World) : Calls Try.prog 35 #[] w fun e w' => e = .returned (.agg #[.int .i64 0, .int .i64 1]) ∧ Below w.heap.size w w' := by
  go_enter Try.func35, Try.ntmps35
  go_wp2
  refine ret_of (by simp [results, Try.results35, go_sem]; repeat' (first | rfl | apply And.intro)) rfl ⟨rfl, ?_⟩
  repeat (first | exact Below.refl _ _ | refine below_drewN ?_ _ | refine Below.drew ?_ | refine below_alloc ?_ _ | (refine below_call ?_ (by assumption)) | (refine Below.setCell ?_ ?_ _; rotate_left; (simp; try omega)))
theorem part_at (j : Nat) (h : j < 9) : [Value.int .i64 1, .int .i64 1, .int .i64 1, .int .i64 2, .int .i64 2, .int .i64 3, .int .i64 4, .int .i64 6, .int .i64 8][j]? = some (.int .i64 (partS j)) := by
  match j, h with
  | 0, _ | 1, _ | 2, _ | 3, _ | 4, _ | 5, _ | 6, _ | 7, _ | 8, _ => rfl
  | j + 9, h => omega
theorem part_bd (k : Int) : 0 ≤ partS k ∧ partS k ≤ 8 := by
  unfold partS
  generalize k.toNat = j
  match j with
  | 0 | 1 | 2 | 3 | 4 | 5 | 6 | 7 | 8 => decide
  | j + 9 => simp
set_option maxHeartbeats 400000 in
theorem kitSpan_any (n : Int) (w : World) (h0 : -9223372036854775808 ≤ n) (h1 : n ≤ 9223372036854775807) :
    Calls Try.prog 32 #[.int .i64 n] w fun e w' => e = .returned (.agg #[.int .i64 (spS n).1, .int .i64 (spS n).2]) ∧ Below w.heap.size w w' := by
  have m0 := Int.emod_nonneg n (show (216 : Int) ≠ 0 by omega)
  have m1 := Int.emod_lt_of_pos n (show (0 : Int) < 216 by omega)
  have hp := part_at (n % 9).toNat (by omega)
  rw [show (((n % 9).toNat : Nat) : Int) = n % 9 by omega] at hp
  have hb := part_bd (n % 9)
  have e9 : n % 216 % 9 = n % 9 := by omega
  have E9 := Lib.hid e9; clear e9
  go_enter Try.func32, Try.ntmps32
  go_wp2_with (go_at_call 31; refine (mod_any _ _ _ (by omega) (by omega) (by omega) (by omega)).mono ?_; rintro e w1 ⟨rfl, rfl⟩)
  go_wp2_with fail
  refine (t_any _ _ _ (by omega) (by omega) (by omega) (by omega)).mono ?_
  rintro e w1 ⟨rfl, hb1⟩
  have BR1 : Blk w1 (w.heap.size) 24 #[.int .i64 0, .int .i64 0] := by
    refine Blk.kept ?_ hb1
    repeat (first | with_reducible exact Blk.new _ _ _ | (with_reducible refine Blk.newAt _ _ _ _ ?_; first | rfl | (simp; done)) | with_reducible apply Blk.alloc | with_reducible apply Blk.drewN | with_reducible apply Blk.drew | with_reducible apply Blk.set_to | (with_reducible apply Blk.far_; (simp only [ne_eq]; omega)) | rfl)
  have cR0_1 : w1.cell? ⟨w.heap.size, 0, none⟩ = some (.int .i64 0) := BR1.cell 0
  have cR1_1 : w1.cell? ⟨w.heap.size, 1, none⟩ = some (.int .i64 0) := BR1.cell 1
  have lR1 : w.heap.size < w1.heap.size := BR1.lt
  have mR1 : w.heap.size < w1.heap.size + 1 := by omega
  have nR1 : w.heap.size < w1.heap.size + 1 + 1 := by omega
  have fR0_1 := BR1.frozen 0
  have fR1_1 := BR1.frozen 1
  have hs1 : w.heap.size ≤ w1.heap.size := by have h := hb1.size; (try simp at h); omega
  go_wp2_with fail
  refine ret_of (by simp [results, Try.results32, go_sem, *]; repeat' (first | rfl | apply And.intro)) rfl ⟨?_, ?_⟩
  · unfold spS; rw [E9.out]
  · repeat (first | exact Below.refl _ _ | refine below_drewN ?_ _ | refine Below.drew ?_ | refine below_alloc ?_ _ | (refine below_call ?_ (by assumption)) | (refine Below.setCell ?_ ?_ _; rotate_left; (simp; try omega)))
set_option maxHeartbeats 1000000 in
theorem plus_any (a b : Int × Int) (w : World) (ha : ok a) (hb : ok b) :
    Calls Try.prog 34 #[vTm a, vTm b] w fun e w' => e = .returned (vTm (plusS a b)) ∧ Below w.heap.size w w' := by
  obtain ⟨a, a'⟩ := a
  obtain ⟨b, b'⟩ := b
  obtain ⟨a0, a1, a2, a3, _⟩ := ha
  obtain ⟨b0, b1, b2, b3, _⟩ := hb
  simp only at a0 a1 a2 a3 b0 b1 b2 b3
  obtain ⟨m0, m1⟩ := mul_bd a0 (show 0 ≤ b' by omega) a1 b3
  obtain ⟨m2, m3⟩ := mul_bd b0 (show 0 ≤ a' by omega) b1 a3
  obtain ⟨m4, m5⟩ := mul_bd (show 0 ≤ a' by omega) (show 0 ≤ b' by omega) a3 b3
  have E := Lib.hid (show plusS (a, a') (b, b') = tS (a * b' + b * a') (a' * b') from rfl)
  have t0 : Blk (((w.alloc (.cells #[.int .i64 a, .int .i64 a'] 24)).alloc (.cells #[.int .i64 b, .int .i64 b'] 24)).alloc (.cells #[.int .i64 0, .int .i64 0] 24)) (w.heap.size + 1 + 1) 24 #[.int .i64 0, .int .i64 0] := Blk.newAt _ _ _ _ (by simp)
  have k0 : Below w.heap.size w (((w.alloc (.cells #[.int .i64 a, .int .i64 a'] 24)).alloc (.cells #[.int .i64 b, .int .i64 b'] 24)).alloc (.cells #[.int .i64 0, .int .i64 0] 24)) := by repeat (first | exact Below.refl _ _ | refine below_drewN ?_ _ | refine Below.drew ?_ | refine below_alloc ?_ _ | (refine below_call ?_ (by assumption)) | (refine Below.setCell ?_ ?_ _; rotate_left; (simp; try omega)))
  go_enter Try.func34, Try.ntmps34
  go_wp2_with fail
  refine (t_any _ _ _ (by omega) (by omega) (by omega) (by omega)).mono ?_
  rintro e w1 ⟨rfl, hb1⟩
  have t1 := t0.kept hb1
  have c1 := t1.cell; have z1 := t1.lt; have f1 := t1.frozen
  have k1 := below_call k0 hb1
  go_wp2_with fail
  refine ret_of (by simp [results, Try.results34, go_sem, *]; repeat' (first | rfl | apply And.intro)) rfl ⟨?_, by repeat (first | with_reducible exact Below.refl _ _ | with_reducible assumption | with_reducible refine below_drewN ?_ _ | with_reducible refine Below.drew ?_ | with_reducible refine below_alloc ?_ _ | (with_reducible refine Below.setCell ?_ ?_ _; rotate_left; ((try simp only); omega)))⟩
  rw [E.out]
/-- The end of a voice. -/
def endT (l : List Ev) : Int × Int := match l.getLast? with | none => (0, 1) | some x => plusS x.at_ x.dur
theorem plus_of_add {a b t : Int × Int} (h : addS a b = (t.1, t.2, 0)) : ok a ∧ ok b ∧ plusS a b = t := by
  have hb : both a b = 0 := by
    unfold addS at h
    by_cases h1 : both a b = 0
    · exact h1
    · rw [if_pos h1] at h
      simp only [Prod.mk.injEq] at h
      exact absurd h.2.2 h1
  obtain ⟨k1, k2⟩ := both_ok hb
  unfold addS at h
  rw [hb, if_neg (fun h => h rfl)] at h
  have h1 : 0 ≤ a.1 * b.2 := Int.mul_nonneg k1.1 (by have := k2.2.2.1; omega)
  have h2 : 0 ≤ b.1 * a.2 := Int.mul_nonneg k2.1 (by have := k1.2.2.1; omega)
  have h3 : 1 ≤ a.2 * b.2 := by have := Int.mul_le_mul k1.2.2.1 k2.2.2.1 (by omega) (by have := k1.2.2.1; omega); omega
  exact ⟨k1, k2, tS_of (by omega) h3 h⟩
theorem endT_lay {q : Int} (hq : okq q) {l : List (Int × Pay)} (h : fit l) : endT (lay q 0 l) = cq q (sumM l) ∧ ∀ x, (lay q 0 l).getLast? = some x → ok x.at_ ∧ ok x.dur := by
  unfold endT
  cases hx : (lay q 0 l).getLast? with
  | none =>
    have : lay q 0 l = [] := List.getLast?_eq_none_iff.1 hx
    have hl : l = [] := List.eq_nil_of_length_eq_zero (by rw [← lay_len q l 0, this]; rfl)
    subst hl
    exact ⟨by rw [sumM_nil, cq_zero hq.1 hq.2], fun x hx => by cases hx⟩
  | some x =>
    have := lay_last hq l 0 (by omega) h.1 (by have := h.2.1; omega) x hx
    rw [Int.zero_add] at this
    obtain ⟨k1, k2, k3⟩ := plus_of_add this
    exact ⟨k3, fun y hy => by cases hy; exact ⟨k1, k2⟩⟩
set_option maxRecDepth 100000 in
set_option maxHeartbeats 1000000 in
theorem endOf_any (A : Option Addr) (n c : Nat) (l : List Ev) (w : World) (h : Reads w w.heap.size 10 A n (csE l)) (hn : n ≤ 5000) (hok : ∀ x, l.getLast? = some x → ok x.at_ ∧ ok x.dur) :
    Calls Try.prog 33 #[.slice A n c] w fun e w' => e = .returned (vTm (endT l)) ∧ Below w.heap.size w w' := by
  have hl := h.evlen
  have r0 : Blk (w.alloc (.cells #[.int .i64 0, .int .i64 0] 24)) w.heap.size 24 #[.int .i64 0, .int .i64 0] := Blk.new _ _ _
  have k0 : Below w.heap.size w (w.alloc (.cells #[.int .i64 0, .int .i64 0] 24)) := by repeat (first | exact Below.refl _ _ | refine below_drewN ?_ _ | refine Below.drew ?_ | refine below_alloc ?_ _ | (refine below_call ?_ (by assumption)) | (refine Below.setCell ?_ ?_ _; rotate_left; (simp; try omega)))
  cases n with
  | zero =>
    have E := Lib.hid (show endT l = (0, 1) by rw [List.eq_nil_of_length_eq_zero hl]; rfl)
    clear hl hok
    go_enter Try.func33, Try.ntmps33
    go_wp2_with (first | (go_at_call 35; refine (zero_any _).mono ?_; rintro e wn ⟨rfl, hbn⟩; replace rn := Blk.kept (by with_reducible first | exact rn | exact r0 | exact rn.alloc _ | exact r0.alloc _ | exact (rn.alloc _).alloc _ | exact (r0.alloc _).alloc _) hbn; replace en := rn.cell; replace gn := rn.frozen; replace zn := rn.lt; replace kn := below_call (by with_reducible first | exact kn | exact k0 | exact below_alloc kn _ | exact below_alloc k0 _ | exact below_alloc (below_alloc kn _) _ | exact below_alloc (below_alloc k0 _) _) hbn; clear hbn))
    refine ret_of (by simp [results, Try.results33, go_sem, *]; repeat' (first | rfl | apply And.intro)) rfl ⟨?_, by repeat (first | with_reducible exact Below.refl _ _ | with_reducible assumption | with_reducible refine below_drewN ?_ _ | with_reducible refine Below.drew ?_ | with_reducible refine below_alloc ?_ _ | (with_reducible refine Below.setCell ?_ ?_ _; rotate_left; ((try simp only); omega)))⟩
    rw [E.out]
  | succ m =>
    obtain ⟨x, hx⟩ := get_some (l := l) (k := m) (by omega)
    have hlast := getLast_at hl hx
    have E := Lib.hid (show endT l = plusS x.at_ x.dur by unfold endT; rw [hlast])
    obtain ⟨ok1, ok2⟩ := hok x hlast
    clear hok hlast hl
    obtain ⟨b, off, rfl, hab, hcl⟩ := h.ev (Nat.le_refl _) (Below.refl _ _) (Nat.lt_succ_self m) hx
    obtain ⟨⟨a, a'⟩, ⟨d, d'⟩, ⟨p, q, r⟩, rst, sg, ps⟩ := x
    obtain ⟨c0, c1, c2, c3, c4, c5, c6, c7, c8, c9⟩ := ten hcl
    clear hcl hx
    simp only at c0 c1 c2 c3 c4 c5 c6 c7 c8 c9 E ok1 ok2
    have hab1 : b < w.heap.size + 1 := by omega
    have hm1 : IntKind.i64.wrap (((m + 1 : Nat) : Int) - 1) = (m : Int) := by rw [IntWalk.i64_in _ (by omega)]; omega
    have hm2 : (m : Int) < ((m + 1 : Nat) : Int) := by omega
    have hm3 : (0 : Int) ≤ (m : Int) := by omega
    have HP := Lib.hid (fun W => plus_any (a, a') (d, d') W ok1 ok2)
    have hne : ((m + 1 : Nat) == 0) = false := by simp
    go_enter Try.func33, Try.ntmps33
    go_wp2_with fail
    refine wp_region_calm_tail 15 (by kernel_rfl) (by kernel_rfl) ?_
    simp only [List.take_succ_cons, List.take_zero, List.drop_succ_cons, List.drop_zero]
    repeat (go_big_quiet_step ((go_at_call 34; exact calm_call (HP.out _))))
    refine wpQuiet_nil ?_
    intro w2 hb2
    have r2 := r0.kept hb2
    have e2 := r2.cell; have z2 := r2.lt; have f2 := r2.frozen
    have k2 := below_call k0 hb2
    go_wp2
    refine ret_of (by simp [results, Try.results33, go_sem, *]; repeat' (first | rfl | apply And.intro)) rfl ⟨?_, by repeat (first | with_reducible exact Below.refl _ _ | with_reducible assumption | with_reducible refine below_drewN ?_ _ | with_reducible refine Below.drew ?_ | with_reducible refine below_alloc ?_ _ | (with_reducible refine Below.setCell ?_ ?_ _; rotate_left; ((try simp only); omega)))⟩
    rw [E.out]
end Go.Proofs.Ytiphacmmglohaaa
