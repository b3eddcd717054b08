
/- Span, SpanB: one text. -/
import Derived.Test.YtmlcnmnpkemdpaaDoorPlain
import Derived.Test.YtmlcnmnpkemdpaaDoorGround
/- The walks through the functions of the layer span and of its reference: what each returns. -/

namespace Go.Proofs.YtmlcnmnpkemdpaaDoor
open Go.RowKit

set_option maxHeartbeats 400000 in
theorem ratio_any (a b : Int) (w : World) (ha : 0 ≤ a) (ha' : a ≤ 9223372036854775807) (hb : 1 ≤ b) (hb' : b ≤ 9223372036854775807) :
    Calls Tryd.prog 112 #[.int .i64 a, .int .i64 b] w fun e w' => e = .returned (.tuple #[.int .i64 (a / b), .int .i64 (a % b)]) ∧ ∃ n, w' = w.drewN n := by
  go_enter Tryd.func112, Tryd.ntmps112
  go_wp2
  go_region
  go_wp2
  go_ret2
  exact ⟨rfl, 1, rfl⟩

set_option maxHeartbeats 400000 in
theorem divisor_rec (k : Nat) : ∀ (a b : Int) (w : World), b ≤ k → 0 ≤ a → a ≤ 9223372036854775807 → 0 ≤ b → b ≤ 9223372036854775807 →
    Calls Tryd.prog 104 #[.int .i64 a, .int .i64 b] w fun e w' => e = .returned (.int .i64 (gg a b)) ∧ ∃ n, w' = w.drewN n := by
  induction k with
  | zero =>
    intro a b w hk ha ha' hb hb'
    obtain rfl : b = 0 := by omega
    go_enter Tryd.func104, Tryd.ntmps104
    go_wp2_with fail
    go_ret
    exact ⟨ret_int (gg_zero a ha).symm, 0, rfl⟩
  | succ k ih =>
    intro a b w hk ha ha' hb hb'
    by_cases h0 : b = 0
    · subst h0
      go_enter Tryd.func104, Tryd.ntmps104
      go_wp2_with fail
      go_ret
      exact ⟨ret_int (gg_zero a ha).symm, 0, rfl⟩
    · have h1 : 1 ≤ b := by omega
      have hm0 := Int.emod_nonneg a h0
      have hm1 := Int.emod_lt_of_pos a (show 0 < b by omega)
      clear h0
      go_enter Tryd.func104, Tryd.ntmps104
      go_wp2_with (first | (go_at_call 112; refine (ratio_any _ _ _ (by omega) (by omega) (by omega) (by omega)).mono ?_; rintro e w' ⟨rfl, nq, rfl⟩) | (go_at_call 104; refine (ih b (a % b) _ (by omega) (by omega) (by omega) (by omega) (by omega)).mono ?_; rintro e w' ⟨rfl, nr, rfl⟩))
      go_ret
      exact ⟨ret_int (gg_step a b ha hb).symm, _, rfl⟩
theorem divisor_any (a b : Int) (w : World) (ha : 0 ≤ a) (ha' : a ≤ 9223372036854775807) (hb : 0 ≤ b) (hb' : b ≤ 9223372036854775807) :
    Calls Tryd.prog 104 #[.int .i64 a, .int .i64 b] w fun e w' => e = .returned (.int .i64 (gg a b)) ∧ ∃ n, w' = w.drewN n :=
  divisor_rec b.toNat a b w (by omega) ha ha' hb hb'

set_option maxHeartbeats 400000 in
theorem gcd_any (a b : Int) (w : World) (ha : 0 ≤ a) (ha' : a ≤ 9223372036854775807) (hb : 0 ≤ b) (hb' : b ≤ 9223372036854775807) :
    Calls Tryd.prog 94 #[.int .i64 a, .int .i64 b] w fun e w' => e = .returned (.int .i64 (gg a b)) ∧ w = w' := by
  go_enter Tryd.func94, Tryd.ntmps94
  go_wp2
  go_loop [0, 1, 5] (fun x y _ => ∃ p q : Int, 0 ≤ p ∧ p ≤ 9223372036854775807 ∧ 0 ≤ q ∧ q ≤ 9223372036854775807 ∧ x = .int .i64 p ∧ y = .int .i64 q ∧ Hid (gg p q = gg a b)) (fun _ y _ => (intOf y).toNat)
  case atStart => exact ⟨a, b, ha, ha', hb, hb', rfl, rfl, rfl⟩
  case round =>
    obtain ⟨p, q, h1, h2, h3, h4, rfl, rfl, hg⟩ := hrel
    by_cases hq : 0 < q
    · have hm0 := Int.emod_nonneg p (show q ≠ 0 by omega)
      have hm1 := Int.emod_lt_of_pos p hq
      have hs := Lib.hid (gg_step p q h1 h3)
      go_wp2
      go_round
      case rel => exact ⟨q, p % q, by omega, by omega, by omega, by omega, rfl, rfl, hs.out.symm.trans hg.out⟩
      case measure => simp [intOf]; omega
    · obtain rfl : q = 0 := by omega
      go_wp2
      go_ret
      exact ⟨ret_int ((gg_zero p h1).symm.trans hg.out), rfl⟩

set_option maxHeartbeats 400000 in
theorem check_any (n d : Int) (w : World) :
    Calls Tryd.prog 103 #[.agg #[.int .i64 n, .int .i64 d]] w fun e w' => e = .returned (.int .i64 (chk n d)) ∧ Below w.heap.size w w' := by
  go_enter Tryd.func103, Tryd.ntmps103
  go_wp2_with (go_at_call 104; refine (divisor_any _ _ _ (by omega) (by omega) (by omega) (by omega)).mono ?_; rintro e w' ⟨rfl, nq, rfl⟩)
  all_goals
    go_ret
    refine ⟨ret_int ?_, ?_⟩
    · unfold chk; (repeat' split) <;> first | rfl | omega
    · repeat (first | exact Below.refl _ _ | refine below_drewN ?_ _ | refine Below.drew ?_ | refine below_alloc ?_ _ | (refine below_call ?_ (by assumption)) | (refine Below.setCell ?_ ?_ _; rotate_left; (simp; try omega)))

set_option maxHeartbeats 400000 in
theorem refCheck_any (n d : Int) (w : World) :
    Calls Tryd.prog 93 #[.agg #[.int .i64 n, .int .i64 d]] w fun e w' => e = .returned (.int .i64 (chk n d)) ∧ Below w.heap.size w w' := by
  go_enter Tryd.func93, Tryd.ntmps93
  go_wp2_with (go_at_call 94; refine (gcd_any _ _ _ (by omega) (by omega) (by omega) (by omega)).mono ?_; rintro e w' ⟨rfl, rfl⟩)
  all_goals
    go_ret
    refine ⟨ret_int ?_, ?_⟩
    · first
        | (unfold chk; (repeat' split) <;> first | rfl | omega)
        | (have hg : ¬ gg n d = 1 := by simpa using ‹(gg n d != 1) = true›
           have hp := gg_pos n d (.inr (by omega))
           unfold chk; (repeat' split) <;> first | rfl | omega)
        | (have hg : gg n d = 1 := by simpa using ‹(gg n d != 1) = false›
           unfold chk; (repeat' split) <;> first | rfl | omega)
    · repeat (first | exact Below.refl _ _ | refine below_drewN ?_ _ | refine Below.drew ?_ | refine below_alloc ?_ _ | (refine below_call ?_ (by assumption)) | (refine Below.setCell ?_ ?_ _; rotate_left; (simp; try omega)))

set_option maxHeartbeats 400000 in
theorem make_any (n d : Int) (w : World) (hn : n ≤ 9223372036854775807) (hd : d ≤ 9223372036854775807) :
    Calls Tryd.prog 87 #[.int .i64 n, .int .i64 d] w fun e w' => e = .returned (vT (mk n d)) ∧ Below w.heap.size w w' := by
  go_enter Tryd.func87, Tryd.ntmps87
  go_wp2_with (go_at_call 104; refine (divisor_any _ _ _ (by omega) (by omega) (by omega) (by omega)).mono ?_; rintro e w' ⟨rfl, nq, rfl⟩)
  · refine ret_of (by simp [results, Tryd.results87, go_sem]; repeat' (first | rfl | apply And.intro)) rfl ⟨vT_ret ?_, ?_⟩
    · unfold mk; (repeat' split) <;> first | rfl | omega
    · repeat (first | exact Below.refl _ _ | refine below_drewN ?_ _ | refine Below.drew ?_ | refine below_alloc ?_ _ | (refine below_call ?_ (by assumption)) | (refine Below.setCell ?_ ?_ _; rotate_left; (simp; try omega)))
  · refine ret_of (by simp [results, Tryd.results87, go_sem]; repeat' (first | rfl | apply And.intro)) rfl ⟨vT_ret ?_, ?_⟩
    · unfold mk; (repeat' split) <;> first | rfl | omega
    · repeat (first | exact Below.refl _ _ | refine below_drewN ?_ _ | refine Below.drew ?_ | refine below_alloc ?_ _ | (refine below_call ?_ (by assumption)) | (refine Below.setCell ?_ ?_ _; rotate_left; (simp; try omega)))
  · have h0 : d = 0 := by simpa using ‹(d == 0) = true›
    refine ret_of (by simp [results, Tryd.results87, go_sem]; repeat' (first | rfl | apply And.intro)) rfl ⟨vT_ret ?_, ?_⟩
    · unfold mk; (repeat' split) <;> first | rfl | omega
    · repeat (first | exact Below.refl _ _ | refine below_drewN ?_ _ | refine Below.drew ?_ | refine below_alloc ?_ _ | (refine below_call ?_ (by assumption)) | (refine Below.setCell ?_ ?_ _; rotate_left; (simp; try omega)))
  · have h0 : ¬ d = 0 := by simpa using ‹(d == 0) = false›
    have hp := gg_pos n d (.inr (by omega))
    go_region
    go_wp2_with fail
    all_goals
      refine ret_of (by simp [results, Tryd.results87, go_sem]; repeat' (first | rfl | apply And.intro)) rfl ⟨vT_ret ?_, ?_⟩
      · unfold mk ofq; (repeat' split) <;> first | rfl | omega
      · repeat (first | exact Below.refl _ _ | refine below_drewN ?_ _ | refine Below.drew ?_ | refine below_alloc ?_ _ | (refine below_call ?_ (by assumption)) | (refine Below.setCell ?_ ?_ _; rotate_left; (simp; try omega)))

set_option maxHeartbeats 400000 in
theorem of_any (n d : Int) (w : World) (hn0 : 0 ≤ n) (hn : n ≤ 9223372036854775807) (hd0 : 1 ≤ d) (hd : d ≤ 9223372036854775807) :
    Calls Tryd.prog 71 #[.int .i64 n, .int .i64 d] w fun e w' => e = .returned (vT (ofq n d)) ∧ Below w.heap.size w w' := by
  have hp := gg_pos n d (.inr (by omega))
  go_enter Tryd.func71, Tryd.ntmps71
  go_wp2_with (go_at_call 94; refine (gcd_any _ _ _ (by omega) (by omega) (by omega) (by omega)).mono ?_; rintro e w' ⟨rfl, rfl⟩)
  all_goals
    refine ret_of (by simp [results, Tryd.results71, go_sem]; repeat' (first | rfl | apply And.intro)) rfl ⟨vT_ret ?_, ?_⟩
    · unfold ofq; (repeat' split) <;> first | rfl | omega
    · repeat (first | exact Below.refl _ _ | refine below_drewN ?_ _ | refine Below.drew ?_ | refine below_alloc ?_ _ | (refine below_call ?_ (by assumption)) | (refine Below.setCell ?_ ?_ _; rotate_left; (simp; try omega)))

set_option maxHeartbeats 400000 in
theorem first_any (A : Option Addr) (n c : Nat) (l : List (Int × Int)) (B : Nat) (w : World) (h : Reads w B 2 A n (csT l)) (hB : B ≤ w.heap.size) (hn : n ≤ 9223372036854775807) :
    Calls Tryd.prog 86 #[.slice A n c] w fun e w' => e = .returned (.int .i64 (firstS l)) ∧ Below w.heap.size w w' := by
  have hl : l.length = n := h.len (f := cT) (fun _ => rfl) (by omega)
  have HL := Lib.hid hl; clear hl
  go_enter Tryd.func86, Tryd.ntmps86
  go_wp2
  go_loopw [4, 5, 8] (fun _ _ i wr => ∃ k : Nat, k ≤ n ∧ i = .int .i64 k ∧ Hid (firstS (l.drop k) = firstS l) ∧ Below w.heap.size w wr) (fun _ _ i _ => n - (intOf i).toNat)
  case atStart => exact ⟨0, by omega, rfl, rfl, Below.refl _ _⟩
  case round =>
    obtain ⟨k, hk, rfl, hs, hb⟩ := hrel
    by_cases hlt : k < n
    · obtain ⟨⟨p, q⟩, hx⟩ := get_some (l := l) (k := k) (by have := HL.out; omega)
      have HD := Lib.hid (drop_get hx)
      obtain ⟨b, off, rfl, hab, hc⟩ := h.elem (f := cT) (fun _ => rfl) hlt hx
      have c0 := hc 0 _ rfl
      have c1 := hc 1 _ rfl
      rw [← hb.cell (by simp; omega)] at c0 c1
      simp only [Nat.add_zero, ← Nat.add_assoc] at c0 c1
      clear hc hx
      go_wp2_with (go_at_call 103; refine (check_any _ _ _).mono ?_; rintro e w1 ⟨rfl, hb1⟩)
      · go_ret
        have hne : (chk p q != 0) = true := by assumption
        refine ⟨ret_int ?_, ?_⟩
        · rw [← hs.out, HD.out, firstS_bad (by simpa using hne)]
        · exact below_call (below_alloc hb _) hb1
      · go_roundw
        case rel =>
          have hne : (chk p q != 0) = false := by assumption
          refine ⟨k + 1, by omega, by go_num, ?_, below_call (below_alloc hb _) hb1⟩
          have h1 := hs.out
          rw [HD.out, firstS_next (by simpa using hne)] at h1
          exact h1
        case measure => simp [intOf]; omega
    · go_wp2
      go_ret
      refine ⟨ret_int ?_, hb⟩
      rw [← hs.out, List.drop_eq_nil_of_le (by have := HL.out; omega)]; rfl

theorem first_two (a a' b b' : Int) (w : World) (t : TypeId) (g : Nat) (hg : g = w.heap.size) :
    Calls Tryd.prog 86 #[.slice (some ⟨g, 0, none⟩) 2 2] (w.alloc (.cells #[.int .i64 a, .int .i64 a', .int .i64 b, .int .i64 b'] t)) fun e w' => e = .returned (.int .i64 (both (a, a') (b, b'))) ∧ Below (w.alloc (.cells #[.int .i64 a, .int .i64 a', .int .i64 b, .int .i64 b'] t)).heap.size (w.alloc (.cells #[.int .i64 a, .int .i64 a', .int .i64 b, .int .i64 b'] t)) w' := by
  have h := first_any (some ⟨g, 0, none⟩) 2 2 [(a, a'), (b, b')] _ (w.alloc (.cells #[.int .i64 a, .int .i64 a', .int .i64 b, .int .i64 b'] t)) (Reads.newAt _ _ _ _ _ _ hg rfl) (by simp; omega) (by omega)
  rw [firstS_two] at h
  exact h

set_option maxHeartbeats 400000 in
theorem refBoth_any (a b : Int × Int) (w : World) :
    Calls Tryd.prog 70 #[.agg #[.int .i64 a.1, .int .i64 a.2], .agg #[.int .i64 b.1, .int .i64 b.2]] w fun e w' => e = .returned (.int .i64 (both a b)) ∧ Below w.heap.size w w' := by
  obtain ⟨a, a'⟩ := a
  obtain ⟨b, b'⟩ := b
  go_enter Tryd.func70, Tryd.ntmps70
  go_wp2_with (go_at_call 93; refine (refCheck_any _ _ _).mono ?_; rintro e w1 ⟨rfl, hb1⟩; have hc1 := (bcell hb1).1)
  · go_ret
    have hne : (chk a a' != 0) = true := by assumption
    refine ⟨ret_int ?_, ?_⟩
    · unfold both; rw [if_pos (by simpa using hne)]
    · repeat (first | exact Below.refl _ _ | refine below_drewN ?_ _ | refine Below.drew ?_ | refine below_alloc ?_ _ | (refine below_call ?_ (by assumption)) | (refine Below.setCell ?_ ?_ _; rotate_left; (simp; try omega)))
  · go_ret
    have hne : (chk a a' != 0) = false := by assumption
    refine ⟨ret_int ?_, ?_⟩
    · unfold both; rw [if_neg (by simpa using hne)]
    · repeat (first | exact Below.refl _ _ | refine below_drewN ?_ _ | refine Below.drew ?_ | refine below_alloc ?_ _ | (refine below_call ?_ (by assumption)) | (refine Below.setCell ?_ ?_ _; rotate_left; (simp; try omega)))

set_option maxHeartbeats 400000 in
theorem add_any (a b : Int × Int) (w : World) :
    Calls Tryd.prog 83 #[.agg #[.int .i64 a.1, .int .i64 a.2], .agg #[.int .i64 b.1, .int .i64 b.2]] w fun e w' => e = .returned (vT (addS a b)) ∧ Below w.heap.size w w' := by
  obtain ⟨a, a'⟩ := a
  obtain ⟨b, b'⟩ := b
  by_cases hz : both (a, a') (b, b') = 0
  · obtain ⟨⟨a1, a2, a3, a4, a5⟩, ⟨b1, b2, b3, b4, b5⟩⟩ := both_ok hz
    simp only at a1 a2 a3 a4 a5 b1 b2 b3 b4 b5
    have m1 := mul_bd a1 (show 0 ≤ b' by omega) a2 b4
    have m2 := mul_bd b1 (show 0 ≤ a' by omega) b2 a4
    have m3 := mul_bd (show 0 ≤ a' by omega) (show 0 ≤ b' by omega) a4 b4
    have m4 : 1 ≤ a' * b' := by have := Int.mul_le_mul a3 b3 (by omega) (by omega); omega
    have A5 := Lib.hid a5; have B5 := Lib.hid b5; clear a5 b5
    go_enter Tryd.func83, Tryd.ntmps83
    go_wp2_with (first | (go_at_call 86; refine (first_two _ _ _ _ _ _ _ (by simp)).mono ?_; rintro e w1 ⟨rfl, hb1⟩; have hc1 := (bcell hb1).1; have hf1 := (bcell hb1).2) | (go_at_call 87; refine (make_any _ _ _ (by omega) (by omega)).mono ?_; rintro e w2 ⟨rfl, hb2'⟩; have hb2 := below_call hb1 hb2'; clear hb2'; have hc2 := (bcell hb2).1; have hf2 := (bcell hb2).2))
    refine ret_of (by simp [results, Tryd.results83, go_sem, hc2]; repeat' (first | rfl | apply And.intro)) rfl ⟨vT_ret ?_, ?_⟩
    · unfold addS; rw [if_neg (by rw [hz]; exact fun h => h rfl)]
    · repeat (first | exact Below.refl _ _ | refine below_drewN ?_ _ | refine Below.drew ?_ | refine below_alloc ?_ _ | (refine below_call ?_ (by assumption)) | (refine Below.setCell ?_ ?_ _; rotate_left; (simp; try omega)))
  · go_enter Tryd.func83, Tryd.ntmps83
    go_wp2_with ((go_at_call 86; refine (first_two _ _ _ _ _ _ _ (by simp)).mono ?_; rintro e w1 ⟨rfl, hb1⟩; have hc1 := (bcell hb1).1; have hf1 := (bcell hb1).2))
    refine ret_of (by simp [results, Tryd.results83, go_sem, hc1]; repeat' (first | rfl | apply And.intro)) rfl ⟨vT_ret ?_, ?_⟩
    · unfold addS; rw [if_pos hz]
    · repeat (first | exact Below.refl _ _ | refine below_drewN ?_ _ | refine Below.drew ?_ | refine below_alloc ?_ _ | (refine below_call ?_ (by assumption)) | (refine Below.setCell ?_ ?_ _; rotate_left; (simp; try omega)))

set_option maxHeartbeats 400000 in
theorem sub_any (a b : Int × Int) (w : World) :
    Calls Tryd.prog 62 #[.agg #[.int .i64 a.1, .int .i64 a.2], .agg #[.int .i64 b.1, .int .i64 b.2]] w fun e w' => e = .returned (vT (subS a b)) ∧ Below w.heap.size w w' := by
  obtain ⟨a, a'⟩ := a
  obtain ⟨b, b'⟩ := b
  by_cases hz : both (a, a') (b, b') = 0
  · obtain ⟨⟨a1, a2, a3, a4, a5⟩, ⟨b1, b2, b3, b4, b5⟩⟩ := both_ok hz
    simp only at a1 a2 a3 a4 a5 b1 b2 b3 b4 b5
    have m1 := mul_bd a1 (show 0 ≤ b' by omega) a2 b4
    have m2 := mul_bd b1 (show 0 ≤ a' by omega) b2 a4
    have m3 := mul_bd (show 0 ≤ a' by omega) (show 0 ≤ b' by omega) a4 b4
    have m4 : 1 ≤ a' * b' := by have := Int.mul_le_mul a3 b3 (by omega) (by omega); omega
    have A5 := Lib.hid a5; have B5 := Lib.hid b5; clear a5 b5
    go_enter Tryd.func62, Tryd.ntmps62
    go_wp2_with (first | (go_at_call 86; refine (first_two _ _ _ _ _ _ _ (by simp)).mono ?_; rintro e w1 ⟨rfl, hb1⟩; have hc1 := (bcell hb1).1; have hf1 := (bcell hb1).2) | (go_at_call 87; refine (make_any _ _ _ (by omega) (by omega)).mono ?_; rintro e w2 ⟨rfl, hb2'⟩; have hb2 := below_call hb1 hb2'; clear hb2'; have hc2 := (bcell hb2).1; have hf2 := (bcell hb2).2))
    refine ret_of (by simp [results, Tryd.results62, go_sem, hc2]; repeat' (first | rfl | apply And.intro)) rfl ⟨vT_ret ?_, ?_⟩
    · unfold subS; rw [if_neg (by rw [hz]; exact fun h => h rfl)]
    · repeat (first | exact Below.refl _ _ | refine below_drewN ?_ _ | refine Below.drew ?_ | refine below_alloc ?_ _ | (refine below_call ?_ (by assumption)) | (refine Below.setCell ?_ ?_ _; rotate_left; (simp; try omega)))
  · go_enter Tryd.func62, Tryd.ntmps62
    go_wp2_with ((go_at_call 86; refine (first_two _ _ _ _ _ _ _ (by simp)).mono ?_; rintro e w1 ⟨rfl, hb1⟩; have hc1 := (bcell hb1).1; have hf1 := (bcell hb1).2))
    refine ret_of (by simp [results, Tryd.results62, go_sem, hc1]; repeat' (first | rfl | apply And.intro)) rfl ⟨vT_ret ?_, ?_⟩
    · unfold subS; rw [if_pos hz]
    · repeat (first | exact Below.refl _ _ | refine below_drewN ?_ _ | refine Below.drew ?_ | refine below_alloc ?_ _ | (refine below_call ?_ (by assumption)) | (refine Below.setCell ?_ ?_ _; rotate_left; (simp; try omega)))

set_option maxHeartbeats 400000 in
theorem refAdd_any (a b : Int × Int) (w : World) :
    Calls Tryd.prog 92 #[.agg #[.int .i64 a.1, .int .i64 a.2], .agg #[.int .i64 b.1, .int .i64 b.2]] w fun e w' => e = .returned (vT (addS a b)) ∧ Below w.heap.size w w' := by
  obtain ⟨a, a'⟩ := a
  obtain ⟨b, b'⟩ := b
  by_cases hz : both (a, a') (b, b') = 0
  · obtain ⟨⟨a1, a2, a3, a4, a5⟩, ⟨b1, b2, b3, b4, b5⟩⟩ := both_ok hz
    simp only at a1 a2 a3 a4 a5 b1 b2 b3 b4 b5
    have m1 := mul_bd a1 (show 0 ≤ b' by omega) a2 b4
    have m2 := mul_bd b1 (show 0 ≤ a' by omega) b2 a4
    have m3 := mul_bd (show 0 ≤ a' by omega) (show 0 ≤ b' by omega) a4 b4
    have m4 : 1 ≤ a' * b' := by have := Int.mul_le_mul a3 b3 (by omega) (by omega); omega
    have A5 := Lib.hid a5; have B5 := Lib.hid b5; clear a5 b5
    go_enter Tryd.func92, Tryd.ntmps92
    go_wp2_with (first | (go_at_call 70; refine (refBoth_any (_, _) (_, _) _).mono ?_; rintro e w1 ⟨rfl, hb1⟩; have hc1 := (bcell hb1).1; have hf1 := (bcell hb1).2) | (go_at_call 71; refine (of_any _ _ _ (by omega) (by omega) (by omega) (by omega)).mono ?_; rintro e w2 ⟨rfl, hb2'⟩; have hb2 := below_call hb1 hb2'; clear hb2'; have hc2 := (bcell hb2).1; have hf2 := (bcell hb2).2))
    refine ret_of (by simp [results, Tryd.results92, go_sem, hc2]; repeat' (first | rfl | apply And.intro)) rfl ⟨vT_ret ?_, ?_⟩
    · unfold addS; rw [if_neg (by rw [hz]; exact fun h => h rfl), mk_of (by simp only; omega) (by simp only; omega)]
    · repeat (first | exact Below.refl _ _ | refine below_drewN ?_ _ | refine Below.drew ?_ | refine below_alloc ?_ _ | (refine below_call ?_ (by assumption)) | (refine Below.setCell ?_ ?_ _; rotate_left; (simp; try omega)))
  · go_enter Tryd.func92, Tryd.ntmps92
    go_wp2_with ((go_at_call 70; refine (refBoth_any (_, _) (_, _) _).mono ?_; rintro e w1 ⟨rfl, hb1⟩; have hc1 := (bcell hb1).1; have hf1 := (bcell hb1).2))
    refine ret_of (by simp [results, Tryd.results92, go_sem, hc1]; repeat' (first | rfl | apply And.intro)) rfl ⟨vT_ret ?_, ?_⟩
    · unfold addS; rw [if_pos hz]
    · repeat (first | exact Below.refl _ _ | refine below_drewN ?_ _ | refine Below.drew ?_ | refine below_alloc ?_ _ | (refine below_call ?_ (by assumption)) | (refine Below.setCell ?_ ?_ _; rotate_left; (simp; try omega)))

set_option maxHeartbeats 400000 in
theorem refSub_any (a b : Int × Int) (w : World) :
    Calls Tryd.prog 49 #[.agg #[.int .i64 a.1, .int .i64 a.2], .agg #[.int .i64 b.1, .int .i64 b.2]] w fun e w' => e = .returned (vT (subS a b)) ∧ Below w.heap.size w w' := by
  obtain ⟨a, a'⟩ := a
  obtain ⟨b, b'⟩ := b
  by_cases hz : both (a, a') (b, b') = 0
  · obtain ⟨⟨a1, a2, a3, a4, a5⟩, ⟨b1, b2, b3, b4, b5⟩⟩ := both_ok hz
    simp only at a1 a2 a3 a4 a5 b1 b2 b3 b4 b5
    have m1 := mul_bd a1 (show 0 ≤ b' by omega) a2 b4
    have m2 := mul_bd b1 (show 0 ≤ a' by omega) b2 a4
    have m3 := mul_bd (show 0 ≤ a' by omega) (show 0 ≤ b' by omega) a4 b4
    have m4 : 1 ≤ a' * b' := by have := Int.mul_le_mul a3 b3 (by omega) (by omega); omega
    have A5 := Lib.hid a5; have B5 := Lib.hid b5; clear a5 b5
    by_cases hlt : a * b' < b * a'
    · go_enter Tryd.func49, Tryd.ntmps49
      go_wp2_with ((go_at_call 70; refine (refBoth_any (_, _) (_, _) _).mono ?_; rintro e w1 ⟨rfl, hb1⟩; have hc1 := (bcell hb1).1; have hf1 := (bcell hb1).2))
      refine ret_of (by simp [results, Tryd.results49, go_sem, hc1]; repeat' (first | rfl | apply And.intro)) rfl ⟨vT_ret ?_, ?_⟩
      · unfold subS mk; rw [if_neg (by rw [hz]; exact fun h => h rfl), if_pos (by simp only; omega)]
      · repeat (first | exact Below.refl _ _ | refine below_drewN ?_ _ | refine Below.drew ?_ | refine below_alloc ?_ _ | (refine below_call ?_ (by assumption)) | (refine Below.setCell ?_ ?_ _; rotate_left; (simp; try omega)))
    · have hle : b * a' ≤ a * b' := by omega
      clear hlt
      go_enter Tryd.func49, Tryd.ntmps49
      go_wp2_with (first | (go_at_call 70; refine (refBoth_any (_, _) (_, _) _).mono ?_; rintro e w1 ⟨rfl, hb1⟩; have hc1 := (bcell hb1).1; have hf1 := (bcell hb1).2) | (go_at_call 71; refine (of_any _ _ _ (by omega) (by omega) (by omega) (by omega)).mono ?_; rintro e w2 ⟨rfl, hb2'⟩; have hb2 := below_call hb1 hb2'; clear hb2'; have hc2 := (bcell hb2).1; have hf2 := (bcell hb2).2))
      refine ret_of (by simp [results, Tryd.results49, go_sem, hc2]; repeat' (first | rfl | apply And.intro)) rfl ⟨vT_ret ?_, ?_⟩
      · unfold subS; rw [if_neg (by rw [hz]; exact fun h => h rfl), mk_of (by simp only; omega) (by simp only; omega)]
      · repeat (first | exact Below.refl _ _ | refine below_drewN ?_ _ | refine Below.drew ?_ | refine below_alloc ?_ _ | (refine below_call ?_ (by assumption)) | (refine Below.setCell ?_ ?_ _; rotate_left; (simp; try omega)))
  · go_enter Tryd.func49, Tryd.ntmps49
    go_wp2_with ((go_at_call 70; refine (refBoth_any (_, _) (_, _) _).mono ?_; rintro e w1 ⟨rfl, hb1⟩; have hc1 := (bcell hb1).1; have hf1 := (bcell hb1).2))
    refine ret_of (by simp [results, Tryd.results49, go_sem, hc1]; repeat' (first | rfl | apply And.intro)) rfl ⟨vT_ret ?_, ?_⟩
    · unfold subS; rw [if_pos hz]
    · repeat (first | exact Below.refl _ _ | refine below_drewN ?_ _ | refine Below.drew ?_ | refine below_alloc ?_ _ | (refine below_call ?_ (by assumption)) | (refine Below.setCell ?_ ?_ _; rotate_left; (simp; try omega)))

set_option maxHeartbeats 400000 in
theorem cmp_any (a b : Int × Int) (w : World) :
    Calls Tryd.prog 84 #[.agg #[.int .i64 a.1, .int .i64 a.2], .agg #[.int .i64 b.1, .int .i64 b.2]] w fun e w' => e = .returned (.tuple #[.int .i64 (cmpS a b).1, .int .i64 (cmpS a b).2]) ∧ Below w.heap.size w w' := by
  obtain ⟨a, a'⟩ := a
  obtain ⟨b, b'⟩ := b
  by_cases hz : both (a, a') (b, b') = 0
  · obtain ⟨⟨a1, a2, a3, a4, a5⟩, ⟨b1, b2, b3, b4, b5⟩⟩ := both_ok hz
    simp only at a1 a2 a3 a4 a5 b1 b2 b3 b4 b5
    have m1 := mul_bd a1 (show 0 ≤ b' by omega) a2 b4
    have m2 := mul_bd b1 (show 0 ≤ a' by omega) b2 a4
    have m3 := mul_bd (show 0 ≤ a' by omega) (show 0 ≤ b' by omega) a4 b4
    have m4 : 1 ≤ a' * b' := by have := Int.mul_le_mul a3 b3 (by omega) (by omega); omega
    have A5 := Lib.hid a5; have B5 := Lib.hid b5; clear a5 b5
    go_enter Tryd.func84, Tryd.ntmps84
    go_wp2_with ((go_at_call 86; refine (first_two _ _ _ _ _ _ _ (by simp)).mono ?_; rintro e w1 ⟨rfl, hb1⟩; have hc1 := (bcell hb1).1; have hf1 := (bcell hb1).2))
    all_goals
      go_ret2
      refine ⟨?_, ?_⟩
      · unfold cmpS sgn; rw [if_neg (by rw [hz]; exact fun h => h rfl)]; simp only; (repeat' split) <;> first | rfl | omega
      · repeat (first | exact Below.refl _ _ | refine below_drewN ?_ _ | refine Below.drew ?_ | refine below_alloc ?_ _ | (refine below_call ?_ (by assumption)) | (refine Below.setCell ?_ ?_ _; rotate_left; (simp; try omega)))
  · go_enter Tryd.func84, Tryd.ntmps84
    go_wp2_with ((go_at_call 86; refine (first_two _ _ _ _ _ _ _ (by simp)).mono ?_; rintro e w1 ⟨rfl, hb1⟩; have hc1 := (bcell hb1).1; have hf1 := (bcell hb1).2))
    go_ret2
    refine ⟨?_, ?_⟩
    · unfold cmpS; rw [if_pos hz]; rfl
    · repeat (first | exact Below.refl _ _ | refine below_drewN ?_ _ | refine Below.drew ?_ | refine below_alloc ?_ _ | (refine below_call ?_ (by assumption)) | (refine Below.setCell ?_ ?_ _; rotate_left; (simp; try omega)))

set_option maxHeartbeats 400000 in
theorem refCmp_any (a b : Int × Int) (w : World) :
    Calls Tryd.prog 95 #[.agg #[.int .i64 a.1, .int .i64 a.2], .agg #[.int .i64 b.1, .int .i64 b.2]] w fun e w' => e = .returned (.tuple #[.int .i64 (cmpS a b).1, .int .i64 (cmpS a b).2]) ∧ Below w.heap.size w w' := by
  obtain ⟨a, a'⟩ := a
  obtain ⟨b, b'⟩ := b
  by_cases hz : both (a, a') (b, b') = 0
  · obtain ⟨⟨a1, a2, a3, a4, a5⟩, ⟨b1, b2, b3, b4, b5⟩⟩ := both_ok hz
    simp only at a1 a2 a3 a4 a5 b1 b2 b3 b4 b5
    have m1 := mul_bd a1 (show 0 ≤ b' by omega) a2 b4
    have m2 := mul_bd b1 (show 0 ≤ a' by omega) b2 a4
    have m3 := mul_bd (show 0 ≤ a' by omega) (show 0 ≤ b' by omega) a4 b4
    have m4 : 1 ≤ a' * b' := by have := Int.mul_le_mul a3 b3 (by omega) (by omega); omega
    have A5 := Lib.hid a5; have B5 := Lib.hid b5; clear a5 b5
    go_enter Tryd.func95, Tryd.ntmps95
    go_wp2_with ((go_at_call 70; refine (refBoth_any (_, _) (_, _) _).mono ?_; rintro e w1 ⟨rfl, hb1⟩; have hc1 := (bcell hb1).1; have hf1 := (bcell hb1).2))
    go_quiet (fail)
    go_wp2_with fail
    all_goals
      go_ret2
      refine ⟨?_, ?_⟩
      · unfold cmpS sgn; rw [if_neg (by rw [hz]; exact fun h => h rfl)]; simp only; (repeat' split) <;> first | rfl | omega
      · repeat (first | exact Below.refl _ _ | refine below_drewN ?_ _ | refine Below.drew ?_ | refine below_alloc ?_ _ | (refine below_call ?_ (by assumption)) | (refine Below.setCell ?_ ?_ _; rotate_left; (simp; try omega)))
  · go_enter Tryd.func95, Tryd.ntmps95
    go_wp2_with ((go_at_call 70; refine (refBoth_any (_, _) (_, _) _).mono ?_; rintro e w1 ⟨rfl, hb1⟩; have hc1 := (bcell hb1).1; have hf1 := (bcell hb1).2))
    go_ret2
    refine ⟨?_, ?_⟩
    · unfold cmpS; rw [if_pos hz]; rfl
    · repeat (first | exact Below.refl _ _ | refine below_drewN ?_ _ | refine Below.drew ?_ | refine below_alloc ?_ _ | (refine below_call ?_ (by assumption)) | (refine Below.setCell ?_ ?_ _; rotate_left; (simp; try omega)))

theorem quot_le {a b : Int} (ha : 0 ≤ a) (h : 1 ≤ b) : 0 ≤ a / gg a b ∧ a / gg a b ≤ a := by
  have h1 := gg_pos a b (.inr (by omega))
  exact ⟨Int.ediv_nonneg ha (by omega), Int.ediv_le_self _ ha⟩
theorem quot_le' {a b : Int} (hb : 1 ≤ b) : 1 ≤ b / gg a b ∧ b / gg a b ≤ b := ⟨quot_pos hb, Int.ediv_le_self _ (by omega)⟩
/-- The bounds of the two products, once the crosswise shortened factors have passed the test. -/
theorem tms_bd {p q r s : Int} (hp : 0 ≤ p) (hq : 0 ≤ q) (hr : 1 ≤ r) (hs : 1 ≤ s) (h1 : ¬ (0 < p ∧ 1099511627776 / p < q)) (h2 : ¬ (1048576 / s < r)) : 0 ≤ p * q ∧ p * q ≤ 1099511627776 ∧ 1 ≤ r * s ∧ r * s ≤ 1048576 := by
  refine ⟨Int.mul_nonneg hp hq, ?_, ?_, ?_⟩
  · by_cases h0 : 0 < p
    · have h3 : ¬ (1099511627776 < q * p) := fun h4 => h1 ⟨h0, (Int.ediv_lt_iff_lt_mul h0).2 h4⟩
      rw [Int.mul_comm] at h3; omega
    · have : p = 0 := by omega
      rw [this]; simp
  · have := Int.mul_le_mul hr hs (by omega) (by omega); omega
  · have h3 : ¬ (1048576 < r * s) := fun h4 => h2 ((Int.ediv_lt_iff_lt_mul (by omega)).2 h4)
    omega

set_option maxHeartbeats 400000 in
theorem t_any (n d : Int) (w : World) (hn0 : 0 ≤ n) (hn : n ≤ 9223372036854775807) (hd0 : 0 ≤ d) (hd : d ≤ 9223372036854775807) :
    Calls Tryd.prog 25 #[.int .i64 n, .int .i64 d] w fun e w' => e = .returned (.agg #[.int .i64 (tS n d).1, .int .i64 (tS n d).2]) ∧ Below w.heap.size w w' := by
  go_enter Tryd.func25, Tryd.ntmps25
  go_wp2
  go_loop [5, 6, 7] (fun x y _ => ∃ p q : Int, 0 ≤ p ∧ p ≤ 9223372036854775807 ∧ 0 ≤ q ∧ q ≤ 9223372036854775807 ∧ x = .int .i64 p ∧ y = .int .i64 q ∧ Hid (gg p q = gg n d)) (fun _ y _ => (intOf y).toNat)
  case atStart => exact ⟨n, d, hn0, hn, hd0, hd, rfl, rfl, rfl⟩
  case round =>
    obtain ⟨p, q, h1, h2, h3, h4, rfl, rfl, hg⟩ := hrel
    by_cases hq : 0 < q
    · have hm0 := Int.emod_nonneg p (show q ≠ 0 by omega)
      have hm1 := Int.emod_lt_of_pos p hq
      have hs := Lib.hid (gg_step p q h1 h3)
      go_wp2
      go_round
      case rel => exact ⟨q, p % q, by omega, by omega, by omega, by omega, rfl, rfl, hs.out.symm.trans hg.out⟩
      case measure => simp [intOf]; omega
    · obtain rfl : q = 0 := by omega
      have hg2 := Lib.hid ((gg_zero p h1).symm.trans hg.out)
      by_cases hp : p < 1
      · go_wp2
        refine ret_of (by simp [results, Tryd.results25, go_sem]; repeat' (first | rfl | apply And.intro)) rfl ⟨?_, ?_⟩
        · unfold tS; rw [if_pos (by rw [← hg2.out]; exact hp)]
        · repeat (first | exact Below.refl _ _ | refine below_drewN ?_ _ | refine Below.drew ?_ | refine below_alloc ?_ _ | (refine below_call ?_ (by assumption)) | (refine Below.setCell ?_ ?_ _; rotate_left; (simp; try omega)))
      · have hp1 : 1 ≤ p := by omega
        clear hp
        go_wp2
        go_region
        go_wp2
        refine ret_of (by simp [results, Tryd.results25, go_sem]; repeat' (first | rfl | apply And.intro)) rfl ⟨?_, ?_⟩
        · unfold tS; rw [if_neg (by rw [← hg2.out]; omega), ← hg2.out]
        · repeat (first | exact Below.refl _ _ | refine below_drewN ?_ _ | refine Below.drew ?_ | refine below_alloc ?_ _ | (refine below_call ?_ (by assumption)) | (refine Below.setCell ?_ ?_ _; rotate_left; (simp; try omega)))
end Go.Proofs.YtmlcnmnpkemdpaaDoor

/- The walks through the functions of the layer span and of its reference, second part: wholes and sums. -/
namespace Go.Proofs.YtmlcnmnpkemdpaaDoor
open Go.RowKit
@[reducible] def vW (x : Int × Int × Int × Int) : Value := .tuple #[.int .i64 x.1, .agg #[.int .i64 x.2.1, .int .i64 x.2.2.1], .int .i64 x.2.2.2]
theorem vW_ret {x : Int × Int × Int × Int} {q a b c : Int} (h : (q, a, b, c) = x) : Ending.returned (.tuple #[.int .i64 q, .agg #[.int .i64 a, .int .i64 b], .int .i64 c]) = .returned (vW x) := by subst h; rfl

end Go.Proofs.YtmlcnmnpkemdpaaDoor

