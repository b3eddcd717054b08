/- Parts of the proofs of layer 31: Spans, Events, AlMem, Opened. -/
import Derived.Test.YtpkmiegccfhpnaaGreatDoorK02
import Derived.Test.YtpkmiegccfhpnaaGreatDoorK01
import Derived.ProofKit
import Derived.OpenShut
import Derived.Deep.Slices
import Derived.Deep.Fields
import Derived.ChangeSame
import Derived.ChangeArms
import Derived.BigRegion
import Derived.Laws.OwnMore
import Derived.Deep.AppendLies
import Derived.ArgAppend
import Derived.Test.YtpkmiegccfhpnaaGreatDoorRows
import Derived.Stop.Joined
import Derived.WalkKit
import Derived.ChangeOld
import Derived.Below
import Derived.Lib.SmallJoins
/- The walks through the functions of the layer span and of its reference: what each returns. -/

namespace Go.Proofs.YtpkmiegccfhpnaaGreatDoor
open Go.RowKit

set_option maxHeartbeats 400000 in
theorem ratio_any (a b : Int) (w : World) (ha : 0 ≤ a) (ha' : a ≤ 9223372036854775807) (hb : 1 ≤ b) (hb' : b ≤ 9223372036854775807) :
    Calls Tryz.prog 150 #[.int .i64 a, .int .i64 b] w fun e w' => e = .returned (.tuple #[.int .i64 (a / b), .int .i64 (a % b)]) ∧ ∃ n, w' = w.drewN n := by
  go_enter Tryz.func150, Tryz.ntmps150
  go_wp2
  go_region
  go_wp2
  go_ret2
  exact ⟨rfl, 1, rfl⟩

set_option maxHeartbeats 400000 in
theorem divisor_rec (k : Nat) : ∀ (a b : Int) (w : World), b ≤ k → 0 ≤ a → a ≤ 9223372036854775807 → 0 ≤ b → b ≤ 9223372036854775807 →
    Calls Tryz.prog 132 #[.int .i64 a, .int .i64 b] w fun e w' => e = .returned (.int .i64 (gg a b)) ∧ ∃ n, w' = w.drewN n := by
  induction k with
  | zero =>
    intro a b w hk ha ha' hb hb'
    obtain rfl : b = 0 := by omega
    go_enter Tryz.func132, Tryz.ntmps132
    go_wp2_with fail
    go_ret
    exact ⟨ret_int (gg_zero a ha).symm, 0, rfl⟩
  | succ k ih =>
    intro a b w hk ha ha' hb hb'
    by_cases h0 : b = 0
    · subst h0
      go_enter Tryz.func132, Tryz.ntmps132
      go_wp2_with fail
      go_ret
      exact ⟨ret_int (gg_zero a ha).symm, 0, rfl⟩
    · have h1 : 1 ≤ b := by omega
      have hm0 := Int.emod_nonneg a h0
      have hm1 := Int.emod_lt_of_pos a (show 0 < b by omega)
      clear h0
      go_enter Tryz.func132, Tryz.ntmps132
      go_wp2_with (first | (go_at_call 150; refine (ratio_any _ _ _ (by omega) (by omega) (by omega) (by omega)).mono ?_; rintro e w' ⟨rfl, nq, rfl⟩) | (go_at_call 132; refine (ih b (a % b) _ (by omega) (by omega) (by omega) (by omega) (by omega)).mono ?_; rintro e w' ⟨rfl, nr, rfl⟩))
      go_ret
      exact ⟨ret_int (gg_step a b ha hb).symm, _, rfl⟩
theorem divisor_any (a b : Int) (w : World) (ha : 0 ≤ a) (ha' : a ≤ 9223372036854775807) (hb : 0 ≤ b) (hb' : b ≤ 9223372036854775807) :
    Calls Tryz.prog 132 #[.int .i64 a, .int .i64 b] w fun e w' => e = .returned (.int .i64 (gg a b)) ∧ ∃ n, w' = w.drewN n :=
  divisor_rec b.toNat a b w (by omega) ha ha' hb hb'

set_option maxHeartbeats 400000 in
theorem check_any (n d : Int) (w : World) :
    Calls Tryz.prog 131 #[.agg #[.int .i64 n, .int .i64 d]] w fun e w' => e = .returned (.int .i64 (chk n d)) ∧ Below w.heap.size w w' := by
  go_enter Tryz.func131, Tryz.ntmps131
  go_wp2_with (go_at_call 132; refine (divisor_any _ _ _ (by omega) (by omega) (by omega) (by omega)).mono ?_; rintro e w' ⟨rfl, nq, rfl⟩)
  all_goals
    go_ret
    refine ⟨ret_int ?_, ?_⟩
    · unfold chk; (repeat' split) <;> first | rfl | omega
    · repeat (first | exact Below.refl _ _ | refine below_drewN ?_ _ | refine Below.drew ?_ | refine below_alloc ?_ _ | (refine below_call ?_ (by assumption)) | (refine Below.setCell ?_ ?_ _; rotate_left; (simp; try omega)))

set_option maxHeartbeats 400000 in
theorem make_any (n d : Int) (w : World) (hn : n ≤ 9223372036854775807) (hd : d ≤ 9223372036854775807) :
    Calls Tryz.prog 101 #[.int .i64 n, .int .i64 d] w fun e w' => e = .returned (vT (mk n d)) ∧ Below w.heap.size w w' := by
  go_enter Tryz.func101, Tryz.ntmps101
  go_wp2_with (go_at_call 132; refine (divisor_any _ _ _ (by omega) (by omega) (by omega) (by omega)).mono ?_; rintro e w' ⟨rfl, nq, rfl⟩)
  · refine ret_of (by simp [results, Tryz.results101, go_sem]; repeat' (first | rfl | apply And.intro)) rfl ⟨vT_ret ?_, ?_⟩
    · unfold mk; (repeat' split) <;> first | rfl | omega
    · repeat (first | exact Below.refl _ _ | refine below_drewN ?_ _ | refine Below.drew ?_ | refine below_alloc ?_ _ | (refine below_call ?_ (by assumption)) | (refine Below.setCell ?_ ?_ _; rotate_left; (simp; try omega)))
  · refine ret_of (by simp [results, Tryz.results101, go_sem]; repeat' (first | rfl | apply And.intro)) rfl ⟨vT_ret ?_, ?_⟩
    · unfold mk; (repeat' split) <;> first | rfl | omega
    · repeat (first | exact Below.refl _ _ | refine below_drewN ?_ _ | refine Below.drew ?_ | refine below_alloc ?_ _ | (refine below_call ?_ (by assumption)) | (refine Below.setCell ?_ ?_ _; rotate_left; (simp; try omega)))
  · have h0 : d = 0 := by simpa using ‹(d == 0) = true›
    refine ret_of (by simp [results, Tryz.results101, go_sem]; repeat' (first | rfl | apply And.intro)) rfl ⟨vT_ret ?_, ?_⟩
    · unfold mk; (repeat' split) <;> first | rfl | omega
    · repeat (first | exact Below.refl _ _ | refine below_drewN ?_ _ | refine Below.drew ?_ | refine below_alloc ?_ _ | (refine below_call ?_ (by assumption)) | (refine Below.setCell ?_ ?_ _; rotate_left; (simp; try omega)))
  · have h0 : ¬ d = 0 := by simpa using ‹(d == 0) = false›
    have hp := gg_pos n d (.inr (by omega))
    go_region
    go_wp2_with fail
    all_goals
      refine ret_of (by simp [results, Tryz.results101, go_sem]; repeat' (first | rfl | apply And.intro)) rfl ⟨vT_ret ?_, ?_⟩
      · unfold mk ofq; (repeat' split) <;> first | rfl | omega
      · repeat (first | exact Below.refl _ _ | refine below_drewN ?_ _ | refine Below.drew ?_ | refine below_alloc ?_ _ | (refine below_call ?_ (by assumption)) | (refine Below.setCell ?_ ?_ _; rotate_left; (simp; try omega)))

set_option maxHeartbeats 400000 in
theorem first_any (A : Option Addr) (n c : Nat) (l : List (Int × Int)) (B : Nat) (w : World) (h : Reads w B 2 A n (csT l)) (hB : B ≤ w.heap.size) (hn : n ≤ 9223372036854775807) :
    Calls Tryz.prog 100 #[.slice A n c] w fun e w' => e = .returned (.int .i64 (firstS l)) ∧ Below w.heap.size w w' := by
  have hl : l.length = n := h.len (f := cT) (fun _ => rfl) (by omega)
  have HL := Lib.hid hl; clear hl
  go_enter Tryz.func100, Tryz.ntmps100
  go_wp2
  go_loopw [4, 5, 8] (fun _ _ i wr => ∃ k : Nat, k ≤ n ∧ i = .int .i64 k ∧ Hid (firstS (l.drop k) = firstS l) ∧ Below w.heap.size w wr) (fun _ _ i _ => n - (intOf i).toNat)
  case atStart => exact ⟨0, by omega, rfl, rfl, Below.refl _ _⟩
  case round =>
    obtain ⟨k, hk, rfl, hs, hb⟩ := hrel
    by_cases hlt : k < n
    · obtain ⟨⟨p, q⟩, hx⟩ := get_some (l := l) (k := k) (by have := HL.out; omega)
      have HD := Lib.hid (drop_get hx)
      obtain ⟨b, off, rfl, hab, hc⟩ := h.elem (f := cT) (fun _ => rfl) hlt hx
      have c0 := hc 0 _ rfl
      have c1 := hc 1 _ rfl
      rw [← hb.cell (by simp; omega)] at c0 c1
      simp only [Nat.add_zero, ← Nat.add_assoc] at c0 c1
      clear hc hx
      go_wp2_with (go_at_call 131; refine (check_any _ _ _).mono ?_; rintro e w1 ⟨rfl, hb1⟩)
      · go_ret
        have hne : (chk p q != 0) = true := by assumption
        refine ⟨ret_int ?_, ?_⟩
        · rw [← hs.out, HD.out, firstS_bad (by simpa using hne)]
        · exact below_call (below_alloc hb _) hb1
      · go_roundw
        case rel =>
          have hne : (chk p q != 0) = false := by assumption
          refine ⟨k + 1, by omega, by go_num, ?_, below_call (below_alloc hb _) hb1⟩
          have h1 := hs.out
          rw [HD.out, firstS_next (by simpa using hne)] at h1
          exact h1
        case measure => simp [intOf]; omega
    · go_wp2
      go_ret
      refine ⟨ret_int ?_, hb⟩
      rw [← hs.out, List.drop_eq_nil_of_le (by have := HL.out; omega)]; rfl

theorem first_two (a a' b b' : Int) (w : World) (t : TypeId) (g : Nat) (hg : g = w.heap.size) :
    Calls Tryz.prog 100 #[.slice (some ⟨g, 0, none⟩) 2 2] (w.alloc (.cells #[.int .i64 a, .int .i64 a', .int .i64 b, .int .i64 b'] t)) fun e w' => e = .returned (.int .i64 (both (a, a') (b, b'))) ∧ Below (w.alloc (.cells #[.int .i64 a, .int .i64 a', .int .i64 b, .int .i64 b'] t)).heap.size (w.alloc (.cells #[.int .i64 a, .int .i64 a', .int .i64 b, .int .i64 b'] t)) w' := by
  have h := first_any (some ⟨g, 0, none⟩) 2 2 [(a, a'), (b, b')] _ (w.alloc (.cells #[.int .i64 a, .int .i64 a', .int .i64 b, .int .i64 b'] t)) (Reads.newAt _ _ _ _ _ _ hg rfl) (by simp; omega) (by omega)
  rw [firstS_two] at h
  exact h

set_option maxHeartbeats 400000 in
theorem add_any (a b : Int × Int) (w : World) :
    Calls Tryz.prog 98 #[.agg #[.int .i64 a.1, .int .i64 a.2], .agg #[.int .i64 b.1, .int .i64 b.2]] w fun e w' => e = .returned (vT (addS a b)) ∧ Below w.heap.size w w' := by
  obtain ⟨a, a'⟩ := a
  obtain ⟨b, b'⟩ := b
  by_cases hz : both (a, a') (b, b') = 0
  · obtain ⟨⟨a1, a2, a3, a4, a5⟩, ⟨b1, b2, b3, b4, b5⟩⟩ := both_ok hz
    simp only at a1 a2 a3 a4 a5 b1 b2 b3 b4 b5
    have m1 := mul_bd a1 (show 0 ≤ b' by omega) a2 b4
    have m2 := mul_bd b1 (show 0 ≤ a' by omega) b2 a4
    have m3 := mul_bd (show 0 ≤ a' by omega) (show 0 ≤ b' by omega) a4 b4
    have m4 : 1 ≤ a' * b' := by have := Int.mul_le_mul a3 b3 (by omega) (by omega); omega
    have A5 := Lib.hid a5; have B5 := Lib.hid b5; clear a5 b5
    go_enter Tryz.func98, Tryz.ntmps98
    go_wp2_with (first | (go_at_call 100; refine (first_two _ _ _ _ _ _ _ (by simp)).mono ?_; rintro e w1 ⟨rfl, hb1⟩; have hc1 := (bcell hb1).1; have hf1 := (bcell hb1).2) | (go_at_call 101; refine (make_any _ _ _ (by omega) (by omega)).mono ?_; rintro e w2 ⟨rfl, hb2'⟩; have hb2 := below_call hb1 hb2'; clear hb2'; have hc2 := (bcell hb2).1; have hf2 := (bcell hb2).2))
    refine ret_of (by simp [results, Tryz.results98, go_sem, hc2]; repeat' (first | rfl | apply And.intro)) rfl ⟨vT_ret ?_, ?_⟩
    · unfold addS; rw [if_neg (by rw [hz]; exact fun h => h rfl)]
    · repeat (first | exact Below.refl _ _ | refine below_drewN ?_ _ | refine Below.drew ?_ | refine below_alloc ?_ _ | (refine below_call ?_ (by assumption)) | (refine Below.setCell ?_ ?_ _; rotate_left; (simp; try omega)))
  · go_enter Tryz.func98, Tryz.ntmps98
    go_wp2_with ((go_at_call 100; refine (first_two _ _ _ _ _ _ _ (by simp)).mono ?_; rintro e w1 ⟨rfl, hb1⟩; have hc1 := (bcell hb1).1; have hf1 := (bcell hb1).2))
    refine ret_of (by simp [results, Tryz.results98, go_sem, hc1]; repeat' (first | rfl | apply And.intro)) rfl ⟨vT_ret ?_, ?_⟩
    · unfold addS; rw [if_pos hz]
    · repeat (first | exact Below.refl _ _ | refine below_drewN ?_ _ | refine Below.drew ?_ | refine below_alloc ?_ _ | (refine below_call ?_ (by assumption)) | (refine Below.setCell ?_ ?_ _; rotate_left; (simp; try omega)))

set_option maxHeartbeats 400000 in
theorem sub_any (a b : Int × Int) (w : World) :
    Calls Tryz.prog 73 #[.agg #[.int .i64 a.1, .int .i64 a.2], .agg #[.int .i64 b.1, .int .i64 b.2]] w fun e w' => e = .returned (vT (subS a b)) ∧ Below w.heap.size w w' := by
  obtain ⟨a, a'⟩ := a
  obtain ⟨b, b'⟩ := b
  by_cases hz : both (a, a') (b, b') = 0
  · obtain ⟨⟨a1, a2, a3, a4, a5⟩, ⟨b1, b2, b3, b4, b5⟩⟩ := both_ok hz
    simp only at a1 a2 a3 a4 a5 b1 b2 b3 b4 b5
    have m1 := mul_bd a1 (show 0 ≤ b' by omega) a2 b4
    have m2 := mul_bd b1 (show 0 ≤ a' by omega) b2 a4
    have m3 := mul_bd (show 0 ≤ a' by omega) (show 0 ≤ b' by omega) a4 b4
    have m4 : 1 ≤ a' * b' := by have := Int.mul_le_mul a3 b3 (by omega) (by omega); omega
    have A5 := Lib.hid a5; have B5 := Lib.hid b5; clear a5 b5
    go_enter Tryz.func73, Tryz.ntmps73
    go_wp2_with (first | (go_at_call 100; refine (first_two _ _ _ _ _ _ _ (by simp)).mono ?_; rintro e w1 ⟨rfl, hb1⟩; have hc1 := (bcell hb1).1; have hf1 := (bcell hb1).2) | (go_at_call 101; refine (make_any _ _ _ (by omega) (by omega)).mono ?_; rintro e w2 ⟨rfl, hb2'⟩; have hb2 := below_call hb1 hb2'; clear hb2'; have hc2 := (bcell hb2).1; have hf2 := (bcell hb2).2))
    refine ret_of (by simp [results, Tryz.results73, go_sem, hc2]; repeat' (first | rfl | apply And.intro)) rfl ⟨vT_ret ?_, ?_⟩
    · unfold subS; rw [if_neg (by rw [hz]; exact fun h => h rfl)]
    · repeat (first | exact Below.refl _ _ | refine below_drewN ?_ _ | refine Below.drew ?_ | refine below_alloc ?_ _ | (refine below_call ?_ (by assumption)) | (refine Below.setCell ?_ ?_ _; rotate_left; (simp; try omega)))
  · go_enter Tryz.func73, Tryz.ntmps73
    go_wp2_with ((go_at_call 100; refine (first_two _ _ _ _ _ _ _ (by simp)).mono ?_; rintro e w1 ⟨rfl, hb1⟩; have hc1 := (bcell hb1).1; have hf1 := (bcell hb1).2))
    refine ret_of (by simp [results, Tryz.results73, go_sem, hc1]; repeat' (first | rfl | apply And.intro)) rfl ⟨vT_ret ?_, ?_⟩
    · unfold subS; rw [if_pos hz]
    · repeat (first | exact Below.refl _ _ | refine below_drewN ?_ _ | refine Below.drew ?_ | refine below_alloc ?_ _ | (refine below_call ?_ (by assumption)) | (refine Below.setCell ?_ ?_ _; rotate_left; (simp; try omega)))

set_option maxHeartbeats 400000 in
theorem cmp_any (a b : Int × Int) (w : World) :
    Calls Tryz.prog 102 #[.agg #[.int .i64 a.1, .int .i64 a.2], .agg #[.int .i64 b.1, .int .i64 b.2]] w fun e w' => e = .returned (.tuple #[.int .i64 (cmpS a b).1, .int .i64 (cmpS a b).2]) ∧ Below w.heap.size w w' := by
  obtain ⟨a, a'⟩ := a
  obtain ⟨b, b'⟩ := b
  by_cases hz : both (a, a') (b, b') = 0
  · obtain ⟨⟨a1, a2, a3, a4, a5⟩, ⟨b1, b2, b3, b4, b5⟩⟩ := both_ok hz
    simp only at a1 a2 a3 a4 a5 b1 b2 b3 b4 b5
    have m1 := mul_bd a1 (show 0 ≤ b' by omega) a2 b4
    have m2 := mul_bd b1 (show 0 ≤ a' by omega) b2 a4
    have m3 := mul_bd (show 0 ≤ a' by omega) (show 0 ≤ b' by omega) a4 b4
    have m4 : 1 ≤ a' * b' := by have := Int.mul_le_mul a3 b3 (by omega) (by omega); omega
    have A5 := Lib.hid a5; have B5 := Lib.hid b5; clear a5 b5
    go_enter Tryz.func102, Tryz.ntmps102
    go_wp2_with ((go_at_call 100; refine (first_two _ _ _ _ _ _ _ (by simp)).mono ?_; rintro e w1 ⟨rfl, hb1⟩; have hc1 := (bcell hb1).1; have hf1 := (bcell hb1).2))
    all_goals
      go_ret2
      refine ⟨?_, ?_⟩
      · unfold cmpS sgn; rw [if_neg (by rw [hz]; exact fun h => h rfl)]; simp only; (repeat' split) <;> first | rfl | omega
      · repeat (first | exact Below.refl _ _ | refine below_drewN ?_ _ | refine Below.drew ?_ | refine below_alloc ?_ _ | (refine below_call ?_ (by assumption)) | (refine Below.setCell ?_ ?_ _; rotate_left; (simp; try omega)))
  · go_enter Tryz.func102, Tryz.ntmps102
    go_wp2_with ((go_at_call 100; refine (first_two _ _ _ _ _ _ _ (by simp)).mono ?_; rintro e w1 ⟨rfl, hb1⟩; have hc1 := (bcell hb1).1; have hf1 := (bcell hb1).2))
    go_ret2
    refine ⟨?_, ?_⟩
    · unfold cmpS; rw [if_pos hz]; rfl
    · repeat (first | exact Below.refl _ _ | refine below_drewN ?_ _ | refine Below.drew ?_ | refine below_alloc ?_ _ | (refine below_call ?_ (by assumption)) | (refine Below.setCell ?_ ?_ _; rotate_left; (simp; try omega)))

set_option maxHeartbeats 400000 in
theorem t_any (n d : Int) (w : World) (hn0 : 0 ≤ n) (hn : n ≤ 9223372036854775807) (hd0 : 0 ≤ d) (hd : d ≤ 9223372036854775807) :
    Calls Tryz.prog 39 #[.int .i64 n, .int .i64 d] w fun e w' => e = .returned (.agg #[.int .i64 (tS n d).1, .int .i64 (tS n d).2]) ∧ Below w.heap.size w w' := by
  go_enter Tryz.func39, Tryz.ntmps39
  go_wp2
  go_loop [5, 6, 7] (fun x y _ => ∃ p q : Int, 0 ≤ p ∧ p ≤ 9223372036854775807 ∧ 0 ≤ q ∧ q ≤ 9223372036854775807 ∧ x = .int .i64 p ∧ y = .int .i64 q ∧ Hid (gg p q = gg n d)) (fun _ y _ => (intOf y).toNat)
  case atStart => exact ⟨n, d, hn0, hn, hd0, hd, rfl, rfl, rfl⟩
  case round =>
    obtain ⟨p, q, h1, h2, h3, h4, rfl, rfl, hg⟩ := hrel
    by_cases hq : 0 < q
    · have hm0 := Int.emod_nonneg p (show q ≠ 0 by omega)
      have hm1 := Int.emod_lt_of_pos p hq
      have hs := Lib.hid (gg_step p q h1 h3)
      go_wp2
      go_round
      case rel => exact ⟨q, p % q, by omega, by omega, by omega, by omega, rfl, rfl, hs.out.symm.trans hg.out⟩
      case measure => simp [intOf]; omega
    · obtain rfl : q = 0 := by omega
      have hg2 := Lib.hid ((gg_zero p h1).symm.trans hg.out)
      by_cases hp : p < 1
      · go_wp2
        refine ret_of (by simp [results, Tryz.results39, go_sem]; repeat' (first | rfl | apply And.intro)) rfl ⟨?_, ?_⟩
        · unfold tS; rw [if_pos (by rw [← hg2.out]; exact hp)]
        · repeat (first | exact Below.refl _ _ | refine below_drewN ?_ _ | refine Below.drew ?_ | refine below_alloc ?_ _ | (refine below_call ?_ (by assumption)) | (refine Below.setCell ?_ ?_ _; rotate_left; (simp; try omega)))
      · have hp1 : 1 ≤ p := by omega
        clear hp
        go_wp2
        go_region
        go_wp2
        refine ret_of (by simp [results, Tryz.results39, go_sem]; repeat' (first | rfl | apply And.intro)) rfl ⟨?_, ?_⟩
        · unfold tS; rw [if_neg (by rw [← hg2.out]; omega), ← hg2.out]
        · repeat (first | exact Below.refl _ _ | refine below_drewN ?_ _ | refine Below.drew ?_ | refine below_alloc ?_ _ | (refine below_call ?_ (by assumption)) | (refine Below.setCell ?_ ?_ _; rotate_left; (simp; try omega)))
end Go.Proofs.YtpkmiegccfhpnaaGreatDoor

/- The walks through the functions of the layer span and of its reference, second part: wholes and sums. -/
namespace Go.Proofs.YtpkmiegccfhpnaaGreatDoor
open Go.RowKit
@[reducible] def vW (x : Int × Int × Int × Int) : Value := .tuple #[.int .i64 x.1, .agg #[.int .i64 x.2.1, .int .i64 x.2.2.1], .int .i64 x.2.2.2]
end Go.Proofs.YtpkmiegccfhpnaaGreatDoor
/- The walks through the checks of pitches and events, the program's and the reference's. -/

namespace Go.Proofs.YtpkmiegccfhpnaaGreatDoor
open Go.RowKit
@[reducible] def vP (p : Int × Int × Int) : Value := .agg #[.int .i64 p.1, .int .i64 p.2.1, .int .i64 p.2.2]
@[reducible] def vTm (t : Int × Int) : Value := .agg #[.int .i64 t.1, .int .i64 t.2]
@[reducible] def vE (x : Ev) : Value := .agg #[.int .i64 x.at_.1, .int .i64 x.at_.2, .int .i64 x.dur.1, .int .i64 x.dur.2, .int .i64 x.pit.1, .int .i64 x.pit.2.1, .int .i64 x.pit.2.2, .bool x.rest, .int .i64 x.sign, .int .i64 x.pass]
/-- The cells of an event, and of a list of events. -/
def cE (x : Ev) : List Value := [.int .i64 x.at_.1, .int .i64 x.at_.2, .int .i64 x.dur.1, .int .i64 x.dur.2, .int .i64 x.pit.1, .int .i64 x.pit.2.1, .int .i64 x.pit.2.2, .bool x.rest, .int .i64 x.sign, .int .i64 x.pass]
def csE (l : List Ev) : List Value := l.flatMap cE

set_option maxHeartbeats 400000 in
theorem pcheck_any (p : Int × Int × Int) (w : World) :
    Calls Tryz.prog 120 #[vP p] w fun e w' => e = .returned (.int .i64 (pchk p)) ∧ Below w.heap.size w w' := by
  obtain ⟨a, b, c⟩ := p
  go_enter Tryz.func120, Tryz.ntmps120
  go_wp2
  all_goals
    go_ret
    refine ⟨ret_int ?_, ?_⟩
    · unfold pchk; first | rw [if_pos (by simp only; omega)] | rw [if_neg (by simp only; omega)]
    · repeat (first | exact Below.refl _ _ | refine below_drewN ?_ _ | refine Below.drew ?_ | refine below_alloc ?_ _ | (refine below_call ?_ (by assumption)) | (refine Below.setCell ?_ ?_ _; rotate_left; (simp; try omega)))
set_option maxHeartbeats 400000 in
theorem evZero_any (w : World) : Calls Tryz.prog 96 #[] w fun e w' => e = .returned (.agg #[.int .i64 0, .int .i64 1]) ∧ Below w.heap.size w w' := by
  go_enter Tryz.func96, Tryz.ntmps96
  go_wp2
  refine ret_of (by simp [results, Tryz.results96, go_sem]; repeat' (first | rfl | apply And.intro)) rfl ⟨rfl, ?_⟩
  repeat (first | exact Below.refl _ _ | refine below_drewN ?_ _ | refine Below.drew ?_ | refine below_alloc ?_ _ | (refine below_call ?_ (by assumption)) | (refine Below.setCell ?_ ?_ _; rotate_left; (simp; try omega)))
set_option maxRecDepth 100000 in
set_option maxHeartbeats 1000000 in
theorem one_any (x : Ev) (w : World) :
    Calls Tryz.prog 97 #[vE x] w fun e w' => e = .returned (.int .i64 (oneS x)) ∧ Below w.heap.size w w' := by
  obtain ⟨⟨a, a'⟩, ⟨d, d'⟩, ⟨p, q, r⟩, rst, sg, ps⟩ := x
  dsimp only [vE]
  go_enter Tryz.func97, Tryz.ntmps97
  go_wp2
  go_loopw [4, 5, 13] (fun _ _ i wr => ∃ k : Nat, k ≤ 2 ∧ i = .int .i64 k ∧ Hid (1 ≤ k → chk a a' = 0) ∧ Hid (2 ≤ k → chk d d' = 0) ∧ Below w.heap.size w wr ∧ Blk wr w.heap.size 49 #[.int .i64 a, .int .i64 a', .int .i64 d, .int .i64 d', .int .i64 p, .int .i64 q, .int .i64 r, .bool rst, .int .i64 sg, .int .i64 ps] ∧ Blk wr (w.heap.size + 1) 45 #[.int .i64 a, .int .i64 a', .int .i64 d, .int .i64 d']) (fun _ _ i _ => 2 - (intOf i).toNat)
  case atStart => exact ⟨0, by omega, rfl, Lib.hid (by omega), Lib.hid (by omega), by repeat (first | exact Below.refl _ _ | refine below_drewN ?_ _ | refine Below.drew ?_ | refine below_alloc ?_ _ | (refine below_call ?_ (by assumption)) | (refine Below.setCell ?_ ?_ _; rotate_left; (simp; try omega))), (Blk.new _ _ _).alloc _, Blk.newAt _ _ _ _ (by simp)⟩
  case round =>
    obtain ⟨k, hk, rfl, h1, h2, k0, r0, s0⟩ := hrel
    have en := r0.cell; have gn := r0.frozen; have zn := r0.lt
    have fn := s0.cell; have hn := s0.frozen; have yn := s0.lt
    obtain rfl | rfl | rfl : k = 0 ∨ k = 1 ∨ k = 2 := by omega
    · go_wp2_with (go_at_call 131; refine (check_any _ _ _).mono ?_; rintro e wn ⟨rfl, hbn⟩; replace rn := Blk.kept (by with_reducible first | exact rn | exact r0 | exact rn.alloc _ | exact r0.alloc _ | exact (rn.alloc _).alloc _ | exact (r0.alloc _).alloc _) hbn; replace en := rn.cell; replace gn := rn.frozen; replace zn := rn.lt; replace sn := Blk.kept (by with_reducible first | exact sn | exact s0 | exact sn.alloc _ | exact s0.alloc _ | exact (sn.alloc _).alloc _ | exact (s0.alloc _).alloc _) hbn; replace fn := sn.cell; replace hn := sn.frozen; replace yn := sn.lt; replace kn := below_call (by with_reducible first | exact kn | exact k0 | exact below_alloc kn _ | exact below_alloc k0 _ | exact below_alloc (below_alloc kn _) _ | exact below_alloc (below_alloc k0 _) _) hbn; clear hbn)
      · go_ret
        refine ⟨ret_int ?_, by repeat (first | exact Below.refl _ _ | assumption | refine below_drewN ?_ _ | refine Below.drew ?_ | refine below_alloc ?_ _ | (refine below_call ?_ (by assumption)) | (refine Below.setCell ?_ ?_ _; rotate_left; (simp; try omega)))⟩
        have hne : (chk a a' != 0) = true := by assumption
        unfold oneS; rw [if_pos (by simpa using hne)]
      · go_roundw
        case rel =>
          have hne : (chk a a' != 0) = false := by assumption
          exact ⟨1, by omega, rfl, Lib.hid (fun _ => by simpa using hne), Lib.hid (by omega), kn, rn, sn⟩
        case measure => simp [intOf]
    · have ha := Lib.hid (h1.out (by omega))
      go_wp2_with (go_at_call 131; refine (check_any _ _ _).mono ?_; rintro e wn ⟨rfl, hbn⟩; replace rn := Blk.kept (by with_reducible first | exact rn | exact r0 | exact rn.alloc _ | exact r0.alloc _ | exact (rn.alloc _).alloc _ | exact (r0.alloc _).alloc _) hbn; replace en := rn.cell; replace gn := rn.frozen; replace zn := rn.lt; replace sn := Blk.kept (by with_reducible first | exact sn | exact s0 | exact sn.alloc _ | exact s0.alloc _ | exact (sn.alloc _).alloc _ | exact (s0.alloc _).alloc _) hbn; replace fn := sn.cell; replace hn := sn.frozen; replace yn := sn.lt; replace kn := below_call (by with_reducible first | exact kn | exact k0 | exact below_alloc kn _ | exact below_alloc k0 _ | exact below_alloc (below_alloc kn _) _ | exact below_alloc (below_alloc k0 _) _) hbn; clear hbn)
      · go_ret
        refine ⟨ret_int ?_, by repeat (first | exact Below.refl _ _ | assumption | refine below_drewN ?_ _ | refine Below.drew ?_ | refine below_alloc ?_ _ | (refine below_call ?_ (by assumption)) | (refine Below.setCell ?_ ?_ _; rotate_left; (simp; try omega)))⟩
        have hne : (chk d d' != 0) = true := by assumption
        unfold oneS; rw [if_neg (by simpa using ha.out), if_pos (by simpa using hne)]
      · go_roundw
        case rel =>
          have hne : (chk d d' != 0) = false := by assumption
          exact ⟨2, by omega, rfl, Lib.hid (fun _ => ha.out), Lib.hid (fun _ => by simpa using hne), kn, rn, sn⟩
        case measure => simp [intOf]
    · have ha := Lib.hid (h1.out (by omega))
      have hd := Lib.hid (h2.out (by omega))
      clear h1 h2
      go_wp2_with (go_at_call 120; refine (pcheck_any (_, _, _) _).mono ?_; rintro e wn ⟨rfl, hbn⟩; replace rn := Blk.kept (by with_reducible first | exact rn | exact r0 | exact rn.alloc _ | exact r0.alloc _ | exact (rn.alloc _).alloc _ | exact (r0.alloc _).alloc _) hbn; replace en := rn.cell; replace gn := rn.frozen; replace zn := rn.lt; replace sn := Blk.kept (by with_reducible first | exact sn | exact s0 | exact sn.alloc _ | exact s0.alloc _ | exact (sn.alloc _).alloc _ | exact (s0.alloc _).alloc _) hbn; replace fn := sn.cell; replace hn := sn.frozen; replace yn := sn.lt; replace kn := below_call (by with_reducible first | exact kn | exact k0 | exact below_alloc kn _ | exact below_alloc k0 _ | exact below_alloc (below_alloc kn _) _ | exact below_alloc (below_alloc k0 _) _) hbn; clear hbn)
      all_goals
        go_ret
        refine ⟨ret_int ?_, by repeat (first | exact Below.refl _ _ | assumption | refine below_drewN ?_ _ | refine Below.drew ?_ | refine below_alloc ?_ _ | (refine below_call ?_ (by assumption)) | (refine Below.setCell ?_ ?_ _; rotate_left; (simp; try omega)))⟩
        replace ha := ha.out
        replace hd := hd.out
        clear r0 s0 k0 en gn zn fn hn yn
        try clear rn sn kn
        unfold oneS
        grind
end Go.Proofs.YtpkmiegccfhpnaaGreatDoor

/- The walks through the checks of voices and their ends, the program's and the reference's. -/
namespace Go.Proofs.YtpkmiegccfhpnaaGreatDoor
open Go.RowKit
theorem ten {w : World} {b o : Nat} {x : Ev} (h : ∀ j u, (cE x)[j]? = some u → w.cell? ⟨b, o + j, none⟩ = some u) :
    w.cell? ⟨b, o, none⟩ = some (.int .i64 x.at_.1) ∧ w.cell? ⟨b, o + 1, none⟩ = some (.int .i64 x.at_.2) ∧ w.cell? ⟨b, o + 2, none⟩ = some (.int .i64 x.dur.1) ∧ w.cell? ⟨b, o + 3, none⟩ = some (.int .i64 x.dur.2) ∧ w.cell? ⟨b, o + 4, none⟩ = some (.int .i64 x.pit.1) ∧
    w.cell? ⟨b, o + 5, none⟩ = some (.int .i64 x.pit.2.1) ∧ w.cell? ⟨b, o + 6, none⟩ = some (.int .i64 x.pit.2.2) ∧ w.cell? ⟨b, o + 7, none⟩ = some (.bool x.rest) ∧ w.cell? ⟨b, o + 8, none⟩ = some (.int .i64 x.sign) ∧ w.cell? ⟨b, o + 9, none⟩ = some (.int .i64 x.pass) :=
  ⟨h 0 _ rfl, h 1 _ rfl, h 2 _ rfl, h 3 _ rfl, h 4 _ rfl, h 5 _ rfl, h 6 _ rfl, h 7 _ rfl, h 8 _ rfl, h 9 _ rfl⟩
/-- Element k of a slice of events. -/
theorem Reads.ev {w W : World} {B n : Nat} {A : Option Addr} {l : List Ev} (h : Reads w B 10 A n (csE l)) (hB : B ≤ w.heap.size) (hb : Below w.heap.size w W) {k : Nat} {x : Ev} (hk : k < n) (hx : l[k]? = some x) :
    ∃ b off, A = some ⟨b, off, none⟩ ∧ b < W.heap.size ∧ ∀ j u, (cE x)[j]? = some u → W.cell? ⟨b, off + k * 10 + j, none⟩ = some u := by
  obtain ⟨b, off, hA, hbB, hc⟩ := h.elem (f := cE) (fun _ => rfl) hk hx
  refine ⟨b, off, hA, by have := hb.size; omega, fun j u hj => ?_⟩
  rw [hb.cell (by simp; omega), Nat.add_assoc]
  exact hc j u hj
theorem Reads.evlen {w : World} {B n : Nat} {A : Option Addr} {l : List Ev} (h : Reads w B 10 A n (csE l)) : l.length = n := h.len (size := 10) (l := l) (f := cE) (fun _ => rfl) (by decide)
set_option maxRecDepth 100000 in
set_option maxHeartbeats 1000000 in
theorem evCheck_any (A : Option Addr) (n c : Nat) (l : List Ev) (B : Nat) (w : World) (h : Reads w B 10 A n (csE l)) (hB : B ≤ w.heap.size) (hn : n ≤ 9223372036854775807) :
    Calls Tryz.prog 70 #[.slice A n c] w fun e w' => e = .returned (.tuple #[.int .i64 (checkS l).1, .int .i64 (checkS l).2]) ∧ Below w.heap.size w w' := by
  have hl := h.evlen
  by_cases hbig : 2000 < n
  · have hbig' : (2000 : Int) < (n : Int) := by omega
    have E := Lib.hid (show checkS l = (11, 0) by unfold checkS; rw [if_pos (by omega)])
    clear hl
    go_enter Tryz.func70, Tryz.ntmps70
    go_wp2
    go_ret2
    rw [E.out]
    exact ⟨rfl, Below.refl _ _⟩
  · have hbig' : ¬ ((2000 : Int) < (n : Int)) := by omega
    have E := Lib.hid (show checkS l = checkFrom (0, 1) 0 l by unfold checkS; rw [if_neg (by omega)])
    have HL := Lib.hid hl; clear hl hbig
    go_enter Tryz.func70, Tryz.ntmps70
    go_wp2_with (go_at_call 96; refine (evZero_any _).mono ?_; rintro e w1 ⟨rfl, hb1⟩)
    go_loopw [5, 6, 7, 8, 9, 16] (fun _ _ _ _ _ i wr => ∃ (k : Nat) (t t' : Int), k ≤ n ∧ i = .int .i64 k ∧ Hid (checkFrom (t, t') k (l.drop k) = checkFrom (0, 1) 0 l) ∧ Below w1.heap.size w1 wr ∧ Blk wr w1.heap.size 45 #[.int .i64 t, .int .i64 t']) (fun _ _ _ _ _ i _ => n - (intOf i).toNat)
    case atStart => exact ⟨0, 0, 1, by omega, rfl, Lib.hid rfl, by repeat (first | exact Below.refl _ _ | refine below_drewN ?_ _ | refine Below.drew ?_ | refine below_alloc ?_ _ | (refine below_call ?_ (by assumption)) | (refine Below.setCell ?_ ?_ _; rotate_left; (simp; try omega))), Blk.new _ _ _⟩
    case round =>
      obtain ⟨k, t, t', hk, rfl, hs, k0, r0⟩ := hrel
      have en := r0.cell; have gn := r0.frozen; have zn := r0.lt
      by_cases hlt : k < n
      · have hlt' : (k : Int) < (n : Int) := by omega
        obtain ⟨x, hx⟩ := get_some (l := l) (k := k) (by have := HL.out; omega)
        have HD := Lib.hid (drop_get hx)
        obtain ⟨b, off, rfl, hab, hc⟩ := h.ev hB (below_call hb1 k0) hlt hx
        obtain ⟨⟨a, a'⟩, ⟨d, d'⟩, ⟨p, q, r⟩, rst, sg, ps⟩ := x
        obtain ⟨c0, c1, c2, c3, c4, c5, c6, c7, c8, c9⟩ := ten hc
        clear hc hx
        simp only at c0 c1 c2 c3 c4 c5 c6 c7 c8 c9
        have s0 : Blk (wr.alloc (.cells #[.int .i64 a, .int .i64 a', .int .i64 d, .int .i64 d', .int .i64 p, .int .i64 q, .int .i64 r, .bool rst, .int .i64 sg, .int .i64 ps] 49)) wr.heap.size 49 #[.int .i64 a, .int .i64 a', .int .i64 d, .int .i64 d', .int .i64 p, .int .i64 q, .int .i64 r, .bool rst, .int .i64 sg, .int .i64 ps] := Blk.new _ _ _
        go_wp2_with (first | (go_at_call 97; refine (one_any ⟨(_, _), (_, _), (_, _, _), _, _, _⟩ _).mono ?_; rintro e wn ⟨rfl, hbn⟩; replace rn := Blk.kept (by with_reducible first | exact rn | exact r0 | exact rn.alloc _ | exact r0.alloc _ | exact (rn.alloc _).alloc _ | exact (r0.alloc _).alloc _) hbn; replace en := rn.cell; replace gn := rn.frozen; replace zn := rn.lt; replace sn := Blk.kept (by with_reducible first | exact sn | exact s0 | exact sn.alloc _ | exact s0.alloc _ | exact (sn.alloc _).alloc _ | exact (s0.alloc _).alloc _) hbn; replace fn := sn.cell; replace hn := sn.frozen; replace yn := sn.lt; replace kn := below_call (by with_reducible first | exact kn | exact k0 | exact below_alloc kn _ | exact below_alloc k0 _ | exact below_alloc (below_alloc kn _) _ | exact below_alloc (below_alloc k0 _) _) hbn; clear hbn) | (go_at_call 98; refine (add_any (_, _) (_, _) _).mono ?_; rintro e wn ⟨rfl, hbn⟩; replace rn := Blk.kept (by with_reducible first | exact rn | exact r0 | exact rn.alloc _ | exact r0.alloc _ | exact (rn.alloc _).alloc _ | exact (r0.alloc _).alloc _) hbn; replace en := rn.cell; replace gn := rn.frozen; replace zn := rn.lt; replace sn := Blk.kept (by with_reducible first | exact sn | exact s0 | exact sn.alloc _ | exact s0.alloc _ | exact (sn.alloc _).alloc _ | exact (s0.alloc _).alloc _) hbn; replace fn := sn.cell; replace hn := sn.frozen; replace yn := sn.lt; replace kn := below_call (by with_reducible first | exact kn | exact k0 | exact below_alloc kn _ | exact below_alloc k0 _ | exact below_alloc (below_alloc kn _) _ | exact below_alloc (below_alloc k0 _) _) hbn; clear hbn))
        · go_ret2
          have hne : (oneS ⟨(a, a'), (d, d'), (p, q, r), rst, sg, ps⟩ != 0) = true := by assumption
          have hr := hs.out
          rw [HD.out, cf_one (by simpa using hne)] at hr
          rw [E.out, ← hr]
          exact ⟨rfl, below_call hb1 kn⟩
        · go_ret2
          have h1 : (oneS ⟨(a, a'), (d, d'), (p, q, r), rst, sg, ps⟩ != 0) = false := by assumption
          have e1 : a = t := by assumption
          have e2 : a' = t' := by assumption
          have hne : ((addS (t, t') (d, d')).2.2 != 0) = true := by assumption
          have hr := hs.out
          subst e1 e2
          rw [HD.out, cf_add (now := (a, a')) (by simpa using h1) rfl (by simpa using hne)] at hr
          rw [E.out, ← hr]
          exact ⟨rfl, below_call hb1 (by repeat (first | exact Below.refl _ _ | assumption | refine below_drewN ?_ _ | refine Below.drew ?_ | refine below_alloc ?_ _ | (refine below_call ?_ (by assumption)) | (refine Below.setCell ?_ ?_ _; rotate_left; (simp; try omega))))⟩
        · go_roundw
          case rel =>
            have h1 : (oneS ⟨(a, a'), (d, d'), (p, q, r), rst, sg, ps⟩ != 0) = false := by assumption
            have e1 : a = t := by assumption
            have e2 : a' = t' := by assumption
            have hne : ((addS (t, t') (d, d')).2.2 != 0) = false := by assumption
            refine ⟨k + 1, (addS (t, t') (d, d')).1, (addS (t, t') (d, d')).2.1, by omega, by go_num, ?_, by repeat (first | exact Below.refl _ _ | assumption | refine below_drewN ?_ _ | refine Below.drew ?_ | refine below_alloc ?_ _ | (refine below_call ?_ (by assumption)) | (refine Below.setCell ?_ ?_ _; rotate_left; (simp; try omega))), ?_⟩
            rotate_left
            · repeat (first | with_reducible exact rn | with_reducible exact Blk.new _ _ _ | (with_reducible refine Blk.newAt _ _ _ _ ?_; first | rfl | (simp; done)) | with_reducible apply Blk.alloc | with_reducible apply Blk.drewN | with_reducible apply Blk.drew | with_reducible apply Blk.set_to | (with_reducible apply Blk.far_; (simp only [ne_eq]; omega)) | rfl)
            have hr := hs.out
            subst e1 e2
            rw [HD.out, cf_next (now := (a, a')) (by simpa using h1) rfl (by simpa using hne)] at hr
            exact Lib.hid hr
          case measure => simp [intOf]; omega
        all_goals
          go_ret2
          have h1 : (oneS ⟨(a, a'), (d, d'), (p, q, r), rst, sg, ps⟩ != 0) = false := by assumption
          have hr := hs.out
          rw [HD.out, cf_at (by simpa using h1) (by simp only [ne_eq, Prod.mk.injEq]; first | (rintro ⟨e1, e2⟩; contradiction) | (rintro ⟨e1, e2⟩; have hx : ¬ a = t := by assumption; exact hx e1) | (rintro ⟨e1, e2⟩; have hx : ¬ a' = t' := by assumption; exact hx e2))] at hr
          rw [E.out, ← hr]
          exact ⟨rfl, below_call hb1 (by repeat (first | exact Below.refl _ _ | assumption | refine below_drewN ?_ _ | refine Below.drew ?_ | refine below_alloc ?_ _ | (refine below_call ?_ (by assumption)) | (refine Below.setCell ?_ ?_ _; rotate_left; (simp; try omega))))⟩
      · go_wp2
        go_ret2
        rw [E.out, ← hs.out, List.drop_eq_nil_of_le (by have := HL.out; omega)]
        exact ⟨rfl, below_call hb1 k0⟩
end Go.Proofs.YtpkmiegccfhpnaaGreatDoor

/- The walks through the ends of voices, the program's and the reference's. -/
namespace Go.Proofs.YtpkmiegccfhpnaaGreatDoor
open Go.RowKit
theorem getLast_at {α : Type} {l : List α} {n : Nat} (h : l.length = n + 1) {x : α} (hx : l[n]? = some x) : l.getLast? = some x := by
  rw [List.getLast?_eq_getElem?, h]; simpa using hx
set_option maxRecDepth 100000 in
set_option maxHeartbeats 1000000 in
theorem evEnd_any (A : Option Addr) (n c : Nat) (l : List Ev) (B : Nat) (w : World) (h : Reads w B 10 A n (csE l)) (hB : B ≤ w.heap.size) (hn : n ≤ 9223372036854775807) :
    Calls Tryz.prog 75 #[.slice A n c] w fun e w' => e = .returned (vT (endS l)) ∧ Below w.heap.size w w' := by
  have hl := h.evlen
  have r0 : Blk (w.alloc (.cells #[.int .i64 0, .int .i64 0] 45)) w.heap.size 45 #[.int .i64 0, .int .i64 0] := Blk.new _ _ _
  have k0 : Below w.heap.size w (w.alloc (.cells #[.int .i64 0, .int .i64 0] 45)) := by repeat (first | exact Below.refl _ _ | refine below_drewN ?_ _ | refine Below.drew ?_ | refine below_alloc ?_ _ | (refine below_call ?_ (by assumption)) | (refine Below.setCell ?_ ?_ _; rotate_left; (simp; try omega)))
  obtain ⟨⟨y, z⟩, hy⟩ : ∃ y, y = checkS l := ⟨_, rfl⟩
  have hc := evCheck_any A n c l B _ (h.below hB k0) (by simp; omega) hn
  rw [← hy] at hc
  by_cases hz : y = 0
  · subst hz
    cases n with
    | zero =>
      have E := Lib.hid (show endS l = (0, 1, 0) by unfold endS; rw [← hy, if_neg (fun h => h rfl), List.eq_nil_of_length_eq_zero hl]; rfl)
      clear hy hl
      go_enter Tryz.func75, Tryz.ntmps75
      go_wp2_with (first | (go_at_call 70; refine (hc).mono ?_; rintro e wn ⟨rfl, hbn⟩; replace rn := Blk.kept (by with_reducible first | exact rn | exact r0 | exact rn.alloc _ | exact r0.alloc _ | exact (rn.alloc _).alloc _ | exact (r0.alloc _).alloc _) hbn; replace en := rn.cell; replace gn := rn.frozen; replace zn := rn.lt; replace kn := below_call (by with_reducible first | exact kn | exact k0 | exact below_alloc kn _ | exact below_alloc k0 _ | exact below_alloc (below_alloc kn _) _ | exact below_alloc (below_alloc k0 _) _) hbn; clear hbn) | (go_at_call 96; refine (evZero_any _).mono ?_; rintro e wn ⟨rfl, hbn⟩; replace rn := Blk.kept (by with_reducible first | exact rn | exact r0 | exact rn.alloc _ | exact r0.alloc _ | exact (rn.alloc _).alloc _ | exact (r0.alloc _).alloc _) hbn; replace en := rn.cell; replace gn := rn.frozen; replace zn := rn.lt; replace kn := below_call (by with_reducible first | exact kn | exact k0 | exact below_alloc kn _ | exact below_alloc k0 _ | exact below_alloc (below_alloc kn _) _ | exact below_alloc (below_alloc k0 _) _) hbn; clear hbn))
      refine ret_of (by simp [results, Tryz.results75, go_sem, *]; repeat' (first | rfl | apply And.intro)) rfl ⟨?_, by repeat (first | exact Below.refl _ _ | assumption | refine below_drewN ?_ _ | refine Below.drew ?_ | refine below_alloc ?_ _ | (refine below_call ?_ (by assumption)) | (refine Below.setCell ?_ ?_ _; rotate_left; (simp; try omega)))⟩
      rw [E.out]
    | succ m =>
      obtain ⟨x, hx⟩ := get_some (l := l) (k := m) (by omega)
      have E := Lib.hid (show endS l = addS x.at_ x.dur by unfold endS; rw [← hy, if_neg (fun h => h rfl), getLast_at hl hx])
      clear hy hl
      obtain ⟨b, off, rfl, hab, hcl⟩ := h.ev hB (Below.refl _ _) (Nat.lt_succ_self m) hx
      obtain ⟨⟨a, a'⟩, ⟨d, d'⟩, ⟨p, q, r⟩, rst, sg, ps⟩ := x
      obtain ⟨c0, c1, c2, c3, c4, c5, c6, c7, c8, c9⟩ := ten hcl
      clear hcl hx
      simp only at c0 c1 c2 c3 c4 c5 c6 c7 c8 c9 E
      go_enter Tryz.func75, Tryz.ntmps75
      go_wp2_with fail
      refine hc.mono ?_
      rintro e w1 ⟨rfl, hb1⟩
      have r1 := r0.kept hb1
      have k1 := below_call k0 hb1
      rw [← k1.cell (p := ⟨_, _, none⟩) hab] at c0 c1 c2 c3 c4 c5 c6 c7 c8 c9
      have hbz : b < w1.heap.size := Nat.lt_of_lt_of_le hab k1.size
      go_wp2_with fail
      have s1 : Blk (w1.alloc (.cells #[.int .i64 a, .int .i64 a', .int .i64 d, .int .i64 d', .int .i64 p, .int .i64 q, .int .i64 r, .bool rst, .int .i64 sg, .int .i64 ps] 49)) w1.heap.size 49 #[.int .i64 a, .int .i64 a', .int .i64 d, .int .i64 d', .int .i64 p, .int .i64 q, .int .i64 r, .bool rst, .int .i64 sg, .int .i64 ps] := Blk.new _ _ _
      refine (add_any (a, a') (d, d') _).mono ?_
      rintro e w2 ⟨rfl, hb2⟩
      have r2 := (r1.alloc _).kept hb2
      have e0 := r2.cell 0
      have e1 := r2.cell 1
      have f0 := r2.frozen 0
      have f1 := r2.frozen 1
      have z2 := r2.lt
      simp only [List.getElem?_toArray, List.getElem?_cons_zero, List.getElem?_cons_succ] at e0 e1
      have k2 := below_call (below_alloc k1 _) hb2
      go_wp2_with fail
      refine ret_of (by simp [results, Tryz.results75, go_sem, *]; repeat' (first | rfl | apply And.intro)) rfl ⟨?_, by repeat (first | exact Below.refl _ _ | assumption | refine below_drewN ?_ _ | refine Below.drew ?_ | refine below_alloc ?_ _ | (refine below_call ?_ (by assumption)) | (refine Below.setCell ?_ ?_ _; rotate_left; (simp; try omega)))⟩
      rw [E.out]
  · have hz' : (y == 0) = false := by simpa using hz
    have E := Lib.hid (show endS l = (0, 0, y) by unfold endS; rw [← hy, if_pos hz])
    clear hy hl hz
    go_enter Tryz.func75, Tryz.ntmps75
    go_wp2_with (first | (go_at_call 70; refine (hc).mono ?_; rintro e wn ⟨rfl, hbn⟩; replace rn := Blk.kept (by with_reducible first | exact rn | exact r0 | exact rn.alloc _ | exact r0.alloc _ | exact (rn.alloc _).alloc _ | exact (r0.alloc _).alloc _) hbn; replace en := rn.cell; replace gn := rn.frozen; replace zn := rn.lt; replace kn := below_call (by with_reducible first | exact kn | exact k0 | exact below_alloc kn _ | exact below_alloc k0 _ | exact below_alloc (below_alloc kn _) _ | exact below_alloc (below_alloc k0 _) _) hbn; clear hbn))
    refine ret_of (by simp [results, Tryz.results75, go_sem, *]; repeat' (first | rfl | apply And.intro)) rfl ⟨?_, by repeat (first | exact Below.refl _ _ | assumption | refine below_drewN ?_ _ | refine Below.drew ?_ | refine below_alloc ?_ _ | (refine below_call ?_ (by assumption)) | (refine Below.setCell ?_ ?_ _; rotate_left; (simp; try omega)))⟩
    rw [E.out]
end Go.Proofs.YtpkmiegccfhpnaaGreatDoor

/- Lists of events: the kit's copies and comparisons; slices of events of the call's own. -/

namespace Go.Proofs.YtpkmiegccfhpnaaGreatDoor
open Go.RowKit
theorem event_info : (Tryz.prog.info? 49).map (fun i => (i.zero, i.size, i.bytes)) = some (some (vE ⟨(0, 0), (0, 0), (0, 0, 0), false, 0, 0⟩), 10, 80) := by kernel_rfl
theorem one_csE (l : List Ev) : ∀ u ∈ csE l, u.oneCell' = true := by
  intro u hu
  obtain ⟨t, _, ht⟩ := List.mem_flatMap.1 hu
  simp [cE] at ht
  rcases ht with rfl | rfl | rfl | rfl | rfl | rfl | rfl | rfl | rfl | rfl <;> rfl
theorem csE_append (l m : List Ev) : csE (l ++ m) = csE l ++ csE m := by unfold csE; rw [List.flatMap_append]
theorem csE_len (l : List Ev) : (csE l).length = l.length * 10 := flat_len cE 10 (fun _ => rfl) l
theorem own_call {w w' : World} {base size n : Nat} {e : TypeId} {v : Value} {xs : List Value} (h : w.ownsRow base e size v n xs) (hb : Below w.heap.size w w') : w'.ownsRow base e size v n xs := by
  have hl := h.lt
  obtain ⟨h1, h2⟩ := h
  refine ⟨h1, ?_⟩
  rcases h2 with h2 | ⟨g, cap, cur, h2, h3, h4, h5⟩
  · exact .inl h2
  · refine .inr ⟨g, cap, cur, h2, h3, ?_, h5⟩
    rw [hb.block g (hl g (by rw [h2]; rfl)).2]; exact h4
/-- A slice of events of the call's own. -/
def OwnE (w : World) (base n : Nat) (A : Option Addr) (c : Nat) (l : List Ev) : Prop := w.ownsRow base 49 10 (.slice A n c) n (csE l) ∧ Reads w w.heap.size 10 A n (csE l) ∧ n ≤ c
theorem ownE_form {w : World} {base n : Nat} {v : Value} {l : List Ev} (h : w.ownsRow base 49 10 v n (csE l)) : ∃ A c, v = .slice A n c ∧ OwnE w base n A c l := by
  obtain ⟨A, c, e, hr, hc, _⟩ := own_reads h
  subst e
  exact ⟨A, c, rfl, h, hr, hc⟩
theorem OwnE.kept {w w' : World} {base n c : Nat} {A : Option Addr} {l : List Ev} (h : OwnE w base n A c l) (hb : Below w.heap.size w w') : OwnE w' base n A c l :=
  ⟨own_call h.1 hb, (h.2.1.below (Nat.le_refl _) hb).more hb.size, h.2.2⟩
end Go.Proofs.YtpkmiegccfhpnaaGreatDoor

/- The walks through the functions on pitches, the program's and the reference's: numbers, moved and mirrored pitches. -/
namespace Go.Proofs.YtpkmiegccfhpnaaGreatDoor
open Go.RowKit
@[reducible] def vPE (x : (Int × Int × Int) × Int) : Value := .tuple #[.agg #[.int .i64 x.1.1, .int .i64 x.1.2.1, .int .i64 x.1.2.2], .int .i64 x.2]
theorem pchk_ok {p : Int × Int × Int} (h : pchk p = 0) : 0 ≤ p.1 ∧ p.1 ≤ 6 ∧ 0 ≤ p.2.1 ∧ p.2.1 ≤ 8 ∧ -1 ≤ p.2.2 ∧ p.2.2 ≤ 1 := by
  unfold pchk at h
  split at h
  · cases h
  · omega
set_option maxHeartbeats 400000 in
theorem of_any' (a b c : Int) (w : World) (a0 : 0 ≤ a) (a1 : a ≤ 6) (b0 : 0 ≤ b) (b1 : b ≤ 8) :
    Calls Tryz.prog 121 #[.agg #[.int .i64 a, .int .i64 b, .int .i64 c]] w fun e w' => e = .returned (.agg #[.int .i64 (7 * b + a), .int .i64 c]) ∧ Below w.heap.size w w' := by
  go_enter Tryz.func121, Tryz.ntmps121
  go_wp2
  refine ret_of (by simp [results, Tryz.results121, go_sem, *]; repeat' (first | rfl | apply And.intro)) rfl ⟨rfl, ?_⟩
  repeat (first | exact Below.refl _ _ | refine below_drewN ?_ _ | refine Below.drew ?_ | refine below_alloc ?_ _ | (refine below_call ?_ (by assumption)) | (refine Below.setCell ?_ ?_ _; rotate_left; (simp; try omega)))
end Go.Proofs.YtpkmiegccfhpnaaGreatDoor
namespace Go.Proofs.YtpkmiegccfhpnaaGreatDoor
open Go.RowKit
/-- A voice's place: address, length, capacity. -/
abbrev Pl := Option Addr × Nat × Nat
def slV (d : Pl) : List Value := [.slice d.1 d.2.1 d.2.2]
def csV (l : List Pl) : List Value := l.flatMap slV
/-- The slice value with address A and n elements reads as the voices l, all below block B. -/
def ReadsV (w : World) (B : Nat) (A : Option Addr) (n : Nat) (l : List (List Ev)) : Prop :=
  ∃ ds : List Pl, ds.length = l.length ∧ Reads w B 1 A n (csV ds) ∧ ∀ (k : Nat) d v, ds[k]? = some d → l[k]? = some v → Reads w B 10 d.1 d.2.1 (csE v) ∧ d.2.1 ≤ 9223372036854775807
theorem ReadsV.len {w : World} {B n : Nat} {A : Option Addr} {l : List (List Ev)} (h : ReadsV w B A n l) : l.length = n := by
  obtain ⟨ds, h1, h2, _⟩ := h
  rw [← h1]
  exact h2.len (size := 1) (l := ds) (f := slV) (fun _ => rfl) (by decide)
theorem ReadsV.below {w W : World} {B n : Nat} {A : Option Addr} {l : List (List Ev)} (h : ReadsV w B A n l) (hB : B ≤ w.heap.size) (hb : Below w.heap.size w W) : ReadsV W B A n l := by
  obtain ⟨ds, h1, h2, h3⟩ := h
  exact ⟨ds, h1, h2.below hB hb, fun k d v hd hv => ⟨(h3 k d v hd hv).1.below hB hb, (h3 k d v hd hv).2⟩⟩
/-- Voice k of a setting. -/
theorem ReadsV.voice {w W : World} {B n : Nat} {A : Option Addr} {l : List (List Ev)} (h : ReadsV w B A n l) (hB : B ≤ w.heap.size) (hb : Below w.heap.size w W) {k : Nat} {v : List Ev} (hk : k < n) (hv : l[k]? = some v) :
    ∃ b off A' n' c', A = some ⟨b, off, none⟩ ∧ b < W.heap.size ∧ W.cell? ⟨b, off + k, none⟩ = some (.slice A' n' c') ∧ Reads W B 10 A' n' (csE v) ∧ n' ≤ 9223372036854775807 ∧ v.length = n' := by
  have hl := h.len
  obtain ⟨ds, h1, h2, h3⟩ := h
  obtain ⟨d, hd⟩ := get_some (l := ds) (k := k) (by omega)
  obtain ⟨b, off, hA, hbB, hc⟩ := h2.elem (f := slV) (fun _ => rfl) hk hd
  obtain ⟨r, rn⟩ := h3 k d v hd hv
  have r' := r.below hB hb
  refine ⟨b, off, d.1, d.2.1, d.2.2, hA, by have := hb.size; omega, ?_, r', rn, r'.evlen⟩
  have := hc 0 _ rfl
  rw [hb.cell (by simp; omega)]
  simpa using this
set_option maxHeartbeats 400000 in
theorem compare_any (a b : Int × Int) (w : World) :
    Calls Tryz.prog 74 #[.agg #[.int .i64 a.1, .int .i64 a.2], .agg #[.int .i64 b.1, .int .i64 b.2]] w fun e w' => e = .returned (.int .i64 (cmpS a b).1) ∧ Below w.heap.size w w' := by
  have q1 := cmp_any a b
  obtain ⟨⟨x, r⟩, hx⟩ : ∃ t, t = cmpS a b := ⟨_, rfl⟩
  rw [← hx] at q1 ⊢
  clear hx
  obtain ⟨a, a'⟩ := a
  obtain ⟨b, b'⟩ := b
  go_enter Tryz.func74, Tryz.ntmps74
  go_wp2_with fail
  refine (q1 _).mono ?_
  rintro e w1 ⟨rfl, hb1⟩
  have BP1 : Blk w1 (w.heap.size) 45 #[.int .i64 a, .int .i64 a'] := by
    refine Blk.kept ?_ hb1
    repeat (first | with_reducible exact Blk.new _ _ _ | (with_reducible refine Blk.newAt _ _ _ _ ?_; first | rfl | (simp; done)) | with_reducible apply Blk.alloc | with_reducible apply Blk.drewN | with_reducible apply Blk.drew | with_reducible apply Blk.set_to | (with_reducible apply Blk.far_; (simp only [ne_eq]; omega)) | rfl)
  have cP0_1 : w1.cell? ⟨w.heap.size, 0, none⟩ = some (.int .i64 a) := BP1.cell 0
  have cP1_1 : w1.cell? ⟨w.heap.size, 1, none⟩ = some (.int .i64 a') := BP1.cell 1
  have lP1 : w.heap.size < w1.heap.size := BP1.lt
  have mP1 : w.heap.size < w1.heap.size + 1 := by omega
  have nP1 : w.heap.size < w1.heap.size + 1 + 1 := by omega
  have BQ1 : Blk w1 (w.heap.size + 1) 45 #[.int .i64 b, .int .i64 b'] := by
    refine Blk.kept ?_ hb1
    repeat (first | with_reducible exact Blk.new _ _ _ | (with_reducible refine Blk.newAt _ _ _ _ ?_; first | rfl | (simp; done)) | with_reducible apply Blk.alloc | with_reducible apply Blk.drewN | with_reducible apply Blk.drew | with_reducible apply Blk.set_to | (with_reducible apply Blk.far_; (simp only [ne_eq]; omega)) | rfl)
  have cQ0_1 : w1.cell? ⟨w.heap.size + 1, 0, none⟩ = some (.int .i64 b) := BQ1.cell 0
  have cQ1_1 : w1.cell? ⟨w.heap.size + 1, 1, none⟩ = some (.int .i64 b') := BQ1.cell 1
  have lQ1 : w.heap.size + 1 < w1.heap.size := BQ1.lt
  have mQ1 : w.heap.size + 1 < w1.heap.size + 1 := by omega
  have nQ1 : w.heap.size + 1 < w1.heap.size + 1 + 1 := by omega
  have hs1 : w.heap.size ≤ w1.heap.size := by have h := hb1.size; (try simp at h); omega
  have kb : Below w.heap.size w w1 := by repeat (first | exact Below.refl _ _ | refine below_drewN ?_ _ | refine Below.drew ?_ | refine below_alloc ?_ _ | (refine below_call ?_ (by assumption)) | (refine Below.setCell ?_ ?_ _; rotate_left; (simp; try omega)))
  go_wp2
  go_ret
  exact ⟨rfl, by repeat (first | with_reducible exact Below.refl _ _ | with_reducible assumption | with_reducible refine below_drewN ?_ _ | with_reducible refine Below.drew ?_ | with_reducible refine below_alloc ?_ _ | (with_reducible refine Below.setCell ?_ ?_ _; rotate_left; ((try simp only); omega)))⟩
set_option maxRecDepth 100000 in
set_option maxHeartbeats 1000000 in
theorem alCheck_any (A : Option Addr) (n c : Nat) (l : List (List Ev)) (B : Nat) (w : World) (h : ReadsV w B A n l) (hB : B ≤ w.heap.size) (hn : n ≤ 9223372036854775807) :
    Calls Tryz.prog 47 #[.slice A n c] w fun e w' => e = .returned (.tuple #[.int .i64 (checkA l).1, .int .i64 (checkA l).2]) ∧ Below w.heap.size w w' := by
  have hl := h.len
  by_cases hbig : 8 < n
  · have hbig' : (8 : Int) < (n : Int) := by omega
    have E := Lib.hid (show checkA l = (11, 0) by unfold checkA; rw [if_pos (by omega)])
    clear hl
    go_enter Tryz.func47, Tryz.ntmps47
    go_wp2
    go_ret2
    rw [E.out]
    exact ⟨rfl, Below.refl _ _⟩
  · have hbig' : ¬ ((8 : Int) < (n : Int)) := by omega
    have E := Lib.hid (show checkA l = chkV 0 l by unfold checkA; rw [if_neg (by omega)])
    have HL := Lib.hid hl; clear hl hbig
    go_enter Tryz.func47, Tryz.ntmps47
    go_wp2
    go_loopw [4, 5, 6, 7, 13] (fun _ _ _ _ i wr => ∃ k : Nat, k ≤ n ∧ i = .int .i64 k ∧ Hid (chkV k (l.drop k) = chkV 0 l) ∧ Below w.heap.size w wr) (fun _ _ _ _ i _ => n - (intOf i).toNat)
    case atStart => exact ⟨0, by omega, rfl, Lib.hid rfl, Below.refl _ _⟩
    case round =>
      obtain ⟨k, hk, rfl, hs, k0⟩ := hrel
      by_cases hlt : k < n
      · have hlt' : (k : Int) < (n : Int) := by omega
        obtain ⟨v, hv⟩ := get_some (l := l) (k := k) (by have := HL.out; omega)
        have HD := Lib.hid (drop_get hv)
        obtain ⟨b, off, A', n', c', rfl, hab, c0, hr, hn', _⟩ := h.voice hB k0 hlt hv
        have q1 := evCheck_any A' n' c' v B wr hr (Nat.le_trans hB k0.size) hn'
        obtain ⟨⟨x, y⟩, hx⟩ : ∃ t, t = checkS v := ⟨_, rfl⟩
        rw [← hx] at q1
        by_cases h0 : x = 0
        · subst h0
          have HN := Lib.hid (show chkV ((k + 1 : Nat) : Int) (l.drop (k + 1)) = chkV 0 l by have := hs.out; rw [HD.out, chkV_next (by rw [← hx])] at this; exact this)
          clear hx hv hs
          go_wp2_with fail
          refine q1.mono ?_
          rintro e w1 ⟨rfl, hb1⟩
          go_wp2
          go_roundw
          case rel => exact ⟨k + 1, by omega, by go_num, HN, below_call k0 hb1⟩
          case measure => simp [intOf]; omega
        · have hbad : (x != 0) = true := by simpa using h0
          have HE := Lib.hid (show checkA l = (x, (k : Int)) by rw [E.out, ← hs.out, HD.out, chkV_bad (by rw [← hx]; exact h0), ← hx])
          clear hx hv hs h0
          go_wp2_with fail
          refine q1.mono ?_
          rintro e w1 ⟨rfl, hb1⟩
          go_wp2
          go_ret2
          rw [HE.out]
          exact ⟨rfl, below_call k0 hb1⟩
      · have hkn : k = n := by omega
        subst hkn
        have HE := Lib.hid (show checkA l = (0, 0) by rw [E.out, ← hs.out, List.drop_of_length_le (by have := HL.out; omega)]; rfl)
        go_wp2
        go_ret2
        rw [HE.out]
        exact ⟨rfl, k0⟩
end Go.Proofs.YtpkmiegccfhpnaaGreatDoor
/- Arguments that are slices of structs or of numbers, opened: each reads as a list. -/

namespace Go.Proofs.YtpkmiegccfhpnaaGreatDoor
set_option maxRecDepth 100000
open Go.ChangeShapes Go.WideShapes Go.Deep Go.RowKit

section
variable {H : Type} {enc : TypeId × Value → H} {P : Program} {w : World} {base : Nat} {spare : Nat → Bool} {held : Bool}
end
section
variable {H : Type} {enc : TypeId × Value → H} {W : World} {base b0 : Nat} {spare : Nat → Bool} {held : Bool} {r : Reach} {v : Value} {d : DataW H} {p : List MemPlace}
end
end Go.Proofs.YtpkmiegccfhpnaaGreatDoor

/- Arguments that are lists of events, opened. -/

namespace Go.Proofs.YtpkmiegccfhpnaaGreatDoor
set_option maxRecDepth 100000
open Go.ChangeShapes Go.WideShapes Go.Deep Go.RowKit
section
variable {H : Type} {enc : TypeId × Value → H} {w : World} {base : Nat} {spare : Nat → Bool} {held : Bool}
end
section
variable {H : Type} {enc : TypeId × Value → H} {W : World} {base b0 : Nat} {spare : Nat → Bool} {held : Bool} {r : Reach} {v : Value} {d : DataW H} {p : List MemPlace}
end
end Go.Proofs.YtpkmiegccfhpnaaGreatDoor

/- Arguments that are lists of voices, opened. -/

namespace Go.Proofs.YtpkmiegccfhpnaaGreatDoor
set_option maxRecDepth 100000
open Go.ChangeShapes Go.WideShapes Go.Deep Go.RowKit
section
variable {H : Type} {enc : TypeId × Value → H} {W : World} {base b0 : Nat} {spare : Nat → Bool} {held : Bool} {r : Reach} {v : Value} {d : DataW H} {p : List MemPlace}
end
end Go.Proofs.YtpkmiegccfhpnaaGreatDoor

/- Arguments that are lists of numbers, opened. -/

namespace Go.Proofs.YtpkmiegccfhpnaaGreatDoor
set_option maxRecDepth 100000
open Go.ChangeShapes Go.WideShapes Go.Deep Go.RowKit
section
variable {H : Type} {enc : TypeId × Value → H} {W : World} {base b0 : Nat} {spare : Nat → Bool} {held : Bool} {r : Reach} {v : Value} {d : DataW H} {p : List MemPlace}
end
end Go.Proofs.YtpkmiegccfhpnaaGreatDoor

/- Facts that all row proofs of this seat share (rows without a package variable). -/

namespace Go.Proofs.YtpkmiegccfhpnaaGreatDoor
open Go.ChangeShapes Go.WideShapes Go.ChangeAt Go.RowKit
set_option maxRecDepth 100000 in
theorem own : ownKnob Tryz.prog.godebug = none := by kernel_rfl
section
variable {H : Type} {enc : TypeId × Value → H} {W : World} {base b0 : Nat} {spare : Nat → Bool} {held : Bool} {r : Reach} {v : Value} {d : DataW H} {p : List MemPlace}
end
end Go.Proofs.YtpkmiegccfhpnaaGreatDoor
