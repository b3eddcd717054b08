/- Parts of the proof of LawRounds31: Spans, Events. -/
import Derived.Test.YtpkmiegccfhpnaaGreatDoorR01
import Derived.Test.YtpkmiegccfhpnaaGreatDoorR02
set_option maxRecDepth 100000
set_option maxHeartbeats 16000000
/- The walks through the functions of the layer span and of its reference: what each returns. -/
namespace Go.Proofs.YtpkmiegccfhpnaaGreatDoor
open Go.RowKit
theorem ratio_any (a b : Int) (w : World) (ha : 0 ≤ a) (ha' : a ≤ 9223372036854775807) (hb : 1 ≤ b) (hb' : b ≤ 9223372036854775807) :
  Calls Tryz.prog 150 #[.int .i64 a, .int .i64 b] w fun e w' => e = .returned (.tuple #[.int .i64 (a / b), .int .i64 (a % b)]) ∧ ∃ n, w' = w.drewN n := by
 go_enter Tryz.func150, Tryz.ntmps150
 go_wp2
 go_region
 go_wp2
 go_ret2
 exact ⟨rfl, 1, rfl⟩
theorem divisor_rec (k : Nat) : ∀ (a b : Int) (w : World), b ≤ k → 0 ≤ a → a ≤ 9223372036854775807 → 0 ≤ b → b ≤ 9223372036854775807 →
  Calls Tryz.prog 132 #[.int .i64 a, .int .i64 b] w fun e w' => e = .returned (.int .i64 (gg a b)) ∧ ∃ n, w' = w.drewN n := by
 induction k with
 | zero =>
  intro a b w hk ha ha' hb hb'
  obtain rfl : b = 0 := by omega
  go_enter Tryz.func132, Tryz.ntmps132
  go_wp2_with fail
  go_ret
  exact ⟨ret_int (gg_zero a ha).symm, 0, rfl⟩
 | succ k ih =>
  intro a b w hk ha ha' hb hb'
  by_cases h0 : b = 0
  ·subst h0
   go_enter Tryz.func132, Tryz.ntmps132
   go_wp2_with fail
   go_ret
   exact ⟨ret_int (gg_zero a ha).symm, 0, rfl⟩
  ·have h1 : 1 ≤ b := by omega
   have hm0 := Int.emod_nonneg a h0
   have hm1 := Int.emod_lt_of_pos a (show 0 < b by omega)
   clear h0
   go_enter Tryz.func132, Tryz.ntmps132
   go_wp2_with (first | (go_at_call 150; refine (ratio_any _ _ _ (by omega) (by omega) (by omega) (by omega)).mono ?_; rintro e w' ⟨rfl, nq, rfl⟩) | (go_at_call 132; refine (ih b (a % b) _ (by omega) (by omega) (by omega) (by omega) (by omega)).mono ?_; rintro e w' ⟨rfl, nr, rfl⟩))
   go_ret
   exact ⟨ret_int (gg_step a b ha hb).symm, _, rfl⟩
theorem divisor_any (a b : Int) (w : World) (ha : 0 ≤ a) (ha' : a ≤ 9223372036854775807) (hb : 0 ≤ b) (hb' : b ≤ 9223372036854775807) :
  Calls Tryz.prog 132 #[.int .i64 a, .int .i64 b] w fun e w' => e = .returned (.int .i64 (gg a b)) ∧ ∃ n, w' = w.drewN n :=
 divisor_rec b.toNat a b w (by omega) ha ha' hb hb'
theorem gcd_any (a b : Int) (w : World) (ha : 0 ≤ a) (ha' : a ≤ 9223372036854775807) (hb : 0 ≤ b) (hb' : b ≤ 9223372036854775807) :
  Calls Tryz.prog 106 #[.int .i64 a, .int .i64 b] w fun e w' => e = .returned (.int .i64 (gg a b)) ∧ w = w' := by
 go_enter Tryz.func106, Tryz.ntmps106
 go_wp2
 go_loop [0, 1, 5] (fun x y _ => ∃ p q : Int, 0 ≤ p ∧ p ≤ 9223372036854775807 ∧ 0 ≤ q ∧ q ≤ 9223372036854775807 ∧ x = .int .i64 p ∧ y = .int .i64 q ∧ Hid (gg p q = gg a b)) (fun _ y _ => (intOf y).toNat)
 case atStart => exact ⟨a, b, ha, ha', hb, hb', rfl, rfl, rfl⟩
 case round =>
  obtain ⟨p, q, h1, h2, h3, h4, rfl, rfl, hg⟩ := hrel
  by_cases hq : 0 < q
  ·have hm0 := Int.emod_nonneg p (show q ≠ 0 by omega)
   have hm1 := Int.emod_lt_of_pos p hq
   have hs := Lib.hid (gg_step p q h1 h3)
   go_wp2
   go_round
   case rel => exact ⟨q, p % q, by omega, by omega, by omega, by omega, rfl, rfl, hs.out.symm.trans hg.out⟩
   case measure => simp [intOf]; omega
  ·obtain rfl : q = 0 := by omega
   go_wp2
   go_ret
   exact ⟨ret_int ((gg_zero p h1).symm.trans hg.out), rfl⟩
theorem check_any (n d : Int) (w : World) :
  Calls Tryz.prog 131 #[.agg #[.int .i64 n, .int .i64 d]] w fun e w' => e = .returned (.int .i64 (chk n d)) ∧ Below w.heap.size w w' := by
 go_enter Tryz.func131, Tryz.ntmps131
 go_wp2_with (go_at_call 132; refine (divisor_any _ _ _ (by omega) (by omega) (by omega) (by omega)).mono ?_; rintro e w' ⟨rfl, nq, rfl⟩)
 all_goals
  go_ret
  refine ⟨ret_int ?_, ?_⟩
  ·unfold chk; (repeat' split) <;> first | rfl | omega
  ·repeat (first | exact Below.refl _ _ | refine below_drewN ?_ _ | refine Below.drew ?_ | refine below_alloc ?_ _ | (refine below_call ?_ (by assumption)) | (refine Below.setCell ?_ ?_ _; rotate_left; (simp; try omega)))
theorem refCheck_any (n d : Int) (w : World) :
  Calls Tryz.prog 105 #[.agg #[.int .i64 n, .int .i64 d]] w fun e w' => e = .returned (.int .i64 (chk n d)) ∧ Below w.heap.size w w' := by
 go_enter Tryz.func105, Tryz.ntmps105
 go_wp2_with (go_at_call 106; refine (gcd_any _ _ _ (by omega) (by omega) (by omega) (by omega)).mono ?_; rintro e w' ⟨rfl, rfl⟩)
 all_goals
  go_ret
  refine ⟨ret_int ?_, ?_⟩
  ·first
    | (unfold chk; (repeat' split) <;> first | rfl | omega)
    | (have hg : ¬ gg n d = 1 := by simpa using ‹(gg n d != 1) = true›
       have hp := gg_pos n d (.inr (by omega))
       unfold chk; (repeat' split) <;> first | rfl | omega)
    | (have hg : gg n d = 1 := by simpa using ‹(gg n d != 1) = false›
       unfold chk; (repeat' split) <;> first | rfl | omega)
  ·repeat (first | exact Below.refl _ _ | refine below_drewN ?_ _ | refine Below.drew ?_ | refine below_alloc ?_ _ | (refine below_call ?_ (by assumption)) | (refine Below.setCell ?_ ?_ _; rotate_left; (simp; try omega)))
theorem make_any (n d : Int) (w : World) (hn : n ≤ 9223372036854775807) (hd : d ≤ 9223372036854775807) :
  Calls Tryz.prog 101 #[.int .i64 n, .int .i64 d] w fun e w' => e = .returned (vT (mk n d)) ∧ Below w.heap.size w w' := by
 go_enter Tryz.func101, Tryz.ntmps101
 go_wp2_with (go_at_call 132; refine (divisor_any _ _ _ (by omega) (by omega) (by omega) (by omega)).mono ?_; rintro e w' ⟨rfl, nq, rfl⟩)
 ·refine ret_of (by simp [results, Tryz.results101, go_sem]; repeat' (first | rfl | apply And.intro)) rfl ⟨vT_ret ?_, ?_⟩
  ·unfold mk; (repeat' split) <;> first | rfl | omega
  ·repeat (first | exact Below.refl _ _ | refine below_drewN ?_ _ | refine Below.drew ?_ | refine below_alloc ?_ _ | (refine below_call ?_ (by assumption)) | (refine Below.setCell ?_ ?_ _; rotate_left; (simp; try omega)))
 ·refine ret_of (by simp [results, Tryz.results101, go_sem]; repeat' (first | rfl | apply And.intro)) rfl ⟨vT_ret ?_, ?_⟩
  ·unfold mk; (repeat' split) <;> first | rfl | omega
  ·repeat (first | exact Below.refl _ _ | refine below_drewN ?_ _ | refine Below.drew ?_ | refine below_alloc ?_ _ | (refine below_call ?_ (by assumption)) | (refine Below.setCell ?_ ?_ _; rotate_left; (simp; try omega)))
 ·have h0 : d = 0 := by simpa using ‹(d == 0) = true›
  refine ret_of (by simp [results, Tryz.results101, go_sem]; repeat' (first | rfl | apply And.intro)) rfl ⟨vT_ret ?_, ?_⟩
  ·unfold mk; (repeat' split) <;> first | rfl | omega
  ·repeat (first | exact Below.refl _ _ | refine below_drewN ?_ _ | refine Below.drew ?_ | refine below_alloc ?_ _ | (refine below_call ?_ (by assumption)) | (refine Below.setCell ?_ ?_ _; rotate_left; (simp; try omega)))
 ·have h0 : ¬ d = 0 := by simpa using ‹(d == 0) = false›
  have hp := gg_pos n d (.inr (by omega))
  go_region
  go_wp2_with fail
  all_goals
   refine ret_of (by simp [results, Tryz.results101, go_sem]; repeat' (first | rfl | apply And.intro)) rfl ⟨vT_ret ?_, ?_⟩
   ·unfold mk ofq; (repeat' split) <;> first | rfl | omega
   ·repeat (first | exact Below.refl _ _ | refine below_drewN ?_ _ | refine Below.drew ?_ | refine below_alloc ?_ _ | (refine below_call ?_ (by assumption)) | (refine Below.setCell ?_ ?_ _; rotate_left; (simp; try omega)))
theorem of_any (n d : Int) (w : World) (hn0 : 0 ≤ n) (hn : n ≤ 9223372036854775807) (hd0 : 1 ≤ d) (hd : d ≤ 9223372036854775807) :
  Calls Tryz.prog 80 #[.int .i64 n, .int .i64 d] w fun e w' => e = .returned (vT (ofq n d)) ∧ Below w.heap.size w w' := by
 have hp := gg_pos n d (.inr (by omega))
 go_enter Tryz.func80, Tryz.ntmps80
 go_wp2_with (go_at_call 106; refine (gcd_any _ _ _ (by omega) (by omega) (by omega) (by omega)).mono ?_; rintro e w' ⟨rfl, rfl⟩)
 all_goals
  refine ret_of (by simp [results, Tryz.results80, go_sem]; repeat' (first | rfl | apply And.intro)) rfl ⟨vT_ret ?_, ?_⟩
  ·unfold ofq; (repeat' split) <;> first | rfl | omega
  ·repeat (first | exact Below.refl _ _ | refine below_drewN ?_ _ | refine Below.drew ?_ | refine below_alloc ?_ _ | (refine below_call ?_ (by assumption)) | (refine Below.setCell ?_ ?_ _; rotate_left; (simp; try omega)))
theorem first_any (A : Option Addr) (n c : Nat) (l : List (Int × Int)) (B : Nat) (w : World) (h : Reads w B 2 A n (csT l)) (hB : B ≤ w.heap.size) (hn : n ≤ 9223372036854775807) :
  Calls Tryz.prog 100 #[.slice A n c] w fun e w' => e = .returned (.int .i64 (firstS l)) ∧ Below w.heap.size w w' := by
 have hl : l.length = n := h.len (f := cT) (fun _ => rfl) (by omega)
 have HL := Lib.hid hl; clear hl
 go_enter Tryz.func100, Tryz.ntmps100
 go_wp2
 go_loopw [4, 5, 8] (fun _ _ i wr => ∃ k : Nat, k ≤ n ∧ i = .int .i64 k ∧ Hid (firstS (l.drop k) = firstS l) ∧ Below w.heap.size w wr) (fun _ _ i _ => n - (intOf i).toNat)
 case atStart => exact ⟨0, by omega, rfl, rfl, Below.refl _ _⟩
 case round =>
  obtain ⟨k, hk, rfl, hs, hb⟩ := hrel
  by_cases hlt : k < n
  ·obtain ⟨⟨p, q⟩, hx⟩ := get_some (l := l) (k := k) (by have := HL.out; omega)
   have HD := Lib.hid (drop_get hx)
   obtain ⟨b, off, rfl, hab, hc⟩ := h.elem (f := cT) (fun _ => rfl) hlt hx
   have c0 := hc 0 _ rfl
   have c1 := hc 1 _ rfl
   rw [← hb.cell (by simp; omega)] at c0 c1
   simp only [Nat.add_zero, ← Nat.add_assoc] at c0 c1
   clear hc hx
   go_wp2_with (go_at_call 131; refine (check_any _ _ _).mono ?_; rintro e w1 ⟨rfl, hb1⟩)
   ·go_ret
    have hne : (chk p q != 0) = true := by assumption
    refine ⟨ret_int ?_, ?_⟩
    ·rw [← hs.out, HD.out, firstS_bad (by simpa using hne)]
    ·exact below_call (below_alloc hb _) hb1
   ·go_roundw
    case rel =>
     have hne : (chk p q != 0) = false := by assumption
     refine ⟨k + 1, by omega, by go_num, ?_, below_call (below_alloc hb _) hb1⟩
     have h1 := hs.out
     rw [HD.out, firstS_next (by simpa using hne)] at h1
     exact h1
    case measure => simp [intOf]; omega
  ·go_wp2
   go_ret
   refine ⟨ret_int ?_, hb⟩
   rw [← hs.out, List.drop_eq_nil_of_le (by have := HL.out; omega)]; rfl
theorem first_two (a a' b b' : Int) (w : World) (t : TypeId) (g : Nat) (hg : g = w.heap.size) :
  Calls Tryz.prog 100 #[.slice (some ⟨g, 0, none⟩) 2 2] (w.alloc (.cells #[.int .i64 a, .int .i64 a', .int .i64 b, .int .i64 b'] t)) fun e w' => e = .returned (.int .i64 (both (a, a') (b, b'))) ∧ Below (w.alloc (.cells #[.int .i64 a, .int .i64 a', .int .i64 b, .int .i64 b'] t)).heap.size (w.alloc (.cells #[.int .i64 a, .int .i64 a', .int .i64 b, .int .i64 b'] t)) w' := by
 have h := first_any (some ⟨g, 0, none⟩) 2 2 [(a, a'), (b, b')] _ (w.alloc (.cells #[.int .i64 a, .int .i64 a', .int .i64 b, .int .i64 b'] t)) (Reads.newAt _ _ _ _ _ _ hg rfl) (by simp; omega) (by omega)
 rw [firstS_two] at h
 exact h
theorem refBoth_any (a b : Int × Int) (w : World) :
  Calls Tryz.prog 79 #[.agg #[.int .i64 a.1, .int .i64 a.2], .agg #[.int .i64 b.1, .int .i64 b.2]] w fun e w' => e = .returned (.int .i64 (both a b)) ∧ Below w.heap.size w w' := by
 obtain ⟨a, a'⟩ := a
 obtain ⟨b, b'⟩ := b
 go_enter Tryz.func79, Tryz.ntmps79
 go_wp2_with (go_at_call 105; refine (refCheck_any _ _ _).mono ?_; rintro e w1 ⟨rfl, hb1⟩; have hc1 := (bcell hb1).1)
 ·go_ret
  have hne : (chk a a' != 0) = true := by assumption
  refine ⟨ret_int ?_, ?_⟩
  ·unfold both; rw [if_pos (by simpa using hne)]
  ·repeat (first | exact Below.refl _ _ | refine below_drewN ?_ _ | refine Below.drew ?_ | refine below_alloc ?_ _ | (refine below_call ?_ (by assumption)) | (refine Below.setCell ?_ ?_ _; rotate_left; (simp; try omega)))
 ·go_ret
  have hne : (chk a a' != 0) = false := by assumption
  refine ⟨ret_int ?_, ?_⟩
  ·unfold both; rw [if_neg (by simpa using hne)]
  ·repeat (first | exact Below.refl _ _ | refine below_drewN ?_ _ | refine Below.drew ?_ | refine below_alloc ?_ _ | (refine below_call ?_ (by assumption)) | (refine Below.setCell ?_ ?_ _; rotate_left; (simp; try omega)))
theorem add_any (a b : Int × Int) (w : World) :
  Calls Tryz.prog 98 #[.agg #[.int .i64 a.1, .int .i64 a.2], .agg #[.int .i64 b.1, .int .i64 b.2]] w fun e w' => e = .returned (vT (addS a b)) ∧ Below w.heap.size w w' := by
 obtain ⟨a, a'⟩ := a
 obtain ⟨b, b'⟩ := b
 by_cases hz : both (a, a') (b, b') = 0
 ·obtain ⟨⟨a1, a2, a3, a4, a5⟩, ⟨b1, b2, b3, b4, b5⟩⟩ := both_ok hz
  simp only at a1 a2 a3 a4 a5 b1 b2 b3 b4 b5
  have m1 := mul_bd a1 (show 0 ≤ b' by omega) a2 b4
  have m2 := mul_bd b1 (show 0 ≤ a' by omega) b2 a4
  have m3 := mul_bd (show 0 ≤ a' by omega) (show 0 ≤ b' by omega) a4 b4
  have m4 : 1 ≤ a' * b' := by have := Int.mul_le_mul a3 b3 (by omega) (by omega); omega
  have A5 := Lib.hid a5; have B5 := Lib.hid b5; clear a5 b5
  go_enter Tryz.func98, Tryz.ntmps98
  go_wp2_with (first | (go_at_call 100; refine (first_two _ _ _ _ _ _ _ (by simp)).mono ?_; rintro e w1 ⟨rfl, hb1⟩; have hc1 := (bcell hb1).1; have hf1 := (bcell hb1).2) | (go_at_call 101; refine (make_any _ _ _ (by omega) (by omega)).mono ?_; rintro e w2 ⟨rfl, hb2'⟩; have hb2 := below_call hb1 hb2'; clear hb2'; have hc2 := (bcell hb2).1; have hf2 := (bcell hb2).2))
  refine ret_of (by simp [results, Tryz.results98, go_sem, hc2]; repeat' (first | rfl | apply And.intro)) rfl ⟨vT_ret ?_, ?_⟩
  ·unfold addS; rw [if_neg (by rw [hz]; exact fun h => h rfl)]
  ·repeat (first | exact Below.refl _ _ | refine below_drewN ?_ _ | refine Below.drew ?_ | refine below_alloc ?_ _ | (refine below_call ?_ (by assumption)) | (refine Below.setCell ?_ ?_ _; rotate_left; (simp; try omega)))
 ·go_enter Tryz.func98, Tryz.ntmps98
  go_wp2_with ((go_at_call 100; refine (first_two _ _ _ _ _ _ _ (by simp)).mono ?_; rintro e w1 ⟨rfl, hb1⟩; have hc1 := (bcell hb1).1; have hf1 := (bcell hb1).2))
  refine ret_of (by simp [results, Tryz.results98, go_sem, hc1]; repeat' (first | rfl | apply And.intro)) rfl ⟨vT_ret ?_, ?_⟩
  ·unfold addS; rw [if_pos hz]
  ·repeat (first | exact Below.refl _ _ | refine below_drewN ?_ _ | refine Below.drew ?_ | refine below_alloc ?_ _ | (refine below_call ?_ (by assumption)) | (refine Below.setCell ?_ ?_ _; rotate_left; (simp; try omega)))
theorem sub_any (a b : Int × Int) (w : World) :
  Calls Tryz.prog 73 #[.agg #[.int .i64 a.1, .int .i64 a.2], .agg #[.int .i64 b.1, .int .i64 b.2]] w fun e w' => e = .returned (vT (subS a b)) ∧ Below w.heap.size w w' := by
 obtain ⟨a, a'⟩ := a
 obtain ⟨b, b'⟩ := b
 by_cases hz : both (a, a') (b, b') = 0
 ·obtain ⟨⟨a1, a2, a3, a4, a5⟩, ⟨b1, b2, b3, b4, b5⟩⟩ := both_ok hz
  simp only at a1 a2 a3 a4 a5 b1 b2 b3 b4 b5
  have m1 := mul_bd a1 (show 0 ≤ b' by omega) a2 b4
  have m2 := mul_bd b1 (show 0 ≤ a' by omega) b2 a4
  have m3 := mul_bd (show 0 ≤ a' by omega) (show 0 ≤ b' by omega) a4 b4
  have m4 : 1 ≤ a' * b' := by have := Int.mul_le_mul a3 b3 (by omega) (by omega); omega
  have A5 := Lib.hid a5; have B5 := Lib.hid b5; clear a5 b5
  go_enter Tryz.func73, Tryz.ntmps73
  go_wp2_with (first | (go_at_call 100; refine (first_two _ _ _ _ _ _ _ (by simp)).mono ?_; rintro e w1 ⟨rfl, hb1⟩; have hc1 := (bcell hb1).1; have hf1 := (bcell hb1).2) | (go_at_call 101; refine (make_any _ _ _ (by omega) (by omega)).mono ?_; rintro e w2 ⟨rfl, hb2'⟩; have hb2 := below_call hb1 hb2'; clear hb2'; have hc2 := (bcell hb2).1; have hf2 := (bcell hb2).2))
  refine ret_of (by simp [results, Tryz.results73, go_sem, hc2]; repeat' (first | rfl | apply And.intro)) rfl ⟨vT_ret ?_, ?_⟩
  ·unfold subS; rw [if_neg (by rw [hz]; exact fun h => h rfl)]
  ·repeat (first | exact Below.refl _ _ | refine below_drewN ?_ _ | refine Below.drew ?_ | refine below_alloc ?_ _ | (refine below_call ?_ (by assumption)) | (refine Below.setCell ?_ ?_ _; rotate_left; (simp; try omega)))
 ·go_enter Tryz.func73, Tryz.ntmps73
  go_wp2_with ((go_at_call 100; refine (first_two _ _ _ _ _ _ _ (by simp)).mono ?_; rintro e w1 ⟨rfl, hb1⟩; have hc1 := (bcell hb1).1; have hf1 := (bcell hb1).2))
  refine ret_of (by simp [results, Tryz.results73, go_sem, hc1]; repeat' (first | rfl | apply And.intro)) rfl ⟨vT_ret ?_, ?_⟩
  ·unfold subS; rw [if_pos hz]
  ·repeat (first | exact Below.refl _ _ | refine below_drewN ?_ _ | refine Below.drew ?_ | refine below_alloc ?_ _ | (refine below_call ?_ (by assumption)) | (refine Below.setCell ?_ ?_ _; rotate_left; (simp; try omega)))
theorem refAdd_any (a b : Int × Int) (w : World) :
  Calls Tryz.prog 104 #[.agg #[.int .i64 a.1, .int .i64 a.2], .agg #[.int .i64 b.1, .int .i64 b.2]] w fun e w' => e = .returned (vT (addS a b)) ∧ Below w.heap.size w w' := by
 obtain ⟨a, a'⟩ := a
 obtain ⟨b, b'⟩ := b
 by_cases hz : both (a, a') (b, b') = 0
 ·obtain ⟨⟨a1, a2, a3, a4, a5⟩, ⟨b1, b2, b3, b4, b5⟩⟩ := both_ok hz
  simp only at a1 a2 a3 a4 a5 b1 b2 b3 b4 b5
  have m1 := mul_bd a1 (show 0 ≤ b' by omega) a2 b4
  have m2 := mul_bd b1 (show 0 ≤ a' by omega) b2 a4
  have m3 := mul_bd (show 0 ≤ a' by omega) (show 0 ≤ b' by omega) a4 b4
  have m4 : 1 ≤ a' * b' := by have := Int.mul_le_mul a3 b3 (by omega) (by omega); omega
  have A5 := Lib.hid a5; have B5 := Lib.hid b5; clear a5 b5
  go_enter Tryz.func104, Tryz.ntmps104
  go_wp2_with (first | (go_at_call 79; refine (refBoth_any (_, _) (_, _) _).mono ?_; rintro e w1 ⟨rfl, hb1⟩; have hc1 := (bcell hb1).1; have hf1 := (bcell hb1).2) | (go_at_call 80; refine (of_any _ _ _ (by omega) (by omega) (by omega) (by omega)).mono ?_; rintro e w2 ⟨rfl, hb2'⟩; have hb2 := below_call hb1 hb2'; clear hb2'; have hc2 := (bcell hb2).1; have hf2 := (bcell hb2).2))
  refine ret_of (by simp [results, Tryz.results104, go_sem, hc2]; repeat' (first | rfl | apply And.intro)) rfl ⟨vT_ret ?_, ?_⟩
  ·unfold addS; rw [if_neg (by rw [hz]; exact fun h => h rfl), mk_of (by simp only; omega) (by simp only; omega)]
  ·repeat (first | exact Below.refl _ _ | refine below_drewN ?_ _ | refine Below.drew ?_ | refine below_alloc ?_ _ | (refine below_call ?_ (by assumption)) | (refine Below.setCell ?_ ?_ _; rotate_left; (simp; try omega)))
 ·go_enter Tryz.func104, Tryz.ntmps104
  go_wp2_with ((go_at_call 79; refine (refBoth_any (_, _) (_, _) _).mono ?_; rintro e w1 ⟨rfl, hb1⟩; have hc1 := (bcell hb1).1; have hf1 := (bcell hb1).2))
  refine ret_of (by simp [results, Tryz.results104, go_sem, hc1]; repeat' (first | rfl | apply And.intro)) rfl ⟨vT_ret ?_, ?_⟩
  ·unfold addS; rw [if_pos hz]
  ·repeat (first | exact Below.refl _ _ | refine below_drewN ?_ _ | refine Below.drew ?_ | refine below_alloc ?_ _ | (refine below_call ?_ (by assumption)) | (refine Below.setCell ?_ ?_ _; rotate_left; (simp; try omega)))
theorem refSub_any (a b : Int × Int) (w : World) :
  Calls Tryz.prog 53 #[.agg #[.int .i64 a.1, .int .i64 a.2], .agg #[.int .i64 b.1, .int .i64 b.2]] w fun e w' => e = .returned (vT (subS a b)) ∧ Below w.heap.size w w' := by
 obtain ⟨a, a'⟩ := a
 obtain ⟨b, b'⟩ := b
 by_cases hz : both (a, a') (b, b') = 0
 ·obtain ⟨⟨a1, a2, a3, a4, a5⟩, ⟨b1, b2, b3, b4, b5⟩⟩ := both_ok hz
  simp only at a1 a2 a3 a4 a5 b1 b2 b3 b4 b5
  have m1 := mul_bd a1 (show 0 ≤ b' by omega) a2 b4
  have m2 := mul_bd b1 (show 0 ≤ a' by omega) b2 a4
  have m3 := mul_bd (show 0 ≤ a' by omega) (show 0 ≤ b' by omega) a4 b4
  have m4 : 1 ≤ a' * b' := by have := Int.mul_le_mul a3 b3 (by omega) (by omega); omega
  have A5 := Lib.hid a5; have B5 := Lib.hid b5; clear a5 b5
  by_cases hlt : a * b' < b * a'
  ·go_enter Tryz.func53, Tryz.ntmps53
   go_wp2_with ((go_at_call 79; refine (refBoth_any (_, _) (_, _) _).mono ?_; rintro e w1 ⟨rfl, hb1⟩; have hc1 := (bcell hb1).1; have hf1 := (bcell hb1).2))
   refine ret_of (by simp [results, Tryz.results53, go_sem, hc1]; repeat' (first | rfl | apply And.intro)) rfl ⟨vT_ret ?_, ?_⟩
   ·unfold subS mk; rw [if_neg (by rw [hz]; exact fun h => h rfl), if_pos (by simp only; omega)]
   ·repeat (first | exact Below.refl _ _ | refine below_drewN ?_ _ | refine Below.drew ?_ | refine below_alloc ?_ _ | (refine below_call ?_ (by assumption)) | (refine Below.setCell ?_ ?_ _; rotate_left; (simp; try omega)))
  ·have hle : b * a' ≤ a * b' := by omega
   clear hlt
   go_enter Tryz.func53, Tryz.ntmps53
   go_wp2_with (first | (go_at_call 79; refine (refBoth_any (_, _) (_, _) _).mono ?_; rintro e w1 ⟨rfl, hb1⟩; have hc1 := (bcell hb1).1; have hf1 := (bcell hb1).2) | (go_at_call 80; refine (of_any _ _ _ (by omega) (by omega) (by omega) (by omega)).mono ?_; rintro e w2 ⟨rfl, hb2'⟩; have hb2 := below_call hb1 hb2'; clear hb2'; have hc2 := (bcell hb2).1; have hf2 := (bcell hb2).2))
   refine ret_of (by simp [results, Tryz.results53, go_sem, hc2]; repeat' (first | rfl | apply And.intro)) rfl ⟨vT_ret ?_, ?_⟩
   ·unfold subS; rw [if_neg (by rw [hz]; exact fun h => h rfl), mk_of (by simp only; omega) (by simp only; omega)]
   ·repeat (first | exact Below.refl _ _ | refine below_drewN ?_ _ | refine Below.drew ?_ | refine below_alloc ?_ _ | (refine below_call ?_ (by assumption)) | (refine Below.setCell ?_ ?_ _; rotate_left; (simp; try omega)))
 ·go_enter Tryz.func53, Tryz.ntmps53
  go_wp2_with ((go_at_call 79; refine (refBoth_any (_, _) (_, _) _).mono ?_; rintro e w1 ⟨rfl, hb1⟩; have hc1 := (bcell hb1).1; have hf1 := (bcell hb1).2))
  refine ret_of (by simp [results, Tryz.results53, go_sem, hc1]; repeat' (first | rfl | apply And.intro)) rfl ⟨vT_ret ?_, ?_⟩
  ·unfold subS; rw [if_pos hz]
  ·repeat (first | exact Below.refl _ _ | refine below_drewN ?_ _ | refine Below.drew ?_ | refine below_alloc ?_ _ | (refine below_call ?_ (by assumption)) | (refine Below.setCell ?_ ?_ _; rotate_left; (simp; try omega)))
theorem cmp_any (a b : Int × Int) (w : World) :
  Calls Tryz.prog 102 #[.agg #[.int .i64 a.1, .int .i64 a.2], .agg #[.int .i64 b.1, .int .i64 b.2]] w fun e w' => e = .returned (.tuple #[.int .i64 (cmpS a b).1, .int .i64 (cmpS a b).2]) ∧ Below w.heap.size w w' := by
 obtain ⟨a, a'⟩ := a
 obtain ⟨b, b'⟩ := b
 by_cases hz : both (a, a') (b, b') = 0
 ·obtain ⟨⟨a1, a2, a3, a4, a5⟩, ⟨b1, b2, b3, b4, b5⟩⟩ := both_ok hz
  simp only at a1 a2 a3 a4 a5 b1 b2 b3 b4 b5
  have m1 := mul_bd a1 (show 0 ≤ b' by omega) a2 b4
  have m2 := mul_bd b1 (show 0 ≤ a' by omega) b2 a4
  have m3 := mul_bd (show 0 ≤ a' by omega) (show 0 ≤ b' by omega) a4 b4
  have m4 : 1 ≤ a' * b' := by have := Int.mul_le_mul a3 b3 (by omega) (by omega); omega
  have A5 := Lib.hid a5; have B5 := Lib.hid b5; clear a5 b5
  go_enter Tryz.func102, Tryz.ntmps102
  go_wp2_with ((go_at_call 100; refine (first_two _ _ _ _ _ _ _ (by simp)).mono ?_; rintro e w1 ⟨rfl, hb1⟩; have hc1 := (bcell hb1).1; have hf1 := (bcell hb1).2))
  all_goals
   go_ret2
   refine ⟨?_, ?_⟩
   ·unfold cmpS sgn; rw [if_neg (by rw [hz]; exact fun h => h rfl)]; simp only; (repeat' split) <;> first | rfl | omega
   ·repeat (first | exact Below.refl _ _ | refine below_drewN ?_ _ | refine Below.drew ?_ | refine below_alloc ?_ _ | (refine below_call ?_ (by assumption)) | (refine Below.setCell ?_ ?_ _; rotate_left; (simp; try omega)))
 ·go_enter Tryz.func102, Tryz.ntmps102
  go_wp2_with ((go_at_call 100; refine (first_two _ _ _ _ _ _ _ (by simp)).mono ?_; rintro e w1 ⟨rfl, hb1⟩; have hc1 := (bcell hb1).1; have hf1 := (bcell hb1).2))
  go_ret2
  refine ⟨?_, ?_⟩
  ·unfold cmpS; rw [if_pos hz]; rfl
  ·repeat (first | exact Below.refl _ _ | refine below_drewN ?_ _ | refine Below.drew ?_ | refine below_alloc ?_ _ | (refine below_call ?_ (by assumption)) | (refine Below.setCell ?_ ?_ _; rotate_left; (simp; try omega)))
theorem refCmp_any (a b : Int × Int) (w : World) :
  Calls Tryz.prog 107 #[.agg #[.int .i64 a.1, .int .i64 a.2], .agg #[.int .i64 b.1, .int .i64 b.2]] w fun e w' => e = .returned (.tuple #[.int .i64 (cmpS a b).1, .int .i64 (cmpS a b).2]) ∧ Below w.heap.size w w' := by
 obtain ⟨a, a'⟩ := a
 obtain ⟨b, b'⟩ := b
 by_cases hz : both (a, a') (b, b') = 0
 ·obtain ⟨⟨a1, a2, a3, a4, a5⟩, ⟨b1, b2, b3, b4, b5⟩⟩ := both_ok hz
  simp only at a1 a2 a3 a4 a5 b1 b2 b3 b4 b5
  have m1 := mul_bd a1 (show 0 ≤ b' by omega) a2 b4
  have m2 := mul_bd b1 (show 0 ≤ a' by omega) b2 a4
  have m3 := mul_bd (show 0 ≤ a' by omega) (show 0 ≤ b' by omega) a4 b4
  have m4 : 1 ≤ a' * b' := by have := Int.mul_le_mul a3 b3 (by omega) (by omega); omega
  have A5 := Lib.hid a5; have B5 := Lib.hid b5; clear a5 b5
  go_enter Tryz.func107, Tryz.ntmps107
  go_wp2_with ((go_at_call 79; refine (refBoth_any (_, _) (_, _) _).mono ?_; rintro e w1 ⟨rfl, hb1⟩; have hc1 := (bcell hb1).1; have hf1 := (bcell hb1).2))
  go_quiet (fail)
  go_wp2_with fail
  all_goals
   go_ret2
   refine ⟨?_, ?_⟩
   ·unfold cmpS sgn; rw [if_neg (by rw [hz]; exact fun h => h rfl)]; simp only; (repeat' split) <;> first | rfl | omega
   ·repeat (first | exact Below.refl _ _ | refine below_drewN ?_ _ | refine Below.drew ?_ | refine below_alloc ?_ _ | (refine below_call ?_ (by assumption)) | (refine Below.setCell ?_ ?_ _; rotate_left; (simp; try omega)))
 ·go_enter Tryz.func107, Tryz.ntmps107
  go_wp2_with ((go_at_call 79; refine (refBoth_any (_, _) (_, _) _).mono ?_; rintro e w1 ⟨rfl, hb1⟩; have hc1 := (bcell hb1).1; have hf1 := (bcell hb1).2))
  go_ret2
  refine ⟨?_, ?_⟩
  ·unfold cmpS; rw [if_pos hz]; rfl
  ·repeat (first | exact Below.refl _ _ | refine below_drewN ?_ _ | refine Below.drew ?_ | refine below_alloc ?_ _ | (refine below_call ?_ (by assumption)) | (refine Below.setCell ?_ ?_ _; rotate_left; (simp; try omega)))
theorem t_any (n d : Int) (w : World) (hn0 : 0 ≤ n) (hn : n ≤ 9223372036854775807) (hd0 : 0 ≤ d) (hd : d ≤ 9223372036854775807) :
  Calls Tryz.prog 39 #[.int .i64 n, .int .i64 d] w fun e w' => e = .returned (.agg #[.int .i64 (tS n d).1, .int .i64 (tS n d).2]) ∧ Below w.heap.size w w' := by
 go_enter Tryz.func39, Tryz.ntmps39
 go_wp2
 go_loop [5, 6, 7] (fun x y _ => ∃ p q : Int, 0 ≤ p ∧ p ≤ 9223372036854775807 ∧ 0 ≤ q ∧ q ≤ 9223372036854775807 ∧ x = .int .i64 p ∧ y = .int .i64 q ∧ Hid (gg p q = gg n d)) (fun _ y _ => (intOf y).toNat)
 case atStart => exact ⟨n, d, hn0, hn, hd0, hd, rfl, rfl, rfl⟩
 case round =>
  obtain ⟨p, q, h1, h2, h3, h4, rfl, rfl, hg⟩ := hrel
  by_cases hq : 0 < q
  ·have hm0 := Int.emod_nonneg p (show q ≠ 0 by omega)
   have hm1 := Int.emod_lt_of_pos p hq
   have hs := Lib.hid (gg_step p q h1 h3)
   go_wp2
   go_round
   case rel => exact ⟨q, p % q, by omega, by omega, by omega, by omega, rfl, rfl, hs.out.symm.trans hg.out⟩
   case measure => simp [intOf]; omega
  ·obtain rfl : q = 0 := by omega
   have hg2 := Lib.hid ((gg_zero p h1).symm.trans hg.out)
   by_cases hp : p < 1
   ·go_wp2
    refine ret_of (by simp [results, Tryz.results39, go_sem]; repeat' (first | rfl | apply And.intro)) rfl ⟨?_, ?_⟩
    ·unfold tS; rw [if_pos (by rw [← hg2.out]; exact hp)]
    ·repeat (first | exact Below.refl _ _ | refine below_drewN ?_ _ | refine Below.drew ?_ | refine below_alloc ?_ _ | (refine below_call ?_ (by assumption)) | (refine Below.setCell ?_ ?_ _; rotate_left; (simp; try omega)))
   ·have hp1 : 1 ≤ p := by omega
    clear hp
    go_wp2
    go_region
    go_wp2
    refine ret_of (by simp [results, Tryz.results39, go_sem]; repeat' (first | rfl | apply And.intro)) rfl ⟨?_, ?_⟩
    ·unfold tS; rw [if_neg (by rw [← hg2.out]; omega), ← hg2.out]
    ·repeat (first | exact Below.refl _ _ | refine below_drewN ?_ _ | refine Below.drew ?_ | refine below_alloc ?_ _ | (refine below_call ?_ (by assumption)) | (refine Below.setCell ?_ ?_ _; rotate_left; (simp; try omega)))
end Go.Proofs.YtpkmiegccfhpnaaGreatDoor
/- The walks through the functions of the layer span and of its reference, second part: wholes and sums. -/
namespace Go.Proofs.YtpkmiegccfhpnaaGreatDoor
open Go.RowKit
@[reducible] def vW (x : Int × Int × Int × Int) : Value := .tuple #[.int .i64 x.1, .agg #[.int .i64 x.2.1, .int .i64 x.2.2.1], .int .i64 x.2.2.2]
end Go.Proofs.YtpkmiegccfhpnaaGreatDoor
/- The walks through the checks of pitches and events, the program's and the reference's. -/
namespace Go.Proofs.YtpkmiegccfhpnaaGreatDoor
open Go.RowKit
@[reducible] def vP (p : Int × Int × Int) : Value := .agg #[.int .i64 p.1, .int .i64 p.2.1, .int .i64 p.2.2]
@[reducible] def vTm (t : Int × Int) : Value := .agg #[.int .i64 t.1, .int .i64 t.2]
@[reducible] def vE (x : Ev) : Value := .agg #[.int .i64 x.at_.1, .int .i64 x.at_.2, .int .i64 x.dur.1, .int .i64 x.dur.2, .int .i64 x.pit.1, .int .i64 x.pit.2.1, .int .i64 x.pit.2.2, .bool x.rest, .int .i64 x.sign, .int .i64 x.pass]
def cE (x : Ev) : List Value := [.int .i64 x.at_.1, .int .i64 x.at_.2, .int .i64 x.dur.1, .int .i64 x.dur.2, .int .i64 x.pit.1, .int .i64 x.pit.2.1, .int .i64 x.pit.2.2, .bool x.rest, .int .i64 x.sign, .int .i64 x.pass]
def csE (l : List Ev) : List Value := l.flatMap cE
theorem pcheck_any (p : Int × Int × Int) (w : World) :
  Calls Tryz.prog 120 #[vP p] w fun e w' => e = .returned (.int .i64 (pchk p)) ∧ Below w.heap.size w w' := by
 obtain ⟨a, b, c⟩ := p
 go_enter Tryz.func120, Tryz.ntmps120
 go_wp2
 all_goals
  go_ret
  refine ⟨ret_int ?_, ?_⟩
  ·unfold pchk; first | rw [if_pos (by simp only; omega)] | rw [if_neg (by simp only; omega)]
  ·repeat (first | exact Below.refl _ _ | refine below_drewN ?_ _ | refine Below.drew ?_ | refine below_alloc ?_ _ | (refine below_call ?_ (by assumption)) | (refine Below.setCell ?_ ?_ _; rotate_left; (simp; try omega)))
theorem refPcheck_any (p : Int × Int × Int) (w : World) :
  Calls Tryz.prog 130 #[vP p] w fun e w' => e = .returned (.int .i64 (pchk p)) ∧ Below w.heap.size w w' := by
 obtain ⟨a, b, c⟩ := p
 go_enter Tryz.func130, Tryz.ntmps130
 go_wp2
 all_goals
  go_ret
  refine ⟨ret_int ?_, ?_⟩
  ·unfold pchk; first | rw [if_pos (by simp only; omega)] | rw [if_neg (by simp only; omega)]
  ·repeat (first | exact Below.refl _ _ | refine below_drewN ?_ _ | refine Below.drew ?_ | refine below_alloc ?_ _ | (refine below_call ?_ (by assumption)) | (refine Below.setCell ?_ ?_ _; rotate_left; (simp; try omega)))
theorem evZero_any (w : World) : Calls Tryz.prog 96 #[] w fun e w' => e = .returned (.agg #[.int .i64 0, .int .i64 1]) ∧ Below w.heap.size w w' := by
 go_enter Tryz.func96, Tryz.ntmps96
 go_wp2
 refine ret_of (by simp [results, Tryz.results96, go_sem]; repeat' (first | rfl | apply And.intro)) rfl ⟨rfl, ?_⟩
 repeat (first | exact Below.refl _ _ | refine below_drewN ?_ _ | refine Below.drew ?_ | refine below_alloc ?_ _ | (refine below_call ?_ (by assumption)) | (refine Below.setCell ?_ ?_ _; rotate_left; (simp; try omega)))
theorem refOne_any (x : Ev) (t : Int × Int) (w : World) :
  Calls Tryz.prog 103 #[vE x, vTm t] w fun e w' => e = .returned (.int .i64 (stepS t x)) ∧ Below w.heap.size w w' := by
 obtain ⟨⟨a, a'⟩, ⟨d, d'⟩, ⟨p, q, r⟩, rst, sg, ps⟩ := x
 obtain ⟨t, t'⟩ := t
 have r0 : Blk ((w.alloc (.cells #[.int .i64 a, .int .i64 a', .int .i64 d, .int .i64 d', .int .i64 p, .int .i64 q, .int .i64 r, .bool rst, .int .i64 sg, .int .i64 ps] 49)).alloc (.cells #[.int .i64 t, .int .i64 t'] 45)) w.heap.size 49 #[.int .i64 a, .int .i64 a', .int .i64 d, .int .i64 d', .int .i64 p, .int .i64 q, .int .i64 r, .bool rst, .int .i64 sg, .int .i64 ps] := (Blk.new w _ _).alloc _
 have k0 : Below w.heap.size w ((w.alloc (.cells #[.int .i64 a, .int .i64 a', .int .i64 d, .int .i64 d', .int .i64 p, .int .i64 q, .int .i64 r, .bool rst, .int .i64 sg, .int .i64 ps] 49)).alloc (.cells #[.int .i64 t, .int .i64 t'] 45)) := by repeat (first | exact Below.refl _ _ | refine below_drewN ?_ _ | refine Below.drew ?_ | refine below_alloc ?_ _ | (refine below_call ?_ (by assumption)) | (refine Below.setCell ?_ ?_ _; rotate_left; (simp; try omega)))
 have s0 : Blk ((w.alloc (.cells #[.int .i64 a, .int .i64 a', .int .i64 d, .int .i64 d', .int .i64 p, .int .i64 q, .int .i64 r, .bool rst, .int .i64 sg, .int .i64 ps] 49)).alloc (.cells #[.int .i64 t, .int .i64 t'] 45)) (w.heap.size + 1) 45 #[.int .i64 t, .int .i64 t'] := Blk.newAt _ _ _ _ (by simp)
 dsimp only [vE, vTm, vP]
 go_enter Tryz.func103, Tryz.ntmps103
 go_wp2_with (first | (go_at_call 105; refine (refCheck_any _ _ _).mono ?_; rintro e wn ⟨rfl, hbn⟩; replace rn := Blk.kept (by with_reducible first | exact rn | exact r0 | exact rn.alloc _ | exact r0.alloc _ | exact (rn.alloc _).alloc _ | exact (r0.alloc _).alloc _) hbn; replace en := rn.cell; replace gn := rn.frozen; replace zn := rn.lt; replace sn := Blk.kept (by with_reducible first | exact sn | exact s0 | exact sn.alloc _ | exact s0.alloc _ | exact (sn.alloc _).alloc _ | exact (s0.alloc _).alloc _) hbn; replace fn := sn.cell; replace hn := sn.frozen; replace yn := sn.lt; replace kn := below_call (by with_reducible first | exact kn | exact k0 | exact below_alloc kn _ | exact below_alloc k0 _ | exact below_alloc (below_alloc kn _) _ | exact below_alloc (below_alloc k0 _) _) hbn; clear hbn) | (go_at_call 130; refine (refPcheck_any (_, _, _) _).mono ?_; rintro e wn ⟨rfl, hbn⟩; replace rn := Blk.kept (by with_reducible first | exact rn | exact r0 | exact rn.alloc _ | exact r0.alloc _ | exact (rn.alloc _).alloc _ | exact (r0.alloc _).alloc _) hbn; replace en := rn.cell; replace gn := rn.frozen; replace zn := rn.lt; replace sn := Blk.kept (by with_reducible first | exact sn | exact s0 | exact sn.alloc _ | exact s0.alloc _ | exact (sn.alloc _).alloc _ | exact (s0.alloc _).alloc _) hbn; replace fn := sn.cell; replace hn := sn.frozen; replace yn := sn.lt; replace kn := below_call (by with_reducible first | exact kn | exact k0 | exact below_alloc kn _ | exact below_alloc k0 _ | exact below_alloc (below_alloc kn _) _ | exact below_alloc (below_alloc k0 _) _) hbn; clear hbn) | (go_at_call 104; refine (refAdd_any (_, _) (_, _) _).mono ?_; rintro e wn ⟨rfl, hbn⟩; replace rn := Blk.kept (by with_reducible first | exact rn | exact r0 | exact rn.alloc _ | exact r0.alloc _ | exact (rn.alloc _).alloc _ | exact (r0.alloc _).alloc _) hbn; replace en := rn.cell; replace gn := rn.frozen; replace zn := rn.lt; replace sn := Blk.kept (by with_reducible first | exact sn | exact s0 | exact sn.alloc _ | exact s0.alloc _ | exact (sn.alloc _).alloc _ | exact (s0.alloc _).alloc _) hbn; replace fn := sn.cell; replace hn := sn.frozen; replace yn := sn.lt; replace kn := below_call (by with_reducible first | exact kn | exact k0 | exact below_alloc kn _ | exact below_alloc k0 _ | exact below_alloc (below_alloc kn _) _ | exact below_alloc (below_alloc k0 _) _) hbn; clear hbn))
 all_goals
  go_ret
  refine ⟨ret_int ?_, by repeat (first | exact Below.refl _ _ | assumption | refine below_drewN ?_ _ | refine Below.drew ?_ | refine below_alloc ?_ _ | (refine below_call ?_ (by assumption)) | (refine Below.setCell ?_ ?_ _; rotate_left; (simp; try omega)))⟩
  ·clear r0 s0 k0 rn en gn zn sn fn hn yn kn
   unfold stepS oneS
   grind
theorem one_any (x : Ev) (w : World) :
  Calls Tryz.prog 97 #[vE x] w fun e w' => e = .returned (.int .i64 (oneS x)) ∧ Below w.heap.size w w' := by
 obtain ⟨⟨a, a'⟩, ⟨d, d'⟩, ⟨p, q, r⟩, rst, sg, ps⟩ := x
 dsimp only [vE]
 go_enter Tryz.func97, Tryz.ntmps97
 go_wp2
 go_loopw [4, 5, 13] (fun _ _ i wr => ∃ k : Nat, k ≤ 2 ∧ i = .int .i64 k ∧ Hid (1 ≤ k → chk a a' = 0) ∧ Hid (2 ≤ k → chk d d' = 0) ∧ Below w.heap.size w wr ∧ Blk wr w.heap.size 49 #[.int .i64 a, .int .i64 a', .int .i64 d, .int .i64 d', .int .i64 p, .int .i64 q, .int .i64 r, .bool rst, .int .i64 sg, .int .i64 ps] ∧ Blk wr (w.heap.size + 1) 45 #[.int .i64 a, .int .i64 a', .int .i64 d, .int .i64 d']) (fun _ _ i _ => 2 - (intOf i).toNat)
 case atStart => exact ⟨0, by omega, rfl, Lib.hid (by omega), Lib.hid (by omega), by repeat (first | exact Below.refl _ _ | refine below_drewN ?_ _ | refine Below.drew ?_ | refine below_alloc ?_ _ | (refine below_call ?_ (by assumption)) | (refine Below.setCell ?_ ?_ _; rotate_left; (simp; try omega))), (Blk.new _ _ _).alloc _, Blk.newAt _ _ _ _ (by simp)⟩
 case round =>
  obtain ⟨k, hk, rfl, h1, h2, k0, r0, s0⟩ := hrel
  have en := r0.cell; have gn := r0.frozen; have zn := r0.lt
  have fn := s0.cell; have hn := s0.frozen; have yn := s0.lt
  obtain rfl | rfl | rfl : k = 0 ∨ k = 1 ∨ k = 2 := by omega
  ·go_wp2_with (go_at_call 131; refine (check_any _ _ _).mono ?_; rintro e wn ⟨rfl, hbn⟩; replace rn := Blk.kept (by with_reducible first | exact rn | exact r0 | exact rn.alloc _ | exact r0.alloc _ | exact (rn.alloc _).alloc _ | exact (r0.alloc _).alloc _) hbn; replace en := rn.cell; replace gn := rn.frozen; replace zn := rn.lt; replace sn := Blk.kept (by with_reducible first | exact sn | exact s0 | exact sn.alloc _ | exact s0.alloc _ | exact (sn.alloc _).alloc _ | exact (s0.alloc _).alloc _) hbn; replace fn := sn.cell; replace hn := sn.frozen; replace yn := sn.lt; replace kn := below_call (by with_reducible first | exact kn | exact k0 | exact below_alloc kn _ | exact below_alloc k0 _ | exact below_alloc (below_alloc kn _) _ | exact below_alloc (below_alloc k0 _) _) hbn; clear hbn)
   ·go_ret
    refine ⟨ret_int ?_, by repeat (first | exact Below.refl _ _ | assumption | refine below_drewN ?_ _ | refine Below.drew ?_ | refine below_alloc ?_ _ | (refine below_call ?_ (by assumption)) | (refine Below.setCell ?_ ?_ _; rotate_left; (simp; try omega)))⟩
    have hne : (chk a a' != 0) = true := by assumption
    unfold oneS; rw [if_pos (by simpa using hne)]
   ·go_roundw
    case rel =>
     have hne : (chk a a' != 0) = false := by assumption
     exact ⟨1, by omega, rfl, Lib.hid (fun _ => by simpa using hne), Lib.hid (by omega), kn, rn, sn⟩
    case measure => simp [intOf]
  ·have ha := Lib.hid (h1.out (by omega))
   go_wp2_with (go_at_call 131; refine (check_any _ _ _).mono ?_; rintro e wn ⟨rfl, hbn⟩; replace rn := Blk.kept (by with_reducible first | exact rn | exact r0 | exact rn.alloc _ | exact r0.alloc _ | exact (rn.alloc _).alloc _ | exact (r0.alloc _).alloc _) hbn; replace en := rn.cell; replace gn := rn.frozen; replace zn := rn.lt; replace sn := Blk.kept (by with_reducible first | exact sn | exact s0 | exact sn.alloc _ | exact s0.alloc _ | exact (sn.alloc _).alloc _ | exact (s0.alloc _).alloc _) hbn; replace fn := sn.cell; replace hn := sn.frozen; replace yn := sn.lt; replace kn := below_call (by with_reducible first | exact kn | exact k0 | exact below_alloc kn _ | exact below_alloc k0 _ | exact below_alloc (below_alloc kn _) _ | exact below_alloc (below_alloc k0 _) _) hbn; clear hbn)
   ·go_ret
    refine ⟨ret_int ?_, by repeat (first | exact Below.refl _ _ | assumption | refine below_drewN ?_ _ | refine Below.drew ?_ | refine below_alloc ?_ _ | (refine below_call ?_ (by assumption)) | (refine Below.setCell ?_ ?_ _; rotate_left; (simp; try omega)))⟩
    have hne : (chk d d' != 0) = true := by assumption
    unfold oneS; rw [if_neg (by simpa using ha.out), if_pos (by simpa using hne)]
   ·go_roundw
    case rel =>
     have hne : (chk d d' != 0) = false := by assumption
     exact ⟨2, by omega, rfl, Lib.hid (fun _ => ha.out), Lib.hid (fun _ => by simpa using hne), kn, rn, sn⟩
    case measure => simp [intOf]
  ·have ha := Lib.hid (h1.out (by omega))
   have hd := Lib.hid (h2.out (by omega))
   clear h1 h2
   go_wp2_with (go_at_call 120; refine (pcheck_any (_, _, _) _).mono ?_; rintro e wn ⟨rfl, hbn⟩; replace rn := Blk.kept (by with_reducible first | exact rn | exact r0 | exact rn.alloc _ | exact r0.alloc _ | exact (rn.alloc _).alloc _ | exact (r0.alloc _).alloc _) hbn; replace en := rn.cell; replace gn := rn.frozen; replace zn := rn.lt; replace sn := Blk.kept (by with_reducible first | exact sn | exact s0 | exact sn.alloc _ | exact s0.alloc _ | exact (sn.alloc _).alloc _ | exact (s0.alloc _).alloc _) hbn; replace fn := sn.cell; replace hn := sn.frozen; replace yn := sn.lt; replace kn := below_call (by with_reducible first | exact kn | exact k0 | exact below_alloc kn _ | exact below_alloc k0 _ | exact below_alloc (below_alloc kn _) _ | exact below_alloc (below_alloc k0 _) _) hbn; clear hbn)
   all_goals
    go_ret
    refine ⟨ret_int ?_, by repeat (first | exact Below.refl _ _ | assumption | refine below_drewN ?_ _ | refine Below.drew ?_ | refine below_alloc ?_ _ | (refine below_call ?_ (by assumption)) | (refine Below.setCell ?_ ?_ _; rotate_left; (simp; try omega)))⟩
    replace ha := ha.out
    replace hd := hd.out
    clear r0 s0 k0 en gn zn fn hn yn
    try clear rn sn kn
    unfold oneS
    grind
end Go.Proofs.YtpkmiegccfhpnaaGreatDoor
/- The walks through the checks of voices and their ends, the program's and the reference's. -/
namespace Go.Proofs.YtpkmiegccfhpnaaGreatDoor
open Go.RowKit
theorem ten {w : World} {b o : Nat} {x : Ev} (h : ∀ j u, (cE x)[j]? = some u → w.cell? ⟨b, o + j, none⟩ = some u) :
  w.cell? ⟨b, o, none⟩ = some (.int .i64 x.at_.1) ∧ w.cell? ⟨b, o + 1, none⟩ = some (.int .i64 x.at_.2) ∧ w.cell? ⟨b, o + 2, none⟩ = some (.int .i64 x.dur.1) ∧ w.cell? ⟨b, o + 3, none⟩ = some (.int .i64 x.dur.2) ∧ w.cell? ⟨b, o + 4, none⟩ = some (.int .i64 x.pit.1) ∧
  w.cell? ⟨b, o + 5, none⟩ = some (.int .i64 x.pit.2.1) ∧ w.cell? ⟨b, o + 6, none⟩ = some (.int .i64 x.pit.2.2) ∧ w.cell? ⟨b, o + 7, none⟩ = some (.bool x.rest) ∧ w.cell? ⟨b, o + 8, none⟩ = some (.int .i64 x.sign) ∧ w.cell? ⟨b, o + 9, none⟩ = some (.int .i64 x.pass) :=
 ⟨h 0 _ rfl, h 1 _ rfl, h 2 _ rfl, h 3 _ rfl, h 4 _ rfl, h 5 _ rfl, h 6 _ rfl, h 7 _ rfl, h 8 _ rfl, h 9 _ rfl⟩
theorem Reads.ev {w W : World} {B n : Nat} {A : Option Addr} {l : List Ev} (h : Reads w B 10 A n (csE l)) (hB : B ≤ w.heap.size) (hb : Below w.heap.size w W) {k : Nat} {x : Ev} (hk : k < n) (hx : l[k]? = some x) :
  ∃ b off, A = some ⟨b, off, none⟩ ∧ b < W.heap.size ∧ ∀ j u, (cE x)[j]? = some u → W.cell? ⟨b, off + k * 10 + j, none⟩ = some u := by
 obtain ⟨b, off, hA, hbB, hc⟩ := h.elem (f := cE) (fun _ => rfl) hk hx
 refine ⟨b, off, hA, by have := hb.size; omega, fun j u hj => ?_⟩
 rw [hb.cell (by simp; omega), Nat.add_assoc]
 exact hc j u hj
theorem Reads.evlen {w : World} {B n : Nat} {A : Option Addr} {l : List Ev} (h : Reads w B 10 A n (csE l)) : l.length = n := h.len (size := 10) (l := l) (f := cE) (fun _ => rfl) (by decide)
theorem evCheck_any (A : Option Addr) (n c : Nat) (l : List Ev) (B : Nat) (w : World) (h : Reads w B 10 A n (csE l)) (hB : B ≤ w.heap.size) (hn : n ≤ 9223372036854775807) :
  Calls Tryz.prog 70 #[.slice A n c] w fun e w' => e = .returned (.tuple #[.int .i64 (checkS l).1, .int .i64 (checkS l).2]) ∧ Below w.heap.size w w' := by
 have hl := h.evlen
 by_cases hbig : 2000 < n
 ·have hbig' : (2000 : Int) < (n : Int) := by omega
  have E := Lib.hid (show checkS l = (11, 0) by unfold checkS; rw [if_pos (by omega)])
  clear hl
  go_enter Tryz.func70, Tryz.ntmps70
  go_wp2
  go_ret2
  rw [E.out]
  exact ⟨rfl, Below.refl _ _⟩
 ·have hbig' : ¬ ((2000 : Int) < (n : Int)) := by omega
  have E := Lib.hid (show checkS l = checkFrom (0, 1) 0 l by unfold checkS; rw [if_neg (by omega)])
  have HL := Lib.hid hl; clear hl hbig
  go_enter Tryz.func70, Tryz.ntmps70
  go_wp2_with (go_at_call 96; refine (evZero_any _).mono ?_; rintro e w1 ⟨rfl, hb1⟩)
  go_loopw [5, 6, 7, 8, 9, 16] (fun _ _ _ _ _ i wr => ∃ (k : Nat) (t t' : Int), k ≤ n ∧ i = .int .i64 k ∧ Hid (checkFrom (t, t') k (l.drop k) = checkFrom (0, 1) 0 l) ∧ Below w1.heap.size w1 wr ∧ Blk wr w1.heap.size 45 #[.int .i64 t, .int .i64 t']) (fun _ _ _ _ _ i _ => n - (intOf i).toNat)
  case atStart => exact ⟨0, 0, 1, by omega, rfl, Lib.hid rfl, by repeat (first | exact Below.refl _ _ | refine below_drewN ?_ _ | refine Below.drew ?_ | refine below_alloc ?_ _ | (refine below_call ?_ (by assumption)) | (refine Below.setCell ?_ ?_ _; rotate_left; (simp; try omega))), Blk.new _ _ _⟩
  case round =>
   obtain ⟨k, t, t', hk, rfl, hs, k0, r0⟩ := hrel
   have en := r0.cell; have gn := r0.frozen; have zn := r0.lt
   by_cases hlt : k < n
   ·have hlt' : (k : Int) < (n : Int) := by omega
    obtain ⟨x, hx⟩ := get_some (l := l) (k := k) (by have := HL.out; omega)
    have HD := Lib.hid (drop_get hx)
    obtain ⟨b, off, rfl, hab, hc⟩ := h.ev hB (below_call hb1 k0) hlt hx
    obtain ⟨⟨a, a'⟩, ⟨d, d'⟩, ⟨p, q, r⟩, rst, sg, ps⟩ := x
    obtain ⟨c0, c1, c2, c3, c4, c5, c6, c7, c8, c9⟩ := ten hc
    clear hc hx
    simp only at c0 c1 c2 c3 c4 c5 c6 c7 c8 c9
    have s0 : Blk (wr.alloc (.cells #[.int .i64 a, .int .i64 a', .int .i64 d, .int .i64 d', .int .i64 p, .int .i64 q, .int .i64 r, .bool rst, .int .i64 sg, .int .i64 ps] 49)) wr.heap.size 49 #[.int .i64 a, .int .i64 a', .int .i64 d, .int .i64 d', .int .i64 p, .int .i64 q, .int .i64 r, .bool rst, .int .i64 sg, .int .i64 ps] := Blk.new _ _ _
    go_wp2_with (first | (go_at_call 97; refine (one_any ⟨(_, _), (_, _), (_, _, _), _, _, _⟩ _).mono ?_; rintro e wn ⟨rfl, hbn⟩; replace rn := Blk.kept (by with_reducible first | exact rn | exact r0 | exact rn.alloc _ | exact r0.alloc _ | exact (rn.alloc _).alloc _ | exact (r0.alloc _).alloc _) hbn; replace en := rn.cell; replace gn := rn.frozen; replace zn := rn.lt; replace sn := Blk.kept (by with_reducible first | exact sn | exact s0 | exact sn.alloc _ | exact s0.alloc _ | exact (sn.alloc _).alloc _ | exact (s0.alloc _).alloc _) hbn; replace fn := sn.cell; replace hn := sn.frozen; replace yn := sn.lt; replace kn := below_call (by with_reducible first | exact kn | exact k0 | exact below_alloc kn _ | exact below_alloc k0 _ | exact below_alloc (below_alloc kn _) _ | exact below_alloc (below_alloc k0 _) _) hbn; clear hbn) | (go_at_call 98; refine (add_any (_, _) (_, _) _).mono ?_; rintro e wn ⟨rfl, hbn⟩; replace rn := Blk.kept (by with_reducible first | exact rn | exact r0 | exact rn.alloc _ | exact r0.alloc _ | exact (rn.alloc _).alloc _ | exact (r0.alloc _).alloc _) hbn; replace en := rn.cell; replace gn := rn.frozen; replace zn := rn.lt; replace sn := Blk.kept (by with_reducible first | exact sn | exact s0 | exact sn.alloc _ | exact s0.alloc _ | exact (sn.alloc _).alloc _ | exact (s0.alloc _).alloc _) hbn; replace fn := sn.cell; replace hn := sn.frozen; replace yn := sn.lt; replace kn := below_call (by with_reducible first | exact kn | exact k0 | exact below_alloc kn _ | exact below_alloc k0 _ | exact below_alloc (below_alloc kn _) _ | exact below_alloc (below_alloc k0 _) _) hbn; clear hbn))
    ·go_ret2
     have hne : (oneS ⟨(a, a'), (d, d'), (p, q, r), rst, sg, ps⟩ != 0) = true := by assumption
     have hr := hs.out
     rw [HD.out, cf_one (by simpa using hne)] at hr
     rw [E.out, ← hr]
     exact ⟨rfl, below_call hb1 kn⟩
    ·go_ret2
     have h1 : (oneS ⟨(a, a'), (d, d'), (p, q, r), rst, sg, ps⟩ != 0) = false := by assumption
     have e1 : a = t := by assumption
     have e2 : a' = t' := by assumption
     have hne : ((addS (t, t') (d, d')).2.2 != 0) = true := by assumption
     have hr := hs.out
     subst e1 e2
     rw [HD.out, cf_add (now := (a, a')) (by simpa using h1) rfl (by simpa using hne)] at hr
     rw [E.out, ← hr]
     exact ⟨rfl, below_call hb1 (by repeat (first | exact Below.refl _ _ | assumption | refine below_drewN ?_ _ | refine Below.drew ?_ | refine below_alloc ?_ _ | (refine below_call ?_ (by assumption)) | (refine Below.setCell ?_ ?_ _; rotate_left; (simp; try omega))))⟩
    ·go_roundw
     case rel =>
      have h1 : (oneS ⟨(a, a'), (d, d'), (p, q, r), rst, sg, ps⟩ != 0) = false := by assumption
      have e1 : a = t := by assumption
      have e2 : a' = t' := by assumption
      have hne : ((addS (t, t') (d, d')).2.2 != 0) = false := by assumption
      refine ⟨k + 1, (addS (t, t') (d, d')).1, (addS (t, t') (d, d')).2.1, by omega, by go_num, ?_, by repeat (first | exact Below.refl _ _ | assumption | refine below_drewN ?_ _ | refine Below.drew ?_ | refine below_alloc ?_ _ | (refine below_call ?_ (by assumption)) | (refine Below.setCell ?_ ?_ _; rotate_left; (simp; try omega))), ?_⟩
      rotate_left
      ·repeat (first | with_reducible exact rn | with_reducible exact Blk.new _ _ _ | (with_reducible refine Blk.newAt _ _ _ _ ?_; first | rfl | (simp; done)) | with_reducible (first | apply Blk.alloc | apply Blk.drewN | apply Blk.drew | apply Blk.set_to) | (with_reducible apply Blk.far_; (simp only [ne_eq]; omega)) | rfl)
      have hr := hs.out
      subst e1 e2
      rw [HD.out, cf_next (now := (a, a')) (by simpa using h1) rfl (by simpa using hne)] at hr
      exact Lib.hid hr
     case measure => simp [intOf]; omega
    all_goals
     go_ret2
     have h1 : (oneS ⟨(a, a'), (d, d'), (p, q, r), rst, sg, ps⟩ != 0) = false := by assumption
     have hr := hs.out
     rw [HD.out, cf_at (by simpa using h1) (by simp only [ne_eq, Prod.mk.injEq]; first | (rintro ⟨e1, e2⟩; contradiction) | (rintro ⟨e1, e2⟩; have hx : ¬ a = t := by assumption; exact hx e1) | (rintro ⟨e1, e2⟩; have hx : ¬ a' = t' := by assumption; exact hx e2))] at hr
     rw [E.out, ← hr]
     exact ⟨rfl, below_call hb1 (by repeat (first | exact Below.refl _ _ | assumption | refine below_drewN ?_ _ | refine Below.drew ?_ | refine below_alloc ?_ _ | (refine below_call ?_ (by assumption)) | (refine Below.setCell ?_ ?_ _; rotate_left; (simp; try omega))))⟩
   ·go_wp2
    go_ret2
    rw [E.out, ← hs.out, List.drop_eq_nil_of_le (by have := HL.out; omega)]
    exact ⟨rfl, below_call hb1 k0⟩
theorem refEvCheck_any (A : Option Addr) (n c : Nat) (l : List Ev) (B : Nat) (w : World) (h : Reads w B 10 A n (csE l)) (hB : B ≤ w.heap.size) (hn : n ≤ 9223372036854775807) :
  Calls Tryz.prog 76 #[.slice A n c] w fun e w' => e = .returned (.tuple #[.int .i64 (checkS l).1, .int .i64 (checkS l).2]) ∧ Below w.heap.size w w' := by
 have hl := h.evlen
 by_cases hbig : 2000 < n
 ·have hbig' : (2000 : Int) < (n : Int) := by omega
  have E := Lib.hid (show checkS l = (11, 0) by unfold checkS; rw [if_pos (by omega)])
  clear hl
  go_enter Tryz.func76, Tryz.ntmps76
  go_wp2
  go_ret2
  rw [E.out]
  exact ⟨rfl, Below.refl _ _⟩
 ·have hbig' : ¬ ((2000 : Int) < (n : Int)) := by omega
  have E := Lib.hid (show checkS l = checkFrom (0, 1) 0 l by unfold checkS; rw [if_neg (by omega)])
  have HL := Lib.hid hl; clear hl hbig
  go_enter Tryz.func76, Tryz.ntmps76
  go_wp2
  go_loopw [5, 6] (fun i _ wr => ∃ (k : Nat) (t t' : Int), k ≤ n ∧ i = .int .i64 k ∧ Hid (checkFrom (t, t') k (l.drop k) = checkFrom (0, 1) 0 l) ∧ Below w.heap.size w wr ∧ Blk wr w.heap.size 45 #[.int .i64 t, .int .i64 t']) (fun i _ _ => n - (intOf i).toNat)
  case atStart => exact ⟨0, 0, 1, by omega, rfl, Lib.hid rfl, by repeat (first | exact Below.refl _ _ | refine below_drewN ?_ _ | refine Below.drew ?_ | refine below_alloc ?_ _ | (refine below_call ?_ (by assumption)) | (refine Below.setCell ?_ ?_ _; rotate_left; (simp; try omega))), Blk.new _ _ _⟩
  case round =>
   obtain ⟨k, t, t', hk, rfl, hs, k0, r0⟩ := hrel
   have en := r0.cell; have gn := r0.frozen; have zn := r0.lt
   by_cases hlt : k < n
   ·have hlt' : (k : Int) < (n : Int) := by omega
    obtain ⟨x, hx⟩ := get_some (l := l) (k := k) (by have := HL.out; omega)
    have HD := Lib.hid (drop_get hx)
    obtain ⟨b, off, rfl, hab, hc⟩ := h.ev hB k0 hlt hx
    have hbne : w.heap.size ≠ b := by
     obtain ⟨b', off', e', hb', _⟩ := h.2 (by omega)
     cases e'
     omega
    obtain ⟨⟨a, a'⟩, ⟨d, d'⟩, ⟨p, q, r⟩, rst, sg, ps⟩ := x
    obtain ⟨c0, c1, c2, c3, c4, c5, c6, c7, c8, c9⟩ := ten hc
    clear hc hx
    simp only at c0 c1 c2 c3 c4 c5 c6 c7 c8 c9
    have e0 : wr.cell? ⟨w.heap.size, 0, none⟩ = some (.int .i64 t) := en 0
    have e1 : wr.cell? ⟨w.heap.size, 1, none⟩ = some (.int .i64 t') := en 1
    obtain ⟨y, hy⟩ : ∃ y, y = stepS (t, t') ⟨(a, a'), (d, d'), (p, q, r), rst, sg, ps⟩ := ⟨_, rfl⟩
    have Y := Lib.hid hy.symm; clear hy
    go_wp2_with fail
    refine wp_region_calm (by kernel_rfl) (by kernel_rfl) ?_
    repeat (go_big_quiet_step ((go_at_call 103; have hq := refOne_any ⟨(a, a'), (d, d'), (p, q, r), rst, sg, ps⟩ (t, t'); rw [Y.out] at hq; exact calm_call (hq _))))
    refine wpQuiet_nil ?_
    intro w1 hb1
    have r1 := r0.kept hb1
    have hb := below_call k0 hb1
    have z1 := r1.lt
    have g0 := r1.frozen 0
    have g1 := r1.frozen 1
    replace e0 := r1.cell 0
    replace e1 := r1.cell 1
    simp only [List.getElem?_toArray, List.getElem?_cons_zero, List.getElem?_cons_succ] at e0 e1
    have hcc := bcell hb1
    rw [← hcc.1 _ _ hab] at c0 c1 c2 c3
    replace hab := Nat.lt_of_lt_of_le hab hb1.size
    clear hcc c4 c5 c6 c7 c8 c9 en gn zn r0 k0
    go_wp2_with fail
    ·go_ret2
     have hne : (y != 0) = true := by assumption
     have hr := hs.out
     rw [HD.out, checkFrom, Y.out, if_pos (by simpa using hne)] at hr
     rw [E.out, ← hr]
     exact ⟨rfl, hb⟩
    ·have hne : (y != 0) = false := by assumption
     have hbw : w.heap.size ≠ b := hbne
     go_region_held3 (fun w' => w'.cell? ⟨b, off + k * 10, none⟩ = some (.int .i64 a) ∧ w'.cell? ⟨b, off + k * 10 + 1, none⟩ = some (.int .i64 a') ∧ w'.cell? ⟨b, off + k * 10 + 2, none⟩ = some (.int .i64 d) ∧ w'.cell? ⟨b, off + k * 10 + 3, none⟩ = some (.int .i64 d')) ((first | exact ⟨c0, c1, c2, c3⟩ | exact ⟨(hcc _ _ hab).trans c0, (hcc _ _ hab).trans c1, (hcc _ _ hab).trans c2, (hcc _ _ hab).trans c3⟩ | (refine ⟨?_, ?_, ?_, ?_⟩ <;> (rw [World.cell?_setCell_far _ _ _ _ hbw, World.cell?_setCell_far _ _ _ _ hbw]; first | exact (hcc _ _ hab).trans c0 | exact (hcc _ _ hab).trans c1 | exact (hcc _ _ hab).trans c2 | exact (hcc _ _ hab).trans c3)))) (first | (go_at_call 104; refine (refAdd_any (_, _) (_, _) _).mono ?_; rintro e w2 ⟨rfl, hb2⟩; have hcc := (bcell hb2).1; have r2 := r1.drew.kept hb2; have kb := below_call hb.drew hb2; have q0 := r2.cell 0; have q1 := r2.cell 1; have f0 := r2.frozen 0; have f1 := r2.frozen 1; simp only [List.getElem?_toArray, List.getElem?_cons_zero, List.getElem?_cons_succ] at q0 q1))
     go_wp2_with fail
     go_roundw
     case rel =>
      refine ⟨k + 1, (addS (a, a') (d, d')).1, (addS (a, a') (d, d')).2.1, by omega, by go_num, ?_, by repeat (first | exact Below.refl _ _ | assumption | refine below_drewN ?_ _ | refine Below.drew ?_ | refine below_alloc ?_ _ | (refine below_call ?_ (by assumption)) | (refine Below.setCell ?_ ?_ _; rotate_left; (simp; try omega))), ?_⟩
      rotate_left
      ·repeat (first | with_reducible exact r2 | with_reducible exact Blk.new _ _ _ | (with_reducible refine Blk.newAt _ _ _ _ ?_; first | rfl | (simp; done)) | with_reducible (first | apply Blk.alloc | apply Blk.drewN | apply Blk.drew | apply Blk.set_to) | (with_reducible apply Blk.far_; (simp only [ne_eq]; omega)) | rfl)
      have hr := hs.out
      rw [HD.out, checkFrom, Y.out, if_neg (by simpa using hne)] at hr
      exact Lib.hid hr
     case measure => simp [intOf]; omega
   ·go_wp2
    go_ret2
    rw [E.out, ← hs.out, List.drop_eq_nil_of_le (by have := HL.out; omega)]
    exact ⟨rfl, k0⟩
end Go.Proofs.YtpkmiegccfhpnaaGreatDoor
/- The walks through the ends of voices, the program's and the reference's. -/
namespace Go.Proofs.YtpkmiegccfhpnaaGreatDoor
open Go.RowKit
theorem getLast_at {α : Type} {l : List α} {n : Nat} (h : l.length = n + 1) {x : α} (hx : l[n]? = some x) : l.getLast? = some x := by
 rw [List.getLast?_eq_getElem?, h]; simpa using hx
theorem evEnd_any (A : Option Addr) (n c : Nat) (l : List Ev) (B : Nat) (w : World) (h : Reads w B 10 A n (csE l)) (hB : B ≤ w.heap.size) (hn : n ≤ 9223372036854775807) :
  Calls Tryz.prog 75 #[.slice A n c] w fun e w' => e = .returned (vT (endS l)) ∧ Below w.heap.size w w' := by
 have hl := h.evlen
 have r0 : Blk (w.alloc (.cells #[.int .i64 0, .int .i64 0] 45)) w.heap.size 45 #[.int .i64 0, .int .i64 0] := Blk.new _ _ _
 have k0 : Below w.heap.size w (w.alloc (.cells #[.int .i64 0, .int .i64 0] 45)) := by repeat (first | exact Below.refl _ _ | refine below_drewN ?_ _ | refine Below.drew ?_ | refine below_alloc ?_ _ | (refine below_call ?_ (by assumption)) | (refine Below.setCell ?_ ?_ _; rotate_left; (simp; try omega)))
 obtain ⟨⟨y, z⟩, hy⟩ : ∃ y, y = checkS l := ⟨_, rfl⟩
 have hc := evCheck_any A n c l B _ (h.below hB k0) (by simp; omega) hn
 rw [← hy] at hc
 by_cases hz : y = 0
 ·subst hz
  cases n with
  | zero =>
   have E := Lib.hid (show endS l = (0, 1, 0) by unfold endS; rw [← hy, if_neg (fun h => h rfl), List.eq_nil_of_length_eq_zero hl]; rfl)
   clear hy hl
   go_enter Tryz.func75, Tryz.ntmps75
   go_wp2_with (first | (go_at_call 70; refine (hc).mono ?_; rintro e wn ⟨rfl, hbn⟩; replace rn := Blk.kept (by with_reducible first | exact rn | exact r0 | exact rn.alloc _ | exact r0.alloc _ | exact (rn.alloc _).alloc _ | exact (r0.alloc _).alloc _) hbn; replace en := rn.cell; replace gn := rn.frozen; replace zn := rn.lt; replace kn := below_call (by with_reducible first | exact kn | exact k0 | exact below_alloc kn _ | exact below_alloc k0 _ | exact below_alloc (below_alloc kn _) _ | exact below_alloc (below_alloc k0 _) _) hbn; clear hbn) | (go_at_call 96; refine (evZero_any _).mono ?_; rintro e wn ⟨rfl, hbn⟩; replace rn := Blk.kept (by with_reducible first | exact rn | exact r0 | exact rn.alloc _ | exact r0.alloc _ | exact (rn.alloc _).alloc _ | exact (r0.alloc _).alloc _) hbn; replace en := rn.cell; replace gn := rn.frozen; replace zn := rn.lt; replace kn := below_call (by with_reducible first | exact kn | exact k0 | exact below_alloc kn _ | exact below_alloc k0 _ | exact below_alloc (below_alloc kn _) _ | exact below_alloc (below_alloc k0 _) _) hbn; clear hbn))
   refine ret_of (by simp [results, Tryz.results75, go_sem, *]; repeat' (first | rfl | apply And.intro)) rfl ⟨?_, by repeat (first | exact Below.refl _ _ | assumption | refine below_drewN ?_ _ | refine Below.drew ?_ | refine below_alloc ?_ _ | (refine below_call ?_ (by assumption)) | (refine Below.setCell ?_ ?_ _; rotate_left; (simp; try omega)))⟩
   rw [E.out]
  | succ m =>
   obtain ⟨x, hx⟩ := get_some (l := l) (k := m) (by omega)
   have E := Lib.hid (show endS l = addS x.at_ x.dur by unfold endS; rw [← hy, if_neg (fun h => h rfl), getLast_at hl hx])
   clear hy hl
   obtain ⟨b, off, rfl, hab, hcl⟩ := h.ev hB (Below.refl _ _) (Nat.lt_succ_self m) hx
   obtain ⟨⟨a, a'⟩, ⟨d, d'⟩, ⟨p, q, r⟩, rst, sg, ps⟩ := x
   obtain ⟨c0, c1, c2, c3, c4, c5, c6, c7, c8, c9⟩ := ten hcl
   clear hcl hx
   simp only at c0 c1 c2 c3 c4 c5 c6 c7 c8 c9 E
   go_enter Tryz.func75, Tryz.ntmps75
   go_wp2_with fail
   refine hc.mono ?_
   rintro e w1 ⟨rfl, hb1⟩
   have r1 := r0.kept hb1
   have k1 := below_call k0 hb1
   rw [← k1.cell (p := ⟨_, _, none⟩) hab] at c0 c1 c2 c3 c4 c5 c6 c7 c8 c9
   have hbz : b < w1.heap.size := Nat.lt_of_lt_of_le hab k1.size
   go_wp2_with fail
   have s1 : Blk (w1.alloc (.cells #[.int .i64 a, .int .i64 a', .int .i64 d, .int .i64 d', .int .i64 p, .int .i64 q, .int .i64 r, .bool rst, .int .i64 sg, .int .i64 ps] 49)) w1.heap.size 49 #[.int .i64 a, .int .i64 a', .int .i64 d, .int .i64 d', .int .i64 p, .int .i64 q, .int .i64 r, .bool rst, .int .i64 sg, .int .i64 ps] := Blk.new _ _ _
   refine (add_any (a, a') (d, d') _).mono ?_
   rintro e w2 ⟨rfl, hb2⟩
   have r2 := (r1.alloc _).kept hb2
   have e0 := r2.cell 0
   have e1 := r2.cell 1
   have f0 := r2.frozen 0
   have f1 := r2.frozen 1
   have z2 := r2.lt
   simp only [List.getElem?_toArray, List.getElem?_cons_zero, List.getElem?_cons_succ] at e0 e1
   have k2 := below_call (below_alloc k1 _) hb2
   go_wp2_with fail
   refine ret_of (by simp [results, Tryz.results75, go_sem, *]; repeat' (first | rfl | apply And.intro)) rfl ⟨?_, by repeat (first | exact Below.refl _ _ | assumption | refine below_drewN ?_ _ | refine Below.drew ?_ | refine below_alloc ?_ _ | (refine below_call ?_ (by assumption)) | (refine Below.setCell ?_ ?_ _; rotate_left; (simp; try omega)))⟩
   rw [E.out]
 ·have hz' : (y == 0) = false := by simpa using hz
  have E := Lib.hid (show endS l = (0, 0, y) by unfold endS; rw [← hy, if_pos hz])
  clear hy hl hz
  go_enter Tryz.func75, Tryz.ntmps75
  go_wp2_with (first | (go_at_call 70; refine (hc).mono ?_; rintro e wn ⟨rfl, hbn⟩; replace rn := Blk.kept (by with_reducible first | exact rn | exact r0 | exact rn.alloc _ | exact r0.alloc _ | exact (rn.alloc _).alloc _ | exact (r0.alloc _).alloc _) hbn; replace en := rn.cell; replace gn := rn.frozen; replace zn := rn.lt; replace kn := below_call (by with_reducible first | exact kn | exact k0 | exact below_alloc kn _ | exact below_alloc k0 _ | exact below_alloc (below_alloc kn _) _ | exact below_alloc (below_alloc k0 _) _) hbn; clear hbn))
  refine ret_of (by simp [results, Tryz.results75, go_sem, *]; repeat' (first | rfl | apply And.intro)) rfl ⟨?_, by repeat (first | exact Below.refl _ _ | assumption | refine below_drewN ?_ _ | refine Below.drew ?_ | refine below_alloc ?_ _ | (refine below_call ?_ (by assumption)) | (refine Below.setCell ?_ ?_ _; rotate_left; (simp; try omega)))⟩
  rw [E.out]
end Go.Proofs.YtpkmiegccfhpnaaGreatDoor
/- Lists of events: the kit's copies and comparisons; slices of events of the call's own. -/
namespace Go.Proofs.YtpkmiegccfhpnaaGreatDoor
open Go.RowKit
theorem event_info : (Tryz.prog.info? 49).map (fun i => (i.zero, i.size, i.bytes)) = some (some (vE ⟨(0, 0), (0, 0), (0, 0, 0), false, 0, 0⟩), 10, 80) := by kernel_rfl
theorem one_csE (l : List Ev) : ∀ u ∈ csE l, u.oneCell' = true := by
 intro u hu
 obtain ⟨t, _, ht⟩ := List.mem_flatMap.1 hu
 simp [cE] at ht
 rcases ht with rfl | rfl | rfl | rfl | rfl | rfl | rfl | rfl | rfl | rfl <;> rfl
theorem csE_append (l m : List Ev) : csE (l ++ m) = csE l ++ csE m := by unfold csE; rw [List.flatMap_append]
theorem csE_len (l : List Ev) : (csE l).length = l.length * 10 := flat_len cE 10 (fun _ => rfl) l
theorem own_call {w w' : World} {base size n : Nat} {e : TypeId} {v : Value} {xs : List Value} (h : w.ownsRow base e size v n xs) (hb : Below w.heap.size w w') : w'.ownsRow base e size v n xs := by
 have hl := h.lt
 obtain ⟨h1, h2⟩ := h
 refine ⟨h1, ?_⟩
 rcases h2 with h2 | ⟨g, cap, cur, h2, h3, h4, h5⟩
 ·exact .inl h2
 ·refine .inr ⟨g, cap, cur, h2, h3, ?_, h5⟩
  rw [hb.block g (hl g (by rw [h2]; rfl)).2]; exact h4
def OwnE (w : World) (base n : Nat) (A : Option Addr) (c : Nat) (l : List Ev) : Prop := w.ownsRow base 49 10 (.slice A n c) n (csE l) ∧ Reads w w.heap.size 10 A n (csE l) ∧ n ≤ c
theorem ownE_form {w : World} {base n : Nat} {v : Value} {l : List Ev} (h : w.ownsRow base 49 10 v n (csE l)) : ∃ A c, v = .slice A n c ∧ OwnE w base n A c l := by
 obtain ⟨A, c, e, hr, hc, _⟩ := own_reads h
 subst e
 exact ⟨A, c, rfl, h, hr, hc⟩
theorem sameEvents_any (A A' : Option Addr) (n c c' : Nat) (l : List Ev) (B B' : Nat) (w : World) (h : Reads w B 10 A n (csE l)) (hB : B ≤ w.heap.size) (h' : Reads w B' 10 A' n (csE l)) (hB' : B' ≤ w.heap.size) (hn : n ≤ 9223372036854775807) :
  Calls Tryz.prog 38 #[.slice A n c, .slice A' n c'] w fun e w' => e = .returned (.bool true) ∧ Below w.heap.size w w' := by
 have hl := h.evlen
 have HL := Lib.hid hl; clear hl
 go_enter Tryz.func38, Tryz.ntmps38
 go_wp2
 go_loopw [5] (fun i wr => ∃ k : Nat, k ≤ n ∧ i = .int .i64 k ∧ Below w.heap.size w wr) (fun i _ => n - (intOf i).toNat)
 case atStart => exact ⟨0, by omega, rfl, Below.refl _ _⟩
 case round =>
  obtain ⟨k, hk, rfl, k0⟩ := hrel
  by_cases hlt : k < n
  ·have hlt' : (k : Int) < (n : Int) := by omega
   obtain ⟨x, hx⟩ := get_some (l := l) (k := k) (by have := HL.out; omega)
   obtain ⟨b, off, rfl, hab, hc⟩ := h.ev hB k0 hlt hx
   obtain ⟨b', off', rfl, hab', hc'⟩ := h'.ev hB' k0 hlt hx
   obtain ⟨⟨a, a'⟩, ⟨d, d'⟩, ⟨p, q, r⟩, rst, sg, ps⟩ := x
   obtain ⟨c0, c1, c2, c3, c4, c5, c6, c7, c8, c9⟩ := ten hc
   obtain ⟨d0, d1, d2, d3, d4, d5, d6, d7, d8, d9⟩ := ten hc'
   clear hc hc' hx
   simp only at c0 c1 c2 c3 c4 c5 c6 c7 c8 c9 d0 d1 d2 d3 d4 d5 d6 d7 d8 d9
   go_wp2
   go_quiet (fail)
   go_wp2
   go_roundw
   case rel => exact ⟨k + 1, by omega, by go_num, below_drewN k0 _⟩
   case measure => simp [intOf]; omega
  ·go_wp2
   go_ret
   exact ⟨rfl, k0⟩
end Go.Proofs.YtpkmiegccfhpnaaGreatDoor
/- The walks through the functions on pitches, the program's and the reference's: numbers, moved and mirrored pitches. -/
namespace Go.Proofs.YtpkmiegccfhpnaaGreatDoor
open Go.RowKit
@[reducible] def vPE (x : (Int × Int × Int) × Int) : Value := .tuple #[.agg #[.int .i64 x.1.1, .int .i64 x.1.2.1, .int .i64 x.1.2.2], .int .i64 x.2]
theorem pchk_ok {p : Int × Int × Int} (h : pchk p = 0) : 0 ≤ p.1 ∧ p.1 ≤ 6 ∧ 0 ≤ p.2.1 ∧ p.2.1 ≤ 8 ∧ -1 ≤ p.2.2 ∧ p.2.2 ≤ 1 := by
 unfold pchk at h
 split at h
 ·cases h
 ·omega
theorem of_any' (a b c : Int) (w : World) (a0 : 0 ≤ a) (a1 : a ≤ 6) (b0 : 0 ≤ b) (b1 : b ≤ 8) :
  Calls Tryz.prog 121 #[.agg #[.int .i64 a, .int .i64 b, .int .i64 c]] w fun e w' => e = .returned (.agg #[.int .i64 (7 * b + a), .int .i64 c]) ∧ Below w.heap.size w w' := by
 go_enter Tryz.func121, Tryz.ntmps121
 go_wp2
 refine ret_of (by simp [results, Tryz.results121, go_sem, *]; repeat' (first | rfl | apply And.intro)) rfl ⟨rfl, ?_⟩
 repeat (first | exact Below.refl _ _ | refine below_drewN ?_ _ | refine Below.drew ?_ | refine below_alloc ?_ _ | (refine below_call ?_ (by assumption)) | (refine Below.setCell ?_ ?_ _; rotate_left; (simp; try omega)))
def numE (p : Int × Int × Int) : Int × Int := if pchk p ≠ 0 then (0, pchk p) else (numP p, 0)
theorem refNumber_any (p : Int × Int × Int) (w : World) :
  Calls Tryz.prog 95 #[vP p] w fun e w' => e = .returned (.tuple #[.int .i64 (numE p).1, .int .i64 (numE p).2]) ∧ Below w.heap.size w w' := by
 have r0 : Blk (w.alloc (.cells #[.int .i64 p.1, .int .i64 p.2.1, .int .i64 p.2.2] 47)) w.heap.size 47 #[.int .i64 p.1, .int .i64 p.2.1, .int .i64 p.2.2] := Blk.new _ _ _
 have k0 : Below w.heap.size w (w.alloc (.cells #[.int .i64 p.1, .int .i64 p.2.1, .int .i64 p.2.2] 47)) := by repeat (first | exact Below.refl _ _ | refine below_drewN ?_ _ | refine Below.drew ?_ | refine below_alloc ?_ _ | (refine below_call ?_ (by assumption)) | (refine Below.setCell ?_ ?_ _; rotate_left; (simp; try omega)))
 by_cases h : pchk p = 0
 ·obtain ⟨h0, h1, h2, h3, _, _⟩ := pchk_ok h
  have hb : (pchk p != 0) = false := by simpa using h
  have E := Lib.hid (show numE p = (7 * p.2.1 + p.1, 0) by unfold numE numP; rw [if_neg (by rw [h]; exact fun h => h rfl)])
  obtain ⟨a, b, c⟩ := p
  simp only at h0 h1 h2 h3 E hb
  clear h
  go_enter Tryz.func95, Tryz.ntmps95
  go_wp2_with (first | (go_at_call 130; refine (refPcheck_any (_, _, _) _).mono ?_; rintro e wn ⟨rfl, hbn⟩; replace rn := Blk.kept (by with_reducible first | exact rn | exact r0 | exact rn.alloc _ | exact r0.alloc _ | exact (rn.alloc _).alloc _ | exact (r0.alloc _).alloc _) hbn; replace en := rn.cell; replace gn := rn.frozen; replace zn := rn.lt; replace kn := below_call (by with_reducible first | exact kn | exact k0 | exact below_alloc kn _ | exact below_alloc k0 _ | exact below_alloc (below_alloc kn _) _ | exact below_alloc (below_alloc k0 _) _) hbn; clear hbn))
  go_ret2
  rw [E.out]
  exact ⟨rfl, by repeat (first | exact Below.refl _ _ | assumption | refine below_drewN ?_ _ | refine Below.drew ?_ | refine below_alloc ?_ _ | (refine below_call ?_ (by assumption)) | (refine Below.setCell ?_ ?_ _; rotate_left; (simp; try omega)))⟩
 ·have hb : (pchk p != 0) = true := by simpa using h
  have E := Lib.hid (show numE p = (0, pchk p) by unfold numE; rw [if_pos h])
  obtain ⟨a, b, c⟩ := p
  clear h
  go_enter Tryz.func95, Tryz.ntmps95
  go_wp2_with (first | (go_at_call 130; refine (refPcheck_any (_, _, _) _).mono ?_; rintro e wn ⟨rfl, hbn⟩; replace rn := Blk.kept (by with_reducible first | exact rn | exact r0 | exact rn.alloc _ | exact r0.alloc _ | exact (rn.alloc _).alloc _ | exact (r0.alloc _).alloc _) hbn; replace en := rn.cell; replace gn := rn.frozen; replace zn := rn.lt; replace kn := below_call (by with_reducible first | exact kn | exact k0 | exact below_alloc kn _ | exact below_alloc k0 _ | exact below_alloc (below_alloc kn _) _ | exact below_alloc (below_alloc k0 _) _) hbn; clear hbn))
  go_ret2
  rw [E.out]
  exact ⟨rfl, by repeat (first | exact Below.refl _ _ | assumption | refine below_drewN ?_ _ | refine Below.drew ?_ | refine below_alloc ?_ _ | (refine below_call ?_ (by assumption)) | (refine Below.setCell ?_ ?_ _; rotate_left; (simp; try omega)))⟩
end Go.Proofs.YtpkmiegccfhpnaaGreatDoor
