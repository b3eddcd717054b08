/- The walks through the functions of the layer span and of its reference, second part: wholes and sums. -/
import Derived.Test.YtfafjdbdpbjklaaDoorSpan
namespace Go.Proofs.YtfafjdbdpbjklaaDoor
open Go.RowKit
@[reducible] def vW (x : Int × Int × Int × Int) : Value := .tuple #[.int .i64 x.1, .agg #[.int .i64 x.2.1, .int .i64 x.2.2.1], .int .i64 x.2.2.2]
theorem vW_ret {x : Int × Int × Int × Int} {q a b c : Int} (h : (q, a, b, c) = x) : Ending.returned (.tuple #[.int .i64 q, .agg #[.int .i64 a, .int .i64 b], .int .i64 c]) = .returned (vW x) := by subst h; rfl

set_option maxHeartbeats 400000 in
theorem whole_any (a b : Int × Int) (w : World) :
    Calls Tryd.prog 22 #[.agg #[.int .i64 a.1, .int .i64 a.2], .agg #[.int .i64 b.1, .int .i64 b.2]] w fun e w' => e = .returned (vW (wholeS a b)) ∧ Below w.heap.size w w' := by
  obtain ⟨a, a'⟩ := a
  obtain ⟨b, b'⟩ := b
  by_cases hz : both (a, a') (b, b') = 0
  · obtain ⟨⟨a1, a2, a3, a4, a5⟩, ⟨b1, b2, b3, b4, b5⟩⟩ := both_ok hz
    simp only at a1 a2 a3 a4 a5 b1 b2 b3 b4 b5
    have m1 := mul_bd a1 (show 0 ≤ b' by omega) a2 b4
    have m2 := mul_bd b1 (show 0 ≤ a' by omega) b2 a4
    have m3 := mul_bd (show 0 ≤ a' by omega) (show 0 ≤ b' by omega) a4 b4
    have m4 : 1 ≤ a' * b' := by have := Int.mul_le_mul a3 b3 (by omega) (by omega); omega
    have A5 := Lib.hid a5; have B5 := Lib.hid b5; clear a5 b5
    by_cases hb0 : b = 0
    · subst hb0
      go_enter Tryd.func22, Tryd.ntmps22
      go_wp2_with ((go_at_call 47; refine (first_two _ _ _ _ _ _ _ (by simp)).mono ?_; rintro e w1 ⟨rfl, hb1⟩; have hc1 := (bcell hb1).1; have hf1 := (bcell hb1).2))
      refine ret_of (by simp [results, Tryd.results22, go_sem, hc1]; repeat' (first | rfl | apply And.intro)) rfl ⟨vW_ret ?_, ?_⟩
      · unfold wholeS; rw [if_neg (by rw [hz]; exact fun h => h rfl), if_pos rfl]
      · repeat (first | exact Below.refl _ _ | refine below_drewN ?_ _ | refine Below.drew ?_ | refine below_alloc ?_ _ | (refine below_call ?_ (by assumption)) | (refine Below.setCell ?_ ?_ _; rotate_left; (simp; try omega)))
    · have hB : (b == 0) = false := by simpa using hb0
      have hb1 : 1 ≤ b := by omega
      have m5 : 1 ≤ b * a' := by have := Int.mul_le_mul hb1 a3 (by omega) (by omega); omega
      have m6 := Int.emod_nonneg (a * b') (show b * a' ≠ 0 by omega)
      have m7 := Int.emod_lt_of_pos (a * b') (show 0 < b * a' by omega)
      go_enter Tryd.func22, Tryd.ntmps22
      go_wp2_with (first | (go_at_call 47; refine (first_two _ _ _ _ _ _ _ (by simp)).mono ?_; rintro e w1 ⟨rfl, hb1⟩; have hc1 := (bcell hb1).1; have hf1 := (bcell hb1).2) | (go_at_call 48; refine (ratio_any _ _ _ (by omega) (by omega) (by omega) (by omega)).mono ?_; rintro e w' ⟨rfl, nq, rfl⟩) | (go_at_call 13; refine (make_any _ _ _ (by omega) (by omega)).mono ?_; rintro e w2 ⟨rfl, hb2'⟩; have hb2 := below_call (below_drewN hb1 _) hb2'; clear hb2'; have hc2 := (bcell hb2).1; have hf2 := (bcell hb2).2; have z0 : w.heap.size < w2.heap.size := (by have hsz := hb2.size; simp at hsz; omega); have z1 : w.heap.size + 1 < w2.heap.size := (by have hsz := hb2.size; simp at hsz; omega); have z2 : w.heap.size + 1 + 1 < w2.heap.size := (by have hsz := hb2.size; simp at hsz; omega)))
      · refine ret_of (by simp [results, Tryd.results22, go_sem, hc2, z2]; repeat' (first | rfl | apply And.intro)) rfl ⟨vW_ret ?_, ?_⟩
        · have hne : ((mk (a * b' % (b * a')) (a' * b')).2.2 != 0) = true := by assumption
          unfold wholeS; rw [if_neg (by rw [hz]; exact fun h => h rfl), if_neg hb0, if_pos (by simpa using hne)]
        · repeat (first | exact Below.refl _ _ | refine below_drewN ?_ _ | refine Below.drew ?_ | refine below_alloc ?_ _ | (refine below_call ?_ (by assumption)) | (refine Below.setCell ?_ ?_ _; rotate_left; (simp; try omega)))
      · go_region
        go_wp2_with fail
        refine ret_of (by simp [results, Tryd.results22, go_sem, hc2, z2]; repeat' (first | rfl | apply And.intro)) rfl ⟨vW_ret ?_, ?_⟩
        · have hne : ((mk (a * b' % (b * a')) (a' * b')).2.2 != 0) = false := by assumption
          unfold wholeS; rw [if_neg (by rw [hz]; exact fun h => h rfl), if_neg hb0, if_neg (by simpa using hne)]
        · repeat (first | exact Below.refl _ _ | refine below_drewN ?_ _ | refine Below.drew ?_ | refine below_alloc ?_ _ | (refine below_call ?_ (by assumption)) | (refine Below.setCell ?_ ?_ _; rotate_left; (simp; try omega)))
  · go_enter Tryd.func22, Tryd.ntmps22
    go_wp2_with ((go_at_call 47; refine (first_two _ _ _ _ _ _ _ (by simp)).mono ?_; rintro e w1 ⟨rfl, hb1⟩; have hc1 := (bcell hb1).1; have hf1 := (bcell hb1).2))
    refine ret_of (by simp [results, Tryd.results22, go_sem, hc1]; repeat' (first | rfl | apply And.intro)) rfl ⟨vW_ret ?_, ?_⟩
    · unfold wholeS; rw [if_pos hz]
    · repeat (first | exact Below.refl _ _ | refine below_drewN ?_ _ | refine Below.drew ?_ | refine below_alloc ?_ _ | (refine below_call ?_ (by assumption)) | (refine Below.setCell ?_ ?_ _; rotate_left; (simp; try omega)))

set_option maxHeartbeats 400000 in
theorem refWhole_any (a b : Int × Int) (w : World) :
    Calls Tryd.prog 23 #[.agg #[.int .i64 a.1, .int .i64 a.2], .agg #[.int .i64 b.1, .int .i64 b.2]] w fun e w' => e = .returned (vW (wholeS a b)) ∧ Below w.heap.size w w' := by
  obtain ⟨a, a'⟩ := a
  obtain ⟨b, b'⟩ := b
  by_cases hz : both (a, a') (b, b') = 0
  · obtain ⟨⟨a1, a2, a3, a4, a5⟩, ⟨b1, b2, b3, b4, b5⟩⟩ := both_ok hz
    simp only at a1 a2 a3 a4 a5 b1 b2 b3 b4 b5
    have m1 := mul_bd a1 (show 0 ≤ b' by omega) a2 b4
    have m2 := mul_bd b1 (show 0 ≤ a' by omega) b2 a4
    have m3 := mul_bd (show 0 ≤ a' by omega) (show 0 ≤ b' by omega) a4 b4
    have m4 : 1 ≤ a' * b' := by have := Int.mul_le_mul a3 b3 (by omega) (by omega); omega
    have A5 := Lib.hid a5; have B5 := Lib.hid b5; clear a5 b5
    by_cases hb0 : b = 0
    · subst hb0
      go_enter Tryd.func23, Tryd.ntmps23
      go_wp2_with ((go_at_call 49; refine (refBoth_any (_, _) (_, _) _).mono ?_; rintro e w1 ⟨rfl, hb1⟩; have hc1 := (bcell hb1).1; have hf1 := (bcell hb1).2))
      refine ret_of (by simp [results, Tryd.results23, go_sem, hc1]; repeat' (first | rfl | apply And.intro)) rfl ⟨vW_ret ?_, ?_⟩
      · unfold wholeS; rw [if_neg (by rw [hz]; exact fun h => h rfl), if_pos rfl]
      · repeat (first | exact Below.refl _ _ | refine below_drewN ?_ _ | refine Below.drew ?_ | refine below_alloc ?_ _ | (refine below_call ?_ (by assumption)) | (refine Below.setCell ?_ ?_ _; rotate_left; (simp; try omega)))
    · have hB : (b == 0) = false := by simpa using hb0
      have hb1 : 1 ≤ b := by omega
      have m5 : 1 ≤ b * a' := by have := Int.mul_le_mul hb1 a3 (by omega) (by omega); omega
      have m6 := Int.emod_nonneg (a * b') (show b * a' ≠ 0 by omega)
      have m7 := Int.emod_lt_of_pos (a * b') (show 0 < b * a' by omega)
      go_enter Tryd.func23, Tryd.ntmps23
      go_wp2_with ((go_at_call 49; refine (refBoth_any (_, _) (_, _) _).mono ?_; rintro e w1 ⟨rfl, hb1⟩; have hc1 := (bcell hb1).1; have hf1 := (bcell hb1).2))
      go_quiet (fail)
      go_wp2_with fail
      have hne : ¬ (b * a' = 0) := by omega
      have t1 : (a * b').tmod (b * a') = a * b' % (b * a') := Int.tmod_eq_emod_of_nonneg m1.1
      have t2 : IntKind.i64.wrap (a * b' % (b * a')) = a * b' % (b * a') := IntWalk.i64_in _ (by omega)
      have t3 : IntKind.i64.wrap (a' * b') = a' * b' := IntWalk.i64_in _ (by omega)
      have hbq := below_drewN hb1 nq
      generalize w1.drewN nq = wq at hbq ⊢
      have hcq := (bcell hbq).1
      have hfq := (bcell hbq).2
      have z0 : w.heap.size < wq.heap.size := (by have hsz := hbq.size; simp at hsz; omega); have z1 : w.heap.size + 1 < wq.heap.size := (by have hsz := hbq.size; simp at hsz; omega); have z2 : w.heap.size + 1 + 1 < wq.heap.size := (by have hsz := hbq.size; simp at hsz; omega)
      clear hc1 hf1 hb1
      go_region_held3 (fun w' => w'.cell? ⟨w.heap.size, 1, none⟩ = some (.int .i64 a') ∧ w'.cell? ⟨w.heap.size + 1, 1, none⟩ = some (.int .i64 b')) (simp [go_sem, *]) (first | (go_at_call 45; refine (of_any _ _ _ (by omega) (by omega) (by omega) (by omega)).mono ?_; rintro e w2 ⟨rfl, hb2'⟩; have hb2 := below_call (below_call hbq (by repeat (first | exact Below.refl _ _ | refine below_drewN ?_ _ | refine Below.drew ?_ | refine below_alloc ?_ _ | (refine below_call ?_ (by assumption)) | (refine Below.setCell ?_ ?_ _; rotate_left; (simp; try omega))))) hb2'; have hc3 := (bcell hb2').1; have hf3 := (bcell hb2').2; clear hb2'; have hc2 := (bcell hb2).1; have hf2 := (bcell hb2).2; have z0 : w.heap.size < w2.heap.size := (by have hsz := hb2.size; simp at hsz; omega); have z1 : w.heap.size + 1 < w2.heap.size := (by have hsz := hb2.size; simp at hsz; omega); have z2 : w.heap.size + 1 + 1 < w2.heap.size := (by have hsz := hb2.size; simp at hsz; omega)))
      all_goals
        go_wp2_with fail
        · refine ret_of (by simp [results, Tryd.results23, go_sem, *]; repeat' (first | rfl | apply And.intro)) rfl ⟨vW_ret ?_, ?_⟩
          · have hne : ((ofq (a * b' % (b * a')) (a' * b')).2.2 != 0) = true := by assumption
            unfold wholeS; rw [if_neg (by rw [hz]; exact fun h => h rfl), if_neg hb0, mk_of (by simp only; omega) (by simp only; omega), if_pos (by simpa using hne)]
          · repeat (first | exact Below.refl _ _ | refine below_drewN ?_ _ | refine Below.drew ?_ | refine below_alloc ?_ _ | (refine below_call ?_ (by assumption)) | (refine Below.setCell ?_ ?_ _; rotate_left; (simp; try omega)))
        · go_region
          go_wp2_with fail
          refine ret_of (by simp [results, Tryd.results23, go_sem, *]; repeat' (first | rfl | apply And.intro)) rfl ⟨vW_ret ?_, ?_⟩
          · have hne : ((ofq (a * b' % (b * a')) (a' * b')).2.2 != 0) = false := by assumption
            unfold wholeS; rw [if_neg (by rw [hz]; exact fun h => h rfl), if_neg hb0, mk_of (by simp only; omega) (by simp only; omega), if_neg (by simpa using hne)]
          · repeat (first | exact Below.refl _ _ | refine below_drewN ?_ _ | refine Below.drew ?_ | refine below_alloc ?_ _ | (refine below_call ?_ (by assumption)) | (refine Below.setCell ?_ ?_ _; rotate_left; (simp; try omega)))
  · go_enter Tryd.func23, Tryd.ntmps23
    go_wp2_with ((go_at_call 49; refine (refBoth_any (_, _) (_, _) _).mono ?_; rintro e w1 ⟨rfl, hb1⟩; have hc1 := (bcell hb1).1; have hf1 := (bcell hb1).2))
    refine ret_of (by simp [results, Tryd.results23, go_sem, hc1]; repeat' (first | rfl | apply And.intro)) rfl ⟨vW_ret ?_, ?_⟩
    · unfold wholeS; rw [if_pos hz]
    · repeat (first | exact Below.refl _ _ | refine below_drewN ?_ _ | refine Below.drew ?_ | refine below_alloc ?_ _ | (refine below_call ?_ (by assumption)) | (refine Below.setCell ?_ ?_ _; rotate_left; (simp; try omega)))
end Go.Proofs.YtfafjdbdpbjklaaDoor
