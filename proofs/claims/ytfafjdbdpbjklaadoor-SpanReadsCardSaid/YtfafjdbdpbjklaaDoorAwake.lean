/- The chapter's examples that every statement of layer 1 asks: tactuslaw01.awake returns true. -/
import Derived.Test.YtfafjdbdpbjklaaDoorText
namespace Go.Proofs.YtfafjdbdpbjklaaDoor
open Go.RowKit

theorem sum_two (a a' b b' : Int) (w : World) (t : TypeId) (g : Nat) (hg : g = w.heap.size) :
    Calls Tryd.prog 19 #[.slice (some ⟨g, 0, none⟩) 2 2] (w.alloc (.cells #[.int .i64 a, .int .i64 a', .int .i64 b, .int .i64 b'] t)) fun e w' => e = .returned (vT (sumS [(a, a'), (b, b')])) ∧ Below (w.alloc (.cells #[.int .i64 a, .int .i64 a', .int .i64 b, .int .i64 b'] t)).heap.size (w.alloc (.cells #[.int .i64 a, .int .i64 a', .int .i64 b, .int .i64 b'] t)) w' :=
  sum_any (some ⟨g, 0, none⟩) 2 2 [(a, a'), (b, b')] _ (w.alloc (.cells #[.int .i64 a, .int .i64 a', .int .i64 b, .int .i64 b'] t)) (Reads.newAt _ _ _ _ _ _ hg rfl) (by simp; omega) (by omega)

set_option maxHeartbeats 1000000 in
theorem awake_any (w : World) : Calls Tryd.prog 17 #[] w fun e w' => e = .returned (.bool true) ∧ Below w.heap.size w w' := by
  have em : mk 6 4 = (3, 2, 0) := by decide +kernel
  have t12 : tS 1 2 = (1, 2) := by decide +kernel
  have t13 : tS 1 3 = (1, 3) := by decide +kernel
  have t72 : tS 7 2 = (7, 2) := by decide +kernel
  have t11 : tS 1 1 = (1, 1) := by decide +kernel
  have t32 : tS 3 2 = (3, 2) := by decide +kernel
  have t56 : tS 5 6 = (5, 6) := by decide +kernel
  have t21 : tS 2 1 = (2, 1) := by decide +kernel
  have ea : addS (1, 2) (1, 3) = (5, 6, 0) := by decide +kernel
  have ew : wholeS (7, 2) (1, 1) = (3, 1, 2, 0) := by decide +kernel
  have es : sumS [(1, 2), (3, 2)] = (2, 1, 0) := by decide +kernel
  have ex : textS 3 2 = ([51, 47, 50], 0) := by decide +kernel
  go_enter Tryd.func17, Tryd.ntmps17
  go_wp2_with fail
  refine (make_any _ _ _ (by omega) (by omega)).mono ?_
  rintro e w1 ⟨rfl, hb1⟩
  go_wp2_with fail
  refine (t_any _ _ _ (by omega) (by omega) (by omega) (by omega)).mono ?_
  rintro e w2 ⟨rfl, hb2⟩
  go_wp2_with fail
  refine (t_any _ _ _ (by omega) (by omega) (by omega) (by omega)).mono ?_
  rintro e w3 ⟨rfl, hb3⟩
  go_wp2_with fail
  refine (add_any (_, _) (_, _) _).mono ?_
  rintro e w4 ⟨rfl, hb4⟩
  go_wp2_with fail
  refine (t_any _ _ _ (by omega) (by omega) (by omega) (by omega)).mono ?_
  rintro e w5 ⟨rfl, hb5⟩
  go_wp2_with fail
  refine (t_any _ _ _ (by omega) (by omega) (by omega) (by omega)).mono ?_
  rintro e w6 ⟨rfl, hb6⟩
  go_wp2_with fail
  refine (whole_any (_, _) (_, _) _).mono ?_
  rintro e w7 ⟨rfl, hb7⟩
  go_wp2_with fail
  refine (t_any _ _ _ (by omega) (by omega) (by omega) (by omega)).mono ?_
  rintro e w8 ⟨rfl, hb8⟩
  go_wp2_with fail
  refine (text_any _ _ _ (itoa_small _ _ (by omega) (by omega)) (itoa_small _ _ (by omega) (by omega))).mono ?_
  rintro e w9 ⟨rfl, hb9⟩
  go_wp2_with fail
  refine (t_any _ _ _ (by omega) (by omega) (by omega) (by omega)).mono ?_
  rintro e w10 ⟨rfl, hb10⟩
  go_wp2_with fail
  refine (t_any _ _ _ (by omega) (by omega) (by omega) (by omega)).mono ?_
  rintro e w11 ⟨rfl, hb11⟩
  go_wp2_with fail
  refine (sum_two _ _ _ _ _ _ _ rfl).mono ?_
  rintro e w12 ⟨rfl, hb12⟩
  go_wp2_with fail
  have B1 : Blk w12 w1.heap.size 23 #[.int .i64 3, .int .i64 2] := (((((((((((Blk.new w1 _ _).kept hb2).kept hb3).kept hb4).alloc _).kept hb5).kept hb6).kept hb7).alloc _ |>.kept hb8).kept hb9).kept hb10 |>.kept hb11).alloc _ |>.kept hb12
  have B3 : Blk w12 w4.heap.size 23 #[.int .i64 5, .int .i64 6] := (((((((Blk.new w4 _ _).kept hb5).kept hb6).kept hb7).alloc _ |>.kept hb8).kept hb9).kept hb10 |>.kept hb11).alloc _ |>.kept hb12
  have B6 : Blk w12 w7.heap.size 23 #[.int .i64 1, .int .i64 2] := (((Blk.new w7 _ _).kept hb8).kept hb9).kept hb10 |>.kept hb11 |>.alloc _ |>.kept hb12
  have l1 := B1.lt
  have l3 := B3.lt
  have l6 := B6.lt
  have c10 := B1.cell 0
  have c11 := B1.cell 1
  have c30 := B3.cell 0
  have c31 := B3.cell 1
  have c60 := B6.cell 0
  have c61 := B6.cell 1
  simp only [List.getElem?_toArray, List.getElem?_cons_zero, List.getElem?_cons_succ] at c10 c11 c30 c31 c60 c61
  have hw12 : Below w.heap.size w w12 := by repeat (first | exact Below.refl _ _ | refine below_drewN ?_ _ | refine Below.drew ?_ | refine below_alloc ?_ _ | (refine below_call ?_ (by assumption)) | (refine Below.setCell ?_ ?_ _; rotate_left; (simp; try omega)))
  clear B1 B3 B6 hb1 hb2 hb3 hb4 hb5 hb6 hb7 hb8 hb9 hb10 hb11 hb12
  have m1 : w1.heap.size < w12.heap.size + 1 := by omega
  have m3 : w4.heap.size < w12.heap.size + 1 := by omega
  have m6 : w7.heap.size < w12.heap.size + 1 := by omega
  refine wp_region_calm (by kernel_rfl) (by kernel_rfl) ?_
  repeat (go_big_quiet_step ((go_at_call 38; exact calm_call (t_any _ _ _ (by omega) (by omega) (by omega) (by omega)))))
  refine wpQuiet_nil ?_
  intro w13 hb13
  go_wp2_with fail
  go_ret
  refine ⟨rfl, ?_⟩
  repeat (first | exact Below.refl _ _ | refine below_drewN ?_ _ | refine Below.drew ?_ | refine below_alloc ?_ _ | (refine below_call ?_ (by assumption)) | (refine Below.setCell ?_ ?_ _; rotate_left; (simp; try omega)))
end Go.Proofs.YtfafjdbdpbjklaaDoor
