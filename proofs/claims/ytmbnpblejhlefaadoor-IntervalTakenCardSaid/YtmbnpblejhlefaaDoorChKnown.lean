/- The walk through IntervalKnown: the chapter's examples. -/
import Derived.Test.YtmbnpblejhlefaaDoorChKnownW
import Derived.Test.YtmbnpblejhlefaaDoorChFits
namespace Go.Proofs.YtmbnpblejhlefaaDoor
open Go.RowKit
set_option maxRecDepth 100000 in
set_option maxHeartbeats 4000000 in
theorem known_any (w : World) (ht : Tabs2 w) : Calls Tryd.prog 5 #[] w fun e w' => e = .returned (.bool true) ∧ Below w.heap.size w w' := by
  have p28_0 : ∀ W, Calls Tryd.prog 27 #[.int .i64 28, .int .i64 0] W fun e w' => e = .returned (.agg #[.int .i64 0, .int .i64 4, .int .i64 0]) ∧ Below W.heap.size W w' := fun W => lpitch_any 28 0 W (by omega) (by omega)
  have p32_0 : ∀ W, Calls Tryd.prog 27 #[.int .i64 32, .int .i64 0] W fun e w' => e = .returned (.agg #[.int .i64 4, .int .i64 4, .int .i64 0]) ∧ Below W.heap.size W w' := fun W => lpitch_any 32 0 W (by omega) (by omega)
  have p31_0 : ∀ W, Calls Tryd.prog 27 #[.int .i64 31, .int .i64 0] W fun e w' => e = .returned (.agg #[.int .i64 3, .int .i64 4, .int .i64 0]) ∧ Below W.heap.size W w' := fun W => lpitch_any 31 0 W (by omega) (by omega)
  have p34_0 : ∀ W, Calls Tryd.prog 27 #[.int .i64 34, .int .i64 0] W fun e w' => e = .returned (.agg #[.int .i64 6, .int .i64 4, .int .i64 0]) ∧ Below W.heap.size W w' := fun W => lpitch_any 34 0 W (by omega) (by omega)
  have p30_m1 : ∀ W, Calls Tryd.prog 27 #[.int .i64 30, .int .i64 (-1)] W fun e w' => e = .returned (.agg #[.int .i64 2, .int .i64 4, .int .i64 (-1)]) ∧ Below W.heap.size W w' := fun W => lpitch_any 30 (-1) W (by omega) (by omega)
  have p30_1 : ∀ W, Calls Tryd.prog 27 #[.int .i64 30, .int .i64 1] W fun e w' => e = .returned (.agg #[.int .i64 2, .int .i64 4, .int .i64 1]) ∧ Below W.heap.size W w' := fun W => lpitch_any 30 1 W (by omega) (by omega)
  have p28_1 : ∀ W, Calls Tryd.prog 27 #[.int .i64 28, .int .i64 1] W fun e w' => e = .returned (.agg #[.int .i64 0, .int .i64 4, .int .i64 1]) ∧ Below W.heap.size W w' := fun W => lpitch_any 28 1 W (by omega) (by omega)
  have p42_0 : ∀ W, Calls Tryd.prog 27 #[.int .i64 42, .int .i64 0] W fun e w' => e = .returned (.agg #[.int .i64 0, .int .i64 6, .int .i64 0]) ∧ Below W.heap.size W w' := fun W => lpitch_any 42 0 W (by omega) (by omega)
  have p37_0 : ∀ W, Calls Tryd.prog 27 #[.int .i64 37, .int .i64 0] W fun e w' => e = .returned (.agg #[.int .i64 2, .int .i64 5, .int .i64 0]) ∧ Below W.heap.size W w' := fun W => lpitch_any 37 0 W (by omega) (by omega)
  have p35_m1 : ∀ W, Calls Tryd.prog 27 #[.int .i64 35, .int .i64 (-1)] W fun e w' => e = .returned (.agg #[.int .i64 0, .int .i64 5, .int .i64 (-1)]) ∧ Below W.heap.size W w' := fun W => lpitch_any 35 (-1) W (by omega) (by omega)
  have p31_m1 : ∀ W, Calls Tryd.prog 27 #[.int .i64 31, .int .i64 (-1)] W fun e w' => e = .returned (.agg #[.int .i64 3, .int .i64 4, .int .i64 (-1)]) ∧ Below W.heap.size W w' := fun W => lpitch_any 31 (-1) W (by omega) (by omega)
  have k0 : ∀ W, Tabs2 W → Calls Tryd.prog 28 #[.agg #[.int .i64 0, .int .i64 4, .int .i64 0], .agg #[.int .i64 4, .int .i64 4, .int .i64 0], .int .i64 1, .string ⟨#[80, 53]⟩] W fun e w' => e = .returned (.bool true) ∧ Below W.heap.size W w' := fun W hW => kind_named (0, 4, 0) (4, 4, 0) 1 ⟨#[80, 53]⟩ W hW.tabs en_0.1 en_0.2.1 en_0.2.2.1 en_0.2.2.2 (by decide +kernel)
  have k1 : ∀ W, Tabs2 W → Calls Tryd.prog 28 #[.agg #[.int .i64 3, .int .i64 4, .int .i64 0], .agg #[.int .i64 6, .int .i64 4, .int .i64 0], .int .i64 4, .string ⟨#[65, 52]⟩] W fun e w' => e = .returned (.bool true) ∧ Below W.heap.size W w' := fun W hW => kind_named (3, 4, 0) (6, 4, 0) 4 ⟨#[65, 52]⟩ W hW.tabs en_1.1 en_1.2.1 en_1.2.2.1 en_1.2.2.2 (by decide +kernel)
  have k2 : ∀ W, Tabs2 W → Calls Tryd.prog 28 #[.agg #[.int .i64 0, .int .i64 4, .int .i64 0], .agg #[.int .i64 2, .int .i64 4, .int .i64 (-1)], .int .i64 2, .string ⟨#[109, 51]⟩] W fun e w' => e = .returned (.bool true) ∧ Below W.heap.size W w' := fun W hW => kind_named (0, 4, 0) (2, 4, -1) 2 ⟨#[109, 51]⟩ W hW.tabs en_2.1 en_2.2.1 en_2.2.2.1 en_2.2.2.2 (by decide +kernel)
  have k3 : ∀ W, Tabs2 W → Calls Tryd.prog 28 #[.agg #[.int .i64 0, .int .i64 4, .int .i64 0], .agg #[.int .i64 2, .int .i64 4, .int .i64 1], .int .i64 5, .string ⟨#[65, 51]⟩] W fun e w' => e = .returned (.bool true) ∧ Below W.heap.size W w' := fun W hW => kind_named (0, 4, 0) (2, 4, 1) 5 ⟨#[65, 51]⟩ W hW.tabs en_3.1 en_3.2.1 en_3.2.2.1 en_3.2.2.2 (by decide +kernel)
  have k4 : ∀ W, Tabs2 W → Calls Tryd.prog 28 #[.agg #[.int .i64 0, .int .i64 4, .int .i64 1], .agg #[.int .i64 0, .int .i64 4, .int .i64 0], .int .i64 5, .string ⟨#[65, 49]⟩] W fun e w' => e = .returned (.bool true) ∧ Below W.heap.size W w' := fun W hW => kind_named (0, 4, 1) (0, 4, 0) 5 ⟨#[65, 49]⟩ W hW.tabs en_4.1 en_4.2.1 en_4.2.2.1 en_4.2.2.2 (by decide +kernel)
  have k5 : ∀ W, Tabs2 W → Calls Tryd.prog 28 #[.agg #[.int .i64 0, .int .i64 4, .int .i64 0], .agg #[.int .i64 0, .int .i64 6, .int .i64 0], .int .i64 1, .string ⟨#[80, 49, 53]⟩] W fun e w' => e = .returned (.bool true) ∧ Below W.heap.size W w' := fun W hW => kind_named (0, 4, 0) (0, 6, 0) 1 ⟨#[80, 49, 53]⟩ W hW.tabs en_5.1 en_5.2.1 en_5.2.2.1 en_5.2.2.2 (by decide +kernel)
  have k6 : ∀ W, Tabs2 W → Calls Tryd.prog 28 #[.agg #[.int .i64 0, .int .i64 4, .int .i64 0], .agg #[.int .i64 2, .int .i64 5, .int .i64 0], .int .i64 2, .string ⟨#[77, 49, 48]⟩] W fun e w' => e = .returned (.bool true) ∧ Below W.heap.size W w' := fun W hW => kind_named (0, 4, 0) (2, 5, 0) 2 ⟨#[77, 49, 48]⟩ W hW.tabs en_6.1 en_6.2.1 en_6.2.2.1 en_6.2.2.2 (by decide +kernel)
  have k7 : ∀ W, Tabs2 W → Calls Tryd.prog 28 #[.agg #[.int .i64 0, .int .i64 4, .int .i64 0], .agg #[.int .i64 0, .int .i64 5, .int .i64 (-1)], .int .i64 5, .string ⟨#[100, 56]⟩] W fun e w' => e = .returned (.bool true) ∧ Below W.heap.size W w' := fun W hW => kind_named (0, 4, 0) (0, 5, -1) 5 ⟨#[100, 56]⟩ W hW.tabs en_7.1 en_7.2.1 en_7.2.2.1 en_7.2.2.2 (by decide +kernel)
  have k8 : ∀ W, Tabs2 W → Calls Tryd.prog 28 #[.agg #[.int .i64 2, .int .i64 4, .int .i64 1], .agg #[.int .i64 3, .int .i64 4, .int .i64 (-1)], .int .i64 5, .string ⟨#[]⟩] W fun e w' => e = .returned (.bool true) ∧ Below W.heap.size W w' := fun W hW => kind_none (2, 4, 1) (3, 4, -1) 5 W hW.tabs en_8.1 en_8.2.1 en_8.2.2.1 en_8.2.2.2
  have ps0 : ∀ W, Tabs2 W → Calls Tryd.prog 29 #[.string ⟨#[109, 51]⟩, .int .i64 2, .int .i64 3] W fun e w' => e = .returned (.bool true) ∧ Below W.heap.size W w' := fun W hW => parsed_ok ⟨#[109, 51]⟩ 2 3 W hW (by omega) (by omega) nx_m3 (bytes_ne rfl) (by decide)
  have ps1 : ∀ W, Tabs2 W → Calls Tryd.prog 29 #[.string ⟨#[80, 56]⟩, .int .i64 7, .int .i64 12] W fun e w' => e = .returned (.bool true) ∧ Below W.heap.size W w' := fun W hW => parsed_ok ⟨#[80, 56]⟩ 7 12 W hW (by omega) (by omega) nx_P8 (bytes_ne rfl) (by decide)
  have ps2 : ∀ W, Tabs2 W → Calls Tryd.prog 29 #[.string ⟨#[100, 50]⟩, .int .i64 1, .int .i64 0] W fun e w' => e = .returned (.bool true) ∧ Below W.heap.size W w' := fun W hW => parsed_ok ⟨#[100, 50]⟩ 1 0 W hW (by omega) (by omega) nx_d2 (bytes_ne rfl) (by decide)
  have rf0 : ∀ W, Tabs2 W → Calls Tryd.prog 30 #[.string ⟨#[100, 49]⟩] W fun e w' => e = .returned (.bool true) ∧ Below W.heap.size W w' := fun W hW => refused_ok ⟨#[100, 49]⟩ W hW rf_d1 (by decide)
  have rf1 : ∀ W, Tabs2 W → Calls Tryd.prog 30 #[.string ⟨#[80, 51]⟩] W fun e w' => e = .returned (.bool true) ∧ Below W.heap.size W w' := fun W hW => refused_ok ⟨#[80, 51]⟩ W hW rf_P3 (by decide)
  have rf2 : ∀ W, Tabs2 W → Calls Tryd.prog 30 #[.string ⟨#[80, 54, 52]⟩] W fun e w' => e = .returned (.bool true) ∧ Below W.heap.size W w' := fun W hW => refused_ok ⟨#[80, 54, 52]⟩ W hW rf_P64 (by decide)
  have rf3 : ∀ W, Tabs2 W → Calls Tryd.prog 30 #[.string ⟨#[77, 48, 51]⟩] W fun e w' => e = .returned (.bool true) ∧ Below W.heap.size W w' := fun W hW => refused_ok ⟨#[77, 48, 51]⟩ W hW rf_M03 (by decide)
  have rf4 : ∀ W, Tabs2 W → Calls Tryd.prog 30 #[.string ⟨#[]⟩] W fun e w' => e = .returned (.bool true) ∧ Below W.heap.size W w' := fun W hW => refused_ok ⟨#[]⟩ W hW rf_none (by decide)
  go_enter Tryd.func5, Tryd.ntmps5
  go_wp2_with fail
  refine (p28_0 _).mono ?_
  rintro e w1 ⟨rfl, hb1⟩
  have hs1 : w.heap.size ≤ w1.heap.size := by have h := hb1.size; (try simp at h); omega
  have kb1 : Below w.heap.size w w1 := by repeat (first | exact Below.refl _ _ | refine below_drewN ?_ _ | refine Below.drew ?_ | refine below_alloc ?_ _ | (refine below_call ?_ (by assumption)) | (refine Below.setCell ?_ ?_ _; rotate_left; (simp; try omega)))
  go_wp2_with fail
  have ht2 := ht.kept (below_alloc kb1 (.cells #[.int .i64 0, .int .i64 4, .int .i64 0] 36))
  refine wp_region_calm (by kernel_rfl) (by kernel_rfl) ?_
  repeat (go_big_quiet_step (((first | (go_at_call 27; with_reducible (first | exact calm_call (p28_0 _) | exact calm_call (p32_0 _) | exact calm_call (p31_0 _) | exact calm_call (p34_0 _) | exact calm_call (p30_m1 _) | exact calm_call (p30_1 _) | exact calm_call (p28_1 _) | exact calm_call (p42_0 _) | exact calm_call (p37_0 _) | exact calm_call (p35_m1 _) | exact calm_call (p31_m1 _))) | (go_at_call 28; with_reducible (first | exact calm_call (k0 _ (ht2.kept (Calm.h _))) | exact calm_call (k1 _ (ht2.kept (Calm.h _))) | exact calm_call (k2 _ (ht2.kept (Calm.h _))) | exact calm_call (k3 _ (ht2.kept (Calm.h _))) | exact calm_call (k4 _ (ht2.kept (Calm.h _))) | exact calm_call (k5 _ (ht2.kept (Calm.h _))) | exact calm_call (k6 _ (ht2.kept (Calm.h _))) | exact calm_call (k7 _ (ht2.kept (Calm.h _))) | exact calm_call (k8 _ (ht2.kept (Calm.h _)))))))))
  refine wpQuiet_nil ?_
  intro w2 hb2
  have hs2 : w.heap.size ≤ w2.heap.size := by have h := hb2.size; (try simp at h); omega
  go_wp2_with fail
  refine Calls.mono (ps0 _ ?_) ?_
  · exact ht.kept (by repeat (first | exact Below.refl _ _ | refine below_drewN ?_ _ | refine Below.drew ?_ | refine below_alloc ?_ _ | (refine below_call ?_ (by assumption)) | (refine Below.setCell ?_ ?_ _; rotate_left; (simp; try omega))))
  rintro e w3 ⟨rfl, hb3⟩
  have hs3 : w.heap.size ≤ w3.heap.size := by have h := hb3.size; (try simp at h); omega
  go_wp2_with fail
  refine Calls.mono (ps1 _ ?_) ?_
  · exact ht.kept (by repeat (first | exact Below.refl _ _ | refine below_drewN ?_ _ | refine Below.drew ?_ | refine below_alloc ?_ _ | (refine below_call ?_ (by assumption)) | (refine Below.setCell ?_ ?_ _; rotate_left; (simp; try omega))))
  rintro e w4 ⟨rfl, hb4⟩
  have hs4 : w.heap.size ≤ w4.heap.size := by have h := hb4.size; (try simp at h); omega
  go_wp2_with fail
  refine Calls.mono (ps2 _ ?_) ?_
  · exact ht.kept (by repeat (first | exact Below.refl _ _ | refine below_drewN ?_ _ | refine Below.drew ?_ | refine below_alloc ?_ _ | (refine below_call ?_ (by assumption)) | (refine Below.setCell ?_ ?_ _; rotate_left; (simp; try omega))))
  rintro e w5 ⟨rfl, hb5⟩
  have hs5 : w.heap.size ≤ w5.heap.size := by have h := hb5.size; (try simp at h); omega
  go_wp2_with fail
  refine Calls.mono (rf0 _ ?_) ?_
  · exact ht.kept (by repeat (first | exact Below.refl _ _ | refine below_drewN ?_ _ | refine Below.drew ?_ | refine below_alloc ?_ _ | (refine below_call ?_ (by assumption)) | (refine Below.setCell ?_ ?_ _; rotate_left; (simp; try omega))))
  rintro e w6 ⟨rfl, hb6⟩
  have hs6 : w.heap.size ≤ w6.heap.size := by have h := hb6.size; (try simp at h); omega
  go_wp2_with fail
  refine Calls.mono (rf1 _ ?_) ?_
  · exact ht.kept (by repeat (first | exact Below.refl _ _ | refine below_drewN ?_ _ | refine Below.drew ?_ | refine below_alloc ?_ _ | (refine below_call ?_ (by assumption)) | (refine Below.setCell ?_ ?_ _; rotate_left; (simp; try omega))))
  rintro e w7 ⟨rfl, hb7⟩
  have hs7 : w.heap.size ≤ w7.heap.size := by have h := hb7.size; (try simp at h); omega
  go_wp2_with fail
  refine Calls.mono (rf2 _ ?_) ?_
  · exact ht.kept (by repeat (first | exact Below.refl _ _ | refine below_drewN ?_ _ | refine Below.drew ?_ | refine below_alloc ?_ _ | (refine below_call ?_ (by assumption)) | (refine Below.setCell ?_ ?_ _; rotate_left; (simp; try omega))))
  rintro e w8 ⟨rfl, hb8⟩
  have hs8 : w.heap.size ≤ w8.heap.size := by have h := hb8.size; (try simp at h); omega
  go_wp2_with fail
  refine Calls.mono (rf3 _ ?_) ?_
  · exact ht.kept (by repeat (first | exact Below.refl _ _ | refine below_drewN ?_ _ | refine Below.drew ?_ | refine below_alloc ?_ _ | (refine below_call ?_ (by assumption)) | (refine Below.setCell ?_ ?_ _; rotate_left; (simp; try omega))))
  rintro e w9 ⟨rfl, hb9⟩
  have hs9 : w.heap.size ≤ w9.heap.size := by have h := hb9.size; (try simp at h); omega
  go_wp2_with fail
  refine Calls.mono (rf4 _ ?_) ?_
  · exact ht.kept (by repeat (first | exact Below.refl _ _ | refine below_drewN ?_ _ | refine Below.drew ?_ | refine below_alloc ?_ _ | (refine below_call ?_ (by assumption)) | (refine Below.setCell ?_ ?_ _; rotate_left; (simp; try omega))))
  rintro e w10 ⟨rfl, hb10⟩
  have hs10 : w.heap.size ≤ w10.heap.size := by have h := hb10.size; (try simp at h); omega
  have kb : Below w.heap.size w w10 := by repeat (first | exact Below.refl _ _ | refine below_drewN ?_ _ | refine Below.drew ?_ | refine below_alloc ?_ _ | (refine below_call ?_ (by assumption)) | (refine Below.setCell ?_ ?_ _; rotate_left; (simp; try omega)))
  go_wp2_with fail
  refine (lchord_any _ 3 3 [29, 31, 34] (w10.heap.size + 1) _ (Reads.new _ _ _ 3 1 rfl) (by simp) (by omega) (by decide)).mono ?_
  rintro e v1 ⟨A1, c1, rfl, o1, g1⟩
  have kv1 := below_call (below_alloc kb _) g1
  go_wp2_with fail
  refine (clash_is A1 none 3 c1 0 0 _ [] v1.heap.size v1.heap.size _ o1.2.1 (Nat.le_refl _) Reads.none_ (Nat.le_refl _) (by omega) (ht.kept kv1).tabs kc_1).mono ?_
  rintro e v2 ⟨rfl, g2⟩
  have kv2 := below_call kv1 g2
  go_wp2_with fail
  refine (lchord_any _ 3 3 [28, 28, 31] (v2.heap.size + 1) _ (Reads.new _ _ _ 3 1 rfl) (by simp) (by omega) (by decide)).mono ?_
  rintro e v3 ⟨A3, c3, rfl, o3, g3⟩
  have kv3 := below_call (below_alloc kv2 _) g3
  go_wp2_with fail
  refine (clash_is A3 _ 3 c3 2 2 _ [(0, 2, 3), (1, 2, 3)] v3.heap.size (v3.heap.size + 1) _ (o3.2.1.below (Nat.le_refl _) (below_alloc (Below.refl _ _) _)) (by simp) (Reads.new _ _ _ 2 3 rfl) (by simp) (by omega) (ht.kept (below_alloc kv3 _)).tabs kc_2).mono ?_
  rintro e v4 ⟨rfl, g4⟩
  have kv4 := below_call (below_alloc kv3 _) g4
  go_wp2_with fail
  refine (lchord_any _ 3 3 [30, 28, 28] (v4.heap.size + 1) _ (Reads.new _ _ _ 3 1 rfl) (by simp) (by omega) (by decide)).mono ?_
  rintro e v5 ⟨A5, c5, rfl, o5, g5⟩
  have kv5 := below_call (below_alloc kv4 _) g5
  have q6 := fun W (hW : Below v5.heap.size v5 W) => Bass_any A5 3 c5 (chordOf [30, 28, 28]) v5.heap.size W (o5.2.1.below (Nat.le_refl _) hW) hW.size (by omega) (ht.kept (below_call kv5 hW)).tabs
  rw [kb_1] at q6
  go_wp2_with fail
  refine (q6 _ (Below.refl _ _)).mono ?_
  rintro e v6 ⟨rfl, g6⟩
  have kv6 := below_call kv5 g6
  have q7 := fun W (hW : Tabs2 W) => Bass_any none 0 0 [] W.heap.size W Reads.none_ (Nat.le_refl _) (by omega) hW.tabs
  rw [kb_2] at q7
  go_wp2_with fail
  refine (q7 _ (ht.kept kv6)).mono ?_
  rintro e v7 ⟨rfl, g7⟩
  have kv7 := below_call kv6 g7
  go_wp2_with fail
  refine (lchord_any _ 1 1 [28] (v7.heap.size + 1) _ (Reads.new _ _ _ 1 1 rfl) (by simp) (by omega) (by decide)).mono ?_
  rintro e v8 ⟨A8, c8, rfl, o8, g8⟩
  have kv8 := below_call (below_alloc kv7 _) g8
  have q9 := fun W (hW : Below v8.heap.size v8 W) => Fits_any A8 1 c8 (chordOf [28]) 28 35 v8.heap.size W (o8.2.1.below (Nat.le_refl _) hW) hW.size (by omega) (ht.kept (below_call kv8 hW)).tabs
  rw [kf_1] at q9
  go_wp2_with fail
  refine (q9 _ (Below.refl _ _)).mono ?_
  rintro e v9 ⟨A9, c9, rfl, r9, g9⟩
  have kv9 := below_call kv8 g9
  go_wp2_with fail
  refine (lchord_any _ 1 1 [28] (v9.heap.size + 1) _ (Reads.new _ _ _ 1 1 rfl) (by simp) (by omega) (by decide)).mono ?_
  rintro e v10 ⟨A10, c10, rfl, o10, g10⟩
  have kv10 := below_call (below_alloc kv9 _) g10
  have q11 := fun W (hW : Below v10.heap.size v10 W) => Fits_any A10 1 c10 (chordOf [28]) 35 28 v10.heap.size W (o10.2.1.below (Nat.le_refl _) hW) hW.size (by omega) (ht.kept (below_call kv10 hW)).tabs
  rw [kf_2] at q11
  go_wp2_with fail
  refine (q11 _ (Below.refl _ _)).mono ?_
  rintro e v11 ⟨A11, c11, rfl, r11, g11⟩
  have kv11 := below_call kv10 g11
  have q12 := fun W (hW : Tabs2 W) => Fits_any none 0 0 [] 28 29 W.heap.size W Reads.none_ (Nat.le_refl _) (by omega) hW.tabs
  rw [kf_3] at q12
  go_wp2_with fail
  refine (q12 _ (ht.kept kv11)).mono ?_
  rintro e v12 ⟨A12, c12, rfl, r12, g12⟩
  have kv12 := below_call kv11 g12
  go_wp2_with fail
  refine (lchord_any _ 5 5 [28, 30, 32, 33, 35] (v12.heap.size + 1) _ (Reads.new _ _ _ 5 1 rfl) (by simp) (by omega) (by decide)).mono ?_
  rintro e v13 ⟨A13, c13, rfl, o13, g13⟩
  have kv13 := below_call (below_alloc kv12 _) g13
  have l9 := below_call (below_alloc (below_call (below_call (below_call (below_alloc (Below.refl v9.heap.size v9) _) g10) g11) g12) _) g13
  have h9 := r9.below (Nat.le_refl _) l9
  go_wp2_with fail
  refine (samePitches_any A9 A13 5 c9 c13 (chordOf [28, 30, 32, 33, 35]) v9.heap.size v13.heap.size v13 h9 l9.size o13.2.1 (Nat.le_refl _) (by omega)).mono ?_
  rintro e v14 ⟨rfl, g14⟩
  have kv14 := below_call kv13 g14
  go_wp2_with fail
  refine (lchord_any _ 2 2 [28, 29] (v14.heap.size + 1) _ (Reads.new _ _ _ 2 1 rfl) (by simp) (by omega) (by decide)).mono ?_
  rintro e v15 ⟨A15, c15, rfl, o15, g15⟩
  have kv15 := below_call (below_alloc kv14 _) g15
  have l12 := below_call (below_alloc (below_call (below_call (below_alloc (Below.refl v12.heap.size v12) _) g13) g14) _) g15
  have h12 := r12.below (Nat.le_refl _) l12
  go_wp2_with fail
  refine (samePitches_any A12 A15 2 c12 c15 (chordOf [28, 29]) v12.heap.size v15.heap.size v15 h12 l12.size o15.2.1 (Nat.le_refl _) (by omega)).mono ?_
  rintro e v16 ⟨rfl, g16⟩
  have kv16 := below_call kv15 g16
  go_wp2_with fail
  refine (awake_any v16 (ht.kept kv16).tabs).mono ?_
  rintro e v17 ⟨rfl, g17⟩
  have kv17 := below_call kv16 g17
  go_wp2
  go_ret
  exact ⟨rfl, kv17⟩
end Go.Proofs.YtmbnpblejhlefaaDoor
