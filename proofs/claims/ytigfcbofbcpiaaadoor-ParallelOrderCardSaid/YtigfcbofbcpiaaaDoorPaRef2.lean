
/- Motions by the reference: moves, perfect. -/
import Derived.Test.YtigfcbofbcpiaaaDoorPaRef
namespace Go.Proofs.YtigfcbofbcpiaaaDoor
open Go.RowKit
theorem mv_equal {l : List (List Ev)} (hz : (checkA l).1 = 0) {v : List Ev} (hv : v ∈ l) {n : Nat} (hn0 : 0 < n) (hn : n < (momS l).length) (h : onS v (mAt (momS l) n) = onS v (mAt (momS l) (n - 1))) : mvV v (momS l) n = (0, false) := by
  by_cases h1 : (sndV v (mAt (momS l) (n - 1))).2 = true
  · by_cases h2 : (sndV v (mAt (momS l) n)).2 = true
    · exact mv_no (.inr (.inr fun e => (mv_same hz hv hn0 hn h1 h2).1 e h))
    · exact mv_no (.inr (.inl (by simpa using h2)))
  · exact mv_no (.inl (by simpa using h1))
theorem mv_differ {l : List (List Ev)} (hz : (checkA l).1 = 0) {v : List Ev} (hv : v ∈ l) {n : Nat} (hn0 : 0 < n) (hn : n < (momS l).length) (h : onS v (mAt (momS l) n) ≠ onS v (mAt (momS l) (n - 1))) :
    mvV v (momS l) n = if (sndV v (mAt (momS l) (n - 1))).2 = true ∧ (sndV v (mAt (momS l) n)).2 = true then (numP (pitA v (mAt (momS l) n)) - numP (pitA v (mAt (momS l) (n - 1))), true) else (0, false) := by
  by_cases h1 : (sndV v (mAt (momS l) (n - 1))).2 = true
  · by_cases h2 : (sndV v (mAt (momS l) n)).2 = true
    · rw [if_pos ⟨h1, h2⟩]
      exact mv_yes hn0 h1 h2 ((mv_same hz hv hn0 hn h1 h2).2 h)
    · rw [if_neg (fun hh => h2 hh.2)]
      exact mv_no (.inr (.inl (by simpa using h2)))
  · rw [if_neg (fun hh => h1 hh.1)]
    exact mv_no (.inl (by simpa using h1))
set_option maxRecDepth 100000 in
set_option maxHeartbeats 8000000 in
theorem rmoves_ok {A S : Option Addr} {n K : Nat} {l : List (List Ev)} {w : World} (h : Stg w A S n K l) (c d : Nat) {i k : Nat} {v : List Ev} (hi : l[i]? = some v) (hk : k < K) :
    Calls Tryd.prog 47 #[.slice A n c, .slice S K d, .int .i64 i, .int .i64 k] w fun e w' => e = .returned (.tuple #[.int .i64 (mvV v (momS l) k).1, .bool (mvV v (momS l) k).2]) ∧ Below w.heap.size w w' := by
  have hbig := h.big
  have hin : i < n := by have := (List.getElem?_eq_some_iff.1 hi).1; have := h.len; omega
  obtain ⟨ba, oa, bs, os, rfl, rfl⟩ := h.addr hin hk
  cases k with
  | zero =>
    have E := Lib.hid (mv_zero v (momS l))
    clear h
    go_enter Tryd.func47, Tryd.ntmps47
    go_wp2_with fail
    refine wp_region_calm (by kernel_rfl) (by kernel_rfl) ?_
    repeat (go_big_quiet_step (fail))
    refine wpQuiet_nil ?_
    intro wd gd
    go_wp2
    refine ret_of (by simp [results, Tryd.results47, go_sem, *]; repeat' (first | rfl | apply And.intro)) rfl ⟨?_, by repeat (first | with_reducible exact Below.refl _ _ | with_reducible assumption | with_reducible refine below_drewN ?_ _ | with_reducible refine Below.drew ?_ | with_reducible refine below_alloc ?_ _ | (with_reducible refine Below.setCell ?_ ?_ _; rotate_left; ((try simp only); omega)))⟩
    rw [E.out]
  | succ k' =>
    obtain ⟨k, hkk⟩ : ∃ k, k = k' + 1 := ⟨_, rfl⟩
    rw [← hkk] at hk ⊢
    have hk1 : k - 1 = k' := by omega
    have hlen : k < (momS l).length := by have := h.many; omega
    have hvm := List.mem_of_getElem? hi
    have HEQ := Lib.hid (mv_equal h.good hvm (n := k) (by omega) hlen)
    have HNE := Lib.hid (mv_differ h.good hvm (n := k) (by omega) hlen)
    rw [hk1] at HEQ HNE
    have s1 := fun W (hW : Below w.heap.size w W) => h.sl hW (by omega) hk
    have s0 := fun W (hW : Below w.heap.size w W) => h.sl hW (by omega) (k := k') (by omega)
    have hwk : IntKind.i64.wrap ((k : Int) - 1) = (k' : Int) := by rw [IntWalk.i64_in _ (by omega)]; omega
    have hk0 : decide ((k : Int) < 1) = false := decide_eq_false (by omega)
    have hkK : (k : Int) < (K : Int) := by omega
    have hkK' : (k' : Int) < (K : Int) := by omega
    have hin' : (i : Int) < (n : Int) := by omega
    obtain ⟨b1, o1, d0, d1, ce, hbs, x0, x1, x2, x3, x4, hs1⟩ := s1 w (Below.refl _ _)
    obtain ⟨b0, o0, e0, e1, cf, _, y0, y1, y2, y3, y4, hs0⟩ := s0 w (Below.refl _ _)
    have z1 := hs1.evs i v hi
    have z0 := hs0.evs i v hi
    have l1 := hs1.lt
    have l0 := hs0.lt
    have q0 := fun W (hW : Below w.heap.size w W) => rpitch_ok (h.kept hW) c hi (k := k') (by omega) (hs0.kept hW)
    have q1 := fun W (hW : Below w.heap.size w W) => rpitch_ok (h.kept hW) c hi (k := k) hk (hs1.kept hW)
    have hp0 := h.pit hi (mAt (momS l) k')
    have hp1 := h.pit hi (mAt (momS l) k)
    have n0 := rnum_ok _ hp0
    have n1 := rnum_ok _ hp1
    have bd0 := numP_bd hp0
    have bd1 := numP_bd hp1
    obtain ⟨⟨u0, u1⟩, hu⟩ : ∃ t, t = mAt (momS l) k := ⟨_, rfl⟩
    obtain ⟨⟨v0, v1⟩, hv⟩ : ∃ t, t = mAt (momS l) k' := ⟨_, rfl⟩
    rw [← hu] at HEQ HNE x0 x1 z1 q1 n1 bd1
    rw [← hv] at HEQ HNE y0 y1 z0 q0 n0 bd0
    simp only at x0 x1 y0 y1 q0 q1
    obtain ⟨p1, hp1'⟩ : ∃ p, p = onS v (u0, u1) := ⟨_, rfl⟩
    obtain ⟨p0, hp0'⟩ : ∃ p, p = onS v (v0, v1) := ⟨_, rfl⟩
    rw [← hp1'] at HEQ HNE z1
    rw [← hp0'] at HEQ HNE z0
    obtain ⟨P1, hP1⟩ : ∃ p, p = pitA v (u0, u1) := ⟨_, rfl⟩
    obtain ⟨P0, hP0⟩ : ∃ p, p = pitA v (v0, v1) := ⟨_, rfl⟩
    rw [← hP1] at HNE q1 n1 bd1
    rw [← hP0] at HNE q0 n0 bd0
    obtain ⟨f1, hf1⟩ : ∃ p, p = (sndV v (u0, u1)).2 := ⟨_, rfl⟩
    obtain ⟨f0, hf0⟩ : ∃ p, p = (sndV v (v0, v1)).2 := ⟨_, rfl⟩
    rw [← hf1] at HNE q1
    rw [← hf0] at HNE q0
    have HW := Lib.hid (show IntKind.i64.wrap (numP P1 - numP P0) = numP P1 - numP P0 from IntWalk.i64_in _ (by omega))
    have ht : Anch w := ⟨⟩
    clear s1 s0 hs1 hs0 hp0 hp1 hu hv hp1' hp0' hP1 hP0 hf1 hf0 h hi hvm hkk hk1 hlen bd0 bd1
    by_cases hpp : p1 = p0
    · have E := Lib.hid (HEQ.out hpp)
      have hpb : (p1 == p0) = true := by simpa using hpp
      clear HEQ HNE hpp q0 q1 n0 n1
      go_enter Tryd.func47, Tryd.ntmps47
      go_wp2_with fail
      refine wp_region_calm (by kernel_rfl) (by kernel_rfl) ?_
      repeat (go_big_quiet_step (fail))
      refine wpQuiet_nil ?_
      intro wd gd
      go_wp2
      refine ret_of (by simp [results, Tryd.results47, go_sem, *]; repeat' (first | rfl | apply And.intro)) rfl ⟨?_, by repeat (first | with_reducible exact Below.refl _ _ | with_reducible assumption | with_reducible refine below_drewN ?_ _ | with_reducible refine Below.drew ?_ | with_reducible refine below_alloc ?_ _ | (with_reducible refine Below.setCell ?_ ?_ _; rotate_left; ((try simp only); omega)))⟩
      rw [E.out]
    · have hpb : (p1 == p0) = false := by simpa using hpp
      have E := Lib.hid (HNE.out hpp)
      clear HEQ HNE hpp
      obtain ⟨P1a, P1b, P1c⟩ := P1
      obtain ⟨P0a, P0b, P0c⟩ := P0
      obtain ⟨m1, hm1⟩ : ∃ m, m = numP (P1a, P1b, P1c) := ⟨_, rfl⟩
      obtain ⟨m0, hm0⟩ : ∃ m, m = numP (P0a, P0b, P0c) := ⟨_, rfl⟩
      rw [← hm1] at n1 E HW
      rw [← hm0] at n0 E HW
      have hw := HW.out
      clear hm1 hm0 HW
      go_enter Tryd.func47, Tryd.ntmps47
      go_wp2_with fail
      refine wp_region_calm (by kernel_rfl) (by kernel_rfl) ?_
      repeat (go_big_quiet_step (fail))
      refine wpQuiet_nil ?_
      intro wd gd
      have x0' := (gd.cell (p := ⟨bs, os + k * 5, none⟩) hbs).trans x0
      have x1' := (gd.cell (p := ⟨bs, os + k * 5 + 1, none⟩) hbs).trans x1
      have x2' := (gd.cell (p := ⟨bs, os + k * 5 + 2, none⟩) hbs).trans x2
      have x3' := (gd.cell (p := ⟨bs, os + k * 5 + 3, none⟩) hbs).trans x3
      have x4' := (gd.cell (p := ⟨bs, os + k * 5 + 4, none⟩) hbs).trans x4
      have y0' := (gd.cell (p := ⟨bs, os + k' * 5, none⟩) hbs).trans y0
      have y1' := (gd.cell (p := ⟨bs, os + k' * 5 + 1, none⟩) hbs).trans y1
      have y2' := (gd.cell (p := ⟨bs, os + k' * 5 + 2, none⟩) hbs).trans y2
      have y3' := (gd.cell (p := ⟨bs, os + k' * 5 + 3, none⟩) hbs).trans y3
      have y4' := (gd.cell (p := ⟨bs, os + k' * 5 + 4, none⟩) hbs).trans y4
      have hbs' : bs < wd.heap.size := Nat.lt_of_lt_of_le hbs gd.size
      clear x0 x1 x2 x3 x4 y0 y1 y2 y3 y4
      go_wp2_with fail
      refine (q0 _ gd).mono ?_
      rintro e w1 ⟨rfl, hb1⟩
      have X0 := (hb1.cell (p := ⟨bs, os + k * 5, none⟩) hbs').trans x0'
      have X1 := (hb1.cell (p := ⟨bs, os + k * 5 + 1, none⟩) hbs').trans x1'
      have X2 := (hb1.cell (p := ⟨bs, os + k * 5 + 2, none⟩) hbs').trans x2'
      have X3 := (hb1.cell (p := ⟨bs, os + k * 5 + 3, none⟩) hbs').trans x3'
      have X4 := (hb1.cell (p := ⟨bs, os + k * 5 + 4, none⟩) hbs').trans x4'
      have hbs1 : bs < w1.heap.size := Nat.lt_of_lt_of_le hbs' hb1.size
      have k1 := below_call gd hb1
      have P0' : Blk (w1.alloc (.cells #[.int .i64 P0a, .int .i64 P0b, .int .i64 P0c] 57)) w1.heap.size 57 #[.int .i64 P0a, .int .i64 P0b, .int .i64 P0c] := Blk.new _ _ _
      have k1' := below_alloc k1 (.cells #[.int .i64 P0a, .int .i64 P0b, .int .i64 P0c] 57)
      clear x0' x1' x2' x3' x4' y0' y1' y2' y3' y4'
      go_wp2_with fail
      refine (q1 _ k1').mono ?_
      rintro e w2 ⟨rfl, hb2⟩
      have P02 := P0'.kept hb2
      have k2 := below_call k1' hb2
      have r0 : w2.cell? ⟨w1.heap.size, 0, none⟩ = some (.int .i64 P0a) := P02.cell 0
      have r1 : w2.cell? ⟨w1.heap.size, 1, none⟩ = some (.int .i64 P0b) := P02.cell 1
      have r2 : w2.cell? ⟨w1.heap.size, 2, none⟩ = some (.int .i64 P0c) := P02.cell 2
      have lr := P02.lt
      clear X0 X1 X2 X3 X4 P0' P02
      cases f0
      · go_wp2
        refine ret_of (by simp [results, Tryd.results47, go_sem, *]; repeat' (first | rfl | apply And.intro)) rfl ⟨?_, by repeat (first | with_reducible exact Below.refl _ _ | with_reducible assumption | with_reducible refine below_drewN ?_ _ | with_reducible refine Below.drew ?_ | with_reducible refine below_alloc ?_ _ | (with_reducible refine Below.setCell ?_ ?_ _; rotate_left; ((try simp only); omega)))⟩
        rw [E.out]; rfl
      · cases f1
        · go_wp2
          refine ret_of (by simp [results, Tryd.results47, go_sem, *]; repeat' (first | rfl | apply And.intro)) rfl ⟨?_, by repeat (first | with_reducible exact Below.refl _ _ | with_reducible assumption | with_reducible refine below_drewN ?_ _ | with_reducible refine Below.drew ?_ | with_reducible refine below_alloc ?_ _ | (with_reducible refine Below.setCell ?_ ?_ _; rotate_left; ((try simp only); omega)))⟩
          rw [E.out]; rfl
        · go_wp2_with fail
          refine wp_region_calm_tail 5 (by kernel_rfl) (by kernel_rfl) ?_
          simp only [List.take_succ_cons, List.take_zero, List.drop_succ_cons, List.drop_zero]
          repeat (go_big_quiet_step ((go_at_call 73; (first | (with_reducible exact calm_call (n1 _)) | (with_reducible exact calm_call (n0 _))))))
          refine wpQuiet_nil ?_
          intro w3 hb3
          go_wp2
          refine ret_of (by simp [results, Tryd.results47, go_sem, *]; repeat' (first | rfl | apply And.intro)) rfl ⟨?_, by repeat (first | exact Below.refl _ _ | refine below_drewN ?_ _ | refine Below.drew ?_ | refine below_alloc ?_ _ | (refine below_call ?_ (by assumption)) | (refine Below.setCell ?_ ?_ _; rotate_left; (simp; try omega)))⟩
          rw [E.out]; rfl
end Go.Proofs.YtigfcbofbcpiaaaDoor
