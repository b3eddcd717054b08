
/- Motions by the program: moves, sign, perfect, upper, kind. -/
import Derived.Test.YtigfcbofbcpiaaaDoorPaMem
namespace Go.Proofs.YtigfcbofbcpiaaaDoor
open Go.RowKit
theorem mv_zero (v : List Ev) (m : List Tm) : mvV v m 0 = (0, false) := by unfold mvV; rw [if_pos (by omega)]
theorem mv_no {v : List Ev} {m : List Tm} {n : Nat} (h : (sndV v (mAt m (n - 1))).2 = false ∨ (sndV v (mAt m n)).2 = false ∨ (sndV v (mAt m n)).1.at_ ≠ mAt m n) : mvV v m n = (0, false) := by
  unfold mvV
  by_cases h0 : n < 1
  · rw [if_pos h0]
  · rw [if_neg h0, if_neg]
    rintro ⟨h1, h2, h3⟩
    rcases h with h | h | h
    · rw [h] at h1; cases h1
    · rw [h] at h2; cases h2
    · exact h h3
theorem mv_yes {v : List Ev} {m : List Tm} {n : Nat} (h0 : 0 < n) (h1 : (sndV v (mAt m (n - 1))).2 = true) (h2 : (sndV v (mAt m n)).2 = true) (h3 : (sndV v (mAt m n)).1.at_ = mAt m n) : mvV v m n = (numP (pitA v (mAt m n)) - numP (pitA v (mAt m (n - 1))), true) := by
  unfold mvV
  rw [if_neg (by omega), if_pos ⟨h1, h2, h3⟩]
set_option maxRecDepth 100000 in
set_option maxHeartbeats 4000000 in
theorem moves_ok {A S : Option Addr} {n K : Nat} {l : List (List Ev)} {w : World} (h : Stg w A S n K l) (c d : Nat) {i k : Nat} {v : List Ev} (hi : l[i]? = some v) (hk : k < K) :
    Calls Tryd.prog 45 #[vX A n c S K d, .int .i64 i, .int .i64 k] w fun e w' => e = .returned (.tuple #[.int .i64 (mvV v (momS l) k).1, .bool (mvV v (momS l) k).2]) ∧ Below w.heap.size w w' := by
  have hbig := h.big
  cases k with
  | zero =>
    have E := Lib.hid (mv_zero v (momS l))
    clear h
    go_enter Tryd.func45, Tryd.ntmps45
    go_wp2
    refine ret_of (by simp [results, Tryd.results45, go_sem, *]; repeat' (first | rfl | apply And.intro)) rfl ⟨?_, by repeat (first | with_reducible exact Below.refl _ _ | with_reducible assumption | with_reducible refine below_drewN ?_ _ | with_reducible refine Below.drew ?_ | with_reducible refine below_alloc ?_ _ | (with_reducible refine Below.setCell ?_ ?_ _; rotate_left; ((try simp only); omega)))⟩
    rw [E.out]
  | succ k' =>
    obtain ⟨k, hkk⟩ : ∃ k, k = k' + 1 := ⟨_, rfl⟩
    rw [← hkk] at hk ⊢
    have hin : i < n := by have := (List.getElem?_eq_some_iff.1 hi).1; have := h.len; omega
    obtain ⟨ba, oa, bs, os, rfl, rfl⟩ := h.addr hin hk
    have q1 := fun W (hW : Below w.heap.size w W) => sounds_ok (h.kept hW) c d hi (k := k') (by omega)
    have q2 := fun W (hW : Below w.heap.size w W) => sounds_ok (h.kept hW) c d hi (k := k) hk
    have hp1 := h.pit hi (mAt (momS l) k')
    have hp2 := h.pit hi (mAt (momS l) k)
    have HNO := Lib.hid (mv_no (v := v) (m := momS l) (n := k))
    have HYES := Lib.hid (mv_yes (v := v) (m := momS l) (n := k))
    rw [show k - 1 = k' by omega] at HNO HYES
    have hat := fun W (hW : Below w.heap.size w W) => h.at2 hW hin hk hi
    have hwk : IntKind.i64.wrap ((k : Int) - 1) = (k' : Int) := by rw [IntWalk.i64_in _ (by omega)]; omega
    have hk1 : ¬ ((k : Int) < 1) := by omega
    have hkK : (k : Int) < (K : Int) := by omega
    have hk0 : 0 < k := by omega
    obtain ⟨⟨x, bx⟩, hx⟩ : ∃ y, y = sndV v (mAt (momS l) k') := ⟨_, rfl⟩
    obtain ⟨⟨y, by_⟩, hy⟩ : ∃ y, y = sndV v (mAt (momS l) k) := ⟨_, rfl⟩
    unfold pitA at hp1 hp2 HYES
    rw [← hx] at q1 hp1 HNO HYES
    rw [← hy] at q2 hp2 HNO HYES
    obtain ⟨⟨t0, t1⟩, ht0⟩ : ∃ t, t = mAt (momS l) k := ⟨_, rfl⟩
    rw [← ht0] at HNO HYES hat
    obtain ⟨⟨xa0, xa1⟩, ⟨xd0, xd1⟩, ⟨xp0, xp1, xp2⟩, xr, xs, xq⟩ := x
    obtain ⟨⟨ya0, ya1⟩, ⟨yd0, yd1⟩, ⟨yp0, yp1, yp2⟩, yr, ys, yq⟩ := y
    simp only at hp1 hp2 q1 q2 HNO HYES hat
    have qn1 := number_ok _ hp1
    have qn2 := number_ok _ hp2
    have b1 := numP_bd hp1
    have b2 := numP_bd hp2
    have HW := Lib.hid (show IntKind.i64.wrap (numP (yp0, yp1, yp2) - numP (xp0, xp1, xp2)) = numP (yp0, yp1, yp2) - numP (xp0, xp1, xp2) from IntWalk.i64_in _ (by omega))
    have ht : Anch w := ⟨⟩
    clear hx hy hp1 hp2 ht0 hkk hbig b1 b2
    cases bx with
    | false =>
      have E := Lib.hid (HNO.out (.inl rfl))
      clear HNO HYES qn1 qn2
      go_enter Tryd.func45, Tryd.ntmps45
      go_wp2_with fail
      refine Calls.mono (q1 _ ?_) ?_
      · exact ht.kept (by repeat (first | exact Below.refl _ _ | refine below_drewN ?_ _ | refine Below.drew ?_ | refine below_alloc ?_ _ | (refine below_call ?_ (by assumption)) | (refine Below.setCell ?_ ?_ _; rotate_left; (simp; try omega))))
      rintro e w1 ⟨rfl, hb1⟩
      have BX1 : Blk w1 (w.heap.size) 75 #[.slice (some ⟨ba, oa, none⟩) n c, .slice (some ⟨bs, os, none⟩) K d] := by
        refine Blk.kept ?_ hb1
        repeat (first | with_reducible exact Blk.new _ _ _ | (with_reducible refine Blk.newAt _ _ _ _ ?_; first | rfl | (simp; done)) | with_reducible apply Blk.alloc | with_reducible apply Blk.drewN | with_reducible apply Blk.drew | with_reducible apply Blk.set_to | (with_reducible apply Blk.far_; (simp only [ne_eq]; omega)) | rfl)
      have cX0_1 : w1.cell? ⟨w.heap.size, 0, none⟩ = some (.slice (some ⟨ba, oa, none⟩) n c) := BX1.cell 0
      have cX1_1 : w1.cell? ⟨w.heap.size, 1, none⟩ = some (.slice (some ⟨bs, os, none⟩) K d) := BX1.cell 1
      have lX1 : w.heap.size < w1.heap.size := BX1.lt
      have mX1 : w.heap.size < w1.heap.size + 1 := by omega
      have nX1 : w.heap.size < w1.heap.size + 1 + 1 := by omega
      have hs1 : w.heap.size ≤ w1.heap.size := by have h := hb1.size; (try simp at h); omega
      go_wp2_with fail
      refine Calls.mono (q2 _ ?_) ?_
      · exact ht.kept (by repeat (first | exact Below.refl _ _ | refine below_drewN ?_ _ | refine Below.drew ?_ | refine below_alloc ?_ _ | (refine below_call ?_ (by assumption)) | (refine Below.setCell ?_ ?_ _; rotate_left; (simp; try omega))))
      rintro e w2 ⟨rfl, hb2⟩
      have BX2 : Blk w2 (w.heap.size) 75 #[.slice (some ⟨ba, oa, none⟩) n c, .slice (some ⟨bs, os, none⟩) K d] := by
        refine Blk.kept ?_ hb2
        repeat (first | with_reducible exact BX1 | with_reducible exact Blk.new _ _ _ | (with_reducible refine Blk.newAt _ _ _ _ ?_; first | rfl | (simp; done)) | with_reducible apply Blk.alloc | with_reducible apply Blk.drewN | with_reducible apply Blk.drew | with_reducible apply Blk.set_to | (with_reducible apply Blk.far_; (simp only [ne_eq]; omega)) | rfl)
      have cX0_2 : w2.cell? ⟨w.heap.size, 0, none⟩ = some (.slice (some ⟨ba, oa, none⟩) n c) := BX2.cell 0
      have cX1_2 : w2.cell? ⟨w.heap.size, 1, none⟩ = some (.slice (some ⟨bs, os, none⟩) K d) := BX2.cell 1
      have lX2 : w.heap.size < w2.heap.size := BX2.lt
      have mX2 : w.heap.size < w2.heap.size + 1 := by omega
      have nX2 : w.heap.size < w2.heap.size + 1 + 1 := by omega
      have BE2 : Blk w2 (w1.heap.size) 70 #[.int .i64 xa0, .int .i64 xa1, .int .i64 xd0, .int .i64 xd1, .int .i64 xp0, .int .i64 xp1, .int .i64 xp2, .bool xr, .int .i64 xs, .int .i64 xq] := by
        refine Blk.kept ?_ hb2
        repeat (first | with_reducible exact Blk.new _ _ _ | (with_reducible refine Blk.newAt _ _ _ _ ?_; first | rfl | (simp; done)) | with_reducible apply Blk.alloc | with_reducible apply Blk.drewN | with_reducible apply Blk.drew | with_reducible apply Blk.set_to | (with_reducible apply Blk.far_; (simp only [ne_eq]; omega)) | rfl)
      have cE0_2 : w2.cell? ⟨w1.heap.size, 0, none⟩ = some (.int .i64 xa0) := BE2.cell 0
      have cE1_2 : w2.cell? ⟨w1.heap.size, 1, none⟩ = some (.int .i64 xa1) := BE2.cell 1
      have cE2_2 : w2.cell? ⟨w1.heap.size, 2, none⟩ = some (.int .i64 xd0) := BE2.cell 2
      have cE3_2 : w2.cell? ⟨w1.heap.size, 3, none⟩ = some (.int .i64 xd1) := BE2.cell 3
      have cE4_2 : w2.cell? ⟨w1.heap.size, 4, none⟩ = some (.int .i64 xp0) := BE2.cell 4
      have cE5_2 : w2.cell? ⟨w1.heap.size, 5, none⟩ = some (.int .i64 xp1) := BE2.cell 5
      have cE6_2 : w2.cell? ⟨w1.heap.size, 6, none⟩ = some (.int .i64 xp2) := BE2.cell 6
      have cE7_2 : w2.cell? ⟨w1.heap.size, 7, none⟩ = some (.bool xr) := BE2.cell 7
      have cE8_2 : w2.cell? ⟨w1.heap.size, 8, none⟩ = some (.int .i64 xs) := BE2.cell 8
      have cE9_2 : w2.cell? ⟨w1.heap.size, 9, none⟩ = some (.int .i64 xq) := BE2.cell 9
      have lE2 : w1.heap.size < w2.heap.size := BE2.lt
      have mE2 : w1.heap.size < w2.heap.size + 1 := by omega
      have nE2 : w1.heap.size < w2.heap.size + 1 + 1 := by omega
      clear BX1 lX1 mX1 nX1 cX0_1 cX1_1
      have hs2 : w.heap.size ≤ w2.heap.size := by have h := hb2.size; (try simp at h); omega
      go_wp2_with fail
      refine wp_region_calm (by kernel_rfl) (by kernel_rfl) ?_
      repeat (go_big_quiet_step (fail))
      refine wpQuiet_nil ?_
      intro wd gd
      go_wp2
      refine ret_of (by simp [results, Tryd.results45, go_sem, *]; repeat' (first | rfl | apply And.intro)) rfl ⟨?_, by repeat (first | exact Below.refl _ _ | refine below_drewN ?_ _ | refine Below.drew ?_ | refine below_alloc ?_ _ | (refine below_call ?_ (by assumption)) | (refine Below.setCell ?_ ?_ _; rotate_left; (simp; try omega)))⟩
      rw [E.out]
    | true =>
      cases by_ with
      | false =>
        have E := Lib.hid (HNO.out (.inr (.inl rfl)))
        clear HNO HYES qn1 qn2
        go_enter Tryd.func45, Tryd.ntmps45
        go_wp2_with fail
        refine Calls.mono (q1 _ ?_) ?_
        · exact ht.kept (by repeat (first | exact Below.refl _ _ | refine below_drewN ?_ _ | refine Below.drew ?_ | refine below_alloc ?_ _ | (refine below_call ?_ (by assumption)) | (refine Below.setCell ?_ ?_ _; rotate_left; (simp; try omega))))
        rintro e w1 ⟨rfl, hb1⟩
        have BX1 : Blk w1 (w.heap.size) 75 #[.slice (some ⟨ba, oa, none⟩) n c, .slice (some ⟨bs, os, none⟩) K d] := by
          refine Blk.kept ?_ hb1
          repeat (first | with_reducible exact Blk.new _ _ _ | (with_reducible refine Blk.newAt _ _ _ _ ?_; first | rfl | (simp; done)) | with_reducible apply Blk.alloc | with_reducible apply Blk.drewN | with_reducible apply Blk.drew | with_reducible apply Blk.set_to | (with_reducible apply Blk.far_; (simp only [ne_eq]; omega)) | rfl)
        have cX0_1 : w1.cell? ⟨w.heap.size, 0, none⟩ = some (.slice (some ⟨ba, oa, none⟩) n c) := BX1.cell 0
        have cX1_1 : w1.cell? ⟨w.heap.size, 1, none⟩ = some (.slice (some ⟨bs, os, none⟩) K d) := BX1.cell 1
        have lX1 : w.heap.size < w1.heap.size := BX1.lt
        have mX1 : w.heap.size < w1.heap.size + 1 := by omega
        have nX1 : w.heap.size < w1.heap.size + 1 + 1 := by omega
        have hs1 : w.heap.size ≤ w1.heap.size := by have h := hb1.size; (try simp at h); omega
        go_wp2_with fail
        refine Calls.mono (q2 _ ?_) ?_
        · exact ht.kept (by repeat (first | exact Below.refl _ _ | refine below_drewN ?_ _ | refine Below.drew ?_ | refine below_alloc ?_ _ | (refine below_call ?_ (by assumption)) | (refine Below.setCell ?_ ?_ _; rotate_left; (simp; try omega))))
        rintro e w2 ⟨rfl, hb2⟩
        have BX2 : Blk w2 (w.heap.size) 75 #[.slice (some ⟨ba, oa, none⟩) n c, .slice (some ⟨bs, os, none⟩) K d] := by
          refine Blk.kept ?_ hb2
          repeat (first | with_reducible exact BX1 | with_reducible exact Blk.new _ _ _ | (with_reducible refine Blk.newAt _ _ _ _ ?_; first | rfl | (simp; done)) | with_reducible apply Blk.alloc | with_reducible apply Blk.drewN | with_reducible apply Blk.drew | with_reducible apply Blk.set_to | (with_reducible apply Blk.far_; (simp only [ne_eq]; omega)) | rfl)
        have cX0_2 : w2.cell? ⟨w.heap.size, 0, none⟩ = some (.slice (some ⟨ba, oa, none⟩) n c) := BX2.cell 0
        have cX1_2 : w2.cell? ⟨w.heap.size, 1, none⟩ = some (.slice (some ⟨bs, os, none⟩) K d) := BX2.cell 1
        have lX2 : w.heap.size < w2.heap.size := BX2.lt
        have mX2 : w.heap.size < w2.heap.size + 1 := by omega
        have nX2 : w.heap.size < w2.heap.size + 1 + 1 := by omega
        have BE2 : Blk w2 (w1.heap.size) 70 #[.int .i64 xa0, .int .i64 xa1, .int .i64 xd0, .int .i64 xd1, .int .i64 xp0, .int .i64 xp1, .int .i64 xp2, .bool xr, .int .i64 xs, .int .i64 xq] := by
          refine Blk.kept ?_ hb2
          repeat (first | with_reducible exact Blk.new _ _ _ | (with_reducible refine Blk.newAt _ _ _ _ ?_; first | rfl | (simp; done)) | with_reducible apply Blk.alloc | with_reducible apply Blk.drewN | with_reducible apply Blk.drew | with_reducible apply Blk.set_to | (with_reducible apply Blk.far_; (simp only [ne_eq]; omega)) | rfl)
        have cE0_2 : w2.cell? ⟨w1.heap.size, 0, none⟩ = some (.int .i64 xa0) := BE2.cell 0
        have cE1_2 : w2.cell? ⟨w1.heap.size, 1, none⟩ = some (.int .i64 xa1) := BE2.cell 1
        have cE2_2 : w2.cell? ⟨w1.heap.size, 2, none⟩ = some (.int .i64 xd0) := BE2.cell 2
        have cE3_2 : w2.cell? ⟨w1.heap.size, 3, none⟩ = some (.int .i64 xd1) := BE2.cell 3
        have cE4_2 : w2.cell? ⟨w1.heap.size, 4, none⟩ = some (.int .i64 xp0) := BE2.cell 4
        have cE5_2 : w2.cell? ⟨w1.heap.size, 5, none⟩ = some (.int .i64 xp1) := BE2.cell 5
        have cE6_2 : w2.cell? ⟨w1.heap.size, 6, none⟩ = some (.int .i64 xp2) := BE2.cell 6
        have cE7_2 : w2.cell? ⟨w1.heap.size, 7, none⟩ = some (.bool xr) := BE2.cell 7
        have cE8_2 : w2.cell? ⟨w1.heap.size, 8, none⟩ = some (.int .i64 xs) := BE2.cell 8
        have cE9_2 : w2.cell? ⟨w1.heap.size, 9, none⟩ = some (.int .i64 xq) := BE2.cell 9
        have lE2 : w1.heap.size < w2.heap.size := BE2.lt
        have mE2 : w1.heap.size < w2.heap.size + 1 := by omega
        have nE2 : w1.heap.size < w2.heap.size + 1 + 1 := by omega
        clear BX1 lX1 mX1 nX1 cX0_1 cX1_1
        have hs2 : w.heap.size ≤ w2.heap.size := by have h := hb2.size; (try simp at h); omega
        go_wp2_with fail
        refine wp_region_calm (by kernel_rfl) (by kernel_rfl) ?_
        repeat (go_big_quiet_step (fail))
        refine wpQuiet_nil ?_
        intro wd gd
        go_wp2
        refine ret_of (by simp [results, Tryd.results45, go_sem, *]; repeat' (first | rfl | apply And.intro)) rfl ⟨?_, by repeat (first | exact Below.refl _ _ | refine below_drewN ?_ _ | refine Below.drew ?_ | refine below_alloc ?_ _ | (refine below_call ?_ (by assumption)) | (refine Below.setCell ?_ ?_ _; rotate_left; (simp; try omega)))⟩
        rw [E.out]
      | true =>
        by_cases he : (ya0, ya1) = (t0, t1)
        · have E := Lib.hid (HYES.out hk0 rfl rfl he)
          obtain ⟨rfl, rfl⟩ : ya0 = t0 ∧ ya1 = t1 := by simpa using he
          clear HNO HYES he
          obtain ⟨nx, hnx⟩ : ∃ z, z = numP (xp0, xp1, xp2) := ⟨_, rfl⟩
          obtain ⟨ny, hny⟩ : ∃ z, z = numP (yp0, yp1, yp2) := ⟨_, rfl⟩
          rw [← hnx] at qn1 HW E
          rw [← hny] at qn2 HW E
          have hw := HW.out
          clear hnx hny HW
          go_enter Tryd.func45, Tryd.ntmps45
          go_wp2_with fail
          refine Calls.mono (q1 _ ?_) ?_
          · exact ht.kept (by repeat (first | exact Below.refl _ _ | refine below_drewN ?_ _ | refine Below.drew ?_ | refine below_alloc ?_ _ | (refine below_call ?_ (by assumption)) | (refine Below.setCell ?_ ?_ _; rotate_left; (simp; try omega))))
          rintro e w1 ⟨rfl, hb1⟩
          have BX1 : Blk w1 (w.heap.size) 75 #[.slice (some ⟨ba, oa, none⟩) n c, .slice (some ⟨bs, os, none⟩) K d] := by
            refine Blk.kept ?_ hb1
            repeat (first | with_reducible exact Blk.new _ _ _ | (with_reducible refine Blk.newAt _ _ _ _ ?_; first | rfl | (simp; done)) | with_reducible apply Blk.alloc | with_reducible apply Blk.drewN | with_reducible apply Blk.drew | with_reducible apply Blk.set_to | (with_reducible apply Blk.far_; (simp only [ne_eq]; omega)) | rfl)
          have cX0_1 : w1.cell? ⟨w.heap.size, 0, none⟩ = some (.slice (some ⟨ba, oa, none⟩) n c) := BX1.cell 0
          have cX1_1 : w1.cell? ⟨w.heap.size, 1, none⟩ = some (.slice (some ⟨bs, os, none⟩) K d) := BX1.cell 1
          have lX1 : w.heap.size < w1.heap.size := BX1.lt
          have mX1 : w.heap.size < w1.heap.size + 1 := by omega
          have nX1 : w.heap.size < w1.heap.size + 1 + 1 := by omega
          have hs1 : w.heap.size ≤ w1.heap.size := by have h := hb1.size; (try simp at h); omega
          go_wp2_with fail
          refine Calls.mono (q2 _ ?_) ?_
          · exact ht.kept (by repeat (first | exact Below.refl _ _ | refine below_drewN ?_ _ | refine Below.drew ?_ | refine below_alloc ?_ _ | (refine below_call ?_ (by assumption)) | (refine Below.setCell ?_ ?_ _; rotate_left; (simp; try omega))))
          rintro e w2 ⟨rfl, hb2⟩
          have BX2 : Blk w2 (w.heap.size) 75 #[.slice (some ⟨ba, oa, none⟩) n c, .slice (some ⟨bs, os, none⟩) K d] := by
            refine Blk.kept ?_ hb2
            repeat (first | with_reducible exact BX1 | with_reducible exact Blk.new _ _ _ | (with_reducible refine Blk.newAt _ _ _ _ ?_; first | rfl | (simp; done)) | with_reducible apply Blk.alloc | with_reducible apply Blk.drewN | with_reducible apply Blk.drew | with_reducible apply Blk.set_to | (with_reducible apply Blk.far_; (simp only [ne_eq]; omega)) | rfl)
          have cX0_2 : w2.cell? ⟨w.heap.size, 0, none⟩ = some (.slice (some ⟨ba, oa, none⟩) n c) := BX2.cell 0
          have cX1_2 : w2.cell? ⟨w.heap.size, 1, none⟩ = some (.slice (some ⟨bs, os, none⟩) K d) := BX2.cell 1
          have lX2 : w.heap.size < w2.heap.size := BX2.lt
          have mX2 : w.heap.size < w2.heap.size + 1 := by omega
          have nX2 : w.heap.size < w2.heap.size + 1 + 1 := by omega
          have BE2 : Blk w2 (w1.heap.size) 70 #[.int .i64 xa0, .int .i64 xa1, .int .i64 xd0, .int .i64 xd1, .int .i64 xp0, .int .i64 xp1, .int .i64 xp2, .bool xr, .int .i64 xs, .int .i64 xq] := by
            refine Blk.kept ?_ hb2
            repeat (first | with_reducible exact Blk.new _ _ _ | (with_reducible refine Blk.newAt _ _ _ _ ?_; first | rfl | (simp; done)) | with_reducible apply Blk.alloc | with_reducible apply Blk.drewN | with_reducible apply Blk.drew | with_reducible apply Blk.set_to | (with_reducible apply Blk.far_; (simp only [ne_eq]; omega)) | rfl)
          have cE0_2 : w2.cell? ⟨w1.heap.size, 0, none⟩ = some (.int .i64 xa0) := BE2.cell 0
          have cE1_2 : w2.cell? ⟨w1.heap.size, 1, none⟩ = some (.int .i64 xa1) := BE2.cell 1
          have cE2_2 : w2.cell? ⟨w1.heap.size, 2, none⟩ = some (.int .i64 xd0) := BE2.cell 2
          have cE3_2 : w2.cell? ⟨w1.heap.size, 3, none⟩ = some (.int .i64 xd1) := BE2.cell 3
          have cE4_2 : w2.cell? ⟨w1.heap.size, 4, none⟩ = some (.int .i64 xp0) := BE2.cell 4
          have cE5_2 : w2.cell? ⟨w1.heap.size, 5, none⟩ = some (.int .i64 xp1) := BE2.cell 5
          have cE6_2 : w2.cell? ⟨w1.heap.size, 6, none⟩ = some (.int .i64 xp2) := BE2.cell 6
          have cE7_2 : w2.cell? ⟨w1.heap.size, 7, none⟩ = some (.bool xr) := BE2.cell 7
          have cE8_2 : w2.cell? ⟨w1.heap.size, 8, none⟩ = some (.int .i64 xs) := BE2.cell 8
          have cE9_2 : w2.cell? ⟨w1.heap.size, 9, none⟩ = some (.int .i64 xq) := BE2.cell 9
          have lE2 : w1.heap.size < w2.heap.size := BE2.lt
          have mE2 : w1.heap.size < w2.heap.size + 1 := by omega
          have nE2 : w1.heap.size < w2.heap.size + 1 + 1 := by omega
          clear BX1 lX1 mX1 nX1 cX0_1 cX1_1
          have hs2 : w.heap.size ≤ w2.heap.size := by have h := hb2.size; (try simp at h); omega
          obtain ⟨be, oe, ce, A', n', c', hba, hbs, hbe, x0, x1, x4, y0, z0, _, _⟩ := hat w2 (by repeat (first | exact Below.refl _ _ | refine below_drewN ?_ _ | refine Below.drew ?_ | refine below_alloc ?_ _ | (refine below_call ?_ (by assumption)) | (refine Below.setCell ?_ ?_ _; rotate_left; (simp; try omega))))
          go_wp2_with fail
          refine wp_region_calm (by kernel_rfl) (by kernel_rfl) ?_
          repeat (go_big_quiet_step (fail))
          refine wpQuiet_nil ?_
          intro w3 hb3
          have BX3 : Blk w3 (w.heap.size) 75 #[.slice (some ⟨ba, oa, none⟩) n c, .slice (some ⟨bs, os, none⟩) K d] := by
            refine Blk.kept ?_ hb3
            repeat (first | with_reducible exact BX2 | with_reducible exact Blk.new _ _ _ | (with_reducible refine Blk.newAt _ _ _ _ ?_; first | rfl | (simp; done)) | with_reducible apply Blk.alloc | with_reducible apply Blk.drewN | with_reducible apply Blk.drew | with_reducible apply Blk.set_to | (with_reducible apply Blk.far_; (simp only [ne_eq]; omega)) | rfl)
          have cX0_3 : w3.cell? ⟨w.heap.size, 0, none⟩ = some (.slice (some ⟨ba, oa, none⟩) n c) := BX3.cell 0
          have cX1_3 : w3.cell? ⟨w.heap.size, 1, none⟩ = some (.slice (some ⟨bs, os, none⟩) K d) := BX3.cell 1
          have lX3 : w.heap.size < w3.heap.size := BX3.lt
          have mX3 : w.heap.size < w3.heap.size + 1 := by omega
          have nX3 : w.heap.size < w3.heap.size + 1 + 1 := by omega
          have BE3 : Blk w3 (w1.heap.size) 70 #[.int .i64 xa0, .int .i64 xa1, .int .i64 xd0, .int .i64 xd1, .int .i64 xp0, .int .i64 xp1, .int .i64 xp2, .bool xr, .int .i64 xs, .int .i64 xq] := by
            refine Blk.kept ?_ hb3
            repeat (first | with_reducible exact BE2 | with_reducible exact Blk.new _ _ _ | (with_reducible refine Blk.newAt _ _ _ _ ?_; first | rfl | (simp; done)) | with_reducible apply Blk.alloc | with_reducible apply Blk.drewN | with_reducible apply Blk.drew | with_reducible apply Blk.set_to | (with_reducible apply Blk.far_; (simp only [ne_eq]; omega)) | rfl)
          have cE0_3 : w3.cell? ⟨w1.heap.size, 0, none⟩ = some (.int .i64 xa0) := BE3.cell 0
          have cE1_3 : w3.cell? ⟨w1.heap.size, 1, none⟩ = some (.int .i64 xa1) := BE3.cell 1
          have cE2_3 : w3.cell? ⟨w1.heap.size, 2, none⟩ = some (.int .i64 xd0) := BE3.cell 2
          have cE3_3 : w3.cell? ⟨w1.heap.size, 3, none⟩ = some (.int .i64 xd1) := BE3.cell 3
          have cE4_3 : w3.cell? ⟨w1.heap.size, 4, none⟩ = some (.int .i64 xp0) := BE3.cell 4
          have cE5_3 : w3.cell? ⟨w1.heap.size, 5, none⟩ = some (.int .i64 xp1) := BE3.cell 5
          have cE6_3 : w3.cell? ⟨w1.heap.size, 6, none⟩ = some (.int .i64 xp2) := BE3.cell 6
          have cE7_3 : w3.cell? ⟨w1.heap.size, 7, none⟩ = some (.bool xr) := BE3.cell 7
          have cE8_3 : w3.cell? ⟨w1.heap.size, 8, none⟩ = some (.int .i64 xs) := BE3.cell 8
          have cE9_3 : w3.cell? ⟨w1.heap.size, 9, none⟩ = some (.int .i64 xq) := BE3.cell 9
          have lE3 : w1.heap.size < w3.heap.size := BE3.lt
          have mE3 : w1.heap.size < w3.heap.size + 1 := by omega
          have nE3 : w1.heap.size < w3.heap.size + 1 + 1 := by omega
          have BY3 : Blk w3 (w2.heap.size) 70 #[.int .i64 ya0, .int .i64 ya1, .int .i64 yd0, .int .i64 yd1, .int .i64 yp0, .int .i64 yp1, .int .i64 yp2, .bool yr, .int .i64 ys, .int .i64 yq] := by
            refine Blk.kept ?_ hb3
            repeat (first | with_reducible exact Blk.new _ _ _ | (with_reducible refine Blk.newAt _ _ _ _ ?_; first | rfl | (simp; done)) | with_reducible apply Blk.alloc | with_reducible apply Blk.drewN | with_reducible apply Blk.drew | with_reducible apply Blk.set_to | (with_reducible apply Blk.far_; (simp only [ne_eq]; omega)) | rfl)
          have cY0_3 : w3.cell? ⟨w2.heap.size, 0, none⟩ = some (.int .i64 ya0) := BY3.cell 0
          have cY1_3 : w3.cell? ⟨w2.heap.size, 1, none⟩ = some (.int .i64 ya1) := BY3.cell 1
          have cY2_3 : w3.cell? ⟨w2.heap.size, 2, none⟩ = some (.int .i64 yd0) := BY3.cell 2
          have cY3_3 : w3.cell? ⟨w2.heap.size, 3, none⟩ = some (.int .i64 yd1) := BY3.cell 3
          have cY4_3 : w3.cell? ⟨w2.heap.size, 4, none⟩ = some (.int .i64 yp0) := BY3.cell 4
          have cY5_3 : w3.cell? ⟨w2.heap.size, 5, none⟩ = some (.int .i64 yp1) := BY3.cell 5
          have cY6_3 : w3.cell? ⟨w2.heap.size, 6, none⟩ = some (.int .i64 yp2) := BY3.cell 6
          have cY7_3 : w3.cell? ⟨w2.heap.size, 7, none⟩ = some (.bool yr) := BY3.cell 7
          have cY8_3 : w3.cell? ⟨w2.heap.size, 8, none⟩ = some (.int .i64 ys) := BY3.cell 8
          have cY9_3 : w3.cell? ⟨w2.heap.size, 9, none⟩ = some (.int .i64 yq) := BY3.cell 9
          have lY3 : w2.heap.size < w3.heap.size := BY3.lt
          have mY3 : w2.heap.size < w3.heap.size + 1 := by omega
          have nY3 : w2.heap.size < w3.heap.size + 1 + 1 := by omega
          clear BX2 lX2 mX2 nX2 cX0_2 cX1_2 BE2 lE2 mE2 nE2 cE0_2 cE1_2 cE2_2 cE3_2 cE4_2 cE5_2 cE6_2 cE7_2 cE8_2 cE9_2
          have hs3 : w.heap.size ≤ w3.heap.size := by have h := hb3.size; (try simp at h); omega
          clear x0 x1 x4 y0 z0 hba hbs hbe
          go_wp2_with fail
          refine (qn1 _).mono ?_
          rintro e w4 ⟨rfl, hb4⟩
          have BX4 : Blk w4 (w.heap.size) 75 #[.slice (some ⟨ba, oa, none⟩) n c, .slice (some ⟨bs, os, none⟩) K d] := by
            refine Blk.kept ?_ hb4
            repeat (first | with_reducible exact BX3 | with_reducible exact Blk.new _ _ _ | (with_reducible refine Blk.newAt _ _ _ _ ?_; first | rfl | (simp; done)) | with_reducible apply Blk.alloc | with_reducible apply Blk.drewN | with_reducible apply Blk.drew | with_reducible apply Blk.set_to | (with_reducible apply Blk.far_; (simp only [ne_eq]; omega)) | rfl)
          have cX0_4 : w4.cell? ⟨w.heap.size, 0, none⟩ = some (.slice (some ⟨ba, oa, none⟩) n c) := BX4.cell 0
          have cX1_4 : w4.cell? ⟨w.heap.size, 1, none⟩ = some (.slice (some ⟨bs, os, none⟩) K d) := BX4.cell 1
          have lX4 : w.heap.size < w4.heap.size := BX4.lt
          have mX4 : w.heap.size < w4.heap.size + 1 := by omega
          have nX4 : w.heap.size < w4.heap.size + 1 + 1 := by omega
          have BE4 : Blk w4 (w1.heap.size) 70 #[.int .i64 xa0, .int .i64 xa1, .int .i64 xd0, .int .i64 xd1, .int .i64 xp0, .int .i64 xp1, .int .i64 xp2, .bool xr, .int .i64 xs, .int .i64 xq] := by
            refine Blk.kept ?_ hb4
            repeat (first | with_reducible exact BE3 | with_reducible exact Blk.new _ _ _ | (with_reducible refine Blk.newAt _ _ _ _ ?_; first | rfl | (simp; done)) | with_reducible apply Blk.alloc | with_reducible apply Blk.drewN | with_reducible apply Blk.drew | with_reducible apply Blk.set_to | (with_reducible apply Blk.far_; (simp only [ne_eq]; omega)) | rfl)
          have cE0_4 : w4.cell? ⟨w1.heap.size, 0, none⟩ = some (.int .i64 xa0) := BE4.cell 0
          have cE1_4 : w4.cell? ⟨w1.heap.size, 1, none⟩ = some (.int .i64 xa1) := BE4.cell 1
          have cE2_4 : w4.cell? ⟨w1.heap.size, 2, none⟩ = some (.int .i64 xd0) := BE4.cell 2
          have cE3_4 : w4.cell? ⟨w1.heap.size, 3, none⟩ = some (.int .i64 xd1) := BE4.cell 3
          have cE4_4 : w4.cell? ⟨w1.heap.size, 4, none⟩ = some (.int .i64 xp0) := BE4.cell 4
          have cE5_4 : w4.cell? ⟨w1.heap.size, 5, none⟩ = some (.int .i64 xp1) := BE4.cell 5
          have cE6_4 : w4.cell? ⟨w1.heap.size, 6, none⟩ = some (.int .i64 xp2) := BE4.cell 6
          have cE7_4 : w4.cell? ⟨w1.heap.size, 7, none⟩ = some (.bool xr) := BE4.cell 7
          have cE8_4 : w4.cell? ⟨w1.heap.size, 8, none⟩ = some (.int .i64 xs) := BE4.cell 8
          have cE9_4 : w4.cell? ⟨w1.heap.size, 9, none⟩ = some (.int .i64 xq) := BE4.cell 9
          have lE4 : w1.heap.size < w4.heap.size := BE4.lt
          have mE4 : w1.heap.size < w4.heap.size + 1 := by omega
          have nE4 : w1.heap.size < w4.heap.size + 1 + 1 := by omega
          have BY4 : Blk w4 (w2.heap.size) 70 #[.int .i64 ya0, .int .i64 ya1, .int .i64 yd0, .int .i64 yd1, .int .i64 yp0, .int .i64 yp1, .int .i64 yp2, .bool yr, .int .i64 ys, .int .i64 yq] := by
            refine Blk.kept ?_ hb4
            repeat (first | with_reducible exact BY3 | with_reducible exact Blk.new _ _ _ | (with_reducible refine Blk.newAt _ _ _ _ ?_; first | rfl | (simp; done)) | with_reducible apply Blk.alloc | with_reducible apply Blk.drewN | with_reducible apply Blk.drew | with_reducible apply Blk.set_to | (with_reducible apply Blk.far_; (simp only [ne_eq]; omega)) | rfl)
          have cY0_4 : w4.cell? ⟨w2.heap.size, 0, none⟩ = some (.int .i64 ya0) := BY4.cell 0
          have cY1_4 : w4.cell? ⟨w2.heap.size, 1, none⟩ = some (.int .i64 ya1) := BY4.cell 1
          have cY2_4 : w4.cell? ⟨w2.heap.size, 2, none⟩ = some (.int .i64 yd0) := BY4.cell 2
          have cY3_4 : w4.cell? ⟨w2.heap.size, 3, none⟩ = some (.int .i64 yd1) := BY4.cell 3
          have cY4_4 : w4.cell? ⟨w2.heap.size, 4, none⟩ = some (.int .i64 yp0) := BY4.cell 4
          have cY5_4 : w4.cell? ⟨w2.heap.size, 5, none⟩ = some (.int .i64 yp1) := BY4.cell 5
          have cY6_4 : w4.cell? ⟨w2.heap.size, 6, none⟩ = some (.int .i64 yp2) := BY4.cell 6
          have cY7_4 : w4.cell? ⟨w2.heap.size, 7, none⟩ = some (.bool yr) := BY4.cell 7
          have cY8_4 : w4.cell? ⟨w2.heap.size, 8, none⟩ = some (.int .i64 ys) := BY4.cell 8
          have cY9_4 : w4.cell? ⟨w2.heap.size, 9, none⟩ = some (.int .i64 yq) := BY4.cell 9
          have lY4 : w2.heap.size < w4.heap.size := BY4.lt
          have mY4 : w2.heap.size < w4.heap.size + 1 := by omega
          have nY4 : w2.heap.size < w4.heap.size + 1 + 1 := by omega
          clear BX3 lX3 mX3 nX3 cX0_3 cX1_3 BE3 lE3 mE3 nE3 cE0_3 cE1_3 cE2_3 cE3_3 cE4_3 cE5_3 cE6_3 cE7_3 cE8_3 cE9_3 BY3 lY3 mY3 nY3 cY0_3 cY1_3 cY2_3 cY3_3 cY4_3 cY5_3 cY6_3 cY7_3 cY8_3 cY9_3
          have hs4 : w.heap.size ≤ w4.heap.size := by have h := hb4.size; (try simp at h); omega
          go_wp2_with fail
          refine (qn2 _).mono ?_
          rintro e w5 ⟨rfl, hb5⟩
          have BX5 : Blk w5 (w.heap.size) 75 #[.slice (some ⟨ba, oa, none⟩) n c, .slice (some ⟨bs, os, none⟩) K d] := by
            refine Blk.kept ?_ hb5
            repeat (first | with_reducible exact BX4 | with_reducible exact Blk.new _ _ _ | (with_reducible refine Blk.newAt _ _ _ _ ?_; first | rfl | (simp; done)) | with_reducible apply Blk.alloc | with_reducible apply Blk.drewN | with_reducible apply Blk.drew | with_reducible apply Blk.set_to | (with_reducible apply Blk.far_; (simp only [ne_eq]; omega)) | rfl)
          have cX0_5 : w5.cell? ⟨w.heap.size, 0, none⟩ = some (.slice (some ⟨ba, oa, none⟩) n c) := BX5.cell 0
          have cX1_5 : w5.cell? ⟨w.heap.size, 1, none⟩ = some (.slice (some ⟨bs, os, none⟩) K d) := BX5.cell 1
          have lX5 : w.heap.size < w5.heap.size := BX5.lt
          have mX5 : w.heap.size < w5.heap.size + 1 := by omega
          have nX5 : w.heap.size < w5.heap.size + 1 + 1 := by omega
          have BE5 : Blk w5 (w1.heap.size) 70 #[.int .i64 xa0, .int .i64 xa1, .int .i64 xd0, .int .i64 xd1, .int .i64 xp0, .int .i64 xp1, .int .i64 xp2, .bool xr, .int .i64 xs, .int .i64 xq] := by
            refine Blk.kept ?_ hb5
            repeat (first | with_reducible exact BE4 | with_reducible exact Blk.new _ _ _ | (with_reducible refine Blk.newAt _ _ _ _ ?_; first | rfl | (simp; done)) | with_reducible apply Blk.alloc | with_reducible apply Blk.drewN | with_reducible apply Blk.drew | with_reducible apply Blk.set_to | (with_reducible apply Blk.far_; (simp only [ne_eq]; omega)) | rfl)
          have cE0_5 : w5.cell? ⟨w1.heap.size, 0, none⟩ = some (.int .i64 xa0) := BE5.cell 0
          have cE1_5 : w5.cell? ⟨w1.heap.size, 1, none⟩ = some (.int .i64 xa1) := BE5.cell 1
          have cE2_5 : w5.cell? ⟨w1.heap.size, 2, none⟩ = some (.int .i64 xd0) := BE5.cell 2
          have cE3_5 : w5.cell? ⟨w1.heap.size, 3, none⟩ = some (.int .i64 xd1) := BE5.cell 3
          have cE4_5 : w5.cell? ⟨w1.heap.size, 4, none⟩ = some (.int .i64 xp0) := BE5.cell 4
          have cE5_5 : w5.cell? ⟨w1.heap.size, 5, none⟩ = some (.int .i64 xp1) := BE5.cell 5
          have cE6_5 : w5.cell? ⟨w1.heap.size, 6, none⟩ = some (.int .i64 xp2) := BE5.cell 6
          have cE7_5 : w5.cell? ⟨w1.heap.size, 7, none⟩ = some (.bool xr) := BE5.cell 7
          have cE8_5 : w5.cell? ⟨w1.heap.size, 8, none⟩ = some (.int .i64 xs) := BE5.cell 8
          have cE9_5 : w5.cell? ⟨w1.heap.size, 9, none⟩ = some (.int .i64 xq) := BE5.cell 9
          have lE5 : w1.heap.size < w5.heap.size := BE5.lt
          have mE5 : w1.heap.size < w5.heap.size + 1 := by omega
          have nE5 : w1.heap.size < w5.heap.size + 1 + 1 := by omega
          have BY5 : Blk w5 (w2.heap.size) 70 #[.int .i64 ya0, .int .i64 ya1, .int .i64 yd0, .int .i64 yd1, .int .i64 yp0, .int .i64 yp1, .int .i64 yp2, .bool yr, .int .i64 ys, .int .i64 yq] := by
            refine Blk.kept ?_ hb5
            repeat (first | with_reducible exact BY4 | with_reducible exact Blk.new _ _ _ | (with_reducible refine Blk.newAt _ _ _ _ ?_; first | rfl | (simp; done)) | with_reducible apply Blk.alloc | with_reducible apply Blk.drewN | with_reducible apply Blk.drew | with_reducible apply Blk.set_to | (with_reducible apply Blk.far_; (simp only [ne_eq]; omega)) | rfl)
          have cY0_5 : w5.cell? ⟨w2.heap.size, 0, none⟩ = some (.int .i64 ya0) := BY5.cell 0
          have cY1_5 : w5.cell? ⟨w2.heap.size, 1, none⟩ = some (.int .i64 ya1) := BY5.cell 1
          have cY2_5 : w5.cell? ⟨w2.heap.size, 2, none⟩ = some (.int .i64 yd0) := BY5.cell 2
          have cY3_5 : w5.cell? ⟨w2.heap.size, 3, none⟩ = some (.int .i64 yd1) := BY5.cell 3
          have cY4_5 : w5.cell? ⟨w2.heap.size, 4, none⟩ = some (.int .i64 yp0) := BY5.cell 4
          have cY5_5 : w5.cell? ⟨w2.heap.size, 5, none⟩ = some (.int .i64 yp1) := BY5.cell 5
          have cY6_5 : w5.cell? ⟨w2.heap.size, 6, none⟩ = some (.int .i64 yp2) := BY5.cell 6
          have cY7_5 : w5.cell? ⟨w2.heap.size, 7, none⟩ = some (.bool yr) := BY5.cell 7
          have cY8_5 : w5.cell? ⟨w2.heap.size, 8, none⟩ = some (.int .i64 ys) := BY5.cell 8
          have cY9_5 : w5.cell? ⟨w2.heap.size, 9, none⟩ = some (.int .i64 yq) := BY5.cell 9
          have lY5 : w2.heap.size < w5.heap.size := BY5.lt
          have mY5 : w2.heap.size < w5.heap.size + 1 := by omega
          have nY5 : w2.heap.size < w5.heap.size + 1 + 1 := by omega
          clear BX4 lX4 mX4 nX4 cX0_4 cX1_4 BE4 lE4 mE4 nE4 cE0_4 cE1_4 cE2_4 cE3_4 cE4_4 cE5_4 cE6_4 cE7_4 cE8_4 cE9_4 BY4 lY4 mY4 nY4 cY0_4 cY1_4 cY2_4 cY3_4 cY4_4 cY5_4 cY6_4 cY7_4 cY8_4 cY9_4
          have hs5 : w.heap.size ≤ w5.heap.size := by have h := hb5.size; (try simp at h); omega
          go_wp2
          refine ret_of (by simp [results, Tryd.results45, go_sem, *]; repeat' (first | rfl | apply And.intro)) rfl ⟨?_, by repeat (first | exact Below.refl _ _ | refine below_drewN ?_ _ | refine Below.drew ?_ | refine below_alloc ?_ _ | (refine below_call ?_ (by assumption)) | (refine Below.setCell ?_ ?_ _; rotate_left; (simp; try omega)))⟩
          rw [E.out]
        · have E := Lib.hid (HNO.out (.inr (.inr he)))
          clear HNO HYES qn1 qn2
          have he2 : (ya0 == t0) = false ∨ ((ya0 == t0) = true ∧ (ya1 == t1) = false) := by
            by_cases e0 : ya0 = t0
            · refine .inr ⟨by simpa using e0, ?_⟩
              by_cases e1 : ya1 = t1
              · exact absurd (by rw [e0, e1]) he
              · simpa using e1
            · exact .inl (by simpa using e0)
          clear he
          rcases he2 with g0 | ⟨g0, g1⟩
          all_goals
            go_enter Tryd.func45, Tryd.ntmps45
            go_wp2_with fail
            refine Calls.mono (q1 _ ?_) ?_
            · exact ht.kept (by repeat (first | exact Below.refl _ _ | refine below_drewN ?_ _ | refine Below.drew ?_ | refine below_alloc ?_ _ | (refine below_call ?_ (by assumption)) | (refine Below.setCell ?_ ?_ _; rotate_left; (simp; try omega))))
            rintro e w1 ⟨rfl, hb1⟩
            have BX1 : Blk w1 (w.heap.size) 75 #[.slice (some ⟨ba, oa, none⟩) n c, .slice (some ⟨bs, os, none⟩) K d] := by
              refine Blk.kept ?_ hb1
              repeat (first | with_reducible exact Blk.new _ _ _ | (with_reducible refine Blk.newAt _ _ _ _ ?_; first | rfl | (simp; done)) | with_reducible apply Blk.alloc | with_reducible apply Blk.drewN | with_reducible apply Blk.drew | with_reducible apply Blk.set_to | (with_reducible apply Blk.far_; (simp only [ne_eq]; omega)) | rfl)
            have cX0_1 : w1.cell? ⟨w.heap.size, 0, none⟩ = some (.slice (some ⟨ba, oa, none⟩) n c) := BX1.cell 0
            have cX1_1 : w1.cell? ⟨w.heap.size, 1, none⟩ = some (.slice (some ⟨bs, os, none⟩) K d) := BX1.cell 1
            have lX1 : w.heap.size < w1.heap.size := BX1.lt
            have mX1 : w.heap.size < w1.heap.size + 1 := by omega
            have nX1 : w.heap.size < w1.heap.size + 1 + 1 := by omega
            have hs1 : w.heap.size ≤ w1.heap.size := by have h := hb1.size; (try simp at h); omega
            go_wp2_with fail
            refine Calls.mono (q2 _ ?_) ?_
            · exact ht.kept (by repeat (first | exact Below.refl _ _ | refine below_drewN ?_ _ | refine Below.drew ?_ | refine below_alloc ?_ _ | (refine below_call ?_ (by assumption)) | (refine Below.setCell ?_ ?_ _; rotate_left; (simp; try omega))))
            rintro e w2 ⟨rfl, hb2⟩
            have BX2 : Blk w2 (w.heap.size) 75 #[.slice (some ⟨ba, oa, none⟩) n c, .slice (some ⟨bs, os, none⟩) K d] := by
              refine Blk.kept ?_ hb2
              repeat (first | with_reducible exact BX1 | with_reducible exact Blk.new _ _ _ | (with_reducible refine Blk.newAt _ _ _ _ ?_; first | rfl | (simp; done)) | with_reducible apply Blk.alloc | with_reducible apply Blk.drewN | with_reducible apply Blk.drew | with_reducible apply Blk.set_to | (with_reducible apply Blk.far_; (simp only [ne_eq]; omega)) | rfl)
            have cX0_2 : w2.cell? ⟨w.heap.size, 0, none⟩ = some (.slice (some ⟨ba, oa, none⟩) n c) := BX2.cell 0
            have cX1_2 : w2.cell? ⟨w.heap.size, 1, none⟩ = some (.slice (some ⟨bs, os, none⟩) K d) := BX2.cell 1
            have lX2 : w.heap.size < w2.heap.size := BX2.lt
            have mX2 : w.heap.size < w2.heap.size + 1 := by omega
            have nX2 : w.heap.size < w2.heap.size + 1 + 1 := by omega
            have BE2 : Blk w2 (w1.heap.size) 70 #[.int .i64 xa0, .int .i64 xa1, .int .i64 xd0, .int .i64 xd1, .int .i64 xp0, .int .i64 xp1, .int .i64 xp2, .bool xr, .int .i64 xs, .int .i64 xq] := by
              refine Blk.kept ?_ hb2
              repeat (first | with_reducible exact Blk.new _ _ _ | (with_reducible refine Blk.newAt _ _ _ _ ?_; first | rfl | (simp; done)) | with_reducible apply Blk.alloc | with_reducible apply Blk.drewN | with_reducible apply Blk.drew | with_reducible apply Blk.set_to | (with_reducible apply Blk.far_; (simp only [ne_eq]; omega)) | rfl)
            have cE0_2 : w2.cell? ⟨w1.heap.size, 0, none⟩ = some (.int .i64 xa0) := BE2.cell 0
            have cE1_2 : w2.cell? ⟨w1.heap.size, 1, none⟩ = some (.int .i64 xa1) := BE2.cell 1
            have cE2_2 : w2.cell? ⟨w1.heap.size, 2, none⟩ = some (.int .i64 xd0) := BE2.cell 2
            have cE3_2 : w2.cell? ⟨w1.heap.size, 3, none⟩ = some (.int .i64 xd1) := BE2.cell 3
            have cE4_2 : w2.cell? ⟨w1.heap.size, 4, none⟩ = some (.int .i64 xp0) := BE2.cell 4
            have cE5_2 : w2.cell? ⟨w1.heap.size, 5, none⟩ = some (.int .i64 xp1) := BE2.cell 5
            have cE6_2 : w2.cell? ⟨w1.heap.size, 6, none⟩ = some (.int .i64 xp2) := BE2.cell 6
            have cE7_2 : w2.cell? ⟨w1.heap.size, 7, none⟩ = some (.bool xr) := BE2.cell 7
            have cE8_2 : w2.cell? ⟨w1.heap.size, 8, none⟩ = some (.int .i64 xs) := BE2.cell 8
            have cE9_2 : w2.cell? ⟨w1.heap.size, 9, none⟩ = some (.int .i64 xq) := BE2.cell 9
            have lE2 : w1.heap.size < w2.heap.size := BE2.lt
            have mE2 : w1.heap.size < w2.heap.size + 1 := by omega
            have nE2 : w1.heap.size < w2.heap.size + 1 + 1 := by omega
            clear BX1 lX1 mX1 nX1 cX0_1 cX1_1
            have hs2 : w.heap.size ≤ w2.heap.size := by have h := hb2.size; (try simp at h); omega
            obtain ⟨be, oe, ce, A', n', c', hba, hbs, hbe, x0, x1, x4, y0, z0, _, _⟩ := hat w2 (by repeat (first | exact Below.refl _ _ | refine below_drewN ?_ _ | refine Below.drew ?_ | refine below_alloc ?_ _ | (refine below_call ?_ (by assumption)) | (refine Below.setCell ?_ ?_ _; rotate_left; (simp; try omega))))
            go_wp2_with fail
            refine wp_region_calm (by kernel_rfl) (by kernel_rfl) ?_
            repeat (go_big_quiet_step (fail))
            refine wpQuiet_nil ?_
            intro wd gd
            go_wp2
            refine ret_of (by simp [results, Tryd.results45, go_sem, *]; repeat' (first | rfl | apply And.intro)) rfl ⟨?_, by repeat (first | exact Below.refl _ _ | refine below_drewN ?_ _ | refine Below.drew ?_ | refine below_alloc ?_ _ | (refine below_call ?_ (by assumption)) | (refine Below.setCell ?_ ?_ _; rotate_left; (simp; try omega)))⟩
            rw [E.out]
end Go.Proofs.YtigfcbofbcpiaaaDoor
