
/- The walks through the bass of a chord, the program's and the reference's. -/
import Derived.Test.YtmlcnmnpkemdpaaDoorChChord
namespace Go.Proofs.YtmlcnmnpkemdpaaDoor
open Go.RowKit
theorem bassN_lt {l : List (Int × Int × Int)} {k : Nat} (h : k < l.length) : bassN l k < l.length := by
  cases k with
  | zero => exact h
  | succ k => have := bassN_le l k; omega
theorem bassN_next {l : List (Int × Int × Int)} {k : Nat} {x y : Int × Int × Int} (hx : l[k]? = some x) (hy : l[bassN l k]? = some y) : bassN l (k + 1) = if htP x < htP y ∨ (htP x = htP y ∧ numP x < numP y) then k else bassN l k := by
  show (if deep (pAt l k) (pAt l (bassN l k)) then k else bassN l k) = _
  rw [pAt_get hx, pAt_get hy]
  rfl
set_option maxRecDepth 100000 in
set_option maxHeartbeats 1000000 in
theorem bass_ok (A : Option Addr) (n c : Nat) (l : List (Int × Int × Int)) (B : Nat) (w : World) (h : Reads w B 3 A n (csP l)) (hB : B ≤ w.heap.size) (hn : n ≤ 9223372036854775807) (hv : ∀ p ∈ l, pchk p = 0) (ht : Tabs w) :
    Calls Tryd.prog 64 #[.slice A n c] w fun e w' => e = .returned (.int .i64 (bassL l)) ∧ Below w.heap.size w w' := by
  have HL : Hid (l.length = n) := Lib.hid h.ptlen
  go_enter Tryd.func64, Tryd.ntmps64
  go_wp2
  go_loopw [3, 4, 5, 6, 7, 8, 9, 10, 11, 12, 15] (fun b _ _ _ _ _ _ _ _ _ i wr => ∃ k m : Nat, k ≤ n ∧ i = .int .i64 k ∧ b = .int .i64 m ∧ Hid (m = bassN l k) ∧ Below w.heap.size w wr) (fun _ _ _ _ _ _ _ _ _ _ i _ => n - (intOf i).toNat)
  case atStart => exact ⟨0, 0, by omega, rfl, rfl, Lib.hid rfl, Below.refl _ _⟩
  case round =>
    obtain ⟨k, m, hk, rfl, rfl, hm, k0⟩ := hrel
    by_cases hlt : k < n
    · have hlt' : (k : Int) < (n : Int) := by omega
      have hmn : m < n := by have := bassN_lt (l := l) (k := k) (by have := HL.out; omega); have := hm.out; have := HL.out; omega
      have hmn' : (m : Int) < (n : Int) := by omega
      obtain ⟨x, hx⟩ := get_some (l := l) (k := k) (by have := HL.out; omega)
      obtain ⟨y, hy⟩ := get_some (l := l) (k := m) (by have := HL.out; omega)
      have px := hv x (List.mem_of_getElem? hx)
      have py := hv y (List.mem_of_getElem? hy)
      have hN := bassN_next hx (show l[bassN l k]? = some y by rw [← hm.out]; exact hy)
      rw [← hm.out] at hN
      obtain ⟨b, off, rfl, hab, c0, c1, c2⟩ := h.pt hB k0 hlt hx
      obtain ⟨b', off', hA', _, d0, d1, d2⟩ := h.pt hB k0 hmn hy
      cases hA'
      have htr := ht.kept k0
      have q1 := fun W hW => height_ok x px W hW
      have q2 := fun W hW => height_ok y py W hW
      have q3 := number_ok x px
      have q4 := number_ok y py
      obtain ⟨u1, hu1⟩ : ∃ t, t = htP x := ⟨_, rfl⟩
      obtain ⟨u2, hu2⟩ : ∃ t, t = htP y := ⟨_, rfl⟩
      obtain ⟨u3, hu3⟩ : ∃ t, t = numP x := ⟨_, rfl⟩
      obtain ⟨u4, hu4⟩ : ∃ t, t = numP y := ⟨_, rfl⟩
      rw [← hu1, ← hu2, ← hu3, ← hu4] at hN
      rw [← hu1] at q1
      rw [← hu2] at q2
      rw [← hu3] at q3
      rw [← hu4] at q4
      have HN := Lib.hid hN
      clear hN hx hy px py hu1 hu2 hu3 hu4 hm
      obtain ⟨x0, x1, x2⟩ := x
      obtain ⟨y0, y1, y2⟩ := y
      simp only at c0 c1 c2 d0 d1 d2
      go_wp2_with fail
      refine Calls.mono (q1 _ htr) ?_
      rintro e w1 ⟨rfl, hb1⟩
      have hc1 := (bcell hb1).1
      go_wp2_with fail
      refine Calls.mono (q2 _ (htr.kept hb1)) ?_
      rintro e w2 ⟨rfl, hb2⟩
      replace hb2 := below_call hb1 hb2
      have hc2 := (bcell hb2).1
      clear hc1
      go_wp2_with fail
      refine Calls.mono (q3 _) ?_
      rintro e w3 ⟨rfl, hb3⟩
      replace hb3 := below_call hb2 hb3
      have hc3 := (bcell hb3).1
      clear hc2
      go_wp2_with fail
      refine Calls.mono (q4 _) ?_
      rintro e w4 ⟨rfl, hb4⟩
      replace hb4 := below_call hb3 hb4
      have k4 := below_call k0 hb4
      clear hc3 q1 q2 q3 q4
      go_wp2
      all_goals
        go_roundw
        case rel => first | exact ⟨k + 1, k, by omega, by go_num, rfl, Lib.hid (by rw [HN.out, if_pos (by omega)]), k4⟩ | exact ⟨k + 1, m, by omega, by go_num, rfl, Lib.hid (by rw [HN.out, if_neg (by omega)]), k4⟩
        case measure => simp [intOf]; omega
    · have hkn : k = n := by omega
      subst hkn
      have E := Lib.hid (show bassL l = m by unfold bassL; rw [HL.out, ← hm.out])
      go_wp2
      go_ret
      rw [E.out]
      exact ⟨rfl, k0⟩
set_option maxRecDepth 100000 in
set_option maxHeartbeats 1000000 in
theorem rbass_ok (A : Option Addr) (n c : Nat) (l : List (Int × Int × Int)) (B : Nat) (w : World) (h : Reads w B 3 A n (csP l)) (hB : B ≤ w.heap.size) (hn : n ≤ 9223372036854775807) (hv : ∀ p ∈ l, pchk p = 0) (h0 : 0 < n) :
    Calls Tryd.prog 77 #[.slice A n c] w fun e w' => e = .returned (.int .i64 (bassL l)) ∧ Below w.heap.size w w' := by
  have HL : Hid (l.length = n) := Lib.hid h.ptlen
  go_enter Tryd.func77, Tryd.ntmps77
  go_wp2
  go_loopw [3, 4] (fun b i wr => ∃ k m : Nat, 1 ≤ k ∧ k ≤ n ∧ i = .int .i64 k ∧ b = .int .i64 m ∧ Hid (m = bassN l k) ∧ Below w.heap.size w wr) (fun _ i _ => n - (intOf i).toNat)
  case atStart => exact ⟨1, 0, by omega, by omega, rfl, rfl, Lib.hid (bassN_one l).symm, Below.refl _ _⟩
  case round =>
    obtain ⟨k, m, hk1, hk, rfl, rfl, hm, k0⟩ := hrel
    by_cases hlt : k < n
    · have hlt' : (k : Int) < (n : Int) := by omega
      have hmn : m < n := by have := bassN_lt (l := l) (k := k) (by have := HL.out; omega); have := hm.out; have := HL.out; omega
      have hmn' : (m : Int) < (n : Int) := by omega
      obtain ⟨x, hx⟩ := get_some (l := l) (k := k) (by have := HL.out; omega)
      obtain ⟨y, hy⟩ := get_some (l := l) (k := m) (by have := HL.out; omega)
      have px := hv x (List.mem_of_getElem? hx)
      have py := hv y (List.mem_of_getElem? hy)
      have hN := bassN_next hx (show l[bassN l k]? = some y by rw [← hm.out]; exact hy)
      rw [← hm.out] at hN
      obtain ⟨b, off, rfl, hab, c0, c1, c2⟩ := h.pt hB k0 hlt hx
      obtain ⟨b', off', hA', _, d0, d1, d2⟩ := h.pt hB k0 hmn hy
      cases hA'
      have q1 := rheight_ok x px
      have q2 := rheight_ok y py
      have q3 := rnumber_ok x px
      have q4 := rnumber_ok y py
      obtain ⟨u1, hu1⟩ : ∃ t, t = htP x := ⟨_, rfl⟩
      obtain ⟨u2, hu2⟩ : ∃ t, t = htP y := ⟨_, rfl⟩
      obtain ⟨u3, hu3⟩ : ∃ t, t = numP x := ⟨_, rfl⟩
      obtain ⟨u4, hu4⟩ : ∃ t, t = numP y := ⟨_, rfl⟩
      rw [← hu1, ← hu2, ← hu3, ← hu4] at hN
      rw [← hu1] at q1
      rw [← hu2] at q2
      rw [← hu3] at q3
      rw [← hu4] at q4
      clear hx hy px py hu1 hu2 hu3 hu4 hm
      obtain ⟨x0, x1, x2⟩ := x
      obtain ⟨y0, y1, y2⟩ := y
      simp only at c0 c1 c2 d0 d1 d2
      by_cases g1 : u1 < u2
      · have HN : Hid (k = bassN l (k + 1)) := Lib.hid (by rw [hN, if_pos (Or.inl g1)])
        have z1 : decide (u1 < u2) = true := by simpa using g1
        clear hN
        go_wp2_with fail
        refine wp_region_calm (by kernel_rfl) (by kernel_rfl) ?_
        repeat (go_big_quiet_step (first | (go_at_call 100; (first | with_reducible exact calm_call (q1 _) | with_reducible exact calm_call (q2 _))) | (go_at_call 99; (first | with_reducible exact calm_call (q3 _) | with_reducible exact calm_call (q4 _)))))
        refine wpQuiet_nil ?_
        intro w1 hb1
        have k1 := below_call k0 hb1
        go_wp2
        go_roundw
        case rel => exact ⟨k + 1, k, by omega, by omega, by go_num, rfl, HN, k1⟩
        case measure => simp [intOf]; omega
      · have z1 : decide (u1 < u2) = false := by simpa using g1
        by_cases g2 : u1 = u2
        · by_cases g3 : u3 < u4
          · have HN : Hid (k = bassN l (k + 1)) := Lib.hid (by rw [hN, if_pos (Or.inr ⟨g2, g3⟩)])
            have z2 : (u1 == u2) = true := by simpa using g2
            have z3 : decide (u3 < u4) = true := by simpa using g3
            clear hN g2
            go_wp2_with fail
            refine wp_region_calm (by kernel_rfl) (by kernel_rfl) ?_
            repeat (go_big_quiet_step (first | (go_at_call 100; (first | with_reducible exact calm_call (q1 _) | with_reducible exact calm_call (q2 _))) | (go_at_call 99; (first | with_reducible exact calm_call (q3 _) | with_reducible exact calm_call (q4 _)))))
            refine wpQuiet_nil ?_
            intro w1 hb1
            have k1 := below_call k0 hb1
            go_wp2
            go_roundw
            case rel => exact ⟨k + 1, k, by omega, by omega, by go_num, rfl, HN, k1⟩
            case measure => simp [intOf]; omega
          · have HN : Hid (m = bassN l (k + 1)) := Lib.hid (by rw [hN, if_neg (by rintro (h | h); exact g1 h; exact g3 h.2)])
            have z2 : (u1 == u2) = true := by simpa using g2
            have z3 : decide (u3 < u4) = false := by simpa using g3
            clear hN g2
            go_wp2_with fail
            refine wp_region_calm (by kernel_rfl) (by kernel_rfl) ?_
            repeat (go_big_quiet_step (first | (go_at_call 100; (first | with_reducible exact calm_call (q1 _) | with_reducible exact calm_call (q2 _))) | (go_at_call 99; (first | with_reducible exact calm_call (q3 _) | with_reducible exact calm_call (q4 _)))))
            refine wpQuiet_nil ?_
            intro w1 hb1
            have k1 := below_call k0 hb1
            go_wp2
            go_roundw
            case rel => exact ⟨k + 1, m, by omega, by omega, by go_num, rfl, HN, k1⟩
            case measure => simp [intOf]; omega
        · have HN : Hid (m = bassN l (k + 1)) := Lib.hid (by rw [hN, if_neg (by rintro (h | h); exact g1 h; exact g2 h.1)])
          have z2 : (u1 == u2) = false := by simpa using g2
          clear hN
          go_wp2_with fail
          refine wp_region_calm (by kernel_rfl) (by kernel_rfl) ?_
          repeat (go_big_quiet_step (first | (go_at_call 100; (first | with_reducible exact calm_call (q1 _) | with_reducible exact calm_call (q2 _))) | (go_at_call 99; (first | with_reducible exact calm_call (q3 _) | with_reducible exact calm_call (q4 _)))))
          refine wpQuiet_nil ?_
          intro w1 hb1
          have k1 := below_call k0 hb1
          go_wp2
          go_roundw
          case rel => exact ⟨k + 1, m, by omega, by omega, by go_num, rfl, HN, k1⟩
          case measure => simp [intOf]; omega
    · have hkn : k = n := by omega
      subst hkn
      have E := Lib.hid (show bassL l = m by unfold bassL; rw [HL.out, ← hm.out])
      go_wp2
      go_ret
      rw [E.out]
      exact ⟨rfl, k0⟩
end Go.Proofs.YtmlcnmnpkemdpaaDoor
