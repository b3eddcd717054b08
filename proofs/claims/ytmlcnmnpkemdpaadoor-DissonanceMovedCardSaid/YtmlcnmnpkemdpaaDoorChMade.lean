
/- The walk through the reference's clashes. -/
import Derived.Test.YtmlcnmnpkemdpaaDoorChBass
import Derived.Deep.LoopGhost
namespace Go.Proofs.YtmlcnmnpkemdpaaDoor
open Go.RowKit
theorem three_parts (a b c a' b' c' : Int) : (a = a' ∧ b = b' ∧ c = c') ∨ a ≠ a' ∨ (a = a' ∧ b ≠ b') ∨ (a = a' ∧ b = b' ∧ c ≠ c') := by omega
theorem three_eq (a b c a' b' c' : Int) : ((a, b, c) = (a', b', c')) ↔ (a = a' ∧ b = b' ∧ c = c') := by simp
theorem rowC_next {l : List (Int × Int × Int)} {a b : Nat} (hab : a < b) (hb : bad l a b) : rowC l a (b + 1) = rowC l a b ++ [((a : Int), (b : Int), kindP (pAt l a) (pAt l b))] := by
  conv => lhs; unfold rowC
  rw [if_pos ⟨hab, hb⟩]
theorem rowC_same {l : List (Int × Int × Int)} {a b : Nat} (hb : ¬ (a < b ∧ bad l a b)) : rowC l a (b + 1) = rowC l a b := by
  conv => lhs; unfold rowC
  rw [if_neg hb, List.append_nil]
set_option maxRecDepth 100000 in
set_option maxHeartbeats 4000000 in
theorem made_ok (A : Option Addr) (n c : Nat) (l : List (Int × Int × Int)) (B : Nat) (w : World) (h : Reads w B 3 A n (csP l)) (hB : B ≤ w.heap.size) (hn : n ≤ 100) (hv : ∀ p ∈ l, pchk p = 0) :
    Calls Tryd.prog 55 #[.slice A n c] w fun e w' => ∃ A' c', e = .returned (.slice A' (fullC l).length c') ∧ Own3 93 w' w.heap.size (fullC l).length A' c' (fullC l) ∧ Below w.heap.size w w' := by
  have HL : Hid (l.length = n) := Lib.hid h.ptlen
  obtain ⟨i0, hi0, hz0, hz1, hz2⟩ := info_parts clash_info
  go_enter Tryd.func55, Tryd.ntmps55
  go_wp2
  go_loopg [3, 4, 5, 6, 7] n (fun g v a _ _ _ wr => ∃ k : Nat, k + g = n ∧ a = .int .i64 k ∧ wr.ownsRow w.heap.size 93 3 v (allC l k).length (csP (allC l k)) ∧ Below w.heap.size w wr)
  case atStart => exact ⟨0, by omega, rfl, ⟨rfl, .inl ⟨rfl, rfl⟩⟩, Below.refl _ _⟩
  case round =>
    obtain ⟨k, hkg, rfl, hown, k0⟩ := hrel
    cases gk with
    | zero =>
      have hkn : k = n := by omega
      subst hkn
      have E := Lib.hid (show fullC l = allC l k by unfold fullC; rw [HL.out])
      go_wp2
      go_ret
      obtain ⟨A', c', rfl, ho⟩ := own3_form hown
      rw [E.out]
      exact ⟨A', c', rfl, ho, k0⟩
    | succ g =>
      have hkn : k < n := by omega
      have hkn' : (k : Int) < (n : Int) := by omega
      obtain ⟨wo, rfl⟩ : ∃ wo : World, wo = wr := ⟨_, rfl⟩
      go_wp2
      go_loopg [3, 5, 6, 7] g (fun g2 v b _ _ wy => ∃ j : Nat, j + g2 = n ∧ k < j ∧ b = .int .i64 j ∧ wy.ownsRow w.heap.size 93 3 v (allC l k ++ rowC l k j).length (csP (allC l k ++ rowC l k j)) ∧ Below w.heap.size w wy)
      case atStart => exact ⟨k + 1, by omega, by omega, by go_num, by rw [rowC_skip l k (k + 1) (Nat.le_refl _), List.append_nil]; exact hown, k0⟩
      case round =>
        obtain ⟨j, hjg, hkj, rfl, hown, k0⟩ := hrel
        cases gk with
        | zero =>
          have hjn : j = n := by omega
          subst hjn
          have E := Lib.hid (show allC l (k + 1) = allC l k ++ rowC l k j by show allC l k ++ rowC l k l.length = _; rw [HL.out])
          go_wp2
          go_roundg g
          case measure => omega
          case rel => exact ⟨k + 1, by omega, by go_num, by rw [E.out]; exact hown, k0⟩
        | succ g2 =>
          have hjn : j < n := by omega
          have hjn' : (j : Int) < (n : Int) := by omega
          have hln := HL.out
          have hx := pAt_some (l := l) (k := k) (by omega)
          have hy := pAt_some (l := l) (k := j) (by omega)
          have hm0 : bassL l < l.length := bassL_lt (by omega)
          have hz := pAt_some (l := l) (k := bassL l) hm0
          have px := hv _ (List.mem_of_getElem? hx)
          have py := hv _ (List.mem_of_getElem? hy)
          obtain ⟨m, hm⟩ : ∃ m, m = bassL l := ⟨_, rfl⟩
          have HBAD : Hid (bad l k j ↔ kindP (pAt l k) (pAt l j) = 5 ∨ ((kindP (pAt l k) (pAt l j) = 3 ∨ kindP (pAt l k) (pAt l j) = 4) ∧ loP (pAt l k) (pAt l j) = pAt l m)) := Lib.hid (by rw [hm]; exact Iff.rfl)
          have HNX := Lib.hid (fun hb => (congrArg (allC l k ++ ·) (rowC_next (l := l) (a := k) (b := j) hkj hb)).trans (List.append_assoc _ _ _).symm)
          have HSM := Lib.hid (fun hb : ¬ bad l k j => congrArg (allC l k ++ ·) (rowC_same (l := l) (a := k) (b := j) (fun h => hb h.2)))
          have hlen : (allC l k ++ rowC l k j).length ≤ 20000 := by
            have a1 := allC_len l k
            have a2 := rowC_len l k j
            have a3 : k * l.length ≤ 100 * 100 := Nat.mul_le_mul (by omega) (by omega)
            rw [List.length_append]; omega
          obtain ⟨o, ho⟩ : ∃ o, o = allC l k ++ rowC l k j := ⟨_, rfl⟩
          rw [← ho] at hlen hown HNX HSM
          have hmn : m < n := by rw [hm]; omega
          have hmn' : (m : Int) < (n : Int) := by omega
          rw [← hm] at hz
          obtain ⟨x, hxe⟩ : ∃ x, x = pAt l k := ⟨_, rfl⟩
          obtain ⟨y, hye⟩ : ∃ x, x = pAt l j := ⟨_, rfl⟩
          obtain ⟨z, hze⟩ : ∃ x, x = pAt l m := ⟨_, rfl⟩
          rw [← hxe] at hx px
          rw [← hye] at hy py
          rw [← hze] at hz
          rw [← hxe, ← hye] at HNX
          rw [← hxe, ← hye, ← hze] at HBAD
          obtain ⟨b, off, rfl, hab, c0, c1, c2⟩ := h.pt hB k0 hkn hx
          obtain ⟨b', off', hA', _, d0, d1, d2⟩ := h.pt hB k0 hjn hy
          cases hA'
          obtain ⟨b', off', hA', _, e0, e1, e2⟩ := h.pt hB k0 hmn hz
          cases hA'
          have q1 := madeKind_ok x y px py
          have q2 := rlower_ok x y px py
          have hr0 := h.below hB k0
          have hB0 : B ≤ wr.heap.size := Nat.le_trans hB k0.size
          have q3 := fun W (hW : Below wr.heap.size wr W) => rbass_ok (some ⟨b, off, none⟩) n c l B W (hr0.below hB0 hW) (Nat.le_trans hB0 hW.size) (by omega) hv (by omega)
          rw [← hm] at q3
          obtain ⟨K, hK⟩ : ∃ t, t = kindP x y := ⟨_, rfl⟩
          obtain ⟨L, hLo⟩ : ∃ t, t = loP x y := ⟨_, rfl⟩
          rw [← hK] at q1 HBAD HNX
          rw [← hLo] at q2 HBAD
          clear hK hLo hxe hye hze hx hy hz px py hm hm0 hln hr0 ho
          obtain ⟨x0, x1, x2⟩ := x
          obtain ⟨y0, y1, y2⟩ := y
          obtain ⟨z0, z1, z2⟩ := z
          obtain ⟨L0, L1, L2⟩ := L
          rw [three_eq] at HBAD
          simp only at c0 c1 c2 d0 d1 d2 e0 e1 e2
          go_wp2_with fail
          refine wp_region_calm (by kernel_rfl) (by kernel_rfl) ?_
          repeat (go_big_quiet_step ((go_at_call 75; exact calm_call (q1 _))))
          refine wpQuiet_nil ?_
          intro w1 hb1
          have hc1 := (bcell hb1).1
          have hab1 := Nat.lt_of_lt_of_le hab hb1.size
          rw [← hc1 _ _ hab] at c0 c1 c2 d0 d1 d2 e0 e1 e2
          have k1 := below_call k0 hb1
          have own1 := own_call hown hb1
          clear hc1 hown
          go_wp2_with fail
          have HB : Hid (bad l k j ↔ (K = 5 ∨ ((K = 3 ∨ K = 4) ∧ L0 = z0 ∧ L1 = z1 ∧ L2 = z2))) := HBAD
          clear HBAD
          have parts := three_parts L0 L1 L2 z0 z1 z2
          rcases parts with e3 | f0 | f1 | f2
          -- branches
          · replace HB : Hid (bad l k j ↔ (K = 5 ∨ K = 3 ∨ K = 4)) := Lib.hid (HB.out.trans ⟨fun h => by omega, fun h => by omega⟩)
            obtain ⟨rfl, rfl, rfl⟩ := e3
            refine wp_region_calm (by kernel_rfl) (by kernel_rfl) ?_
            repeat (go_big_quiet_step (first | (go_at_call 76; exact calm_call (q2 _)) | (go_at_call 77; exact calm_call (q3 _ (below_call hb1 (Calm.h _))))))
            refine wpQuiet_nil ?_
            intro w2 hb2
            have k2 := below_call k1 hb2
            have own2 := own_call own1 hb2
            clear c0 c1 c2 d0 d1 d2 e0 e1 e2
            rcases (show K = 5 ∨ K = 3 ∨ K = 4 ∨ (K ≠ 5 ∧ K ≠ 3 ∧ K ≠ 4) by omega) with rfl | rfl | rfl | ⟨n5, n3, n4⟩
            · have HQ := Lib.hid (HNX.out (HB.out.2 (by omega)))
              go_wp2_with (at_builtin; (refine wpList_append_any _ rfl (.tmp 59) (.tmp 64) 64 rfl w.heap.size 93 i0 _ 3 24 Tryd.underlying64 hi0 hz0 hz1 hz2 rfl (by omega) _ o.length (csP o) rfl (own_call own2 (below_alloc (Below.refl _ _) _)) (w2.heap.size + 1) (some ⟨w2.heap.size, 0, none⟩) 1 1 (csP [((k : Int), (j : Int), 5)]) rfl (Reads.newAt _ _ _ 1 3 _ rfl rfl) (one_csP _) (by simp only [maxLen]; omega) (by omega) (by have := k2.size; simp; omega) ?_); intro v1 w3 hown3 hg3 hat3)
              go_roundg g2
              case measure => omega
              case rel => exact ⟨j + 1, by omega, by omega, by go_num, by rw [HQ.out, List.length_append, csP_append]; exact hown3, Below.grown (B := w.heap.size) (a := w) (below_alloc k2 _) hg3 (by have := k2.size; simp; omega) (fun q hq => (own2.lt q hq).1)⟩
            · have HQ := Lib.hid (HNX.out (HB.out.2 (by omega)))
              go_wp2_with (at_builtin; (refine wpList_append_any _ rfl (.tmp 59) (.tmp 64) 64 rfl w.heap.size 93 i0 _ 3 24 Tryd.underlying64 hi0 hz0 hz1 hz2 rfl (by omega) _ o.length (csP o) rfl (own_call own2 (below_alloc (Below.refl _ _) _)) (w2.heap.size + 1) (some ⟨w2.heap.size, 0, none⟩) 1 1 (csP [((k : Int), (j : Int), 3)]) rfl (Reads.newAt _ _ _ 1 3 _ rfl rfl) (one_csP _) (by simp only [maxLen]; omega) (by omega) (by have := k2.size; simp; omega) ?_); intro v1 w3 hown3 hg3 hat3)
              go_roundg g2
              case measure => omega
              case rel => exact ⟨j + 1, by omega, by omega, by go_num, by rw [HQ.out, List.length_append, csP_append]; exact hown3, Below.grown (B := w.heap.size) (a := w) (below_alloc k2 _) hg3 (by have := k2.size; simp; omega) (fun q hq => (own2.lt q hq).1)⟩
            · have HQ := Lib.hid (HNX.out (HB.out.2 (by omega)))
              go_wp2_with (at_builtin; (refine wpList_append_any _ rfl (.tmp 59) (.tmp 64) 64 rfl w.heap.size 93 i0 _ 3 24 Tryd.underlying64 hi0 hz0 hz1 hz2 rfl (by omega) _ o.length (csP o) rfl (own_call own2 (below_alloc (Below.refl _ _) _)) (w2.heap.size + 1) (some ⟨w2.heap.size, 0, none⟩) 1 1 (csP [((k : Int), (j : Int), 4)]) rfl (Reads.newAt _ _ _ 1 3 _ rfl rfl) (one_csP _) (by simp only [maxLen]; omega) (by omega) (by have := k2.size; simp; omega) ?_); intro v1 w3 hown3 hg3 hat3)
              go_roundg g2
              case measure => omega
              case rel => exact ⟨j + 1, by omega, by omega, by go_num, by rw [HQ.out, List.length_append, csP_append]; exact hown3, Below.grown (B := w.heap.size) (a := w) (below_alloc k2 _) hg3 (by have := k2.size; simp; omega) (fun q hq => (own2.lt q hq).1)⟩
            · have d5 : (K == 5) = false := by simpa using n5
              have d3 : (K == 3) = false := by simpa using n3
              have d4 : (K == 4) = false := by simpa using n4
              have HQ := Lib.hid (HSM.out (fun hb => by have hq := HB.out.1 hb; omega))
              go_wp2
              go_roundg g2
              case measure => omega
              case rel => exact ⟨j + 1, by omega, by omega, by go_num, by rw [HQ.out]; exact own2, k2⟩
          · replace HB : Hid (bad l k j ↔ K = 5) := Lib.hid (HB.out.trans ⟨fun h => by omega, fun h => by omega⟩)
            refine wp_region_calm (by kernel_rfl) (by kernel_rfl) ?_
            repeat (go_big_quiet_step (first | (go_at_call 76; exact calm_call (q2 _)) | (go_at_call 77; exact calm_call (q3 _ (below_call hb1 (Calm.h _))))))
            refine wpQuiet_nil ?_
            intro w2 hb2
            have k2 := below_call k1 hb2
            have own2 := own_call own1 hb2
            clear c0 c1 c2 d0 d1 d2 e0 e1 e2
            rcases (show K = 5 ∨ K ≠ 5 by omega) with rfl | n5
            · have HQ := Lib.hid (HNX.out (HB.out.2 (by omega)))
              go_wp2_with (at_builtin; (refine wpList_append_any _ rfl (.tmp 59) (.tmp 64) 64 rfl w.heap.size 93 i0 _ 3 24 Tryd.underlying64 hi0 hz0 hz1 hz2 rfl (by omega) _ o.length (csP o) rfl (own_call own2 (below_alloc (Below.refl _ _) _)) (w2.heap.size + 1) (some ⟨w2.heap.size, 0, none⟩) 1 1 (csP [((k : Int), (j : Int), 5)]) rfl (Reads.newAt _ _ _ 1 3 _ rfl rfl) (one_csP _) (by simp only [maxLen]; omega) (by omega) (by have := k2.size; simp; omega) ?_); intro v1 w3 hown3 hg3 hat3)
              go_roundg g2
              case measure => omega
              case rel => exact ⟨j + 1, by omega, by omega, by go_num, by rw [HQ.out, List.length_append, csP_append]; exact hown3, Below.grown (B := w.heap.size) (a := w) (below_alloc k2 _) hg3 (by have := k2.size; simp; omega) (fun q hq => (own2.lt q hq).1)⟩
            · have d5 : (K == 5) = false := by simpa using n5
              have HQ := Lib.hid (HSM.out (fun hb => by have hq := HB.out.1 hb; omega))
              go_wp2
              go_roundg g2
              case measure => omega
              case rel => exact ⟨j + 1, by omega, by omega, by go_num, by rw [HQ.out]; exact own2, k2⟩
          · replace HB : Hid (bad l k j ↔ K = 5) := Lib.hid (HB.out.trans ⟨fun h => by omega, fun h => by omega⟩)
            obtain ⟨rfl, f1⟩ := f1
            refine wp_region_calm (by kernel_rfl) (by kernel_rfl) ?_
            repeat (go_big_quiet_step (first | (go_at_call 76; exact calm_call (q2 _)) | (go_at_call 77; exact calm_call (q3 _ (below_call hb1 (Calm.h _))))))
            refine wpQuiet_nil ?_
            intro w2 hb2
            have k2 := below_call k1 hb2
            have own2 := own_call own1 hb2
            clear c0 c1 c2 d0 d1 d2 e0 e1 e2
            rcases (show K = 5 ∨ K ≠ 5 by omega) with rfl | n5
            · have HQ := Lib.hid (HNX.out (HB.out.2 (by omega)))
              go_wp2_with (at_builtin; (refine wpList_append_any _ rfl (.tmp 59) (.tmp 64) 64 rfl w.heap.size 93 i0 _ 3 24 Tryd.underlying64 hi0 hz0 hz1 hz2 rfl (by omega) _ o.length (csP o) rfl (own_call own2 (below_alloc (Below.refl _ _) _)) (w2.heap.size + 1) (some ⟨w2.heap.size, 0, none⟩) 1 1 (csP [((k : Int), (j : Int), 5)]) rfl (Reads.newAt _ _ _ 1 3 _ rfl rfl) (one_csP _) (by simp only [maxLen]; omega) (by omega) (by have := k2.size; simp; omega) ?_); intro v1 w3 hown3 hg3 hat3)
              go_roundg g2
              case measure => omega
              case rel => exact ⟨j + 1, by omega, by omega, by go_num, by rw [HQ.out, List.length_append, csP_append]; exact hown3, Below.grown (B := w.heap.size) (a := w) (below_alloc k2 _) hg3 (by have := k2.size; simp; omega) (fun q hq => (own2.lt q hq).1)⟩
            · have d5 : (K == 5) = false := by simpa using n5
              have HQ := Lib.hid (HSM.out (fun hb => by have hq := HB.out.1 hb; omega))
              go_wp2
              go_roundg g2
              case measure => omega
              case rel => exact ⟨j + 1, by omega, by omega, by go_num, by rw [HQ.out]; exact own2, k2⟩
          · replace HB : Hid (bad l k j ↔ K = 5) := Lib.hid (HB.out.trans ⟨fun h => by omega, fun h => by omega⟩)
            obtain ⟨rfl, rfl, f2⟩ := f2
            refine wp_region_calm (by kernel_rfl) (by kernel_rfl) ?_
            repeat (go_big_quiet_step (first | (go_at_call 76; exact calm_call (q2 _)) | (go_at_call 77; exact calm_call (q3 _ (below_call hb1 (Calm.h _))))))
            refine wpQuiet_nil ?_
            intro w2 hb2
            have k2 := below_call k1 hb2
            have own2 := own_call own1 hb2
            clear c0 c1 c2 d0 d1 d2 e0 e1 e2
            rcases (show K = 5 ∨ K ≠ 5 by omega) with rfl | n5
            · have HQ := Lib.hid (HNX.out (HB.out.2 (by omega)))
              go_wp2_with (at_builtin; (refine wpList_append_any _ rfl (.tmp 59) (.tmp 64) 64 rfl w.heap.size 93 i0 _ 3 24 Tryd.underlying64 hi0 hz0 hz1 hz2 rfl (by omega) _ o.length (csP o) rfl (own_call own2 (below_alloc (Below.refl _ _) _)) (w2.heap.size + 1) (some ⟨w2.heap.size, 0, none⟩) 1 1 (csP [((k : Int), (j : Int), 5)]) rfl (Reads.newAt _ _ _ 1 3 _ rfl rfl) (one_csP _) (by simp only [maxLen]; omega) (by omega) (by have := k2.size; simp; omega) ?_); intro v1 w3 hown3 hg3 hat3)
              go_roundg g2
              case measure => omega
              case rel => exact ⟨j + 1, by omega, by omega, by go_num, by rw [HQ.out, List.length_append, csP_append]; exact hown3, Below.grown (B := w.heap.size) (a := w) (below_alloc k2 _) hg3 (by have := k2.size; simp; omega) (fun q hq => (own2.lt q hq).1)⟩
            · have d5 : (K == 5) = false := by simpa using n5
              have HQ := Lib.hid (HSM.out (fun hb => by have hq := HB.out.1 hb; omega))
              go_wp2
              go_roundg g2
              case measure => omega
              case rel => exact ⟨j + 1, by omega, by omega, by go_num, by rw [HQ.out]; exact own2, k2⟩
end Go.Proofs.YtmlcnmnpkemdpaaDoor
