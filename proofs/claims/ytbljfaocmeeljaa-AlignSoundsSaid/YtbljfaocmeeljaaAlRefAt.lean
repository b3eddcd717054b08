/- The slice that a time is in, by the reference. -/
import Derived.Test.YtbljfaocmeeljaaAlAt
import Derived.Deep.LoopGhost
namespace Go.Proofs.Ytbljfaocmeeljaa
open Go.RowKit
set_option maxRecDepth 100000 in
set_option maxHeartbeats 8000000 in
theorem refAt_any (A : Option Addr) (n c : Nat) (l : List (List Ev)) (t : Tm) (B : Nat) (w : World) (h : ReadsV w B A n l) (hB : B ≤ w.heap.size) (hn : n ≤ 9223372036854775807) :
    Calls Try.prog 28 #[.slice A n c, .agg #[.int .i64 t.1, .int .i64 t.2]] w fun e w' => e = .returned (.tuple #[.int .i64 (atE l t).1, .int .i64 (atE l t).2]) ∧ Below w.heap.size w w' := by
  have HL := Lib.hid h.len
  obtain ⟨t0, t1⟩ := t
  have r0 : Blk (w.alloc (.cells #[.int .i64 t0, .int .i64 t1] 34)) w.heap.size 34 #[.int .i64 t0, .int .i64 t1] := Blk.new _ _ _
  have k0 : Below w.heap.size w (w.alloc (.cells #[.int .i64 t0, .int .i64 t1] 34)) := by repeat (first | with_reducible exact Below.refl _ _ | with_reducible assumption | with_reducible refine below_drewN ?_ _ | with_reducible refine Below.drew ?_ | with_reducible refine below_alloc ?_ _ | (with_reducible refine Below.setCell ?_ ?_ _; rotate_left; ((try simp only); omega)))
  have q1 := refSlices_any A n c l B _ (h.below hB k0) (Nat.le_trans hB k0.size) hn
  go_enter Try.func28, Try.ntmps28
  go_wp2_with fail
  refine q1.mono ?_
  rintro e w1 ⟨v1, rfl, ho1, hb1⟩
  have r1 := r0.kept hb1
  have k1 := below_call k0 hb1
  have e0 := r1.cell 0
  have e1 := r1.cell 1
  have z1 := r1.lt
  simp only [List.getElem?_toArray, List.getElem?_cons_zero, List.getElem?_cons_succ] at e0 e1
  clear q1 hb1 r0 k0 ho1
  by_cases he : (slicesE l).2 = 0
  · obtain ⟨hz, hsl⟩ := slicesE_ok he
    have q2 := refCheck_any t0 t1
    by_cases hc : chk t0 t1 = 0
    · have E := Lib.hid (atE_go (t := (t0, t1)) he hc)
      have HT := Lib.hid (ok_of_chk hc)
      have HOK := Lib.hid (set_facts hz).2.2.2.2
      have HMB := Lib.hid (mom_big hz)
      have HV := Lib.hid (set_facts hz).2.1
      have h8 : n ≤ 8 := by have := len8 hz; have := HL.out; omega
      rw [hc] at q2
      rw [he]
      clear he hz hsl hc
      go_wp2_with fail
      refine (q2 _).mono ?_
      rintro e w2 ⟨rfl, hb2⟩
      have r2 := r1.kept hb2
      have k2 := below_call k1 hb2
      go_wp2_with fail
      refine Calls.mono (refMoments_any A n c l B _ (h.below hB k2) (Nat.le_trans hB k2.size) h8 (fun v hv => (HV.out v hv).2)) ?_
      rintro e w3 ⟨v3, rfl, ho3, hb3⟩
      obtain ⟨Am, cm, rfl, rm, _, _⟩ := ho3
      have r3 := r2.kept hb3
      have k3 := below_call k2 hb3
      obtain ⟨m, hm⟩ : ∃ m, m = momS l := ⟨_, rfl⟩
      rw [← hm] at rm HMB HOK E ⊢
      clear hm HV
      obtain ⟨M, hM⟩ : ∃ M, M = m.length := ⟨_, rfl⟩
      have HM := Lib.hid hM.symm
      rw [← hM] at rm HMB E ⊢
      clear hM e0 e1 z1 r1 r2 hb2 hb3
      go_wp2
      go_loopg [9] (M - 1) (fun g i wr => ∃ k : Nat, k + g = M - 1 ∧ i = .int .i64 k ∧ Hid (atFrom m (t0, t1) k g = atFrom m (t0, t1) 0 (M - 1)) ∧ Below w3.heap.size w3 wr ∧ Blk wr w.heap.size 34 #[.int .i64 t0, .int .i64 t1])
      case atStart => exact ⟨0, by omega, rfl, Lib.hid rfl, Below.refl _ _, r3⟩
      case round =>
        obtain ⟨k, hkg, rfl, hS, kr, bT⟩ := hrel
        have t0c : wr.cell? ⟨w.heap.size, 0, none⟩ = some (.int .i64 t0) := bT.cell 0
        have t1c : wr.cell? ⟨w.heap.size, 1, none⟩ = some (.int .i64 t1) := bT.cell 1
        have lT := bT.lt
        have hMb := HMB.out
        have w7 : IntKind.i64.wrap ((k : Int) + 1) = (k : Int) + 1 := IntWalk.i64_in _ (by omega)
        cases gk with
        | zero =>
          have d1 : ¬ ((k : Int) + 1 < (M : Int)) := by omega
          have E2 := Lib.hid (show atFrom m (t0, t1) 0 (M - 1) = (0, 2) by rw [← hS.out]; rfl)
          go_wp2
          refine ret_of (by simp [results, Try.results28, go_sem, *]; repeat' (first | rfl | apply And.intro)) rfl ⟨?_, below_call k3 kr⟩
          rw [E.out, E2.out]
        | succ g =>
          have d1 : (k : Int) + 1 < (M : Int) := by omega
          have hk : k < M := by omega
          have hk1 : k + 1 < M := by omega
          have hk' : (k : Int) < (M : Int) := by omega
          have hx := mAt_some (m := m) (i := k + 1) (by have := HM.out; omega)
          have hy := mAt_some (m := m) (i := k) (by have := HM.out; omega)
          have ox := HOK.out _ (List.mem_of_getElem? hx)
          have oy := HOK.out _ (List.mem_of_getElem? hy)
          obtain ⟨b, off, rfl, hab, c0, c1⟩ := rm.tm (Nat.le_refl _) kr hk1 hx
          obtain ⟨b', off', hA', _, d0, d2⟩ := rm.tm (Nat.le_refl _) kr hk hy
          cases hA'
          have q4 := fun W => before_any (t0, t1) (mAt m k) W
          have q5 := fun W => before_any (t0, t1) (mAt m (k + 1)) W
          have l4 : lessB (t0, t1) (mAt m k) = decide (ltT (t0, t1) (mAt m k)) := by unfold lessB; exact cmp_lt HT.out oy
          have l5 : lessB (t0, t1) (mAt m (k + 1)) = decide (ltT (t0, t1) (mAt m (k + 1))) := by unfold lessB; exact cmp_lt HT.out ox
          rw [l4] at q4
          rw [l5] at q5
          have t2 : ((k : Int) + 1).toNat = k + 1 := by omega
          have t4 : (0 : Int) ≤ (k : Int) + 1 := by omega
          have HU := Lib.hid (show atFrom m (t0, t1) k (g + 1) = if ¬ ltT (t0, t1) (mAt m k) ∧ ltT (t0, t1) (mAt m (k + 1)) then ((k : Int), 0) else atFrom m (t0, t1) (k + 1) g from rfl)
          obtain ⟨⟨x0, x1⟩, hxe⟩ : ∃ x, x = mAt m (k + 1) := ⟨_, rfl⟩
          obtain ⟨⟨y0, y1⟩, hye⟩ : ∃ x, x = mAt m k := ⟨_, rfl⟩
          rw [← hxe] at q5 c0 c1 HU
          rw [← hye] at q4 d0 d2 HU
          clear hxe hye hx hy ox oy l4 l5
          simp only at c0 c1 d0 d2 q4 q5
          by_cases h4 : ltT (t0, t1) (y0, y1)
          · have HN := Lib.hid (show atFrom m (t0, t1) (k + 1) g = atFrom m (t0, t1) 0 (M - 1) by rw [← hS.out, HU.out, if_neg (fun hh => hh.1 h4)])
            rw [decide_eq_true h4] at q4
            clear h4 hS
            go_wp2_with fail
            refine wp_region_calm (by kernel_rfl) (by kernel_rfl) ?_
            repeat (go_big_quiet_step ((go_at_call 60; with_reducible exact calm_call (q4 _))))
            refine wpQuiet_nil ?_
            intro w6 g6
            go_wp2
            go_roundg g
            case measure => omega
            case rel => exact ⟨k + 1, by omega, by go_num, HN, below_call kr g6, bT.kept g6⟩
          · rw [decide_eq_false h4] at q4
            by_cases h5 : ltT (t0, t1) (x0, x1)
            · have E2 := Lib.hid (show atFrom m (t0, t1) 0 (M - 1) = ((k : Int), 0) by rw [← hS.out, HU.out, if_pos ⟨h4, h5⟩])
              rw [decide_eq_true h5] at q5
              clear h4 h5 hS
              go_wp2_with fail
              refine wp_region_calm (by kernel_rfl) (by kernel_rfl) ?_
              repeat (go_big_quiet_step ((go_at_call 60; with_reducible (first | exact calm_call (q4 _) | exact calm_call (q5 _)))))
              refine wpQuiet_nil ?_
              intro w6 g6
              go_wp2
              refine ret_of (by simp [results, Try.results28, go_sem, *]; repeat' (first | rfl | apply And.intro)) rfl ⟨?_, below_call k3 (below_call kr g6)⟩
              rw [E.out, E2.out]
            · have HN := Lib.hid (show atFrom m (t0, t1) (k + 1) g = atFrom m (t0, t1) 0 (M - 1) by rw [← hS.out, HU.out, if_neg (fun hh => h5 hh.2)])
              rw [decide_eq_false h5] at q5
              clear h4 h5 hS
              go_wp2_with fail
              refine wp_region_calm (by kernel_rfl) (by kernel_rfl) ?_
              repeat (go_big_quiet_step ((go_at_call 60; with_reducible (first | exact calm_call (q4 _) | exact calm_call (q5 _)))))
              refine wpQuiet_nil ?_
              intro w6 g6
              go_wp2
              go_roundg g
              case measure => omega
              case rel => exact ⟨k + 1, by omega, by go_num, HN, below_call kr g6, bT.kept g6⟩
    · have E := Lib.hid (atE_chk (t := (t0, t1)) he hc)
      have hne : (chk t0 t1 != 0) = true := by simpa using hc
      obtain ⟨d, hd⟩ : ∃ d, d = chk t0 t1 := ⟨_, rfl⟩
      simp only at E
      rw [← hd] at q2 E hne
      rw [he]
      clear hd hc he hsl hz
      go_wp2_with fail
      refine (q2 _).mono ?_
      rintro e w2 ⟨rfl, hb2⟩
      go_wp2
      refine ret_of (by simp [results, Try.results28, go_sem, *]; repeat' (first | rfl | apply And.intro)) rfl ⟨?_, below_call k1 hb2⟩
      rw [E.out]
  · have hne : ((slicesE l).2 != 0) = true := by simpa using he
    have E := Lib.hid (atE_bad (t := (t0, t1)) he)
    clear he
    go_wp2
    refine ret_of (by simp [results, Try.results28, go_sem, *]; repeat' (first | rfl | apply And.intro)) rfl ⟨?_, by repeat (first | with_reducible exact Below.refl _ _ | with_reducible assumption | with_reducible refine below_drewN ?_ _ | with_reducible refine Below.drew ?_ | with_reducible refine below_alloc ?_ _ | (with_reducible refine Below.setCell ?_ ?_ _; rotate_left; ((try simp only); omega)))⟩
    rw [E.out]
end Go.Proofs.Ytbljfaocmeeljaa
