
/- The walk through the reference's with: an ascending list with one more time. -/
import Derived.Test.YtmlcnmnpkemdpaaDoorAlTimes
namespace Go.Proofs.YtmlcnmnpkemdpaaDoor
open Go.RowKit
set_option maxRecDepth 100000 in
set_option maxHeartbeats 4000000 in
theorem with_any (u : Value) (m : List Tm) (y : Tm) (w : World) (hu : ReadsT w u m) (hn : m.length ≤ 100000) (hok : OkL m) (hy : ok y) :
    Calls Tryd.prog 68 #[u, .agg #[.int .i64 y.1, .int .i64 y.2]] w fun e w' => ∃ v, e = .returned v ∧ ReadsT w' v (withS m y) ∧ Below w.heap.size w w' := by
  obtain ⟨A, c, rfl, h, hnc, hcm⟩ := hu
  obtain ⟨n, hN⟩ : ∃ n, n = m.length := ⟨_, rfl⟩
  rw [← hN] at h hnc hn ⊢
  have HL := Lib.hid hN.symm
  have HOK := Lib.hid hok
  have HOy := Lib.hid hy
  have HW := Lib.hid (withS_pos m y)
  clear hN hok hy
  obtain ⟨y0, y1⟩ := y
  obtain ⟨i0, hi0, hz0, hz1, hz2⟩ := info_parts tm_info
  go_enter Tryd.func68, Tryd.ntmps68
  go_wp2
  go_loopw [5] (fun i wr => ∃ k : Nat, k ≤ n ∧ i = .int .i64 k ∧ Hid (∀ (j : Nat) x, j < k → m[j]? = some x → ltT x (y0, y1)) ∧ Below w.heap.size w wr ∧ Blk wr w.heap.size 52 #[.int .i64 y0, .int .i64 y1]) (fun i _ => n - (intOf i).toNat)
  case atStart => exact ⟨0, by omega, rfl, Lib.hid (fun j x h => by omega), by repeat (first | with_reducible exact Below.refl _ _ | with_reducible assumption | with_reducible refine below_drewN ?_ _ | with_reducible refine Below.drew ?_ | with_reducible refine below_alloc ?_ _ | (with_reducible refine Below.setCell ?_ ?_ _; rotate_left; ((try simp only); omega))), by with_reducible exact Blk.new _ _ _⟩
  case round =>
    obtain ⟨k, hk, rfl, hp, k0, bY⟩ := hrel
    have y0c : wr.cell? ⟨w.heap.size, 0, none⟩ = some (.int .i64 y0) := bY.cell 0
    have y1c : wr.cell? ⟨w.heap.size, 1, none⟩ = some (.int .i64 y1) := bY.cell 1
    have lY := bY.lt
    -- the ways: the time at k is ahead; it is the time itself; it is behind; there is none
    have ways : (k < n ∧ ltT (mAt m k) (y0, y1)) ∨ (posW m (y0, y1) = k ∧ ((k < n ∧ ¬ ltT (mAt m k) (y0, y1) ∧ mAt m k = (y0, y1) ∧ withS m (y0, y1) = m) ∨ (k < n ∧ ¬ ltT (mAt m k) (y0, y1) ∧ mAt m k ≠ (y0, y1) ∧ withS m (y0, y1) = m.take k ++ (y0, y1) :: m.drop k) ∨ (k = n ∧ withS m (y0, y1) = m.take k ++ (y0, y1) :: m.drop k))) := by
      have hl := HL.out
      by_cases hkn : k < n
      · have hx := mAt_some (m := m) (i := k) (by omega)
        by_cases hlt : ltT (mAt m k) (y0, y1)
        · exact .inl ⟨hkn, hlt⟩
        · have hpos : posW m (y0, y1) = k := posW_is hp.out (by omega) (fun x h => by rw [hx] at h; cases h; exact hlt)
          have hw := HW.out
          rw [hpos, hx] at hw
          by_cases he : mAt m k = (y0, y1)
          · exact .inr ⟨hpos, .inl ⟨hkn, hlt, he, by rw [hw, if_pos (by rw [he])]⟩⟩
          · exact .inr ⟨hpos, .inr (.inl ⟨hkn, hlt, he, by rw [hw, if_neg (fun h => he (Option.some.inj h))]⟩)⟩
      · have hkn' : k = n := by omega
        have hpos : posW m (y0, y1) = k := posW_is hp.out (by omega) (fun x h => by rw [List.getElem?_eq_none (by omega)] at h; cases h)
        have hw := HW.out
        rw [hpos, List.getElem?_eq_none (by omega), if_neg (by simp)] at hw
        exact .inr ⟨hpos, .inr (.inr ⟨hkn', hw⟩)⟩
    rcases ways with ⟨hkn, hlt⟩ | ⟨hpos, ⟨hkn, hlt, he, hw⟩ | hrest⟩
    · have hkn' : (k : Int) < (n : Int) := by omega
      have dk : decide (k < n) = true := by simpa using hkn
      have hx := mAt_some (m := m) (i := k) (by have := HL.out; omega)
      have hox := HOK.out _ (List.mem_of_getElem? hx)
      obtain ⟨b, off, rfl, hab, c0, c1⟩ := h.tm (Nat.le_refl _) k0 hkn hx
      have q1 := fun W => before_any (mAt m k) (y0, y1) W
      have el : lessB (mAt m k) (y0, y1) = true := by unfold lessB; rw [cmp_lt hox HOy.out]; simpa using hlt
      rw [el] at q1
      have HP := Lib.hid (show ∀ (j : Nat) x, j < k + 1 → m[j]? = some x → ltT x (y0, y1) from fun j x hj hjx => by
        by_cases hjk : j = k
        · subst hjk; rw [hx] at hjx; cases hjx; exact hlt
        · exact hp.out j x (by omega) hjx)
      obtain ⟨⟨x0, x1⟩, hxe⟩ : ∃ x, x = mAt m k := ⟨_, rfl⟩
      rw [← hxe] at q1 c0 c1
      clear hx hxe el hlt hox
      simp only at c0 c1 q1
      go_wp2_with fail
      refine wp_region_calm (by kernel_rfl) (by kernel_rfl) ?_
      repeat (go_big_quiet_step ((go_at_call 72; exact calm_call (q1 _))))
      refine wpQuiet_nil ?_
      intro w2 hb2
      go_wp2
      go_roundw
      case rel => exact ⟨k + 1, by omega, by go_num, HP, below_call k0 hb2, bY.kept hb2⟩
      case measure => simp [intOf]; omega
    · have hkn' : (k : Int) < (n : Int) := by omega
      have dk : decide (k < n) = true := by simpa using hkn
      have hx := mAt_some (m := m) (i := k) (by have := HL.out; omega)
      have hox := HOK.out _ (List.mem_of_getElem? hx)
      have HR : ReadsT wr (.slice A n c) m := by
        have hl := HL.out
        subst hl
        exact ⟨A, c, rfl, (h.below (Nat.le_refl _) k0).more k0.size, hnc, hcm⟩
      obtain ⟨b, off, rfl, hab, c0, c1⟩ := h.tm (Nat.le_refl _) k0 hkn hx
      have q1 := fun W => before_any (mAt m k) (y0, y1) W
      have el : lessB (mAt m k) (y0, y1) = false := by unfold lessB; rw [cmp_lt hox HOy.out]; simpa using hlt
      rw [el, he] at q1
      rw [he] at c0 c1
      have HE := Lib.hid hw
      clear hx el hlt hox he hw hpos hp
      simp only at c0 c1 q1
      go_wp2_with fail
      refine wp_region_calm (by kernel_rfl) (by kernel_rfl) ?_
      repeat (go_big_quiet_step ((go_at_call 72; exact calm_call (q1 _))))
      refine wpQuiet_nil ?_
      intro w2 hb2
      have c0' := (hb2.cell (p := ⟨b, off + k * 2, none⟩) hab).trans c0
      have c1' := (hb2.cell (p := ⟨b, off + k * 2 + 1, none⟩) hab).trans c1
      have y0c' := (hb2.cell (p := ⟨w.heap.size, 0, none⟩) lY).trans y0c
      have y1c' := (hb2.cell (p := ⟨w.heap.size, 1, none⟩) lY).trans y1c
      have hab' : b < w2.heap.size := Nat.lt_of_lt_of_le hab hb2.size
      have lY' : w.heap.size < w2.heap.size := Nat.lt_of_lt_of_le lY hb2.size
      go_wp2_with fail
      refine wp_region_calm (by kernel_rfl) (by kernel_rfl) ?_
      repeat (go_big_quiet_step (fail))
      refine wpQuiet_nil ?_
      intro w3 hb3
      go_wp2
      go_ret
      rw [HE.out]
      exact ⟨_, rfl, HR.kept (below_call hb2 hb3), below_call (below_call k0 hb2) hb3⟩
    · have HE : Hid (withS m (y0, y1) = m.take k ++ (y0, y1) :: m.drop k) := Lib.hid (by rcases hrest with ⟨_, _, _, h⟩ | ⟨_, h⟩ <;> exact h)
      obtain ⟨AH, hAH, s1⟩ := tm_head A k n c (by omega)
      obtain ⟨AT, hAT, s2⟩ := tm_tail A k n c hk hnc
      -- up to region 6, on both ways
      have hkc : (k : Int) ≤ (c : Int) := by omega
      have hkn2 : (k : Int) ≤ (n : Int) := by omega
      have tail : ∀ (wv : World), Below wr.heap.size wr wv → True := fun _ _ => trivial
      rcases hrest with ⟨hkn, hlt, hne, _⟩ | ⟨hkn, _⟩
      · have hkn' : (k : Int) < (n : Int) := by omega
        have dk : decide (k < n) = true := by simpa using hkn
        have hx := mAt_some (m := m) (i := k) (by have := HL.out; omega)
        have hox := HOK.out _ (List.mem_of_getElem? hx)
        obtain ⟨b, off, hA, hab, c0, c1⟩ := h.tm (Nat.le_refl _) k0 hkn hx
        have q1 := fun W => before_any (mAt m k) (y0, y1) W
        have el : lessB (mAt m k) (y0, y1) = false := by unfold lessB; rw [cmp_lt hox HOy.out]; simpa using hlt
        rw [el] at q1
        obtain ⟨⟨x0, x1⟩, hxe⟩ : ∃ x, x = mAt m k := ⟨_, rfl⟩
        rw [← hxe] at q1 c0 c1 hne
        have hd : (x0 == y0) = false ∨ ((x0 == y0) = true ∧ (x1 == y1) = false) := by
          by_cases h0 : x0 = y0
          · exact .inr ⟨by simpa using h0, by simp; intro h1; exact hne (by rw [h0, h1])⟩
          · exact .inl (by simpa using h0)
        clear hx el hlt hox hxe hne hpos hp tail
        simp only at c0 c1 q1
        rw [hA] at h s1 s2 hAT
        subst hA
        subst hAH
        rcases hd with g0 | ⟨g0, g1⟩
        all_goals
          go_wp2_with fail
          refine wp_region_calm (by kernel_rfl) (by kernel_rfl) ?_
          repeat (go_big_quiet_step ((go_at_call 72; exact calm_call (q1 _))))
          refine wpQuiet_nil ?_
          intro w2 hb2
          have c0' := (hb2.cell (p := ⟨b, off + k * 2, none⟩) hab).trans c0
          have c1' := (hb2.cell (p := ⟨b, off + k * 2 + 1, none⟩) hab).trans c1
          have y0c' := (hb2.cell (p := ⟨w.heap.size, 0, none⟩) lY).trans y0c
          have y1c' := (hb2.cell (p := ⟨w.heap.size, 1, none⟩) lY).trans y1c
          have hab' : b < w2.heap.size := Nat.lt_of_lt_of_le hab hb2.size
          have lY' : w.heap.size < w2.heap.size := Nat.lt_of_lt_of_le lY hb2.size
          go_wp2_with fail
          refine wp_region_calm (by kernel_rfl) (by kernel_rfl) ?_
          repeat (go_big_quiet_step (fail))
          refine wpQuiet_nil ?_
          intro w3 hb3
          have k3 := below_call (below_call k0 hb2) hb3
          have bY3 := (bY.kept hb2).kept hb3
          clear y0c y1c lY
          obtain ⟨wv, hwv⟩ : ∃ wv, wv = w3 := ⟨_, rfl⟩
          subst hwv
          obtain ⟨gY, hgY⟩ : ∃ g, g = w.heap.size := ⟨_, rfl⟩
          rw [← hgY] at bY3 ⊢
          have y0c : wv.cell? ⟨gY, 0, none⟩ = some (.int .i64 y0) := bY3.cell 0
          have y1c : wv.cell? ⟨gY, 1, none⟩ = some (.int .i64 y1) := bY3.cell 1
          have lY := bY3.lt
          have hBv := k3.size
          have rT : Reads wv w.heap.size 2 (some ⟨b, off, none⟩) k (csT (m.take k)) := reads_take2 (h.below (Nat.le_refl _) k3) (by omega)
          clear hgY
          go_wp2_with fail
          go_region_held3 (fun w' => w'.cell? ⟨gY, 0, none⟩ = some (.int .i64 y0) ∧ w'.cell? ⟨gY, 1, none⟩ = some (.int .i64 y1) ∧ Below wv.heap.size wv w') ((refine (fun hb => ⟨(hb.cell (p := ⟨_, _, none⟩) lY).trans y0c, (hb.cell (p := ⟨_, _, none⟩) lY).trans y1c, hb⟩) ?_; repeat (first | with_reducible exact Below.refl _ _ | with_reducible exact hB3 | with_reducible exact hB4 | with_reducible exact (show _ ∧ _ ∧ Below wv.heap.size wv _ by assumption).2.2 | with_reducible refine Below.drew ?_ | with_reducible refine below_alloc ?_ _))) ((first | ((refine step_is (.tmp 34) (.tmp 37) 82 (.slice (some ⟨wv.heap.size, 0, none⟩) 0 0) ?_ ?_ ?_); (focus rfl); (focus rfl); (refine step_app _ (by rfl) (.tmp 34) (.tmp 37) 82 (by rfl) wv.heap.size 52 i0 _ 2 16 Tryd.underlying82 hi0 hz0 hz1 hz2 rfl (by omega) (.slice (some ⟨wv.heap.size, 0, none⟩) 0 0) 0 [] (by rfl) (own_call (World.ownsRow_lit wv #[] 0 (Nat.le_refl _) (by simp [maxLen]) rfl) (by repeat (first | with_reducible exact Below.refl _ _ | with_reducible refine Below.drew ?_ | with_reducible refine below_alloc ?_ _))) _ (some ⟨b, off, none⟩) k c (csT (m.take k)) (by rfl) (rT.below hBv (show _ ∧ _ ∧ Below wv.heap.size wv _ by assumption).2.2) (one_csT _) (by simp only [maxLen]; omega) (by omega) ((show _ ∧ _ ∧ Below wv.heap.size wv _ by assumption).2.2).size ?_); intro v1 w3 hown3 hg3 hat3; have hB3 : Below wv.heap.size wv w3 := Below.grown (B := wv.heap.size) (a := wv) (show _ ∧ _ ∧ Below wv.heap.size wv _ by assumption).2.2 hg3 (by first | exact ((show _ ∧ _ ∧ Below wv.heap.size wv _ by assumption).2.2).size) (fun q hq => by simp [Value.ownBlock] at hq; omega); simp only [Nat.zero_add, List.nil_append] at hown3; (try (refine lay_grow hg3 (wv.heap.size) (t := 52) (cs := #[.int .i64 y0, .int .i64 y1]) ?_ ?_ ?_; (focus ((repeat (first | with_reducible exact Blk.new _ _ _ | (with_reducible refine Blk.newAt _ _ _ _ ?_; first | rfl | (simp; done)) | with_reducible apply Blk.alloc | with_reducible apply Blk.drewN | with_reducible apply Blk.drew | with_reducible assumption)); done)); (focus (simp [Value.ownBlock]; done)); intro hbB)); (try (refine lay_grow hg3 (wv.heap.size + 1) (t := 52) (cs := #[.int .i64 y0, .int .i64 y1]) ?_ ?_ ?_; (focus ((repeat (first | with_reducible exact Blk.new _ _ _ | (with_reducible refine Blk.newAt _ _ _ _ ?_; first | rfl | (simp; done)) | with_reducible apply Blk.alloc | with_reducible apply Blk.drewN | with_reducible apply Blk.drew | with_reducible assumption)); done)); (focus (simp [Value.ownBlock]; done)); intro hbB))) | ((refine step_is (.tmp 34) (.tmp 37) 82 (.slice (some ⟨wv.heap.size + 1, 0, none⟩) 0 0) ?_ ?_ ?_); (focus rfl); (focus rfl); (refine step_app _ (by rfl) (.tmp 34) (.tmp 37) 82 (by rfl) wv.heap.size 52 i0 _ 2 16 Tryd.underlying82 hi0 hz0 hz1 hz2 rfl (by omega) (.slice (some ⟨wv.heap.size + 1, 0, none⟩) 0 0) 0 [] (by rfl) (own_call (tm_lit (wv.alloc (.cells #[.int .i64 y0, .int .i64 y1] 52)) wv.heap.size (wv.heap.size + 1) (by simp) (by simp)) (by repeat (first | with_reducible exact Below.refl _ _ | with_reducible refine Below.drew ?_ | with_reducible refine below_alloc ?_ _))) _ (some ⟨b, off, none⟩) k c (csT (m.take k)) (by rfl) (rT.below hBv (show _ ∧ _ ∧ Below wv.heap.size wv _ by assumption).2.2) (one_csT _) (by simp only [maxLen]; omega) (by omega) ((show _ ∧ _ ∧ Below wv.heap.size wv _ by assumption).2.2).size ?_); intro v1 w3 hown3 hg3 hat3; have hB3 : Below wv.heap.size wv w3 := Below.grown (B := wv.heap.size) (a := wv) (show _ ∧ _ ∧ Below wv.heap.size wv _ by assumption).2.2 hg3 (by first | exact ((show _ ∧ _ ∧ Below wv.heap.size wv _ by assumption).2.2).size) (fun q hq => by simp [Value.ownBlock] at hq; omega); simp only [Nat.zero_add, List.nil_append] at hown3; (try (refine lay_grow hg3 (wv.heap.size) (t := 52) (cs := #[.int .i64 y0, .int .i64 y1]) ?_ ?_ ?_; (focus ((repeat (first | with_reducible exact Blk.new _ _ _ | (with_reducible refine Blk.newAt _ _ _ _ ?_; first | rfl | (simp; done)) | with_reducible apply Blk.alloc | with_reducible apply Blk.drewN | with_reducible apply Blk.drew | with_reducible assumption)); done)); (focus (simp [Value.ownBlock]; done)); intro hbB)); (try (refine lay_grow hg3 (wv.heap.size + 1) (t := 52) (cs := #[.int .i64 y0, .int .i64 y1]) ?_ ?_ ?_; (focus ((repeat (first | with_reducible exact Blk.new _ _ _ | (with_reducible refine Blk.newAt _ _ _ _ ?_; first | rfl | (simp; done)) | with_reducible apply Blk.alloc | with_reducible apply Blk.drewN | with_reducible apply Blk.drew | with_reducible assumption)); done)); (focus (simp [Value.ownBlock]; done)); intro hbB))) | ((refine step_is (.tmp 38) (.tmp 40) 82 v1 ?_ ?_ ?_); (focus rfl); (focus rfl); (refine step_app _ (by rfl) (.tmp 38) (.tmp 40) 82 (by rfl) wv.heap.size 52 i0 _ 2 16 Tryd.underlying82 hi0 hz0 hz1 hz2 rfl (by omega) v1 k (csT (m.take k)) (by rfl) (by first | exact hown3 | exact own_call hown3 (below_alloc (Below.refl _ _) _)) _ _ 1 1 (csT [(y0, y1)]) (by rfl) (tm_blk (by first | exact Blk.new _ _ _ | exact hbB)) (one_csT _) (by simp only [maxLen]; omega) (by omega) ((show _ ∧ _ ∧ Below wv.heap.size wv _ by assumption).2.2).size ?_); intro v2 w4 hown4 hg4 hat4; have hB4 : Below wv.heap.size wv w4 := Below.grown (B := wv.heap.size) (a := wv) (show _ ∧ _ ∧ Below wv.heap.size wv _ by assumption).2.2 hg4 ((show _ ∧ _ ∧ Below wv.heap.size wv _ by assumption).2.2).size (fun q hq => (hown3.lt q hq).1); rw [← csT_append] at hown4)))
          all_goals
            have k4 := below_call k3 hB4
            have rD : Reads w4 w.heap.size 2 AT (n - k) (csT (m.drop k)) := reads_drop2 (h.below (Nat.le_refl _) k4) (by omega) _ hAT
            have hsz4 := k4.size
            have hbv4 := hB4.size
            go_wp2_with (at_builtin; (refine wpList_append_any _ rfl (.tmp 42) (.tmp 45) 82 rfl wv.heap.size 52 i0 _ 2 16 Tryd.underlying82 hi0 hz0 hz1 hz2 rfl (by omega) v2 (k + 1) (csT (m.take k ++ [(y0, y1)])) rfl hown4 w.heap.size AT (n - k) _ (csT (m.drop k)) rfl rD (one_csT _) (by simp only [maxLen]; omega) (by omega) hbv4 ?_); intro v5 w5 hown5 hg5 hat5)
            go_ret
            rw [← csT_append] at hown5
            rw [HE.out]
            refine ⟨_, rfl, ReadsT.own (by rw [show m.take k ++ (y0, y1) :: m.drop k = m.take k ++ [(y0, y1)] ++ m.drop k by simp]; exact hown5) (by have := HL.out; rw [List.length_append, List.length_cons, List.length_take, List.length_drop]; omega), below_call k3 (Below.grown (B := wv.heap.size) (a := wv) hB4 hg5 hbv4 (fun q hq => (hown4.lt q hq).1))⟩
      · subst hkn
        have dk : decide (k < k) = false := by simp
        subst hAH
        clear hpos hp tail
        go_wp2_with fail
        refine wp_region_calm (by kernel_rfl) (by kernel_rfl) ?_
        repeat (go_big_quiet_step (fail))
        refine wpQuiet_nil ?_
        intro w2 hb2
        go_wp2_with fail
        refine wp_region_calm (by kernel_rfl) (by kernel_rfl) ?_
        repeat (go_big_quiet_step (fail))
        refine wpQuiet_nil ?_
        intro w3 hb3
        have k3 := below_call (below_call k0 hb2) hb3
        have bY3 := (bY.kept hb2).kept hb3
        clear y0c y1c lY
        obtain ⟨wv, hwv⟩ : ∃ wv, wv = w3 := ⟨_, rfl⟩
        subst hwv
        obtain ⟨gY, hgY⟩ : ∃ g, g = w.heap.size := ⟨_, rfl⟩
        rw [← hgY] at bY3 ⊢
        have y0c : wv.cell? ⟨gY, 0, none⟩ = some (.int .i64 y0) := bY3.cell 0
        have y1c : wv.cell? ⟨gY, 1, none⟩ = some (.int .i64 y1) := bY3.cell 1
        have lY := bY3.lt
        have hBv := k3.size
        have rT : Reads wv w.heap.size 2 AH k (csT (m.take k)) := reads_take2 (h.below (Nat.le_refl _) k3) (by omega)
        clear hgY
        go_wp2_with fail
        go_region_held3 (fun w' => w'.cell? ⟨gY, 0, none⟩ = some (.int .i64 y0) ∧ w'.cell? ⟨gY, 1, none⟩ = some (.int .i64 y1) ∧ Below wv.heap.size wv w') ((refine (fun hb => ⟨(hb.cell (p := ⟨_, _, none⟩) lY).trans y0c, (hb.cell (p := ⟨_, _, none⟩) lY).trans y1c, hb⟩) ?_; repeat (first | with_reducible exact Below.refl _ _ | with_reducible exact hB3 | with_reducible exact hB4 | with_reducible exact (show _ ∧ _ ∧ Below wv.heap.size wv _ by assumption).2.2 | with_reducible refine Below.drew ?_ | with_reducible refine below_alloc ?_ _))) ((first | ((refine step_is (.tmp 34) (.tmp 37) 82 (.slice (some ⟨wv.heap.size, 0, none⟩) 0 0) ?_ ?_ ?_); (focus rfl); (focus rfl); (refine step_app _ (by rfl) (.tmp 34) (.tmp 37) 82 (by rfl) wv.heap.size 52 i0 _ 2 16 Tryd.underlying82 hi0 hz0 hz1 hz2 rfl (by omega) (.slice (some ⟨wv.heap.size, 0, none⟩) 0 0) 0 [] (by rfl) (own_call (World.ownsRow_lit wv #[] 0 (Nat.le_refl _) (by simp [maxLen]) rfl) (by repeat (first | with_reducible exact Below.refl _ _ | with_reducible refine Below.drew ?_ | with_reducible refine below_alloc ?_ _))) _ AH k c (csT (m.take k)) (by rfl) (rT.below hBv (show _ ∧ _ ∧ Below wv.heap.size wv _ by assumption).2.2) (one_csT _) (by simp only [maxLen]; omega) (by omega) ((show _ ∧ _ ∧ Below wv.heap.size wv _ by assumption).2.2).size ?_); intro v1 w3 hown3 hg3 hat3; have hB3 : Below wv.heap.size wv w3 := Below.grown (B := wv.heap.size) (a := wv) (show _ ∧ _ ∧ Below wv.heap.size wv _ by assumption).2.2 hg3 (by first | exact ((show _ ∧ _ ∧ Below wv.heap.size wv _ by assumption).2.2).size) (fun q hq => by simp [Value.ownBlock] at hq; omega); simp only [Nat.zero_add, List.nil_append] at hown3; (try (refine lay_grow hg3 (wv.heap.size) (t := 52) (cs := #[.int .i64 y0, .int .i64 y1]) ?_ ?_ ?_; (focus ((repeat (first | with_reducible exact Blk.new _ _ _ | (with_reducible refine Blk.newAt _ _ _ _ ?_; first | rfl | (simp; done)) | with_reducible apply Blk.alloc | with_reducible apply Blk.drewN | with_reducible apply Blk.drew | with_reducible assumption)); done)); (focus (simp [Value.ownBlock]; done)); intro hbB)); (try (refine lay_grow hg3 (wv.heap.size + 1) (t := 52) (cs := #[.int .i64 y0, .int .i64 y1]) ?_ ?_ ?_; (focus ((repeat (first | with_reducible exact Blk.new _ _ _ | (with_reducible refine Blk.newAt _ _ _ _ ?_; first | rfl | (simp; done)) | with_reducible apply Blk.alloc | with_reducible apply Blk.drewN | with_reducible apply Blk.drew | with_reducible assumption)); done)); (focus (simp [Value.ownBlock]; done)); intro hbB))) | ((refine step_is (.tmp 34) (.tmp 37) 82 (.slice (some ⟨wv.heap.size + 1, 0, none⟩) 0 0) ?_ ?_ ?_); (focus rfl); (focus rfl); (refine step_app _ (by rfl) (.tmp 34) (.tmp 37) 82 (by rfl) wv.heap.size 52 i0 _ 2 16 Tryd.underlying82 hi0 hz0 hz1 hz2 rfl (by omega) (.slice (some ⟨wv.heap.size + 1, 0, none⟩) 0 0) 0 [] (by rfl) (own_call (tm_lit (wv.alloc (.cells #[.int .i64 y0, .int .i64 y1] 52)) wv.heap.size (wv.heap.size + 1) (by simp) (by simp)) (by repeat (first | with_reducible exact Below.refl _ _ | with_reducible refine Below.drew ?_ | with_reducible refine below_alloc ?_ _))) _ AH k c (csT (m.take k)) (by rfl) (rT.below hBv (show _ ∧ _ ∧ Below wv.heap.size wv _ by assumption).2.2) (one_csT _) (by simp only [maxLen]; omega) (by omega) ((show _ ∧ _ ∧ Below wv.heap.size wv _ by assumption).2.2).size ?_); intro v1 w3 hown3 hg3 hat3; have hB3 : Below wv.heap.size wv w3 := Below.grown (B := wv.heap.size) (a := wv) (show _ ∧ _ ∧ Below wv.heap.size wv _ by assumption).2.2 hg3 (by first | exact ((show _ ∧ _ ∧ Below wv.heap.size wv _ by assumption).2.2).size) (fun q hq => by simp [Value.ownBlock] at hq; omega); simp only [Nat.zero_add, List.nil_append] at hown3; (try (refine lay_grow hg3 (wv.heap.size) (t := 52) (cs := #[.int .i64 y0, .int .i64 y1]) ?_ ?_ ?_; (focus ((repeat (first | with_reducible exact Blk.new _ _ _ | (with_reducible refine Blk.newAt _ _ _ _ ?_; first | rfl | (simp; done)) | with_reducible apply Blk.alloc | with_reducible apply Blk.drewN | with_reducible apply Blk.drew | with_reducible assumption)); done)); (focus (simp [Value.ownBlock]; done)); intro hbB)); (try (refine lay_grow hg3 (wv.heap.size + 1) (t := 52) (cs := #[.int .i64 y0, .int .i64 y1]) ?_ ?_ ?_; (focus ((repeat (first | with_reducible exact Blk.new _ _ _ | (with_reducible refine Blk.newAt _ _ _ _ ?_; first | rfl | (simp; done)) | with_reducible apply Blk.alloc | with_reducible apply Blk.drewN | with_reducible apply Blk.drew | with_reducible assumption)); done)); (focus (simp [Value.ownBlock]; done)); intro hbB))) | ((refine step_is (.tmp 38) (.tmp 40) 82 v1 ?_ ?_ ?_); (focus rfl); (focus rfl); (refine step_app _ (by rfl) (.tmp 38) (.tmp 40) 82 (by rfl) wv.heap.size 52 i0 _ 2 16 Tryd.underlying82 hi0 hz0 hz1 hz2 rfl (by omega) v1 k (csT (m.take k)) (by rfl) (by first | exact hown3 | exact own_call hown3 (below_alloc (Below.refl _ _) _)) _ _ 1 1 (csT [(y0, y1)]) (by rfl) (tm_blk (by first | exact Blk.new _ _ _ | exact hbB)) (one_csT _) (by simp only [maxLen]; omega) (by omega) ((show _ ∧ _ ∧ Below wv.heap.size wv _ by assumption).2.2).size ?_); intro v2 w4 hown4 hg4 hat4; have hB4 : Below wv.heap.size wv w4 := Below.grown (B := wv.heap.size) (a := wv) (show _ ∧ _ ∧ Below wv.heap.size wv _ by assumption).2.2 hg4 ((show _ ∧ _ ∧ Below wv.heap.size wv _ by assumption).2.2).size (fun q hq => (hown3.lt q hq).1); rw [← csT_append] at hown4)))
        all_goals
          have k4 := below_call k3 hB4
          have rD : Reads w4 w.heap.size 2 AT 0 (csT (m.drop k)) := by have := reads_drop2 (h.below (Nat.le_refl _) k4) (Nat.le_refl _) AT hAT; rwa [Nat.sub_self] at this
          have hsz4 := k4.size
          have hbv4 := hB4.size
          go_wp2_with (at_builtin; (refine wpList_append_any _ rfl (.tmp 42) (.tmp 45) 82 rfl wv.heap.size 52 i0 _ 2 16 Tryd.underlying82 hi0 hz0 hz1 hz2 rfl (by omega) v2 (k + 1) (csT (m.take k ++ [(y0, y1)])) rfl hown4 w.heap.size AT 0 _ (csT (m.drop k)) rfl rD (one_csT _) (by simp only [maxLen]; omega) (by omega) hbv4 ?_); intro v5 w5 hown5 hg5 hat5)
          go_ret
          rw [← csT_append] at hown5
          rw [HE.out]
          refine ⟨_, rfl, ReadsT.own (by rw [show m.take k ++ (y0, y1) :: m.drop k = m.take k ++ [(y0, y1)] ++ m.drop k by simp]; exact hown5) (by have := HL.out; rw [List.length_append, List.length_cons, List.length_take, List.length_drop]; omega), below_call k3 (Below.grown (B := wv.heap.size) (a := wv) hB4 hg5 hbv4 (fun q hq => (hown4.lt q hq).1))⟩
end Go.Proofs.YtmlcnmnpkemdpaaDoor
