/- The walk through the program's Parse: a letter and a number. -/
import Derived.Test.YtmbnpblejhlefaaDoorChRefParse
import Derived.Test.YtmbnpblejhlefaaDoorChSent
namespace Go.Proofs.YtmbnpblejhlefaaDoor
open Go.RowKit
set_option maxRecDepth 100000 in
set_option maxHeartbeats 1000000 in
theorem off_first (s : ByteArray) (c : Nat) (r : List UInt8) (hs : s.data.toList = UInt8.ofNat c :: r) (hc : c < 256) (st : Int) (w : World) :
    Calls Tryd.prog 54 #[.string s, .int .i64 st] w fun e w' => e = .returned (.tuple #[.int .i64 (offS c st).1, .bool (offS c st).2]) ∧ Below w.heap.size w w' := by
  have q1 := perfect_any st
  have hz : 0 < s.size := by rw [Lib.size_eq, hs]; simp
  have he : s.toList.isEmpty = false := notEmpty (fun h => by rw [h] at hs; cases hs)
  have hb : (s[0]).toNat = c := by
    have : s.data.toList[0]? = some (UInt8.ofNat c) := by rw [hs]; rfl
    have h2 : s.data.toList[0]? = some s[0] := by
      rw [List.getElem?_eq_getElem (by rw [← Lib.size_eq]; exact hz)]; rfl
    rw [h2] at this
    rw [Option.some.inj this]
    simp; omega
  have HC : Hid (c = c) := Lib.hid rfl
  clear hs
  go_enter Tryd.func54, Tryd.ntmps54
  go_wp2_with (refine (q1 _).mono ?_; rintro e w1 ⟨rfl, hb1⟩)
  all_goals
    go_ret2
    refine ⟨?_, by repeat (first | exact Below.refl _ _ | refine below_drewN ?_ _ | refine Below.drew ?_ | refine below_alloc ?_ _ | (refine below_call ?_ (by assumption)) | (refine Below.setCell ?_ ?_ _; rotate_left; (simp; try omega)))⟩
    simp_all [offS]
    try grind
theorem atoi_ok (s : ByteArray) (n : Int) (hl : s.size ≤ 18) (h : Lib.atoi s.data.toList = some n) (w : World) :
    Calls Tryd.prog 52 #[.string s] w fun e w' => e = .returned (.tuple #[.int .i64 n, .nilIface]) ∧ Below w.heap.size w w' := by
  refine (Tryd.strconv_Atoi s n hl h w).mono ?_
  rintro e w' ⟨he, t, rfl⟩
  exact ⟨he, Lib.bytesWorld_below _ _ _⟩
theorem atoi_no (s : ByteArray) (hl : s.size ≤ 18) (h : Lib.atoi s.data.toList = none) (w : World) (ht : Tabs2 w) :
    Calls Tryd.prog 52 #[.string s] w fun e w' => (∃ (u : TypeId) (N : Nat), e = .returned (.tuple #[.int .i64 0, .iface u (.pointer (some ⟨N, 0, none⟩))])) ∧ Below w.heap.size w w' := by
  obtain ⟨u, v, hc⟩ := ht.sent
  refine (Tryd.strconv_Atoi_err s hl h _ w hc (.inr ⟨u, v, rfl⟩)).mono ?_
  rintro e w' ⟨N, he, _, _, hb⟩
  exact ⟨⟨_, N, he⟩, hb⟩
theorem shape_size {s : ByteArray} {c : Nat} {n : Int} (h : shapeB s c n) : 2 ≤ s.size ∧ s.size ≤ 3 := by
  obtain ⟨_, h2, h3, h4⟩ := h
  obtain ⟨m, rfl⟩ := Int.eq_ofNat_of_zero_le (show 0 ≤ n by omega)
  rw [Lib.size_eq, h2, List.length_cons]
  rcases itoa_len m (by omega) with h | h <;> omega
theorem shape_atoi {s : ByteArray} {c c0 : Nat} {n : Int} {r : List UInt8} (h : shapeB s c n) (hs : s.data.toList = UInt8.ofNat c0 :: r) : r = Lib.itoa n ∧ Lib.atoi r = some n := by
  obtain ⟨_, h2, h3, h4⟩ := h
  rw [hs] at h2
  obtain ⟨_, rfl⟩ := List.cons.inj h2
  obtain ⟨m, rfl⟩ := Int.eq_ofNat_of_zero_le (show 0 ≤ n by omega)
  exact ⟨rfl, atoi_itoa m (by omega)⟩
/-- The text's rest behind its first byte. -/
theorem tail_bytes {s : ByteArray} {c : UInt8} {r : List UInt8} (hs : s.data.toList = c :: r) : (s.extract 1 s.size).data.toList = r := by
  rw [ByteArray.data_extract]; simp [hs, Lib.size_eq]
set_option maxRecDepth 100000 in
set_option maxHeartbeats 4000000 in
theorem Parse_any (s : ByteArray) (w : World) (ht : Tabs2 w) (hz : s.size ≤ maxLen) :
    Calls Tryd.prog 25 #[.string s] w (Parsed s w) := by
  unfold maxLen at hz
  by_cases h2 : s.size < 2
  · have d1 : decide ((s.size : Int) < 2) = true := by simp; omega
    have HE := Lib.hid (ParseS.noShape (s := s) (fun c n h => by have := shape_size h; omega))
    go_enter Tryd.func25, Tryd.ntmps25
    go_wp2
    refine ret_of (by simp [results, Tryd.results25, go_sem]; repeat' (first | rfl | apply And.intro)) rfl ?_
    exact ⟨⟨((0, 0), 3), HE.out, rfl⟩, by repeat (first | with_reducible exact Below.refl _ _ | with_reducible assumption | with_reducible refine below_drewN ?_ _ | with_reducible refine Below.drew ?_ | with_reducible refine below_alloc ?_ _ | (with_reducible refine Below.setCell ?_ ?_ _; rotate_left; ((try simp only); omega)))⟩
  · have d1 : decide ((s.size : Int) < 2) = false := by simp; omega
    by_cases h3 : 3 < s.size
    · have d2 : decide ((3 : Int) < (s.size : Int)) = true := by simp; omega
      have HE := Lib.hid (ParseS.noShape (s := s) (fun c n h => by have := shape_size h; omega))
      go_enter Tryd.func25, Tryd.ntmps25
      go_wp2
      refine ret_of (by simp [results, Tryd.results25, go_sem]; repeat' (first | rfl | apply And.intro)) rfl ?_
      exact ⟨⟨((0, 0), 3), HE.out, rfl⟩, by repeat (first | with_reducible exact Below.refl _ _ | with_reducible assumption | with_reducible refine below_drewN ?_ _ | with_reducible refine Below.drew ?_ | with_reducible refine below_alloc ?_ _ | (with_reducible refine Below.setCell ?_ ?_ _; rotate_left; ((try simp only); omega)))⟩
    · have d2 : decide ((3 : Int) < (s.size : Int)) = false := by simp; omega
      obtain ⟨c, r, hc, hs⟩ : ∃ (c : Nat) (r : List UInt8), c < 256 ∧ s.data.toList = UInt8.ofNat c :: r := by
        cases hl : s.data.toList with
        | nil => rw [Lib.size_eq, hl] at h2; exact absurd (by simp) h2
        | cons b r => exact ⟨b.toNat, r, b.toNat_lt, by simp⟩
      have ht1 := tail_bytes hs
      have hsz : (s.extract 1 s.size).size ≤ 18 := by rw [Lib.size_eq, ht1]; rw [Lib.size_eq, hs, List.length_cons] at h3; omega
      have hin : (1 : Int) ≤ (s.size : Int) := by omega
      cases hat : Lib.atoi r with
      | none =>
        have q1 := fun W hW => atoi_no (s.extract 1 s.size) hsz (by rw [ht1]; exact hat) W hW
        have HE := Lib.hid (ParseS.noShape (s := s) (fun c n h => by have := shape_atoi h hs; rw [hat] at this; cases this.2))
        clear hat ht1 hs
        go_enter Tryd.func25, Tryd.ntmps25
        go_wp2_with fail
        refine (q1 _ (ht.kept (by repeat (first | with_reducible exact Below.refl _ _ | with_reducible assumption | with_reducible refine below_drewN ?_ _ | with_reducible refine Below.drew ?_ | with_reducible refine below_alloc ?_ _ | (with_reducible refine Below.setCell ?_ ?_ _; rotate_left; ((try simp only); omega)))))).mono ?_
        rintro e w1 ⟨⟨u, N, rfl⟩, hb1⟩
        have b1 : Blk w1 w.heap.size 38 #[.int .i64 0, .int .i64 0] := Blk.kept (by with_reducible exact Blk.new _ _ _) hb1
        have cQ0 := b1.cell 0
        have cQ1 := b1.cell 1
        have fQ0 := b1.frozen 0
        have fQ1 := b1.frozen 1
        have lQ := b1.lt
        have kb : Below w.heap.size w w1 := below_call (by repeat (first | with_reducible exact Below.refl _ _ | with_reducible assumption | with_reducible refine below_drewN ?_ _ | with_reducible refine Below.drew ?_ | with_reducible refine below_alloc ?_ _ | (with_reducible refine Below.setCell ?_ ?_ _; rotate_left; ((try simp only); omega)))) hb1
        go_wp2
        refine wp_region_calm (by kernel_rfl) (by kernel_rfl) ?_
        repeat (go_big_quiet_step (fail))
        refine wpQuiet_nil ?_
        intro w2 hb2
        clear cQ0 cQ1 fQ0 fQ1 lQ
        have kb1 := kb
        clear kb
        have b2 : Blk w2 w.heap.size 38 #[.int .i64 0, .int .i64 0] := Blk.kept (by with_reducible exact b1) hb2
        have cQ0 := b2.cell 0
        have cQ1 := b2.cell 1
        have fQ0 := b2.frozen 0
        have fQ1 := b2.frozen 1
        have lQ := b2.lt
        have kb : Below w.heap.size w w2 := below_call kb1 hb2
        go_wp2
        refine ret_of (by simp [results, Tryd.results25, go_sem, cQ0, cQ1]; repeat' (first | rfl | apply And.intro)) rfl ?_
        exact ⟨⟨((0, 0), 3), HE.out, rfl⟩, by repeat (first | with_reducible exact Below.refl _ _ | with_reducible assumption | with_reducible refine below_drewN ?_ _ | with_reducible refine Below.drew ?_ | with_reducible refine below_alloc ?_ _ | (with_reducible refine Below.setCell ?_ ?_ _; rotate_left; ((try simp only); omega)))⟩
      | some n =>
        have q1 := fun W => atoi_ok (s.extract 1 s.size) n hsz (by rw [ht1]; exact hat) W
        by_cases hn : n < 1 ∨ 63 < n
        · have HE := Lib.hid (ParseS.noShape (s := s) (fun c n' h => by
            have h1 := shape_atoi h hs
            rw [hat] at h1
            have h2 := Option.some.inj h1.2
            have h3 := h.2.2
            omega))
          clear hat ht1 hs
          have hd : decide (n < 1) = true ∨ (decide (n < 1) = false ∧ decide (63 < n) = true) := by
            rcases Int.lt_or_le n 1 with h | h
            · exact .inl (by simpa using h)
            · exact .inr ⟨by simpa using h, by simp; omega⟩
          clear hn
          rcases hd with d3 | ⟨d3, d4⟩
          all_goals
            go_enter Tryd.func25, Tryd.ntmps25
            go_wp2_with fail
            refine (q1 _).mono ?_
            rintro e w1 ⟨rfl, hb1⟩
            have b1 : Blk w1 w.heap.size 38 #[.int .i64 0, .int .i64 0] := Blk.kept (by with_reducible exact Blk.new _ _ _) hb1
            have cQ0 := b1.cell 0
            have cQ1 := b1.cell 1
            have fQ0 := b1.frozen 0
            have fQ1 := b1.frozen 1
            have lQ := b1.lt
            have kb : Below w.heap.size w w1 := below_call (by repeat (first | with_reducible exact Below.refl _ _ | with_reducible assumption | with_reducible refine below_drewN ?_ _ | with_reducible refine Below.drew ?_ | with_reducible refine below_alloc ?_ _ | (with_reducible refine Below.setCell ?_ ?_ _; rotate_left; ((try simp only); omega)))) hb1
            go_wp2
            refine wp_region_calm (by kernel_rfl) (by kernel_rfl) ?_
            repeat (go_big_quiet_step (fail))
            refine wpQuiet_nil ?_
            intro w2 hb2
            clear cQ0 cQ1 fQ0 fQ1 lQ
            have kb1 := kb
            clear kb
            have b2 : Blk w2 w.heap.size 38 #[.int .i64 0, .int .i64 0] := Blk.kept (by with_reducible exact b1) hb2
            have cQ0 := b2.cell 0
            have cQ1 := b2.cell 1
            have fQ0 := b2.frozen 0
            have fQ1 := b2.frozen 1
            have lQ := b2.lt
            have kb : Below w.heap.size w w2 := below_call kb1 hb2
            go_wp2
            refine ret_of (by simp [results, Tryd.results25, go_sem, cQ0, cQ1]; repeat' (first | rfl | apply And.intro)) rfl ?_
            exact ⟨⟨((0, 0), 3), HE.out, rfl⟩, by repeat (first | with_reducible exact Below.refl _ _ | with_reducible assumption | with_reducible refine below_drewN ?_ _ | with_reducible refine Below.drew ?_ | with_reducible refine below_alloc ?_ _ | (with_reducible refine Below.setCell ?_ ?_ _; rotate_left; ((try simp only); omega)))⟩
        · obtain ⟨k, rfl⟩ : ∃ k : Nat, n = (k : Int) + 1 := ⟨(n - 1).toNat, by omega⟩
          have hk : k ≤ 62 := by omega
          clear hn
          have d3 : decide ((k : Int) + 1 < 1) = false := by simp; omega
          have d4 : decide ((63 : Int) < (k : Int) + 1) = false := by simp; omega
          have qi : ∀ W, Calls Tryd.prog 53 #[.int .i64 ((k : Int) + 1)] W fun e w' => e = .returned (.string ⟨(Lib.itoa ((k : Int) + 1)).toArray⟩) ∧ Below W.heap.size W w' := fun W => itoa_small (k + 1) (by omega) W
          obtain ⟨tx, htx⟩ : ∃ t : ByteArray, t = ⟨(Lib.itoa ((k : Int) + 1)).toArray⟩ := ⟨_, rfl⟩
          rw [← htx] at qi
          by_cases hne : Lib.itoa ((k : Int) + 1) = r
          · have hsh : shapeB s c ((k : Int) + 1) := ⟨hc, by rw [hne]; exact hs, by omega, by omega⟩
            have en : (tx.toList == (s.extract 1 s.size).toList) = true := by
              rw [Lib.toList_data, Lib.toList_data, ht1, htx]; simpa using hne
            obtain ⟨j, hj⟩ : ∃ j : Nat, (k : Int) % 7 = (j : Int) := ⟨k % 7, by omega⟩
            obtain ⟨q, hq⟩ : ∃ q : Nat, (k : Int) / 7 = (q : Int) := ⟨k / 7, by omega⟩
            have hj7 : j < 7 := by omega
            have hq9 : q ≤ 8 := by omega
            have q2 := fun W => off_first s c r hs hc (j : Int) W
            have hob := offS_bd c (j : Int)
            have HM : madeX c ((k : Int) + 1) = ((k : Int), 12 * (q : Int) + halfS (j : Int) + (offS c (j : Int)).1) := by
              unfold madeX; rw [show (k : Int) + 1 - 1 = (k : Int) by omega, hj, hq]
            have h1 := fun ho : (offS c (j : Int)).2 = false => ParseS.noOff hsh (by rw [show (k : Int) + 1 - 1 = (k : Int) by omega, hj]; exact ho)
            have h2 := fun ho => ParseS.noName hsh (by rw [HM]; exact ho)
            have h3 := fun ho => ParseS.isName hsh (by rw [HM]; exact ho)
            rw [HM] at h3
            obtain ⟨⟨o, ob⟩, hof⟩ : ∃ t, t = offS c (j : Int) := ⟨_, rfl⟩
            rw [← hof] at q2 hob h1 h2 h3
            simp only at hob
            clear hof HM hat ht1 hs htx hne hsh
            cases ob with
            | false =>
              have HE := Lib.hid (h1 rfl)
              clear h1 h2 h3
              go_enter Tryd.func25, Tryd.ntmps25
              go_wp2_with fail
              refine (q1 _).mono ?_
              rintro e w1 ⟨rfl, hb1⟩
              have b1 : Blk w1 w.heap.size 38 #[.int .i64 0, .int .i64 0] := Blk.kept (by with_reducible exact Blk.new _ _ _) hb1
              have cQ0 := b1.cell 0
              have cQ1 := b1.cell 1
              have fQ0 := b1.frozen 0
              have fQ1 := b1.frozen 1
              have lQ := b1.lt
              have kb : Below w.heap.size w w1 := below_call (by repeat (first | with_reducible exact Below.refl _ _ | with_reducible assumption | with_reducible refine below_drewN ?_ _ | with_reducible refine Below.drew ?_ | with_reducible refine below_alloc ?_ _ | (with_reducible refine Below.setCell ?_ ?_ _; rotate_left; ((try simp only); omega)))) hb1
              go_wp2
              refine wp_region_calm (by kernel_rfl) (by kernel_rfl) ?_
              repeat (go_big_quiet_step ((go_at_call 53; exact calm_call (qi _))))
              refine wpQuiet_nil ?_
              intro w2 hb2
              clear cQ0 cQ1 fQ0 fQ1 lQ
              have kb1 := kb
              clear kb
              have b2 : Blk w2 w.heap.size 38 #[.int .i64 0, .int .i64 0] := Blk.kept (by with_reducible exact b1) hb2
              have cQ0 := b2.cell 0
              have cQ1 := b2.cell 1
              have fQ0 := b2.frozen 0
              have fQ1 := b2.frozen 1
              have lQ := b2.lt
              have kb : Below w.heap.size w w2 := below_call kb1 hb2
              go_wp2_with fail
              refine (q2 _).mono ?_
              rintro e w3 ⟨rfl, hb3⟩
              clear cQ0 cQ1 fQ0 fQ1 lQ
              have kb2 := kb
              clear kb
              have b3 : Blk w3 w.heap.size 38 #[.int .i64 0, .int .i64 0] := Blk.kept (by with_reducible exact b2) hb3
              have cQ0 := b3.cell 0
              have cQ1 := b3.cell 1
              have fQ0 := b3.frozen 0
              have fQ1 := b3.frozen 1
              have lQ := b3.lt
              have kb : Below w.heap.size w w3 := below_call kb2 hb3
              go_wp2
              refine ret_of (by simp [results, Tryd.results25, go_sem, cQ0, cQ1]; repeat' (first | rfl | apply And.intro)) rfl ?_
              exact ⟨⟨((0, 0), 3), HE.out, rfl⟩, by repeat (first | with_reducible exact Below.refl _ _ | with_reducible assumption | with_reducible refine below_drewN ?_ _ | with_reducible refine Below.drew ?_ | with_reducible refine below_alloc ?_ _ | (with_reducible refine Below.setCell ?_ ?_ _; rotate_left; ((try simp only); omega)))⟩
            | true =>
              clear h1
              have hg := ht.tabs.lt.2.1
              have hh := halfS_bd (j : Int)
              have hkk : (0 : Int) ≤ (k : Int) ∧ (k : Int) ≤ 62 := by omega
              have qc := fun W hW => called_any ((k : Int), 12 * (q : Int) + halfS (j : Int) + o) W hW hkk.1 hkk.2 (by simp only; omega) (by simp only; omega)
              obtain ⟨H, hH⟩ : ∃ H, H = halfS (j : Int) := ⟨_, rfl⟩
              by_cases hnm : nameX ((k : Int), 12 * (q : Int) + halfS (j : Int) + o) = s
              · have HE := Lib.hid (h3 hnm)
                rw [hnm] at qc
                rw [← hH] at qc hh HE
                clear h2 h3 hnm
                go_enter Tryd.func25, Tryd.ntmps25
                go_wp2_with fail
                refine (q1 _).mono ?_
                rintro e w1 ⟨rfl, hb1⟩
                have b1 : Blk w1 w.heap.size 38 #[.int .i64 0, .int .i64 0] := Blk.kept (by with_reducible exact Blk.new _ _ _) hb1
                have cQ0 := b1.cell 0
                have cQ1 := b1.cell 1
                have fQ0 := b1.frozen 0
                have fQ1 := b1.frozen 1
                have lQ := b1.lt
                have kb : Below w.heap.size w w1 := below_call (by repeat (first | with_reducible exact Below.refl _ _ | with_reducible assumption | with_reducible refine below_drewN ?_ _ | with_reducible refine Below.drew ?_ | with_reducible refine below_alloc ?_ _ | (with_reducible refine Below.setCell ?_ ?_ _; rotate_left; ((try simp only); omega)))) hb1
                go_wp2
                refine wp_region_calm (by kernel_rfl) (by kernel_rfl) ?_
                repeat (go_big_quiet_step ((go_at_call 53; exact calm_call (qi _))))
                refine wpQuiet_nil ?_
                intro w2 hb2
                clear cQ0 cQ1 fQ0 fQ1 lQ
                have kb1 := kb
                clear kb
                have b2 : Blk w2 w.heap.size 38 #[.int .i64 0, .int .i64 0] := Blk.kept (by with_reducible exact b1) hb2
                have cQ0 := b2.cell 0
                have cQ1 := b2.cell 1
                have fQ0 := b2.frozen 0
                have fQ1 := b2.frozen 1
                have lQ := b2.lt
                have kb : Below w.heap.size w w2 := below_call kb1 hb2
                go_wp2_with fail
                refine (q2 _).mono ?_
                rintro e w3 ⟨rfl, hb3⟩
                clear cQ0 cQ1 fQ0 fQ1 lQ
                have kb2 := kb
                clear kb
                have b3 : Blk w3 w.heap.size 38 #[.int .i64 0, .int .i64 0] := Blk.kept (by with_reducible exact b2) hb3
                have cQ0 := b3.cell 0
                have cQ1 := b3.cell 1
                have fQ0 := b3.frozen 0
                have fQ1 := b3.frozen 1
                have lQ := b3.lt
                have kb : Below w.heap.size w w3 := below_call kb2 hb3
                have hc2 : w3.cell? ⟨1, j, none⟩ = some (.int .i64 H) := by rw [hH]; exact (kb.cell (p := ⟨_, _, none⟩) hg).trans (ht.tabs.size j hj7)
                have hg2 : 1 < w3.heap.size := Nat.lt_of_lt_of_le hg kb.size
                clear hH
                go_wp2_with fail
                refine (qc _ (ht.kept (below_alloc kb _)).tabs).mono ?_
                rintro e w4 ⟨rfl, hb4⟩
                have bX : Blk w4 w3.heap.size 38 #[.int .i64 k, .int .i64 (12 * (q : Int) + H + o)] := Blk.kept (by with_reducible exact Blk.new _ _ _) hb4
                have cX0 := bX.cell 0
                have cX1 := bX.cell 1
                have lX := bX.lt
                clear cQ0 cQ1 fQ0 fQ1 lQ
                have b4 : Blk w4 w.heap.size 38 #[.int .i64 0, .int .i64 0] := Blk.kept (b3.alloc _) hb4
                have cQ0 := b4.cell 0
                have cQ1 := b4.cell 1
                have fQ0 := b4.frozen 0
                have fQ1 := b4.frozen 1
                have lQ := b4.lt
                have kb4 : Below w.heap.size w w4 := below_call (below_alloc kb _) hb4
                go_wp2
                refine ret_of (by simp [results, Tryd.results25, go_sem, cQ0, cQ1]; repeat' (first | rfl | apply And.intro)) rfl ?_
                exact ⟨⟨(((k : Int), 12 * (q : Int) + H + o), 0), HE.out, rfl⟩, by repeat (first | with_reducible exact Below.refl _ _ | with_reducible assumption | with_reducible refine below_drewN ?_ _ | with_reducible refine Below.drew ?_ | with_reducible refine below_alloc ?_ _ | (with_reducible refine Below.setCell ?_ ?_ _; rotate_left; ((try simp only); omega)))⟩
              · have HE := Lib.hid (h2 hnm)
                obtain ⟨ty, hty⟩ : ∃ t, t = nameX ((k : Int), 12 * (q : Int) + halfS (j : Int) + o) := ⟨_, rfl⟩
                rw [← hty] at qc hnm
                have ey := str_ne hnm
                rw [← hH] at qc hh
                clear h2 h3 hnm hty
                go_enter Tryd.func25, Tryd.ntmps25
                go_wp2_with fail
                refine (q1 _).mono ?_
                rintro e w1 ⟨rfl, hb1⟩
                have b1 : Blk w1 w.heap.size 38 #[.int .i64 0, .int .i64 0] := Blk.kept (by with_reducible exact Blk.new _ _ _) hb1
                have cQ0 := b1.cell 0
                have cQ1 := b1.cell 1
                have fQ0 := b1.frozen 0
                have fQ1 := b1.frozen 1
                have lQ := b1.lt
                have kb : Below w.heap.size w w1 := below_call (by repeat (first | with_reducible exact Below.refl _ _ | with_reducible assumption | with_reducible refine below_drewN ?_ _ | with_reducible refine Below.drew ?_ | with_reducible refine below_alloc ?_ _ | (with_reducible refine Below.setCell ?_ ?_ _; rotate_left; ((try simp only); omega)))) hb1
                go_wp2
                refine wp_region_calm (by kernel_rfl) (by kernel_rfl) ?_
                repeat (go_big_quiet_step ((go_at_call 53; exact calm_call (qi _))))
                refine wpQuiet_nil ?_
                intro w2 hb2
                clear cQ0 cQ1 fQ0 fQ1 lQ
                have kb1 := kb
                clear kb
                have b2 : Blk w2 w.heap.size 38 #[.int .i64 0, .int .i64 0] := Blk.kept (by with_reducible exact b1) hb2
                have cQ0 := b2.cell 0
                have cQ1 := b2.cell 1
                have fQ0 := b2.frozen 0
                have fQ1 := b2.frozen 1
                have lQ := b2.lt
                have kb : Below w.heap.size w w2 := below_call kb1 hb2
                go_wp2_with fail
                refine (q2 _).mono ?_
                rintro e w3 ⟨rfl, hb3⟩
                clear cQ0 cQ1 fQ0 fQ1 lQ
                have kb2 := kb
                clear kb
                have b3 : Blk w3 w.heap.size 38 #[.int .i64 0, .int .i64 0] := Blk.kept (by with_reducible exact b2) hb3
                have cQ0 := b3.cell 0
                have cQ1 := b3.cell 1
                have fQ0 := b3.frozen 0
                have fQ1 := b3.frozen 1
                have lQ := b3.lt
                have kb : Below w.heap.size w w3 := below_call kb2 hb3
                have hc2 : w3.cell? ⟨1, j, none⟩ = some (.int .i64 H) := by rw [hH]; exact (kb.cell (p := ⟨_, _, none⟩) hg).trans (ht.tabs.size j hj7)
                have hg2 : 1 < w3.heap.size := Nat.lt_of_lt_of_le hg kb.size
                clear hH
                go_wp2_with fail
                refine (qc _ (ht.kept (below_alloc kb _)).tabs).mono ?_
                rintro e w4 ⟨rfl, hb4⟩
                have bX : Blk w4 w3.heap.size 38 #[.int .i64 k, .int .i64 (12 * (q : Int) + H + o)] := Blk.kept (by with_reducible exact Blk.new _ _ _) hb4
                have cX0 := bX.cell 0
                have cX1 := bX.cell 1
                have lX := bX.lt
                clear cQ0 cQ1 fQ0 fQ1 lQ
                have b4 : Blk w4 w.heap.size 38 #[.int .i64 0, .int .i64 0] := Blk.kept (b3.alloc _) hb4
                have cQ0 := b4.cell 0
                have cQ1 := b4.cell 1
                have fQ0 := b4.frozen 0
                have fQ1 := b4.frozen 1
                have lQ := b4.lt
                have kb4 : Below w.heap.size w w4 := below_call (below_alloc kb _) hb4
                go_wp2
                refine ret_of (by simp [results, Tryd.results25, go_sem, cQ0, cQ1]; repeat' (first | rfl | apply And.intro)) rfl ?_
                exact ⟨⟨((0, 0), 3), HE.out, rfl⟩, by repeat (first | with_reducible exact Below.refl _ _ | with_reducible assumption | with_reducible refine below_drewN ?_ _ | with_reducible refine Below.drew ?_ | with_reducible refine below_alloc ?_ _ | (with_reducible refine Below.setCell ?_ ?_ _; rotate_left; ((try simp only); omega)))⟩
          · have HE := Lib.hid (ParseS.noShape (s := s) (fun c n' h => by
              have h1 := shape_atoi h hs
              rw [hat] at h1
              have h2 := Option.some.inj h1.2
              rw [← h2] at h1
              exact hne h1.1.symm))
            have en : (tx.toList == (s.extract 1 s.size).toList) = false := by
              rw [Lib.toList_data, Lib.toList_data, ht1, htx]; simpa using hne
            clear hat ht1 hs htx hne
            go_enter Tryd.func25, Tryd.ntmps25
            go_wp2_with fail
            refine (q1 _).mono ?_
            rintro e w1 ⟨rfl, hb1⟩
            have b1 : Blk w1 w.heap.size 38 #[.int .i64 0, .int .i64 0] := Blk.kept (by with_reducible exact Blk.new _ _ _) hb1
            have cQ0 := b1.cell 0
            have cQ1 := b1.cell 1
            have fQ0 := b1.frozen 0
            have fQ1 := b1.frozen 1
            have lQ := b1.lt
            have kb : Below w.heap.size w w1 := below_call (by repeat (first | with_reducible exact Below.refl _ _ | with_reducible assumption | with_reducible refine below_drewN ?_ _ | with_reducible refine Below.drew ?_ | with_reducible refine below_alloc ?_ _ | (with_reducible refine Below.setCell ?_ ?_ _; rotate_left; ((try simp only); omega)))) hb1
            go_wp2
            refine wp_region_calm (by kernel_rfl) (by kernel_rfl) ?_
            repeat (go_big_quiet_step ((go_at_call 53; exact calm_call (qi _))))
            refine wpQuiet_nil ?_
            intro w2 hb2
            clear cQ0 cQ1 fQ0 fQ1 lQ
            have kb1 := kb
            clear kb
            have b2 : Blk w2 w.heap.size 38 #[.int .i64 0, .int .i64 0] := Blk.kept (by with_reducible exact b1) hb2
            have cQ0 := b2.cell 0
            have cQ1 := b2.cell 1
            have fQ0 := b2.frozen 0
            have fQ1 := b2.frozen 1
            have lQ := b2.lt
            have kb : Below w.heap.size w w2 := below_call kb1 hb2
            go_wp2
            refine ret_of (by simp [results, Tryd.results25, go_sem, cQ0, cQ1]; repeat' (first | rfl | apply And.intro)) rfl ?_
            exact ⟨⟨((0, 0), 3), HE.out, rfl⟩, by repeat (first | with_reducible exact Below.refl _ _ | with_reducible assumption | with_reducible refine below_drewN ?_ _ | with_reducible refine Below.drew ?_ | with_reducible refine below_alloc ?_ _ | (with_reducible refine Below.setCell ?_ ?_ _; rotate_left; ((try simp only); omega)))⟩
theorem parse_both (s : ByteArray) (hz : s.size ≤ maxLen) : ∃ r, (∀ W, Tabs2 W → Calls Tryd.prog 25 #[.string s] W fun e w' => e = .returned (vIE r) ∧ Below W.heap.size W w') ∧ (∀ W, Calls Tryd.prog 26 #[.string s] W fun e w' => e = .returned (vIE r) ∧ Below W.heap.size W w') := by
  obtain ⟨r, hr⟩ := parse_ex s
  exact ⟨r, fun W ht => (Parse_any s W ht hz).mono fun _ _ ⟨⟨r', h, he⟩, hb⟩ => by rw [he, h.one hr]; exact ⟨rfl, hb⟩, fun W => (rParse_any s W).mono fun _ _ ⟨⟨r', h, he⟩, hb⟩ => by rw [he, h.one hr]; exact ⟨rfl, hb⟩⟩
/-- The program's Parse at a name, and at what is no name. -/
theorem Parse_yes (x : Int × Int) (w : World) (ht : Tabs2 w) (h0 : 0 ≤ x.1) (h1 : x.1 ≤ 62) (hn : nameX x ≠ ⟨#[]⟩) (hz : (nameX x).size ≤ maxLen) :
    Calls Tryd.prog 25 #[.string (nameX x)] w fun e w' => e = .returned (vIE (x, 0)) ∧ Below w.heap.size w w' :=
  (Parse_any (nameX x) w ht hz).mono fun _ _ ⟨⟨r, h, he⟩, hb⟩ => by rw [he, h.yes h0 h1 rfl hn]; exact ⟨rfl, hb⟩
theorem Parse_no (s : ByteArray) (w : World) (ht : Tabs2 w) (hz : s.size ≤ maxLen) (hn : ∀ x : Int × Int, 0 ≤ x.1 → x.1 ≤ 62 → nameX x = s → s = ⟨#[]⟩) :
    Calls Tryd.prog 25 #[.string s] w fun e w' => e = .returned (vIE ((0, 0), 3)) ∧ Below w.heap.size w w' :=
  (Parse_any s w ht hz).mono fun _ _ ⟨⟨r, h, he⟩, hb⟩ => by rw [he, h.no hn]; exact ⟨rfl, hb⟩
end Go.Proofs.YtmbnpblejhlefaaDoor
