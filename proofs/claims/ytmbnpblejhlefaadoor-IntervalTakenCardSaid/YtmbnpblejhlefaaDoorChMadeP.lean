/- The walks through the makers of pitches and chords out of numbers: Mod, made, list. -/
import Derived.Test.YtmbnpblejhlefaaDoorChAwake
namespace Go.Proofs.YtmbnpblejhlefaaDoor
open Go.RowKit
theorem tmod_neg (a n : Int) (h : 1 ≤ n) (ha : a < 0) : -n < a.tmod n ∧ a.tmod n ≤ 0 ∧ (a.tmod n = 0 → a % n = 0) ∧ (a.tmod n < 0 → a % n = a.tmod n + n) := by
  have h1 := Int.emod_nonneg a (show n ≠ 0 by omega)
  have h2 := Int.emod_lt_of_pos a (show 0 < n by omega)
  have e := Int.tmod_eq_emod (a := a) (b := n)
  by_cases hd : n ∣ a
  · rw [if_pos (.inr hd)] at e
    have := Int.emod_eq_zero_of_dvd hd
    omega
  · rw [if_neg (by rintro (hh | hh); · omega
                   · exact hd hh)] at e
    have : a % n ≠ 0 := fun h0 => hd (Int.dvd_of_emod_eq_zero h0)
    omega
set_option maxHeartbeats 400000 in
theorem mod_any (a n : Int) (w : World) (h : 1 ≤ n) (hn : n ≤ 4611686018427387904) (h0 : -9223372036854775808 ≤ a) (h1 : a ≤ 9223372036854775807) :
    Calls Tryd.prog 36 #[.int .i64 a, .int .i64 n] w fun e w' => e = .returned (.int .i64 (a % n)) ∧ w = w' := by
  by_cases ha : 0 ≤ a
  · have m0 := Int.emod_nonneg a (show n ≠ 0 by omega)
    have m1 := Int.emod_lt_of_pos a (show 0 < n by omega)
    go_enter Tryd.func36, Tryd.ntmps36
    go_wp2
    all_goals
      go_ret
      exact ⟨rfl, rfl⟩
  · obtain ⟨t0, t1, t2, t3⟩ := tmod_neg a n h (by omega)
    have T := Lib.hid (And.intro t2 t3); clear t2 t3
    go_enter Tryd.func36, Tryd.ntmps36
    go_wp2
    all_goals
      go_ret
      refine ⟨ret_int ?_, rfl⟩
      obtain ⟨t2, t3⟩ := T.out
      omega
def altM (j : Int) : Int := if j = 3 then -1 else if j = 4 then 1 else 0
/-- The pitch that a number makes. -/
def madeP (a : Int) : Int × Int × Int := ((7 + a % 245 / 5) % 7, (7 + a % 245 / 5) / 7, altM (a % 245 % 5))
theorem alt_at (j : Nat) (h : j < 5) : [Value.int .i64 0, .int .i64 0, .int .i64 0, .int .i64 (-1), .int .i64 1][j]? = some (.int .i64 (altM j)) := by
  match j, h with
  | 0, _ | 1, _ | 2, _ | 3, _ | 4, _ => rfl
  | j + 5, h => omega
theorem altM_bd (j : Int) : -1 ≤ altM j ∧ altM j ≤ 1 := by unfold altM; (repeat' split) <;> omega
theorem madeP_bd (a : Int) : 0 ≤ (madeP a).1 ∧ (madeP a).1 ≤ 6 ∧ 1 ≤ (madeP a).2.1 ∧ (madeP a).2.1 ≤ 7 ∧ -1 ≤ (madeP a).2.2 ∧ (madeP a).2.2 ≤ 1 := by
  have := altM_bd (a % 245 % 5)
  unfold madeP; simp only; omega
theorem madeP_ok (a : Int) : pchk (madeP a) = 0 := by
  have := madeP_bd a
  unfold pchk; rw [if_neg (by omega)]
set_option maxRecDepth 100000 in
set_option maxHeartbeats 1000000 in
theorem made_any (a : Int) (w : World) (h0 : -9223372036854775808 ≤ a) (h1 : a ≤ 9223372036854775807) :
    Calls Tryd.prog 33 #[.int .i64 a] w fun e w' => e = .returned (vP (madeP a)) ∧ Below w.heap.size w w' := by
  have q1 := fun W => mod_any a 245 W (by omega) (by omega) h0 h1
  have E := Lib.hid (show madeP a = ((7 + a % 245 / 5) % 7, (7 + a % 245 / 5) / 7, altM (a % 245 % 5)) from rfl)
  obtain ⟨m, hm⟩ : ∃ m, m = a % 245 := ⟨_, rfl⟩
  rw [← hm] at q1 E
  have m0 : 0 ≤ m ∧ m ≤ 244 := by omega
  have hp := alt_at (m % 5).toNat (by omega)
  rw [show (((m % 5).toNat : Nat) : Int) = m % 5 by omega] at hp
  have q2 := fun W => lpitch_any (7 + m / 5) (altM (m % 5)) W (by omega) (by omega)
  have hb := altM_bd (m % 5)
  obtain ⟨al, hal⟩ : ∃ t, t = altM (m % 5) := ⟨_, rfl⟩
  rw [← hal] at q2 hp E hb
  clear hm hal
  go_enter Tryd.func33, Tryd.ntmps33
  go_wp2_with (go_at_call 36; refine (q1 _).mono ?_; rintro e w1 ⟨rfl, rfl⟩)
  go_wp2_with fail
  refine (q2 _).mono ?_
  rintro e w1 ⟨rfl, hb1⟩
  have BR1 : Blk w1 (w.heap.size) 36 #[.int .i64 0, .int .i64 0, .int .i64 0] := by
    refine Blk.kept ?_ hb1
    repeat (first | with_reducible exact Blk.new _ _ _ | (with_reducible refine Blk.newAt _ _ _ _ ?_; first | rfl | (simp; done)) | with_reducible apply Blk.alloc | with_reducible apply Blk.drewN | with_reducible apply Blk.drew | with_reducible apply Blk.set_to | (with_reducible apply Blk.far_; (simp only [ne_eq]; omega)) | rfl)
  have cR0_1 : w1.cell? ⟨w.heap.size, 0, none⟩ = some (.int .i64 0) := BR1.cell 0
  have cR1_1 : w1.cell? ⟨w.heap.size, 1, none⟩ = some (.int .i64 0) := BR1.cell 1
  have cR2_1 : w1.cell? ⟨w.heap.size, 2, none⟩ = some (.int .i64 0) := BR1.cell 2
  have lR1 : w.heap.size < w1.heap.size := BR1.lt
  have mR1 : w.heap.size < w1.heap.size + 1 := by omega
  have nR1 : w.heap.size < w1.heap.size + 1 + 1 := by omega
  have fR0_1 := BR1.frozen 0
  have fR1_1 := BR1.frozen 1
  have fR2_1 := BR1.frozen 2
  have hs1 : w.heap.size ≤ w1.heap.size := by have h := hb1.size; (try simp at h); omega
  go_wp2_with fail
  refine ret_of (by simp [results, Tryd.results33, go_sem, *]; repeat' (first | rfl | apply And.intro)) rfl ⟨?_, ?_⟩
  · rw [E.out]; simp
  · repeat (first | exact Below.refl _ _ | refine below_drewN ?_ _ | refine Below.drew ?_ | refine below_alloc ?_ _ | (refine below_call ?_ (by assumption)) | (refine Below.setCell ?_ ?_ _; rotate_left; (simp; try omega)))
/-- The chord that numbers make. -/
def listP (l : List Int) : List (Int × Int × Int) := (l.take 7).map madeP
theorem listP_len (l : List Int) : (listP l).length ≤ 7 := by unfold listP; rw [List.length_map, List.length_take]; omega
theorem listP_ok (l : List Int) : ∀ p ∈ listP l, pchk p = 0 := fun p hp => by
  unfold listP at hp
  obtain ⟨a, _, rfl⟩ := List.mem_map.1 hp
  exact madeP_ok a
set_option maxRecDepth 100000 in
set_option maxHeartbeats 1000000 in
theorem list_any (A : Option Addr) (n c : Nat) (l : List Int) (B : Nat) (w : World) (h : Reads w B 1 A n (csI l)) (hB : B ≤ w.heap.size) (hn : n ≤ 9223372036854775807) (hv : ∀ x ∈ l, -9223372036854775808 ≤ x ∧ x ≤ 9223372036854775807) :
    Calls Tryd.prog 35 #[.slice A n c] w fun e w' => ∃ A' c', e = .returned (.slice A' (listP l).length c') ∧ Own3 36 w' w.heap.size (listP l).length A' c' (listP l) ∧ Below w.heap.size w w' := by
  have HL : Hid (l.length = n) := Lib.hid (h.len (size := 1) (l := l) (f := fun n => [Value.int .i64 n]) (fun _ => rfl) (by decide))
  obtain ⟨i0, hi0, hz0, hz1, hz2⟩ := info_parts pitch_info
  go_enter Tryd.func35, Tryd.ntmps35
  go_wp2
  go_loopw [3, 4] (fun v i wr => ∃ k : Nat, k ≤ n ∧ k ≤ 7 ∧ i = .int .i64 k ∧ wr.ownsRow w.heap.size 36 3 v k (csP ((l.take k).map madeP)) ∧ Below w.heap.size w wr) (fun _ i _ => n - (intOf i).toNat)
  case atStart => exact ⟨0, by omega, by omega, rfl, ⟨rfl, .inl ⟨rfl, rfl⟩⟩, Below.refl _ _⟩
  case round =>
    obtain ⟨k, hk, hk7, rfl, hown, k0⟩ := hrel
    by_cases hlt : k < n ∧ k < 7
    · obtain ⟨hkn, hk8⟩ := hlt
      have d1 : decide (k < n) = true := by simp; omega
      have d2 : decide ((k : Int) < 7) = true := by simp; omega
      have hlt' : (k : Int) < (n : Int) := by omega
      obtain ⟨x, hx⟩ := get_some (l := l) (k := k) (by have := HL.out; omega)
      have px := hv x (List.mem_of_getElem? hx)
      obtain ⟨b, off, hA, hbB, hc⟩ := h.elem (f := fun n => [Value.int .i64 n]) (fun _ => rfl) hkn hx
      subst hA
      have hab : b < wr.heap.size := by have := k0.size; omega
      have c0 : wr.cell? ⟨b, off + k, none⟩ = some (.int .i64 x) := by
        rw [k0.cell (by simp; omega)]
        have := hc 0 _ rfl
        simpa using this
      have HT := Lib.hid (show (l.take (k + 1)).map madeP = (l.take k).map madeP ++ [madeP x] by rw [take_get hx, List.map_append]; rfl)
      have q1 := fun W => made_any x W px.1 px.2
      obtain ⟨y, hy⟩ : ∃ y, y = madeP x := ⟨_, rfl⟩
      rw [← hy] at q1 HT
      obtain ⟨y0, y1, y2⟩ := y
      clear hc hx hy
      go_wp2_with fail
      refine (q1 _).mono ?_
      rintro e w1 ⟨rfl, hb1⟩
      have own1 := own_call hown hb1
      have k1 := below_call k0 hb1
      go_wp2_with (at_builtin; (refine wpList_append_any _ rfl (.tmp 15) (.tmp 21) 22 rfl w.heap.size 36 i0 _ 3 24 Tryd.underlying22 hi0 hz0 hz1 hz2 rfl (by omega) _ k (csP ((l.take k).map madeP)) rfl (own_call own1 (below_alloc (Below.refl _ _) _)) (w1.heap.size + 1) (some ⟨w1.heap.size, 0, none⟩) 1 1 (csP [(y0, y1, y2)]) rfl (Reads.newAt _ _ _ 1 3 _ rfl rfl) (one_csP _) (by simp only [maxLen]; omega) (by omega) (by have := k1.size; simp; omega) ?_); intro v1 w3 hown3 hg3 hat3)
      go_roundw
      case rel => exact ⟨k + 1, by omega, by omega, by go_num, by rw [HT.out, csP_append]; exact hown3, Below.grown (B := w.heap.size) (a := w) (below_alloc k1 _) hg3 (by have := k1.size; simp; omega) (fun q hq => (own1.lt q hq).1)⟩
      case measure => simp [intOf]; omega
    · have hd : (decide (k < n) = false) ∨ (decide (k < n) = true ∧ decide ((k : Int) < 7) = false) := by
        by_cases h1 : k < n
        · exact .inr ⟨by simp; omega, by simp; omega⟩
        · exact .inl (by simp; omega)
      have HT := Lib.hid (show (l.take k).map madeP = listP l ∧ (listP l).length = k by
        have hL := HL.out
        unfold listP
        by_cases h1 : k < n
        · have : k = 7 := by omega
          subst this
          exact ⟨rfl, by rw [List.length_map, List.length_take]; omega⟩
        · rw [List.take_of_length_le (by omega), List.take_of_length_le (by omega)]
          exact ⟨rfl, by rw [List.length_map]; omega⟩)
      clear hlt
      rw [HT.out.1] at hown
      rcases hd with d1 | ⟨d1, d2⟩
      all_goals
        go_wp2
        go_ret
        rw [← HT.out.2] at hown
        obtain ⟨A', c', rfl, ho⟩ := own3_form hown
        exact ⟨A', c', rfl, ho, k0⟩
end Go.Proofs.YtmbnpblejhlefaaDoor
