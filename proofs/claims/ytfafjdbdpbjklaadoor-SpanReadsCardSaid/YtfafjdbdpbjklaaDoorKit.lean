/- The walks through the small makers of tactuskit: Mod, Zero, Span; and tactuslaw01.fails. -/
import Derived.Test.YtfafjdbdpbjklaaDoorSpanC
import Derived.Test.YtfafjdbdpbjklaaDoorParse
import Derived.Test.YtfafjdbdpbjklaaDoorBackMath
namespace Go.Proofs.YtfafjdbdpbjklaaDoor
open Go.RowKit
theorem Blk.newAt (w : World) (t : TypeId) (cs : Array Value) (g : Nat) (hg : g = w.heap.size) : Blk (w.alloc (.cells cs t)) g t cs := by subst hg; exact Blk.new w t cs
theorem Blk.set_to {w : World} {g : Nat} {t : TypeId} {cs cs' : Array Value} {i : Nat} {u : Value} (h : Blk w g t cs) (e : cs.setIfInBounds i u = cs') : Blk (w.setCell ⟨g, i, none⟩ u) g t cs' := e ▸ h.set_ i u
/-- A block in the world that a frame speaks of. -/
theorem blk_at {B : Nat} {wx W : World} {g : Nat} {t : TypeId} {cs : Array Value} (_ : Below B wx W) (h : Blk W g t cs) : Blk W g t cs := h
theorem pick_block {p : Prop} {wv : World} {lo : Nat} {t : TypeId} (g0 : Nat) (cs : Array Value) (hg : lo ≤ g0) (hB : Blk wv g0 t cs) (k : ∀ g, g = g0 → lo ≤ g → Blk wv g t cs → p) : p := k g0 rfl hg hB
theorem name_world {B : Nat} {wx W : World} (_ : Below B wx W) : ∃ wv, wv = W := ⟨_, rfl⟩
theorem Blk.far_ {w : World} {g : Nat} {t : TypeId} {cs : Array Value} {p : Addr} {u : Value} (hp : g ≠ p.block) (h : Blk w g t cs) : Blk (w.setCell p u) g t cs := h.far hp u

theorem tmod_neg (a n : Int) (h : 1 ≤ n) (ha : a < 0) : -n < a.tmod n ∧ a.tmod n ≤ 0 ∧ (a.tmod n = 0 → a % n = 0) ∧ (a.tmod n < 0 → a % n = a.tmod n + n) := by
  have h1 := Int.emod_nonneg a (show n ≠ 0 by omega)
  have h2 := Int.emod_lt_of_pos a (show 0 < n by omega)
  have e := Int.tmod_eq_emod (a := a) (b := n)
  by_cases hd : n ∣ a
  · rw [if_pos (.inr hd)] at e
    have := Int.emod_eq_zero_of_dvd hd
    omega
  · rw [if_neg (by rintro (hh | hh); · omega
                   · exact hd hh)] at e
    have : a % n ≠ 0 := fun h0 => hd (Int.dvd_of_emod_eq_zero h0)
    omega
set_option maxHeartbeats 400000 in
theorem mod_any (a n : Int) (w : World) (h : 1 ≤ n) (hn : n ≤ 4611686018427387904) (h0 : -9223372036854775808 ≤ a) (h1 : a ≤ 9223372036854775807) :
    Calls Tryd.prog 43 #[.int .i64 a, .int .i64 n] w fun e w' => e = .returned (.int .i64 (a % n)) ∧ w = w' := by
  by_cases ha : 0 ≤ a
  · have m0 := Int.emod_nonneg a (show n ≠ 0 by omega)
    have m1 := Int.emod_lt_of_pos a (show 0 < n by omega)
    go_enter Tryd.func43, Tryd.ntmps43
    go_wp2
    all_goals
      go_ret
      exact ⟨rfl, rfl⟩
  · obtain ⟨t0, t1, t2, t3⟩ := tmod_neg a n h (by omega)
    have T := Lib.hid (And.intro t2 t3); clear t2 t3
    go_enter Tryd.func43, Tryd.ntmps43
    go_wp2
    all_goals
      go_ret
      refine ⟨ret_int ?_, rfl⟩
      obtain ⟨t2, t3⟩ := T.out
      omega
set_option maxHeartbeats 400000 in
theorem zero_any (w : World) : Calls Tryd.prog 39 #[] w fun e w' => e = .returned (.agg #[.int .i64 0, .int .i64 1]) ∧ Below w.heap.size w w' := by
  go_enter Tryd.func39, Tryd.ntmps39
  go_wp2
  refine ret_of (by simp [results, Tryd.results39, go_sem]; repeat' (first | rfl | apply And.intro)) rfl ⟨rfl, ?_⟩
  repeat (first | exact Below.refl _ _ | refine below_drewN ?_ _ | refine Below.drew ?_ | refine below_alloc ?_ _ | (refine below_call ?_ (by assumption)) | (refine Below.setCell ?_ ?_ _; rotate_left; (simp; try omega)))
theorem part_at (j : Nat) (h : j < 9) : [Value.int .i64 1, .int .i64 1, .int .i64 1, .int .i64 2, .int .i64 2, .int .i64 3, .int .i64 4, .int .i64 6, .int .i64 8][j]? = some (.int .i64 (partS j)) := by
  match j, h with
  | 0, _ | 1, _ | 2, _ | 3, _ | 4, _ | 5, _ | 6, _ | 7, _ | 8, _ => rfl
  | j + 9, h => omega
theorem part_bd (k : Int) : 0 ≤ partS k ∧ partS k ≤ 8 := by
  unfold partS
  generalize k.toNat = j
  match j with
  | 0 | 1 | 2 | 3 | 4 | 5 | 6 | 7 | 8 => decide
  | j + 9 => simp
set_option maxHeartbeats 400000 in
theorem kitSpan_any (n : Int) (w : World) (h0 : -9223372036854775808 ≤ n) (h1 : n ≤ 9223372036854775807) :
    Calls Tryd.prog 41 #[.int .i64 n] w fun e w' => e = .returned (.agg #[.int .i64 (spS n).1, .int .i64 (spS n).2]) ∧ Below w.heap.size w w' := by
  have m0 := Int.emod_nonneg n (show (216 : Int) ≠ 0 by omega)
  have m1 := Int.emod_lt_of_pos n (show (0 : Int) < 216 by omega)
  have hp := part_at (n % 9).toNat (by omega)
  rw [show (((n % 9).toNat : Nat) : Int) = n % 9 by omega] at hp
  have hb := part_bd (n % 9)
  have e9 : n % 216 % 9 = n % 9 := by omega
  have E9 := Lib.hid e9; clear e9
  go_enter Tryd.func41, Tryd.ntmps41
  go_wp2_with (go_at_call 43; refine (mod_any _ _ _ (by omega) (by omega) (by omega) (by omega)).mono ?_; rintro e w1 ⟨rfl, rfl⟩)
  go_wp2_with fail
  refine (t_any _ _ _ (by omega) (by omega) (by omega) (by omega)).mono ?_
  rintro e w1 ⟨rfl, hb1⟩
  have BR1 : Blk w1 (w.heap.size) 23 #[.int .i64 0, .int .i64 0] := by
    refine Blk.kept ?_ hb1
    repeat (first | with_reducible exact Blk.new _ _ _ | (with_reducible refine Blk.newAt _ _ _ _ ?_; first | rfl | (simp; done)) | with_reducible apply Blk.alloc | with_reducible apply Blk.drewN | with_reducible apply Blk.drew | with_reducible apply Blk.set_to | (with_reducible apply Blk.far_; (simp only [ne_eq]; omega)) | rfl)
  have cR0_1 : w1.cell? ⟨w.heap.size, 0, none⟩ = some (.int .i64 0) := BR1.cell 0
  have cR1_1 : w1.cell? ⟨w.heap.size, 1, none⟩ = some (.int .i64 0) := BR1.cell 1
  have lR1 : w.heap.size < w1.heap.size := BR1.lt
  have mR1 : w.heap.size < w1.heap.size + 1 := by omega
  have nR1 : w.heap.size < w1.heap.size + 1 + 1 := by omega
  have fR0_1 := BR1.frozen 0
  have fR1_1 := BR1.frozen 1
  have hs1 : w.heap.size ≤ w1.heap.size := by have h := hb1.size; (try simp at h); omega
  go_wp2_with fail
  refine ret_of (by simp [results, Tryd.results41, go_sem, *]; repeat' (first | rfl | apply And.intro)) rfl ⟨?_, ?_⟩
  · unfold spS; rw [E9.out]
  · repeat (first | exact Below.refl _ _ | refine below_drewN ?_ _ | refine Below.drew ?_ | refine below_alloc ?_ _ | (refine below_call ?_ (by assumption)) | (refine Below.setCell ?_ ?_ _; rotate_left; (simp; try omega)))
set_option maxHeartbeats 400000 in
theorem fails_any (s : ByteArray) (w : World) (hs : (s.size : Int) ≤ 9223372036854775806) (h : parS s.data.toList = (0, 0, 3)) :
    Calls Tryd.prog 40 #[.string s] w fun e w' => e = .returned (.bool true) ∧ Below w.heap.size w w' := by
  have H := Lib.hid h; clear h
  go_enter Tryd.func40, Tryd.ntmps40
  go_wp2_with fail
  refine (parse_any s _ hs).mono ?_
  rintro e w1 ⟨rfl, hb1⟩
  rw [H.out]
  have hs1 : w.heap.size ≤ w1.heap.size := by have h := hb1.size; (try simp at h); omega
  go_wp2_with fail
  go_ret
  refine ⟨rfl, ?_⟩
  repeat (first | exact Below.refl _ _ | refine below_drewN ?_ _ | refine Below.drew ?_ | refine below_alloc ?_ _ | (refine below_call ?_ (by assumption)) | (refine Below.setCell ?_ ?_ _; rotate_left; (simp; try omega)))
end Go.Proofs.YtfafjdbdpbjklaaDoor
