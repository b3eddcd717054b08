
/- KitE0, KitS, Voice: one text. -/
import Derived.Test.YtmlcnmnpkemdpaaDoorChPitch
import Derived.Test.YtmlcnmnpkemdpaaDoorEvents
import Derived.Test.YtmlcnmnpkemdpaaDoorPlain
import Derived.BigRegion
import Derived.Laws.OwnMore
import Derived.Deep.AppendLies
import Derived.ArgAppend
/- A row of events below a call. -/

namespace Go.Proofs.YtmlcnmnpkemdpaaDoor
open Go.RowKit
theorem rdk {w w' : World} {A : Option Addr} {n : Nat} {xs : List Value} (h : Reads w w.heap.size 10 A n xs) (hb : Below w.heap.size w w') : Reads w' w'.heap.size 10 A n xs := (h.below (Nat.le_refl _) hb).more hb.size
theorem Blk.grownV {w w' : World} {g : Nat} {t : TypeId} {cs : Array Value} {row : Option Nat} (h : Blk w g t cs) (hg : w.grownBy w' row) (hne : some g ≠ row) : Blk w' g t cs := (hg.block g h.lt hne).trans h
theorem own_farV {w : World} {base size n : Nat} {e : TypeId} {v u : Value} {xs : List Value} {p : Addr} (h : w.ownsRow base e size v n xs) (hp : p.block < base) : (w.setCell p u).ownsRow base e size v n xs := by
  have hl := h.lt
  obtain ⟨h1, h2⟩ := h
  refine ⟨h1, ?_⟩
  rcases h2 with h2 | ⟨g, cap, cur, h2, h3, h4, h5⟩
  · exact .inl h2
  · refine .inr ⟨g, cap, cur, h2, h3, ?_, h5⟩
    rw [Below.heap_setCell _ _ _ g (by omega)]; exact h4
theorem OwnE.lowerV {w : World} {base base' n c : Nat} {A : Option Addr} {l : List Ev} (h : OwnE w base n A c l) (hb : base' ≤ base) : OwnE w base' n A c l := by
  obtain ⟨⟨h1, h2⟩, h3⟩ := h
  refine ⟨⟨h1, ?_⟩, h3⟩
  rcases h2 with h2 | ⟨g, cap, cur, h2, h4, h5⟩
  · exact .inl h2
  · exact .inr ⟨g, cap, cur, h2, Nat.le_trans hb h4, h5⟩
end Go.Proofs.YtmlcnmnpkemdpaaDoor

/- The walks through the kit's small makers: Mod, Zero, Span, Plus, EndOf. -/

namespace Go.Proofs.YtmlcnmnpkemdpaaDoor
open Go.RowKit
theorem tmod_neg (a n : Int) (h : 1 ≤ n) (ha : a < 0) : -n < a.tmod n ∧ a.tmod n ≤ 0 ∧ (a.tmod n = 0 → a % n = 0) ∧ (a.tmod n < 0 → a % n = a.tmod n + n) := by
  have h1 := Int.emod_nonneg a (show n ≠ 0 by omega)
  have h2 := Int.emod_lt_of_pos a (show 0 < n by omega)
  have e := Int.tmod_eq_emod (a := a) (b := n)
  by_cases hd : n ∣ a
  · rw [if_pos (.inr hd)] at e
    have := Int.emod_eq_zero_of_dvd hd
    omega
  · rw [if_neg (by rintro (hh | hh); · omega
                   · exact hd hh)] at e
    have : a % n ≠ 0 := fun h0 => hd (Int.dvd_of_emod_eq_zero h0)
    omega
set_option maxHeartbeats 400000 in
theorem mod_any (a n : Int) (w : World) (h : 1 ≤ n) (hn : n ≤ 4611686018427387904) (h0 : -9223372036854775808 ≤ a) (h1 : a ≤ 9223372036854775807) :
    Calls Tryd.prog 22 #[.int .i64 a, .int .i64 n] w fun e w' => e = .returned (.int .i64 (a % n)) ∧ w = w' := by
  by_cases ha : 0 ≤ a
  · have m0 := Int.emod_nonneg a (show n ≠ 0 by omega)
    have m1 := Int.emod_lt_of_pos a (show 0 < n by omega)
    go_enter Tryd.func22, Tryd.ntmps22
    go_wp2
    all_goals
      go_ret
      exact ⟨rfl, rfl⟩
  · obtain ⟨t0, t1, t2, t3⟩ := tmod_neg a n h (by omega)
    have T := Lib.hid (And.intro t2 t3); clear t2 t3
    go_enter Tryd.func22, Tryd.ntmps22
    go_wp2
    all_goals
      go_ret
      refine ⟨ret_int ?_, rfl⟩
      obtain ⟨t2, t3⟩ := T.out
      omega
set_option maxHeartbeats 400000 in
theorem zero_any (w : World) : Calls Tryd.prog 28 #[] w fun e w' => e = .returned (.agg #[.int .i64 0, .int .i64 1]) ∧ Below w.heap.size w w' := by
  go_enter Tryd.func28, Tryd.ntmps28
  go_wp2
  refine ret_of (by simp [results, Tryd.results28, go_sem]; repeat' (first | rfl | apply And.intro)) rfl ⟨rfl, ?_⟩
  repeat (first | exact Below.refl _ _ | refine below_drewN ?_ _ | refine Below.drew ?_ | refine below_alloc ?_ _ | (refine below_call ?_ (by assumption)) | (refine Below.setCell ?_ ?_ _; rotate_left; (simp; try omega)))
theorem part_at (j : Nat) (h : j < 9) : [Value.int .i64 1, .int .i64 1, .int .i64 1, .int .i64 2, .int .i64 2, .int .i64 3, .int .i64 4, .int .i64 6, .int .i64 8][j]? = some (.int .i64 (partS j)) := by
  match j, h with
  | 0, _ | 1, _ | 2, _ | 3, _ | 4, _ | 5, _ | 6, _ | 7, _ | 8, _ => rfl
  | j + 9, h => omega
theorem part_bd (k : Int) : 0 ≤ partS k ∧ partS k ≤ 8 := by
  unfold partS
  generalize k.toNat = j
  match j with
  | 0 | 1 | 2 | 3 | 4 | 5 | 6 | 7 | 8 => decide
  | j + 9 => simp
/-- The end of a voice. -/
def endK (l : List Ev) : Int × Int := match l.getLast? with | none => (0, 1) | some x => plusS x.at_ x.dur
theorem plus_of_add {a b t : Int × Int} (h : addS a b = (t.1, t.2, 0)) : ok a ∧ ok b ∧ plusS a b = t := by
  have hb : both a b = 0 := by
    unfold addS at h
    by_cases h1 : both a b = 0
    · exact h1
    · rw [if_pos h1] at h
      simp only [Prod.mk.injEq] at h
      exact absurd h.2.2 h1
  obtain ⟨k1, k2⟩ := both_ok hb
  unfold addS at h
  rw [hb, if_neg (fun h => h rfl)] at h
  have h1 : 0 ≤ a.1 * b.2 := Int.mul_nonneg k1.1 (by have := k2.2.2.1; omega)
  have h2 : 0 ≤ b.1 * a.2 := Int.mul_nonneg k2.1 (by have := k1.2.2.1; omega)
  have h3 : 1 ≤ a.2 * b.2 := by have := Int.mul_le_mul k1.2.2.1 k2.2.2.1 (by omega) (by have := k1.2.2.1; omega); omega
  exact ⟨k1, k2, tS_of (by omega) h3 h⟩
theorem endK_lay {q : Int} (hq : okq q) {l : List (Int × Pay)} (h : fit l) : endK (lay q 0 l) = cq q (sumM l) ∧ ∀ x, (lay q 0 l).getLast? = some x → ok x.at_ ∧ ok x.dur := by
  unfold endK
  cases hx : (lay q 0 l).getLast? with
  | none =>
    have : lay q 0 l = [] := List.getLast?_eq_none_iff.1 hx
    have hl : l = [] := List.eq_nil_of_length_eq_zero (by rw [← lay_len q l 0, this]; rfl)
    subst hl
    exact ⟨by rw [sumM_nil, cq_zero hq.1 hq.2], fun x hx => by cases hx⟩
  | some x =>
    have := lay_last hq l 0 (by omega) h.1 (by have := h.2.1; omega) x hx
    rw [Int.zero_add] at this
    obtain ⟨k1, k2, k3⟩ := plus_of_add this
    exact ⟨k3, fun y hy => by cases hy; exact ⟨k1, k2⟩⟩
end Go.Proofs.YtmlcnmnpkemdpaaDoor

/- The walk through tactuskit.Voice. -/

namespace Go.Proofs.YtmlcnmnpkemdpaaDoor
open Go.RowKit
theorem voiceZ_append (l m : List Int) : ∀ i, voiceZ i (l ++ m) = voiceZ i l ++ voiceZ (i + l.length) m := by
  induction l with
  | nil => intro i; simp [voiceZ]
  | cons x l ih => intro i; rw [List.cons_append, voiceZ, voiceZ, ih, List.cons_append, List.length_cons]; congr 2; rw [show i + 1 + (l.length : Int) = i + ((l.length + 1 : Nat) : Int) by omega]
theorem dur_cells : ∀ j : Fin 9, (#[.int .i64 1, .int .i64 1, .int .i64 2, .int .i64 1, .int .i64 1, .int .i64 2, .int .i64 3, .int .i64 1, .int .i64 4, .int .i64 1, .int .i64 3, .int .i64 2, .int .i64 6, .int .i64 1, .int .i64 2, .int .i64 3, .int .i64 4, .int .i64 3] : Array Value)[j.val * 2]? = some (.int .i64 (durT (j.val : Int)).1) ∧ (#[.int .i64 1, .int .i64 1, .int .i64 2, .int .i64 1, .int .i64 1, .int .i64 2, .int .i64 3, .int .i64 1, .int .i64 4, .int .i64 1, .int .i64 3, .int .i64 2, .int .i64 6, .int .i64 1, .int .i64 2, .int .i64 3, .int .i64 4, .int .i64 3] : Array Value)[j.val * 2 + 1]? = some (.int .i64 (durT (j.val : Int)).2) := by
  intro j
  match j with
  | 0 | 1 | 2 | 3 | 4 | 5 | 6 | 7 | 8 => exact ⟨rfl, rfl⟩
theorem dur_at {j : Int} (h : 0 ≤ j) (h' : j < 9) : (#[.int .i64 1, .int .i64 1, .int .i64 2, .int .i64 1, .int .i64 1, .int .i64 2, .int .i64 3, .int .i64 1, .int .i64 4, .int .i64 1, .int .i64 3, .int .i64 2, .int .i64 6, .int .i64 1, .int .i64 2, .int .i64 3, .int .i64 4, .int .i64 3] : Array Value)[j.toNat * 2]? = some (.int .i64 (durT j).1) ∧ (#[.int .i64 1, .int .i64 1, .int .i64 2, .int .i64 1, .int .i64 1, .int .i64 2, .int .i64 3, .int .i64 1, .int .i64 4, .int .i64 1, .int .i64 3, .int .i64 2, .int .i64 6, .int .i64 1, .int .i64 2, .int .i64 3, .int .i64 4, .int .i64 3] : Array Value)[j.toNat * 2 + 1]? = some (.int .i64 (durT j).2) := by
  have := dur_cells ⟨j.toNat, by omega⟩
  simp only [show ((j.toNat : Nat) : Int) = j by omega] at this
  exact this
end Go.Proofs.YtmlcnmnpkemdpaaDoor

