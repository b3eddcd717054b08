/- The chain of events, the reference's walk. -/
import Derived.Test.YtiphacmmglohaaaEvLists
namespace Go.Proofs.Ytiphacmmglohaaa
open Go.RowKit
/-- What is chained so far, and what follows. -/
def chainAt (done : List Ev) (now : Int × Int) (l : List Ev) : List Ev × Int := if (chainFrom now l).2 ≠ 0 then ([], (chainFrom now l).2) else (done ++ (chainFrom now l).1, 0)
theorem chainFrom_err (now : Int × Int) (l : List Ev) (h : (chainFrom now l).2 ≠ 0) : (chainFrom now l).1 = [] := by
  cases l with
  | nil => rfl
  | cons x l =>
    rw [chainFrom] at h ⊢
    split
    · rfl
    · rename_i h1
      rw [if_neg h1] at h
      split
      · rfl
      · rename_i h2; rw [if_neg h2] at h; exact absurd rfl h
theorem chainAt_nil (now : Int × Int) (l : List Ev) : chainAt [] now l = chainFrom now l := by
  unfold chainAt
  split
  · rename_i h; rw [← chainFrom_err now l h]
  · rename_i h
    have h2 : (chainFrom now l).2 = 0 := Decidable.byContradiction h
    rw [List.nil_append, ← h2]
theorem chainAt_end (done : List Ev) (now : Int × Int) : chainAt done now [] = (done, 0) := by simp [chainAt, chainFrom]
theorem chainAt_bad (done : List Ev) (now : Int × Int) (x : Ev) (l : List Ev) (h : (addS now x.dur).2.2 ≠ 0) : chainAt done now (x :: l) = ([], (addS now x.dur).2.2) := by
  unfold chainAt
  rw [chainFrom, if_pos h, if_pos h]
theorem chainAt_ok (done : List Ev) (now : Int × Int) (x : Ev) (l : List Ev) (h : (addS now x.dur).2.2 = 0) : chainAt done now (x :: l) = chainAt (done ++ [{ x with at_ := now }]) ((addS now x.dur).1, (addS now x.dur).2.1) l := by
  unfold chainAt
  rw [chainFrom, if_neg (show ¬ ((addS now x.dur).2.2 ≠ 0) from fun hn => hn h)]
  generalize chainFrom ((addS now x.dur).1, (addS now x.dur).2.1) l = z
  obtain ⟨r, e⟩ := z
  by_cases h2 : e = 0
  · subst h2; simp
  · simp [h2]
theorem Blk.grown_ {w w' : World} {g : Nat} {t : TypeId} {cs : Array Value} {row : Option Nat} (h : Blk w g t cs) (hg : w.grownBy w' row) (hne : some g ≠ row) : Blk w' g t cs := (hg.block g h.lt hne).trans h
theorem own_far {w : World} {base size n : Nat} {e : TypeId} {v u : Value} {xs : List Value} {p : Addr} (h : w.ownsRow base e size v n xs) (hp : p.block < base) : (w.setCell p u).ownsRow base e size v n xs := by
  have hl := h.lt
  obtain ⟨h1, h2⟩ := h
  refine ⟨h1, ?_⟩
  rcases h2 with h2 | ⟨g, cap, cur, h2, h3, h4, h5⟩
  · exact .inl h2
  · refine .inr ⟨g, cap, cur, h2, h3, ?_, h5⟩
    rw [Below.heap_setCell _ _ _ g (by omega)]; exact h4
theorem OwnE.lower {w : World} {base base' n c : Nat} {A : Option Addr} {l : List Ev} (h : OwnE w base n A c l) (hb : base' ≤ base) : OwnE w base' n A c l := by
  obtain ⟨⟨h1, h2⟩, h3⟩ := h
  refine ⟨⟨h1, ?_⟩, h3⟩
  rcases h2 with h2 | ⟨g, cap, cur, h2, h4, h5⟩
  · exact .inl h2
  · exact .inr ⟨g, cap, cur, h2, Nat.le_trans hb h4, h5⟩
theorem OwnE.nil_ (w : World) (base : Nat) : OwnE w base 0 none 0 [] := ⟨⟨rfl, .inl ⟨rfl, rfl⟩⟩, Reads.none_, Nat.le_refl _⟩
set_option maxRecDepth 100000 in
set_option maxHeartbeats 1000000 in
theorem chain_any (A : Option Addr) (n c : Nat) (l : List Ev) (B : Nat) (w : World) (h : Reads w B 10 A n (csE l)) (hB : B ≤ w.heap.size) (hn : n ≤ 5000) :
    Calls Try.prog 44 #[.slice A n c] w fun e w' => ∃ A' c', e = .returned (.tuple #[.slice A' (chainS l).1.length c', .int .i64 (chainS l).2]) ∧ OwnE w' w.heap.size (chainS l).1.length A' c' (chainS l).1 ∧ Below w.heap.size w w' := by
  have hl := h.evlen
  have HL := Lib.hid hl; clear hl
  obtain ⟨i0, hi0, hz0, hz1, hz2⟩ := info_parts event_info
  go_enter Try.func44, Try.ntmps44
  go_wp2
  go_loopw [4, 6, 7, 8, 9] (fun v i _ _ _ wr => ∃ (k : Nat) (t t' : Int) (done : List Ev), k ≤ n ∧ i = .int .i64 k ∧ done.length = k ∧ Hid (chainAt done (t, t') (l.drop k) = chainS l) ∧ wr.ownsRow (w.heap.size + 1) 59 10 v k (csE done) ∧ Below w.heap.size w wr ∧ Blk wr w.heap.size 24 #[.int .i64 t, .int .i64 t']) (fun _ i _ _ _ _ => n - (intOf i).toNat)
  case atStart => exact ⟨0, 0, 1, [], by omega, rfl, rfl, Lib.hid (chainAt_nil _ _), ⟨rfl, .inl ⟨rfl, rfl⟩⟩, by repeat (first | exact Below.refl _ _ | refine below_drewN ?_ _ | refine Below.drew ?_ | refine below_alloc ?_ _ | (refine below_call ?_ (by assumption)) | (refine Below.setCell ?_ ?_ _; rotate_left; (simp; try omega))), Blk.new _ _ _⟩
  case round =>
    obtain ⟨k, t, t', done, hk, rfl, hdn, hs, hown, k0, r0⟩ := hrel
    have en := r0.cell; have gn := r0.frozen; have zn := r0.lt
    by_cases hlt : k < n
    · have hlt' : (k : Int) < (n : Int) := by omega
      obtain ⟨x, hx⟩ := get_some (l := l) (k := k) (by have := HL.out; omega)
      have HD := Lib.hid (drop_get hx)
      obtain ⟨b, off, rfl, hab, hc⟩ := h.ev hB k0 hlt hx
      obtain ⟨⟨a, a'⟩, ⟨d, d'⟩, ⟨p, q, r⟩, rst, sg, ps⟩ := x
      obtain ⟨c0, c1, c2, c3, c4, c5, c6, c7, c8, c9⟩ := ten hc
      clear hc hx
      simp only at c0 c1 c2 c3 c4 c5 c6 c7 c8 c9
      have e0 : wr.cell? ⟨w.heap.size, 0, none⟩ = some (.int .i64 t) := en 0
      have e1 : wr.cell? ⟨w.heap.size, 1, none⟩ = some (.int .i64 t') := en 1
      obtain ⟨A', c', rfl, ho⟩ := ownE_form hown
      have n0 : some w.heap.size ≠ (Value.slice A' k c').ownBlock := fun e => by have := (hown.lt _ e.symm).1; omega
      have n1 : some wr.heap.size ≠ (Value.slice A' k c').ownBlock := fun e => by have := (hown.lt _ e.symm).2; omega
      go_wp2_with (first | (at_builtin; (refine wpList_append_any _ rfl (.tmp 23) (.tmp 25) 22 rfl (w.heap.size + 1) 59 i0 _ 10 80 Try.underlying22 hi0 hz0 hz1 hz2 rfl (by omega) (.slice A' k c') k (csE done) rfl (own_call hown (by repeat (first | exact Below.refl _ _ | refine below_drewN ?_ _ | refine Below.drew ?_ | refine below_alloc ?_ _ | (refine below_call ?_ (by assumption)) | (refine Below.setCell ?_ ?_ _; rotate_left; (simp; try omega))))) (wr.heap.size + 1 + 1) (some ⟨wr.heap.size + 1, 0, none⟩) 1 1 (csE [⟨(t, t'), (d, d'), (p, q, r), rst, sg, ps⟩]) rfl (Reads.newAt _ _ _ 1 10 _ (by simp) rfl) (one_csE _) (by simp only [maxLen]; omega) (by omega) (by simp; omega) ?_); intro v1 w1 hown1 hg1 hat1; have r1 := Blk.grown_ (w' := w1) (g := w.heap.size) (t := 24) (cs := #[.int .i64 t, .int .i64 t']) (by repeat (first | with_reducible exact r0 | with_reducible exact Blk.new _ _ _ | (with_reducible refine Blk.newAt _ _ _ _ ?_; first | rfl | (simp; done)) | with_reducible apply Blk.alloc | with_reducible apply Blk.drewN | with_reducible apply Blk.drew | with_reducible apply Blk.set_to | (with_reducible apply Blk.far_; (simp only [ne_eq]; omega)) | rfl)) hg1 n0; have s1 := Blk.grown_ (w' := w1) (g := wr.heap.size) (t := 59) (cs := #[.int .i64 t, .int .i64 t', .int .i64 d, .int .i64 d', .int .i64 p, .int .i64 q, .int .i64 r, .bool rst, .int .i64 sg, .int .i64 ps]) (by repeat (first | with_reducible exact r0 | with_reducible exact Blk.new _ _ _ | (with_reducible refine Blk.newAt _ _ _ _ ?_; first | rfl | (simp; done)) | with_reducible apply Blk.alloc | with_reducible apply Blk.drewN | with_reducible apply Blk.drew | with_reducible apply Blk.set_to | (with_reducible apply Blk.far_; (simp only [ne_eq]; omega)) | rfl)) hg1 n1; have k1 : Below w.heap.size w w1 := Below.grown (B := w.heap.size) (a := w) (by repeat (first | exact Below.refl _ _ | assumption | refine below_drewN ?_ _ | refine Below.drew ?_ | refine below_alloc ?_ _ | (refine below_call ?_ (by assumption)) | (refine Below.setCell ?_ ?_ _; rotate_left; (simp; try omega)))) hg1 (by simp; omega) (fun j hj => by have := (hown.lt j hj).1; omega); have en1 := r1.cell; have gn1 := r1.frozen; have zn1 := r1.lt; have fn1 := s1.cell; have hn1 := s1.frozen; have yn1 := s1.lt) | (go_at_call 52; refine (refAdd_any (t, t') (d, d') _).mono ?_; rintro e w2 ⟨rfl, hb2⟩; have r2 := r1.kept hb2; have k2 := below_call k1 hb2; have hown2 := own_call hown1 hb2; have en2 := r2.cell; have gn2 := r2.frozen; have zn2 := r2.lt))
      · go_ret2
        have h0 : ((addS (t, t') (d, d')).2.2 != 0) = true := by assumption
        have hr := hs.out
        rw [HD.out, chainAt_bad _ _ _ _ (by simpa using h0)] at hr
        rw [← hr]
        exact ⟨none, 0, rfl, OwnE.nil_ _ _, by repeat (first | exact Below.refl _ _ | assumption | refine below_drewN ?_ _ | refine Below.drew ?_ | refine below_alloc ?_ _ | (refine below_call ?_ (by assumption)) | (refine Below.setCell ?_ ?_ _; rotate_left; (simp; try omega)))⟩
      · go_roundw
        case rel =>
          refine ⟨k + 1, (addS (t, t') (d, d')).1, (addS (t, t') (d, d')).2.1, done ++ [⟨(t, t'), (d, d'), (p, q, r), rst, sg, ps⟩], by omega, by go_num, by simp [hdn], ?_, ?_, by repeat (first | exact Below.refl _ _ | assumption | refine below_drewN ?_ _ | refine Below.drew ?_ | refine below_alloc ?_ _ | (refine below_call ?_ (by assumption)) | (refine Below.setCell ?_ ?_ _; rotate_left; (simp; try omega))), ?_⟩
          · have hr := hs.out
            have h0 : ((addS (t, t') (d, d')).2.2 != 0) = false := by assumption
            rw [HD.out, chainAt_ok _ _ _ _ (by simpa using h0)] at hr
            exact Lib.hid hr
          · rw [csE_append]
            exact own_call (own_far (own_far hown2 (by simp)) (by simp)) (below_alloc (Below.refl _ _) _)
          · repeat (first | with_reducible exact r2 | with_reducible exact Blk.new _ _ _ | (with_reducible refine Blk.newAt _ _ _ _ ?_; first | rfl | (simp; done)) | with_reducible apply Blk.alloc | with_reducible apply Blk.drewN | with_reducible apply Blk.drew | with_reducible apply Blk.set_to | (with_reducible apply Blk.far_; (simp only [ne_eq]; omega)) | rfl)
        case measure => simp [intOf]; omega
    · obtain ⟨A', c', rfl, ho⟩ := ownE_form hown
      go_wp2
      go_ret2
      have hr := hs.out
      rw [List.drop_eq_nil_of_le (by have := HL.out; omega), chainAt_end] at hr
      rw [← hr]
      subst hdn
      exact ⟨A', c', rfl, ho.lower (by omega), k0⟩
end Go.Proofs.Ytiphacmmglohaaa
