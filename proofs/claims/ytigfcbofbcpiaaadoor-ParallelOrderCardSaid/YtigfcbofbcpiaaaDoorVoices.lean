
/- KitE0, KitS, Voice: one text. -/
import Derived.Test.YtigfcbofbcpiaaaDoorEvents
import Derived.Test.YtigfcbofbcpiaaaDoorPlain
import Derived.BigRegion
import Derived.Laws.OwnMore
import Derived.Deep.AppendLies
import Derived.ArgAppend
/- A row of events below a call. -/

namespace Go.Proofs.YtigfcbofbcpiaaaDoor
open Go.RowKit
theorem rdk {w w' : World} {A : Option Addr} {n : Nat} {xs : List Value} (h : Reads w w.heap.size 10 A n xs) (hb : Below w.heap.size w w') : Reads w' w'.heap.size 10 A n xs := (h.below (Nat.le_refl _) hb).more hb.size
theorem Blk.grownV {w w' : World} {g : Nat} {t : TypeId} {cs : Array Value} {row : Option Nat} (h : Blk w g t cs) (hg : w.grownBy w' row) (hne : some g ≠ row) : Blk w' g t cs := (hg.block g h.lt hne).trans h
theorem own_farV {w : World} {base size n : Nat} {e : TypeId} {v u : Value} {xs : List Value} {p : Addr} (h : w.ownsRow base e size v n xs) (hp : p.block < base) : (w.setCell p u).ownsRow base e size v n xs := by
  have hl := h.lt
  obtain ⟨h1, h2⟩ := h
  refine ⟨h1, ?_⟩
  rcases h2 with h2 | ⟨g, cap, cur, h2, h3, h4, h5⟩
  · exact .inl h2
  · refine .inr ⟨g, cap, cur, h2, h3, ?_, h5⟩
    rw [Below.heap_setCell _ _ _ g (by omega)]; exact h4
theorem OwnE.lowerV {w : World} {base base' n c : Nat} {A : Option Addr} {l : List Ev} (h : OwnE w base n A c l) (hb : base' ≤ base) : OwnE w base' n A c l := by
  obtain ⟨⟨h1, h2⟩, h3⟩ := h
  refine ⟨⟨h1, ?_⟩, h3⟩
  rcases h2 with h2 | ⟨g, cap, cur, h2, h4, h5⟩
  · exact .inl h2
  · exact .inr ⟨g, cap, cur, h2, Nat.le_trans hb h4, h5⟩
end Go.Proofs.YtigfcbofbcpiaaaDoor

/- The walks through the kit's small makers: Mod, Zero, Span, Plus, EndOf. -/

namespace Go.Proofs.YtigfcbofbcpiaaaDoor
open Go.RowKit
theorem tmod_neg (a n : Int) (h : 1 ≤ n) (ha : a < 0) : -n < a.tmod n ∧ a.tmod n ≤ 0 ∧ (a.tmod n = 0 → a % n = 0) ∧ (a.tmod n < 0 → a % n = a.tmod n + n) := by
  have h1 := Int.emod_nonneg a (show n ≠ 0 by omega)
  have h2 := Int.emod_lt_of_pos a (show 0 < n by omega)
  have e := Int.tmod_eq_emod (a := a) (b := n)
  by_cases hd : n ∣ a
  · rw [if_pos (.inr hd)] at e
    have := Int.emod_eq_zero_of_dvd hd
    omega
  · rw [if_neg (by rintro (hh | hh); · omega
                   · exact hd hh)] at e
    have : a % n ≠ 0 := fun h0 => hd (Int.dvd_of_emod_eq_zero h0)
    omega
set_option maxHeartbeats 400000 in
theorem mod_any (a n : Int) (w : World) (h : 1 ≤ n) (hn : n ≤ 4611686018427387904) (h0 : -9223372036854775808 ≤ a) (h1 : a ≤ 9223372036854775807) :
    Calls Tryd.prog 33 #[.int .i64 a, .int .i64 n] w fun e w' => e = .returned (.int .i64 (a % n)) ∧ w = w' := by
  by_cases ha : 0 ≤ a
  · have m0 := Int.emod_nonneg a (show n ≠ 0 by omega)
    have m1 := Int.emod_lt_of_pos a (show 0 < n by omega)
    go_enter Tryd.func33, Tryd.ntmps33
    go_wp2
    all_goals
      go_ret
      exact ⟨rfl, rfl⟩
  · obtain ⟨t0, t1, t2, t3⟩ := tmod_neg a n h (by omega)
    have T := Lib.hid (And.intro t2 t3); clear t2 t3
    go_enter Tryd.func33, Tryd.ntmps33
    go_wp2
    all_goals
      go_ret
      refine ⟨ret_int ?_, rfl⟩
      obtain ⟨t2, t3⟩ := T.out
      omega
set_option maxHeartbeats 400000 in
theorem zero_any (w : World) : Calls Tryd.prog 38 #[] w fun e w' => e = .returned (.agg #[.int .i64 0, .int .i64 1]) ∧ Below w.heap.size w w' := by
  go_enter Tryd.func38, Tryd.ntmps38
  go_wp2
  refine ret_of (by simp [results, Tryd.results38, go_sem]; repeat' (first | rfl | apply And.intro)) rfl ⟨rfl, ?_⟩
  repeat (first | exact Below.refl _ _ | refine below_drewN ?_ _ | refine Below.drew ?_ | refine below_alloc ?_ _ | (refine below_call ?_ (by assumption)) | (refine Below.setCell ?_ ?_ _; rotate_left; (simp; try omega)))
theorem part_at (j : Nat) (h : j < 9) : [Value.int .i64 1, .int .i64 1, .int .i64 1, .int .i64 2, .int .i64 2, .int .i64 3, .int .i64 4, .int .i64 6, .int .i64 8][j]? = some (.int .i64 (partS j)) := by
  match j, h with
  | 0, _ | 1, _ | 2, _ | 3, _ | 4, _ | 5, _ | 6, _ | 7, _ | 8, _ => rfl
  | j + 9, h => omega
theorem part_bd (k : Int) : 0 ≤ partS k ∧ partS k ≤ 8 := by
  unfold partS
  generalize k.toNat = j
  match j with
  | 0 | 1 | 2 | 3 | 4 | 5 | 6 | 7 | 8 => decide
  | j + 9 => simp
set_option maxHeartbeats 1000000 in
theorem plus_any (a b : Int × Int) (w : World) (ha : ok a) (hb : ok b) :
    Calls Tryd.prog 39 #[vTm a, vTm b] w fun e w' => e = .returned (vTm (plusS a b)) ∧ Below w.heap.size w w' := by
  obtain ⟨a, a'⟩ := a
  obtain ⟨b, b'⟩ := b
  obtain ⟨a0, a1, a2, a3, _⟩ := ha
  obtain ⟨b0, b1, b2, b3, _⟩ := hb
  simp only at a0 a1 a2 a3 b0 b1 b2 b3
  obtain ⟨m0, m1⟩ := mul_bd a0 (show 0 ≤ b' by omega) a1 b3
  obtain ⟨m2, m3⟩ := mul_bd b0 (show 0 ≤ a' by omega) b1 a3
  obtain ⟨m4, m5⟩ := mul_bd (show 0 ≤ a' by omega) (show 0 ≤ b' by omega) a3 b3
  have E := Lib.hid (show plusS (a, a') (b, b') = tS (a * b' + b * a') (a' * b') from rfl)
  have t0 : Blk (((w.alloc (.cells #[.int .i64 a, .int .i64 a'] 66)).alloc (.cells #[.int .i64 b, .int .i64 b'] 66)).alloc (.cells #[.int .i64 0, .int .i64 0] 66)) (w.heap.size + 1 + 1) 66 #[.int .i64 0, .int .i64 0] := Blk.newAt _ _ _ _ (by simp)
  have k0 : Below w.heap.size w (((w.alloc (.cells #[.int .i64 a, .int .i64 a'] 66)).alloc (.cells #[.int .i64 b, .int .i64 b'] 66)).alloc (.cells #[.int .i64 0, .int .i64 0] 66)) := by repeat (first | exact Below.refl _ _ | refine below_drewN ?_ _ | refine Below.drew ?_ | refine below_alloc ?_ _ | (refine below_call ?_ (by assumption)) | (refine Below.setCell ?_ ?_ _; rotate_left; (simp; try omega)))
  go_enter Tryd.func39, Tryd.ntmps39
  go_wp2_with fail
  refine (t_any _ _ _ (by omega) (by omega) (by omega) (by omega)).mono ?_
  rintro e w1 ⟨rfl, hb1⟩
  have t1 := t0.kept hb1
  have c1 := t1.cell; have z1 := t1.lt; have f1 := t1.frozen
  have k1 := below_call k0 hb1
  go_wp2_with fail
  refine ret_of (by simp [results, Tryd.results39, go_sem, *]; repeat' (first | rfl | apply And.intro)) rfl ⟨?_, by repeat (first | with_reducible exact Below.refl _ _ | with_reducible assumption | with_reducible refine below_drewN ?_ _ | with_reducible refine Below.drew ?_ | with_reducible refine below_alloc ?_ _ | (with_reducible refine Below.setCell ?_ ?_ _; rotate_left; ((try simp only); omega)))⟩
  rw [E.out]
/-- The end of a voice. -/
def endK (l : List Ev) : Int × Int := match l.getLast? with | none => (0, 1) | some x => plusS x.at_ x.dur
theorem plus_of_add {a b t : Int × Int} (h : addS a b = (t.1, t.2, 0)) : ok a ∧ ok b ∧ plusS a b = t := by
  have hb : both a b = 0 := by
    unfold addS at h
    by_cases h1 : both a b = 0
    · exact h1
    · rw [if_pos h1] at h
      simp only [Prod.mk.injEq] at h
      exact absurd h.2.2 h1
  obtain ⟨k1, k2⟩ := both_ok hb
  unfold addS at h
  rw [hb, if_neg (fun h => h rfl)] at h
  have h1 : 0 ≤ a.1 * b.2 := Int.mul_nonneg k1.1 (by have := k2.2.2.1; omega)
  have h2 : 0 ≤ b.1 * a.2 := Int.mul_nonneg k2.1 (by have := k1.2.2.1; omega)
  have h3 : 1 ≤ a.2 * b.2 := by have := Int.mul_le_mul k1.2.2.1 k2.2.2.1 (by omega) (by have := k1.2.2.1; omega); omega
  exact ⟨k1, k2, tS_of (by omega) h3 h⟩
theorem endK_lay {q : Int} (hq : okq q) {l : List (Int × Pay)} (h : fit l) : endK (lay q 0 l) = cq q (sumM l) ∧ ∀ x, (lay q 0 l).getLast? = some x → ok x.at_ ∧ ok x.dur := by
  unfold endK
  cases hx : (lay q 0 l).getLast? with
  | none =>
    have : lay q 0 l = [] := List.getLast?_eq_none_iff.1 hx
    have hl : l = [] := List.eq_nil_of_length_eq_zero (by rw [← lay_len q l 0, this]; rfl)
    subst hl
    exact ⟨by rw [sumM_nil, cq_zero hq.1 hq.2], fun x hx => by cases hx⟩
  | some x =>
    have := lay_last hq l 0 (by omega) h.1 (by have := h.2.1; omega) x hx
    rw [Int.zero_add] at this
    obtain ⟨k1, k2, k3⟩ := plus_of_add this
    exact ⟨k3, fun y hy => by cases hy; exact ⟨k1, k2⟩⟩
set_option maxRecDepth 100000 in
set_option maxHeartbeats 1000000 in
theorem endOf_any (A : Option Addr) (n c : Nat) (l : List Ev) (w : World) (h : Reads w w.heap.size 10 A n (csE l)) (hn : n ≤ 5000) (hok : ∀ x, l.getLast? = some x → ok x.at_ ∧ ok x.dur) :
    Calls Tryd.prog 37 #[.slice A n c] w fun e w' => e = .returned (vTm (endK l)) ∧ Below w.heap.size w w' := by
  have hl := h.evlen
  have r0 : Blk (w.alloc (.cells #[.int .i64 0, .int .i64 0] 66)) w.heap.size 66 #[.int .i64 0, .int .i64 0] := Blk.new _ _ _
  have k0 : Below w.heap.size w (w.alloc (.cells #[.int .i64 0, .int .i64 0] 66)) := by repeat (first | exact Below.refl _ _ | refine below_drewN ?_ _ | refine Below.drew ?_ | refine below_alloc ?_ _ | (refine below_call ?_ (by assumption)) | (refine Below.setCell ?_ ?_ _; rotate_left; (simp; try omega)))
  cases n with
  | zero =>
    have E := Lib.hid (show endK l = (0, 1) by rw [List.eq_nil_of_length_eq_zero hl]; rfl)
    clear hl hok
    go_enter Tryd.func37, Tryd.ntmps37
    go_wp2_with (first | (go_at_call 38; refine (zero_any _).mono ?_; rintro e wn ⟨rfl, hbn⟩; replace rn := Blk.kept (by with_reducible first | exact rn | exact r0 | exact rn.alloc _ | exact r0.alloc _ | exact (rn.alloc _).alloc _ | exact (r0.alloc _).alloc _) hbn; replace en := rn.cell; replace gn := rn.frozen; replace zn := rn.lt; replace kn := below_call (by with_reducible first | exact kn | exact k0 | exact below_alloc kn _ | exact below_alloc k0 _ | exact below_alloc (below_alloc kn _) _ | exact below_alloc (below_alloc k0 _) _) hbn; clear hbn))
    refine ret_of (by simp [results, Tryd.results37, go_sem, *]; repeat' (first | rfl | apply And.intro)) rfl ⟨?_, by repeat (first | with_reducible exact Below.refl _ _ | with_reducible assumption | with_reducible refine below_drewN ?_ _ | with_reducible refine Below.drew ?_ | with_reducible refine below_alloc ?_ _ | (with_reducible refine Below.setCell ?_ ?_ _; rotate_left; ((try simp only); omega)))⟩
    rw [E.out]
  | succ m =>
    obtain ⟨x, hx⟩ := get_some (l := l) (k := m) (by omega)
    have hlast := getLast_at hl hx
    have E := Lib.hid (show endK l = plusS x.at_ x.dur by unfold endK; rw [hlast])
    obtain ⟨ok1, ok2⟩ := hok x hlast
    clear hok hlast hl
    obtain ⟨b, off, rfl, hab, hcl⟩ := h.ev (Nat.le_refl _) (Below.refl _ _) (Nat.lt_succ_self m) hx
    obtain ⟨⟨a, a'⟩, ⟨d, d'⟩, ⟨p, q, r⟩, rst, sg, ps⟩ := x
    obtain ⟨c0, c1, c2, c3, c4, c5, c6, c7, c8, c9⟩ := ten hcl
    clear hcl hx
    simp only at c0 c1 c2 c3 c4 c5 c6 c7 c8 c9 E ok1 ok2
    have hab1 : b < w.heap.size + 1 := by omega
    have hm1 : IntKind.i64.wrap (((m + 1 : Nat) : Int) - 1) = (m : Int) := by rw [IntWalk.i64_in _ (by omega)]; omega
    have hm2 : (m : Int) < ((m + 1 : Nat) : Int) := by omega
    have hm3 : (0 : Int) ≤ (m : Int) := by omega
    have HP := Lib.hid (fun W => plus_any (a, a') (d, d') W ok1 ok2)
    have hne : ((m + 1 : Nat) == 0) = false := by simp
    go_enter Tryd.func37, Tryd.ntmps37
    go_wp2_with fail
    refine wp_region_calm_tail 15 (by kernel_rfl) (by kernel_rfl) ?_
    simp only [List.take_succ_cons, List.take_zero, List.drop_succ_cons, List.drop_zero]
    repeat (go_big_quiet_step ((go_at_call 39; exact calm_call (HP.out _))))
    refine wpQuiet_nil ?_
    intro w2 hb2
    have r2 := r0.kept hb2
    have e2 := r2.cell; have z2 := r2.lt; have f2 := r2.frozen
    have k2 := below_call k0 hb2
    go_wp2
    refine ret_of (by simp [results, Tryd.results37, go_sem, *]; repeat' (first | rfl | apply And.intro)) rfl ⟨?_, by repeat (first | with_reducible exact Below.refl _ _ | with_reducible assumption | with_reducible refine below_drewN ?_ _ | with_reducible refine Below.drew ?_ | with_reducible refine below_alloc ?_ _ | (with_reducible refine Below.setCell ?_ ?_ _; rotate_left; ((try simp only); omega)))⟩
    rw [E.out]
end Go.Proofs.YtigfcbofbcpiaaaDoor

/- The walk through tactuskit.Voice. -/

namespace Go.Proofs.YtigfcbofbcpiaaaDoor
open Go.RowKit
def csI (l : List Int) : List Value := l.flatMap fun n => [.int .i64 n]
theorem voiceZ_append (l m : List Int) : ∀ i, voiceZ i (l ++ m) = voiceZ i l ++ voiceZ (i + l.length) m := by
  induction l with
  | nil => intro i; simp [voiceZ]
  | cons x l ih => intro i; rw [List.cons_append, voiceZ, voiceZ, ih, List.cons_append, List.length_cons]; congr 2; rw [show i + 1 + (l.length : Int) = i + ((l.length + 1 : Nat) : Int) by omega]
theorem dur_cells : ∀ j : Fin 9, (#[.int .i64 1, .int .i64 1, .int .i64 2, .int .i64 1, .int .i64 1, .int .i64 2, .int .i64 3, .int .i64 1, .int .i64 4, .int .i64 1, .int .i64 3, .int .i64 2, .int .i64 6, .int .i64 1, .int .i64 2, .int .i64 3, .int .i64 4, .int .i64 3] : Array Value)[j.val * 2]? = some (.int .i64 (durT (j.val : Int)).1) ∧ (#[.int .i64 1, .int .i64 1, .int .i64 2, .int .i64 1, .int .i64 1, .int .i64 2, .int .i64 3, .int .i64 1, .int .i64 4, .int .i64 1, .int .i64 3, .int .i64 2, .int .i64 6, .int .i64 1, .int .i64 2, .int .i64 3, .int .i64 4, .int .i64 3] : Array Value)[j.val * 2 + 1]? = some (.int .i64 (durT (j.val : Int)).2) := by
  intro j
  match j with
  | 0 | 1 | 2 | 3 | 4 | 5 | 6 | 7 | 8 => exact ⟨rfl, rfl⟩
theorem dur_at {j : Int} (h : 0 ≤ j) (h' : j < 9) : (#[.int .i64 1, .int .i64 1, .int .i64 2, .int .i64 1, .int .i64 1, .int .i64 2, .int .i64 3, .int .i64 1, .int .i64 4, .int .i64 1, .int .i64 3, .int .i64 2, .int .i64 6, .int .i64 1, .int .i64 2, .int .i64 3, .int .i64 4, .int .i64 3] : Array Value)[j.toNat * 2]? = some (.int .i64 (durT j).1) ∧ (#[.int .i64 1, .int .i64 1, .int .i64 2, .int .i64 1, .int .i64 1, .int .i64 2, .int .i64 3, .int .i64 1, .int .i64 4, .int .i64 1, .int .i64 3, .int .i64 2, .int .i64 6, .int .i64 1, .int .i64 2, .int .i64 3, .int .i64 4, .int .i64 3] : Array Value)[j.toNat * 2 + 1]? = some (.int .i64 (durT j).2) := by
  have := dur_cells ⟨j.toNat, by omega⟩
  simp only [show ((j.toNat : Nat) : Int) = j by omega] at this
  exact this
set_option maxRecDepth 100000 in
set_option maxHeartbeats 2000000 in
theorem voice_any (A : Option Addr) (n c : Nat) (l : List Int) (most : Nat) (w : World) (h : Reads w w.heap.size 1 A n (csI l)) (hn : n ≤ 9223372036854775807) (hl : ∀ x ∈ l, -9223372036854775808 ≤ x ∧ x ≤ 9223372036854775807) (hm : most ≤ 60) :
    Calls Tryd.prog 9 #[.slice A n c, .int .i64 most] w fun e w' => ∃ A' c', e = .returned (.slice A' (voiceS most l).length c') ∧ OwnE w' w.heap.size (voiceS most l).length A' c' (voiceS most l) ∧ Below w.heap.size w w' := by
  have hlen : l.length = n := h.len (f := fun n => [Value.int .i64 n]) (fun _ => rfl) (by decide)
  have HL := Lib.hid hlen
  have L := Lib.hid hl; clear hl
  have hlen2 : (voiceS most l).length = min most n := by unfold voiceS; rw [lay_len, voice_len, List.length_take, hlen]
  have HL2 := Lib.hid hlen2; clear hlen hlen2
  have hm' : (most : Int) ≤ 60 := by omega
  obtain ⟨i0, hi0, hz0, hz1, hz2⟩ := info_parts event_info
  have rD : Blk (w.alloc (.cells #[.int .i64 1, .int .i64 1, .int .i64 2, .int .i64 1, .int .i64 1, .int .i64 2, .int .i64 3, .int .i64 1, .int .i64 4, .int .i64 1, .int .i64 3, .int .i64 2, .int .i64 6, .int .i64 1, .int .i64 2, .int .i64 3, .int .i64 4, .int .i64 3] 66)) w.heap.size 66 #[.int .i64 1, .int .i64 1, .int .i64 2, .int .i64 1, .int .i64 1, .int .i64 2, .int .i64 3, .int .i64 1, .int .i64 4, .int .i64 1, .int .i64 3, .int .i64 2, .int .i64 6, .int .i64 1, .int .i64 2, .int .i64 3, .int .i64 4, .int .i64 3] := Blk.new _ _ _
  have k0 : Below w.heap.size w (w.alloc (.cells #[.int .i64 1, .int .i64 1, .int .i64 2, .int .i64 1, .int .i64 1, .int .i64 2, .int .i64 3, .int .i64 1, .int .i64 4, .int .i64 1, .int .i64 3, .int .i64 2, .int .i64 6, .int .i64 1, .int .i64 2, .int .i64 3, .int .i64 4, .int .i64 3] 66)) := by repeat (first | exact Below.refl _ _ | refine below_drewN ?_ _ | refine Below.drew ?_ | refine below_alloc ?_ _ | (refine below_call ?_ (by assumption)) | (refine Below.setCell ?_ ?_ _; rotate_left; (simp; try omega)))
  go_enter Tryd.func9, Tryd.ntmps9
  go_wp2_with fail
  refine (zero_any _).mono ?_
  rintro e w1 ⟨rfl, hb1⟩
  replace rD := rD.kept hb1
  have k1 := below_call k0 hb1
  have z1 := rD.lt
  have s1 := k1.size
  go_wp2_with fail
  go_loopw [6, 8, 9, 10] (fun v i _ _ wr => ∃ k : Nat, k ≤ min most n ∧ i = .int .i64 k ∧ wr.ownsRow (w1.heap.size + 1) 70 10 v k (csE (voiceS k l)) ∧ Below w.heap.size w wr ∧ Blk wr w.heap.size 66 #[.int .i64 1, .int .i64 1, .int .i64 2, .int .i64 1, .int .i64 1, .int .i64 2, .int .i64 3, .int .i64 1, .int .i64 4, .int .i64 1, .int .i64 3, .int .i64 2, .int .i64 6, .int .i64 1, .int .i64 2, .int .i64 3, .int .i64 4, .int .i64 3] ∧ Blk wr w1.heap.size 66 #[.int .i64 (cq 24 (sumM (voiceZ 0 (l.take k)))).1, .int .i64 (cq 24 (sumM (voiceZ 0 (l.take k)))).2]) (fun _ i _ _ _ => most - (intOf i).toNat)
  case atStart => exact ⟨0, by omega, rfl, ⟨rfl, .inl ⟨rfl, rfl⟩⟩, below_alloc k1 _, rD.alloc _, by simpa [voiceZ, sumM_nil, cq_zero (q := 24) (by omega) (by omega)] using Blk.new w1 66 #[.int .i64 0, .int .i64 1]⟩
  case round =>
    clear rD
    obtain ⟨k, hk, rfl, hown, k2, rD, rA⟩ := hrel
    by_cases hlt : k < min most n
    · have hkm : (k : Int) < (most : Int) := by omega
      have hkn : (k : Int) < (n : Int) := by omega
      obtain ⟨x, hx⟩ := get_some (l := l) (k := k) (by have := HL.out; omega)
      have hxb := L.out x (List.mem_of_getElem? hx)
      obtain ⟨b, off, rfl, hab, hcl⟩ := h.elem (f := fun n => [Value.int .i64 n]) (fun _ => rfl) (show k < n by omega) hx
      have c0 := hcl 0 _ rfl
      rw [← k2.cell (by simp; omega)] at c0
      simp only [Nat.add_zero, Nat.mul_one] at c0
      have hab2 : b < wr.heap.size := Nat.lt_of_lt_of_le hab k2.size
      have HT := Lib.hid (take_get hx)
      clear hcl hx
      obtain ⟨A3, c3, rfl, ho3⟩ := ownE_form hown
      have hm0 := Int.emod_nonneg x (show (3969 : Int) ≠ 0 by omega)
      have hm1 := Int.emod_lt_of_pos x (show (0 : Int) < 3969 by omega)
      have HM := Lib.hid (fun W => mod_any x 3969 W (by omega) (by omega) hxb.1 hxb.2)
      obtain ⟨m, hm2⟩ : ∃ m, m = x % 3969 := ⟨_, rfl⟩
      have hmm := HM.out
      rw [← hm2] at hmm hm0 hm1
      have HMM := Lib.hid hmm
      have hone : oneZ (k : Int) x = (d24 (m / 63 % 9), payS k m) := by rw [hm2]; rfl
      have HO := Lib.hid hone
      clear hmm HM hm2 hone hxb
      have hj0 : 0 ≤ m / 63 % 9 := by omega
      have hj1 : m / 63 % 9 < 9 := by omega
      obtain ⟨g1, g2⟩ := dur_at hj0 hj1
      obtain ⟨D1, D2, D3⟩ := dur_24 hj0 hj1
      have d0 : wr.cell? ⟨w.heap.size, (m / 63 % 9).toNat * 2, none⟩ = some (.int .i64 (durT (m / 63 % 9)).1) := (rD.cell _).trans g1
      have d1 : wr.cell? ⟨w.heap.size, (m / 63 % 9).toNat * 2 + 1, none⟩ = some (.int .i64 (durT (m / 63 % 9)).2) := (rD.cell _).trans g2
      rw [D1] at d0 d1
      have hvs : ∀ z ∈ voiceZ 0 (l.take k), small z := voice_small _ 0 (by omega)
      have hvl : (voiceZ 0 (l.take k)).length ≤ 60 := by rw [voice_len, List.length_take]; omega
      have hsum := small_sum _ hvs
      have hsn := sumM_nonneg (small_fit hvs (by omega)).1
      have i1 := inq_of okq24 hsn (show sumM (voiceZ 0 (l.take k)) ≤ 1099511627776 by omega)
      have i2 := inq_of okq24 (show 0 ≤ d24 (m / 63 % 9) by omega) (show d24 (m / 63 % 9) ≤ 1099511627776 by omega)
      have i3 := inq_of okq24 (show 0 ≤ sumM (voiceZ 0 (l.take k)) + d24 (m / 63 % 9) by omega) (by omega)
      have HP := Lib.hid (fun W => plus_any (cq 24 (sumM (voiceZ 0 (l.take k)))) (cq 24 (d24 (m / 63 % 9))) W (cq_ok i1).1 (cq_ok i2).1)
      have HPE := Lib.hid (plus_cq i1 i2 i3)
      have hnext : voiceS (k + 1) l = voiceS k l ++ [(payS k m).ev (cq 24 (sumM (voiceZ 0 (l.take k)))) (cq 24 (d24 (m / 63 % 9)))] := by
        unfold voiceS
        rw [HT.out, voiceZ_append, lay_append, show ((0 : Int) + (l.take k).length) = (k : Int) by rw [List.length_take]; have := HL.out; omega]
        show _ ++ lay 24 (0 + sumM (voiceZ 0 (l.take k))) [oneZ k x] = _
        rw [HO.out, Int.zero_add]
        rfl
      have hsumn : sumM (voiceZ 0 (l.take (k + 1))) = sumM (voiceZ 0 (l.take k)) + d24 (m / 63 % 9) := by
        rw [HT.out, voiceZ_append, sumM_append, show ((0 : Int) + (l.take k).length) = (k : Int) by rw [List.length_take]; have := HL.out; omega]
        show _ + sumM [oneZ k x] = _
        rw [HO.out]
        simp [sumM]
      have HN := Lib.hid hnext; have HS := Lib.hid hsumn
      clear hnext hsumn D1 D2 D3 hvs hvl hsum hsn i1 i2 i3 g1 g2
      have cA := rA.cell; have zA := rA.lt; have fA := rA.frozen
      have zD := rD.lt
      obtain ⟨⟨s, s'⟩, hS⟩ : ∃ z, z = cq 24 (sumM (voiceZ 0 (l.take k))) := ⟨_, rfl⟩
      obtain ⟨⟨dd, dd'⟩, hD⟩ : ∃ z, z = cq 24 (d24 (m / 63 % 9)) := ⟨_, rfl⟩
      have hpe := HPE.out
      have hn2 := HN.out
      have hp2 := HP.out
      rw [← hS] at hn2 hpe hp2 cA rA
      rw [← hD] at hn2 hpe hp2 d0 d1
      rw [hpe] at hp2
      have HP2 := Lib.hid hp2; have HN2 := Lib.hid hn2
      clear hp2 hn2 hpe hS hD HPE HN HP
      simp only at cA d0 d1
      have zA1 : w1.heap.size < wr.heap.size + 1 := by omega
      go_wp2_with (go_at_call 33; refine (HMM.out _).mono ?_; rintro e wm ⟨rfl, rfl⟩)
      go_region
      have hnA : w1.heap.size ≠ wr.heap.size := by omega
      have hbase : some w1.heap.size ≠ (Value.slice A3 k c3).ownBlock := fun e => by have := (hown.lt _ e.symm).1; omega
      have hbaseD : some w.heap.size ≠ (Value.slice A3 k c3).ownBlock := fun e => by have := (hown.lt _ e.symm).1; omega
      have hbaseX : some wr.heap.size ≠ (Value.slice A3 k c3).ownBlock := fun e => by have := (hown.lt _ e.symm).2; omega
      have K : Below wr.heap.size wr ((wr.alloc (.cells #[.int .i64 s, .int .i64 s', .int .i64 dd, .int .i64 dd', .int .i64 0, .int .i64 0, .int .i64 0, .bool false, .int .i64 k, .int .i64 (m / 567 % 2)] 70)).drew) := by repeat (first | with_reducible exact Below.refl _ _ | with_reducible assumption | with_reducible refine below_drewN ?_ _ | with_reducible refine Below.drew ?_ | with_reducible refine below_alloc ?_ _ | (with_reducible refine Below.setCell ?_ ?_ _; rotate_left; ((try simp only); omega)))
      have rX : Blk ((wr.alloc (.cells #[.int .i64 s, .int .i64 s', .int .i64 dd, .int .i64 dd', .int .i64 0, .int .i64 0, .int .i64 0, .bool false, .int .i64 k, .int .i64 (m / 567 % 2)] 70)).drew) wr.heap.size 70 #[.int .i64 s, .int .i64 s', .int .i64 dd, .int .i64 dd', .int .i64 0, .int .i64 0, .int .i64 0, .bool false, .int .i64 k, .int .i64 (m / 567 % 2)] := (Blk.new _ _ _).drew
      have rA5 : Blk ((wr.alloc (.cells #[.int .i64 s, .int .i64 s', .int .i64 dd, .int .i64 dd', .int .i64 0, .int .i64 0, .int .i64 0, .bool false, .int .i64 k, .int .i64 (m / 567 % 2)] 70)).drew) w1.heap.size 66 #[.int .i64 s, .int .i64 s'] := (rA.alloc _).drew
      generalize (wr.alloc (.cells #[.int .i64 s, .int .i64 s', .int .i64 dd, .int .i64 dd', .int .i64 0, .int .i64 0, .int .i64 0, .bool false, .int .i64 k, .int .i64 (m / 567 % 2)] 70)).drew = wv at K rX rA5 ⊢
      have rD0 := rD
      have zAr := rA.lt
      clear rD cA zA fA d0 d1 c0 zA1 rA
      have rA := rA5; clear rA5
      have cA := rA.cell; have zA := rA.lt; have fA := rA.frozen
      have cX := rX.cell; have zX := rX.lt; have fX := rX.frozen
      have nAX : w1.heap.size ≠ wr.heap.size := by omega
      have nXA : wr.heap.size ≠ w1.heap.size := by omega
      have nDA : w.heap.size ≠ w1.heap.size := by omega
      have nDX : w.heap.size ≠ wr.heap.size := by omega
      have zX1 : wr.heap.size < wv.heap.size + 1 := by omega
      by_cases h6 : m / 567 = 6
      · skip
        have hn3 := HN2.out
        rw [show payS k m = ⟨(0, 0, 0), true, k, m / 567 % 2⟩ by unfold payS; rw [if_pos h6]] at hn3
        have HN3 := Lib.hid hn3
        have hb6 : (m / 567 == 6) = true := by simpa using h6
        clear hn3 h6 HN2
        have KS : Below wr.heap.size wr (((wv.setCell ⟨wr.heap.size, 7, none⟩ (.bool true))).alloc (.cells #[.int .i64 s, .int .i64 s', .int .i64 dd, .int .i64 dd', .int .i64 0, .int .i64 0, .int .i64 0, .bool true, .int .i64 k, .int .i64 (m / 567 % 2)] 70)) := by repeat (first | with_reducible exact Below.refl _ _ | with_reducible assumption | with_reducible refine below_drewN ?_ _ | with_reducible refine Below.drew ?_ | with_reducible refine below_alloc ?_ _ | (with_reducible refine Below.setCell ?_ ?_ _; rotate_left; ((try simp only); omega)))
        have rXS : Blk (wv.setCell ⟨wr.heap.size, 7, none⟩ (.bool true)) wr.heap.size 70 #[.int .i64 s, .int .i64 s', .int .i64 dd, .int .i64 dd', .int .i64 0, .int .i64 0, .int .i64 0, .bool true, .int .i64 k, .int .i64 (m / 567 % 2)] := by repeat (first | with_reducible exact rX | with_reducible exact Blk.new _ _ _ | (with_reducible refine Blk.newAt _ _ _ _ ?_; first | rfl | (simp; done)) | with_reducible apply Blk.alloc | with_reducible apply Blk.drewN | with_reducible apply Blk.drew | with_reducible apply Blk.set_to | (with_reducible apply Blk.far_; (simp only [ne_eq]; omega)) | rfl)
        have rAS : Blk (wv.setCell ⟨wr.heap.size, 7, none⟩ (.bool true)) w1.heap.size 66 #[.int .i64 s, .int .i64 s'] := by repeat (first | with_reducible exact rA | with_reducible exact Blk.new _ _ _ | (with_reducible refine Blk.newAt _ _ _ _ ?_; first | rfl | (simp; done)) | with_reducible apply Blk.alloc | with_reducible apply Blk.drewN | with_reducible apply Blk.drew | with_reducible apply Blk.set_to | (with_reducible apply Blk.far_; (simp only [ne_eq]; omega)) | rfl)
        have hwv : Hid (wv.heap.size = ((wv.setCell ⟨wr.heap.size, 7, none⟩ (.bool true))).heap.size) := Lib.hid (by simp [World.setCell])
        have hownS := own_call hown KS
        repeat ((fail_if_success at_builtin); go_step)
        refine wpList_append_any _ rfl (.tmp 66) (.tmp 68) 23 rfl (w1.heap.size + 1) 70 i0 _ 10 80 Tryd.underlying23 hi0 hz0 hz1 hz2 rfl (by omega) (.slice A3 k c3) k (csE (voiceS k l)) rfl hownS (wv.heap.size + 1) (some ⟨wv.heap.size, 0, none⟩) 1 1 (csE [⟨(s, s'), (dd, dd'), (0, 0, 0), true, k, m / 567 % 2⟩]) rfl (Reads.newAt _ _ _ 1 10 _ hwv.out rfl) (one_csE _) (by simp only [maxLen]; omega) (by omega) (by have := KS.size; omega) ?_
        intro v6 w6 hown6 hg6 hat6
        have r6 := Blk.grownV (rXS.alloc _) hg6 hbaseX
        have a6 := Blk.grownV (rAS.alloc _) hg6 hbase
        have D6 := Blk.grownV (rD0.kept KS) hg6 hbaseD
        have c6 := r6.cell
        have e6 := a6.cell
        have y6 := r6.lt
        have z6 := a6.lt
        go_wp2_with fail
        have K6 : Below w.heap.size w w6 := (below_call k2 KS).grown hg6 (by have := KS.size; omega) (fun j hj => by have := (hown.lt j hj).1; omega)
        rw [← csE_append, show voiceS k l ++ [(⟨(s, s'), (dd, dd'), (0, 0, 0), true, k, m / 567 % 2⟩ : Ev)] = voiceS (k + 1) l from HN3.out.symm] at hown6
        refine (HP2.out _).mono ?_
        rintro e w7 ⟨rfl, hb7⟩
        have a7 := a6.kept hb7; have D7 := D6.kept hb7
        have c7 := a7.cell; have z7 := a7.lt; have f7 := a7.frozen
        have K7 := below_call K6 hb7
        have hown7 := own_call hown6 hb7
        go_wp2_with fail
        go_roundw
        case rel =>
          refine ⟨k + 1, by omega, by go_num, own_farV (own_farV hown7 (by simp)) (by simp), by repeat (first | with_reducible exact Below.refl _ _ | with_reducible assumption | with_reducible refine below_drewN ?_ _ | with_reducible refine Below.drew ?_ | with_reducible refine below_alloc ?_ _ | (with_reducible refine Below.setCell ?_ ?_ _; rotate_left; ((try simp only); omega))), ?_, ?_⟩
          · repeat (first | with_reducible exact D7 | with_reducible exact Blk.new _ _ _ | (with_reducible refine Blk.newAt _ _ _ _ ?_; first | rfl | (simp; done)) | with_reducible apply Blk.alloc | with_reducible apply Blk.drewN | with_reducible apply Blk.drew | with_reducible apply Blk.set_to | (with_reducible apply Blk.far_; (simp only [ne_eq]; omega)) | rfl)
          · rw [HS.out]
            repeat (first | with_reducible exact a7 | with_reducible exact Blk.new _ _ _ | (with_reducible refine Blk.newAt _ _ _ _ ?_; first | rfl | (simp; done)) | with_reducible apply Blk.alloc | with_reducible apply Blk.drewN | with_reducible apply Blk.drew | with_reducible apply Blk.set_to | (with_reducible apply Blk.far_; (simp only [ne_eq]; omega)) | rfl)
        case measure => simp [intOf]; omega
      · skip
        have hn3 := HN2.out
        rw [show payS k m = ⟨(m % 7, 3 + m / 7 % 3, m / 21 % 3 - 1), false, k, m / 567 % 2⟩ by unfold payS; rw [if_neg h6]] at hn3
        have HN3 := Lib.hid hn3
        have hb6 : (m / 567 == 6) = false := by simpa using h6
        clear hn3 h6 HN2
        have KS : Below wr.heap.size wr (((((wv.setCell ⟨wr.heap.size, 4, none⟩ (.int .i64 (m % 7))).setCell ⟨wr.heap.size, 5, none⟩ (.int .i64 (3 + m / 7 % 3))).setCell ⟨wr.heap.size, 6, none⟩ (.int .i64 (m / 21 % 3 - 1)))).alloc (.cells #[.int .i64 s, .int .i64 s', .int .i64 dd, .int .i64 dd', .int .i64 (m % 7), .int .i64 (3 + m / 7 % 3), .int .i64 (m / 21 % 3 - 1), .bool false, .int .i64 k, .int .i64 (m / 567 % 2)] 70)) := by repeat (first | with_reducible exact Below.refl _ _ | with_reducible assumption | with_reducible refine below_drewN ?_ _ | with_reducible refine Below.drew ?_ | with_reducible refine below_alloc ?_ _ | (with_reducible refine Below.setCell ?_ ?_ _; rotate_left; ((try simp only); omega)))
        have rXS : Blk (((wv.setCell ⟨wr.heap.size, 4, none⟩ (.int .i64 (m % 7))).setCell ⟨wr.heap.size, 5, none⟩ (.int .i64 (3 + m / 7 % 3))).setCell ⟨wr.heap.size, 6, none⟩ (.int .i64 (m / 21 % 3 - 1))) wr.heap.size 70 #[.int .i64 s, .int .i64 s', .int .i64 dd, .int .i64 dd', .int .i64 (m % 7), .int .i64 (3 + m / 7 % 3), .int .i64 (m / 21 % 3 - 1), .bool false, .int .i64 k, .int .i64 (m / 567 % 2)] := by repeat (first | with_reducible exact rX | with_reducible exact Blk.new _ _ _ | (with_reducible refine Blk.newAt _ _ _ _ ?_; first | rfl | (simp; done)) | with_reducible apply Blk.alloc | with_reducible apply Blk.drewN | with_reducible apply Blk.drew | with_reducible apply Blk.set_to | (with_reducible apply Blk.far_; (simp only [ne_eq]; omega)) | rfl)
        have rAS : Blk (((wv.setCell ⟨wr.heap.size, 4, none⟩ (.int .i64 (m % 7))).setCell ⟨wr.heap.size, 5, none⟩ (.int .i64 (3 + m / 7 % 3))).setCell ⟨wr.heap.size, 6, none⟩ (.int .i64 (m / 21 % 3 - 1))) w1.heap.size 66 #[.int .i64 s, .int .i64 s'] := by repeat (first | with_reducible exact rA | with_reducible exact Blk.new _ _ _ | (with_reducible refine Blk.newAt _ _ _ _ ?_; first | rfl | (simp; done)) | with_reducible apply Blk.alloc | with_reducible apply Blk.drewN | with_reducible apply Blk.drew | with_reducible apply Blk.set_to | (with_reducible apply Blk.far_; (simp only [ne_eq]; omega)) | rfl)
        have hwv : Hid (wv.heap.size = ((((wv.setCell ⟨wr.heap.size, 4, none⟩ (.int .i64 (m % 7))).setCell ⟨wr.heap.size, 5, none⟩ (.int .i64 (3 + m / 7 % 3))).setCell ⟨wr.heap.size, 6, none⟩ (.int .i64 (m / 21 % 3 - 1)))).heap.size) := Lib.hid (by simp [World.setCell])
        have hownS := own_call hown KS
        repeat ((fail_if_success at_builtin); go_step)
        refine wpList_append_any _ rfl (.tmp 66) (.tmp 68) 23 rfl (w1.heap.size + 1) 70 i0 _ 10 80 Tryd.underlying23 hi0 hz0 hz1 hz2 rfl (by omega) (.slice A3 k c3) k (csE (voiceS k l)) rfl hownS (wv.heap.size + 1) (some ⟨wv.heap.size, 0, none⟩) 1 1 (csE [⟨(s, s'), (dd, dd'), (m % 7, 3 + m / 7 % 3, m / 21 % 3 - 1), false, k, m / 567 % 2⟩]) rfl (Reads.newAt _ _ _ 1 10 _ hwv.out rfl) (one_csE _) (by simp only [maxLen]; omega) (by omega) (by have := KS.size; omega) ?_
        intro v6 w6 hown6 hg6 hat6
        have r6 := Blk.grownV (rXS.alloc _) hg6 hbaseX
        have a6 := Blk.grownV (rAS.alloc _) hg6 hbase
        have D6 := Blk.grownV (rD0.kept KS) hg6 hbaseD
        have c6 := r6.cell
        have e6 := a6.cell
        have y6 := r6.lt
        have z6 := a6.lt
        go_wp2_with fail
        have K6 : Below w.heap.size w w6 := (below_call k2 KS).grown hg6 (by have := KS.size; omega) (fun j hj => by have := (hown.lt j hj).1; omega)
        rw [← csE_append, show voiceS k l ++ [(⟨(s, s'), (dd, dd'), (m % 7, 3 + m / 7 % 3, m / 21 % 3 - 1), false, k, m / 567 % 2⟩ : Ev)] = voiceS (k + 1) l from HN3.out.symm] at hown6
        refine (HP2.out _).mono ?_
        rintro e w7 ⟨rfl, hb7⟩
        have a7 := a6.kept hb7; have D7 := D6.kept hb7
        have c7 := a7.cell; have z7 := a7.lt; have f7 := a7.frozen
        have K7 := below_call K6 hb7
        have hown7 := own_call hown6 hb7
        go_wp2_with fail
        go_roundw
        case rel =>
          refine ⟨k + 1, by omega, by go_num, own_farV (own_farV hown7 (by simp)) (by simp), by repeat (first | with_reducible exact Below.refl _ _ | with_reducible assumption | with_reducible refine below_drewN ?_ _ | with_reducible refine Below.drew ?_ | with_reducible refine below_alloc ?_ _ | (with_reducible refine Below.setCell ?_ ?_ _; rotate_left; ((try simp only); omega))), ?_, ?_⟩
          · repeat (first | with_reducible exact D7 | with_reducible exact Blk.new _ _ _ | (with_reducible refine Blk.newAt _ _ _ _ ?_; first | rfl | (simp; done)) | with_reducible apply Blk.alloc | with_reducible apply Blk.drewN | with_reducible apply Blk.drew | with_reducible apply Blk.set_to | (with_reducible apply Blk.far_; (simp only [ne_eq]; omega)) | rfl)
          · rw [HS.out]
            repeat (first | with_reducible exact a7 | with_reducible exact Blk.new _ _ _ | (with_reducible refine Blk.newAt _ _ _ _ ?_; first | rfl | (simp; done)) | with_reducible apply Blk.alloc | with_reducible apply Blk.drewN | with_reducible apply Blk.drew | with_reducible apply Blk.set_to | (with_reducible apply Blk.far_; (simp only [ne_eq]; omega)) | rfl)
        case measure => simp [intOf]; omega
    · obtain ⟨A3, c3, rfl, ho3⟩ := ownE_form hown
      have hkk : k = min most n := by omega
      have hts : voiceS k l = voiceS most l := by
        unfold voiceS
        rw [hkk]
        have := HL.out
        congr 2
        rcases Nat.le_total most n with h1 | h1
        · rw [Nat.min_eq_left h1]
        · rw [Nat.min_eq_right h1, List.take_of_length_le (by omega), List.take_of_length_le (by omega)]
      rw [hts] at ho3
      have e2 := HL2.out
      rw [← hkk] at e2
      by_cases hkm : k < most
      · have hkm' : (k : Int) < (most : Int) := by omega
        have hkn : k = n := by omega
        clear hkk e2
        subst hkn
        have e3 : (voiceS most l).length = k := by rw [HL2.out]; omega
        have E3 := Lib.hid e3; clear e3
        go_wp2
        go_ret
        rw [E3.out]
        exact ⟨_, _, rfl, ho3.lowerV (by omega), k2⟩
      · have hkm' : (most : Int) ≤ (k : Int) := by omega
        have E3 := Lib.hid e2; clear e2 hkk
        go_wp2
        all_goals
          go_ret
          rw [E3.out]
          exact ⟨_, _, rfl, ho3.lowerV (by omega), k2⟩
end Go.Proofs.YtigfcbofbcpiaaaDoor

