
/- Motions by the reference: pitch, number, moves, perfect, motion. -/
import Derived.Test.YtigfcbofbcpiaaaDoorPaKind
import Derived.Test.YtigfcbofbcpiaaaDoorChRefSimple
namespace Go.Proofs.YtigfcbofbcpiaaaDoor
open Go.RowKit
/-- A slice of a setting as it is loaded, and where its events lie. -/
structure SlAt (w : World) (s : Value) (be oe n : Nat) (l : List (List Ev)) (t : Tm) : Prop where
  val : ∃ d0 d1 ce, s = .agg #[.int .i64 t.1, .int .i64 t.2, .int .i64 d0, .int .i64 d1, .slice (some ⟨be, oe, none⟩) n ce]
  lt : be < w.heap.size
  evs : ∀ (i : Nat) v, l[i]? = some v → w.cell? ⟨be, oe + i, none⟩ = some (.int .i64 (onS v t))
theorem SlAt.kept {w W : World} {s : Value} {be oe n : Nat} {l : List (List Ev)} {t : Tm} (h : SlAt w s be oe n l t) (hb : Below w.heap.size w W) : SlAt W s be oe n l t :=
  ⟨h.val, Nat.lt_of_lt_of_le h.lt hb.size, fun i v hv => (hb.cell (p := ⟨be, oe + i, none⟩) h.lt).trans (h.evs i v hv)⟩
/-- Slice k, loaded. -/
theorem Stg.sl {w W : World} {A : Option Addr} {bs os n K : Nat} {l : List (List Ev)} (h : Stg w A (some ⟨bs, os, none⟩) n K l) (hb : Below w.heap.size w W) (hn : 0 < n) {k : Nat} (hk : k < K) :
    ∃ be oe d0 d1 ce, bs < W.heap.size ∧ W.cell? ⟨bs, os + k * 5, none⟩ = some (.int .i64 (mAt (momS l) k).1) ∧ W.cell? ⟨bs, os + k * 5 + 1, none⟩ = some (.int .i64 (mAt (momS l) k).2) ∧ W.cell? ⟨bs, os + k * 5 + 2, none⟩ = some (.int .i64 d0) ∧ W.cell? ⟨bs, os + k * 5 + 3, none⟩ = some (.int .i64 d1) ∧
      W.cell? ⟨bs, os + k * 5 + 4, none⟩ = some (.slice (some ⟨be, oe, none⟩) n ce) ∧ SlAt W (.agg #[.int .i64 (mAt (momS l) k).1, .int .i64 (mAt (momS l) k).2, .int .i64 d0, .int .i64 d1, .slice (some ⟨be, oe, none⟩) n ce]) be oe n l (mAt (momS l) k) := by
  have hg : ((List.range K).map (slOf l (momS l)))[k]? = some (slOf l (momS l) k) := by rw [List.getElem?_map, List.getElem?_range hk]; rfl
  obtain ⟨bs', os', p, q, ce, hS, hbs, hq, hr, c0, c1, c2, c3, c4⟩ := h.slices.el (Nat.le_refl _) hb hk hg
  cases hS
  have hqn : q = n := by rw [← hq]; show (l.map _).length = n; rw [List.length_map]; exact h.len
  subst hqn
  obtain ⟨v0, hv0⟩ := get_some (l := l) (k := 0) (by have := h.len; omega)
  obtain ⟨be, oe, hp, hbe, _⟩ := Reads.elem (f := cI) (fun _ => rfl) hr (k := 0) hn (x := onS v0 (mAt (momS l) k)) (by show (l.map _)[0]? = _; rw [List.getElem?_map, hv0]; rfl)
  subst hp
  refine ⟨be, oe, _, _, ce, hbs, c0, c1, c2, c3, c4, ⟨_, _, _, rfl⟩, hbe, fun i v hv => ?_⟩
  have hin : i < q := by have := (List.getElem?_eq_some_iff.1 hv).1; have := h.len; omega
  obtain ⟨be', oe', hp, _, hce⟩ := Reads.elem (f := cI) (fun _ => rfl) hr (k := i) hin (x := onS v (mAt (momS l) k)) (by show (l.map _)[i]? = _; rw [List.getElem?_map, hv]; rfl)
  cases hp
  have h0 := hce 0 _ rfl
  simpa using h0
set_option maxRecDepth 100000 in
set_option maxHeartbeats 2000000 in
theorem rpitch_ok {ba oa n K : Nat} {S : Option Addr} {l : List (List Ev)} {w : World} (h : Stg w (some ⟨ba, oa, none⟩) S n K l) (c : Nat) {i k : Nat} {v : List Ev} (hi : l[i]? = some v) (hk : k < K) {s : Value} {be oe : Nat} (hs : SlAt w s be oe n l (mAt (momS l) k)) :
    Calls Tryd.prog 72 #[.slice (some ⟨ba, oa, none⟩) n c, s, .int .i64 i] w fun e w' => e = .returned (.tuple #[vP (pitA v (mAt (momS l) k)), .bool (sndV v (mAt (momS l) k)).2]) ∧ Below w.heap.size w w' := by
  have hin : i < n := by have := (List.getElem?_eq_some_iff.1 hi).1; have := h.len; omega
  obtain ⟨⟨d0, d1, ce, rfl⟩, hbe, hev⟩ := hs
  have y0 := hev i v hi
  obtain ⟨ba', oa', A', n', c', hA, hba, cv, hre, _, hvn⟩ := h.voices.voice (Nat.le_refl _) (Below.refl _ _) hin hi
  cases hA
  have hik : (i : Int) < (n : Int) := by omega
  have ho9 := h.onK hk hi
  obtain ⟨⟨t0, t1⟩, ht⟩ : ∃ t, t = mAt (momS l) k := ⟨_, rfl⟩
  rw [← ht] at ho9 y0 ⊢
  unfold pitA
  clear ht hev h hi
  rcases ho9 with ho | ⟨j, x, ho, hx⟩
  · have E := Lib.hid (sndV_neg (v := v) (t := (t0, t1)) (by omega))
    rw [ho] at y0
    clear ho hre hvn
    go_enter Tryd.func72, Tryd.ntmps72
    go_wp2
    refine ret_of (by simp [results, Tryd.results72, go_sem, *]; repeat' (first | rfl | apply And.intro)) rfl ⟨?_, by repeat (first | with_reducible exact Below.refl _ _ | with_reducible assumption | with_reducible refine below_drewN ?_ _ | with_reducible refine Below.drew ?_ | with_reducible refine below_alloc ?_ _ | (with_reducible refine Below.setCell ?_ ?_ _; rotate_left; ((try simp only); omega)))⟩
    rw [E.out]
    rfl
  · rw [ho] at y0
    have hjn : j < n' := by have := (List.getElem?_eq_some_iff.1 hx).1; omega
    obtain ⟨bx, ox, hAx, hbx, hcx⟩ := hre.ev (Nat.le_refl _) (Below.refl _ _) hjn hx
    obtain ⟨c0, c1, c2, c3, c4, c5, c6, c7, c8, c9⟩ := ten hcx
    have hjn' : (j : Int) < (n' : Int) := by omega
    cases hr : x.rest with
    | true =>
      have E := Lib.hid (sndV_rest ho hx hr)
      rw [hr] at c7
      subst hAx
      clear ho hre hvn hcx hr hx
      go_enter Tryd.func72, Tryd.ntmps72
      go_wp2
      refine ret_of (by simp [results, Tryd.results72, go_sem, *]; repeat' (first | rfl | apply And.intro)) rfl ⟨?_, by repeat (first | with_reducible exact Below.refl _ _ | with_reducible assumption | with_reducible refine below_drewN ?_ _ | with_reducible refine Below.drew ?_ | with_reducible refine below_alloc ?_ _ | (with_reducible refine Below.setCell ?_ ?_ _; rotate_left; ((try simp only); omega)))⟩
      rw [E.out]
      rfl
    | false =>
      have E := Lib.hid (sndV_note ho hx hr)
      obtain ⟨⟨a0, a1⟩, ⟨e0, e1⟩, ⟨p0, p1, p2⟩, rst, sg, ps⟩ := x
      simp only at hr c0 c1 c2 c3 c4 c5 c6 c7 c8 c9
      subst hr
      subst hAx
      clear ho hre hvn hcx hx
      go_enter Tryd.func72, Tryd.ntmps72
      go_wp2
      refine ret_of (by simp [results, Tryd.results72, go_sem, *]; repeat' (first | rfl | apply And.intro)) rfl ⟨?_, by repeat (first | with_reducible exact Below.refl _ _ | with_reducible assumption | with_reducible refine below_drewN ?_ _ | with_reducible refine Below.drew ?_ | with_reducible refine below_alloc ?_ _ | (with_reducible refine Below.setCell ?_ ?_ _; rotate_left; ((try simp only); omega)))⟩
      rw [E.out]
set_option maxHeartbeats 400000 in
theorem rnum_ok (p : Int × Int × Int) (h : pchk p = 0) (w : World) :
    Calls Tryd.prog 73 #[vP p] w fun e w' => e = .returned (.int .i64 (numP p)) ∧ Below w.heap.size w w' := by
  have q1 := refNumber_any p
  rw [numE_ok h] at q1
  obtain ⟨a, b, c⟩ := p
  obtain ⟨m, hm⟩ : ∃ m, m = numP (a, b, c) := ⟨_, rfl⟩
  rw [← hm] at q1 ⊢
  clear hm h
  go_enter Tryd.func73, Tryd.ntmps73
  go_wp2_with fail
  refine (q1 _).mono ?_
  rintro e w1 ⟨rfl, hb1⟩
  have BP1 : Blk w1 (w.heap.size) 57 #[.int .i64 a, .int .i64 b, .int .i64 c] := by
    refine Blk.kept ?_ hb1
    repeat (first | with_reducible exact Blk.new _ _ _ | (with_reducible refine Blk.newAt _ _ _ _ ?_; first | rfl | (simp; done)) | with_reducible apply Blk.alloc | with_reducible apply Blk.drewN | with_reducible apply Blk.drew | with_reducible apply Blk.set_to | (with_reducible apply Blk.far_; (simp only [ne_eq]; omega)) | rfl)
  have cP0_1 : w1.cell? ⟨w.heap.size, 0, none⟩ = some (.int .i64 a) := BP1.cell 0
  have cP1_1 : w1.cell? ⟨w.heap.size, 1, none⟩ = some (.int .i64 b) := BP1.cell 1
  have cP2_1 : w1.cell? ⟨w.heap.size, 2, none⟩ = some (.int .i64 c) := BP1.cell 2
  have lP1 : w.heap.size < w1.heap.size := BP1.lt
  have mP1 : w.heap.size < w1.heap.size + 1 := by omega
  have nP1 : w.heap.size < w1.heap.size + 1 + 1 := by omega
  have hs1 : w.heap.size ≤ w1.heap.size := by have h := hb1.size; (try simp at h); omega
  go_wp2
  refine ret_of (by simp [results, Tryd.results73, go_sem, *]; repeat' (first | rfl | apply And.intro)) rfl ⟨rfl, by repeat (first | exact Below.refl _ _ | refine below_drewN ?_ _ | refine Below.drew ?_ | refine below_alloc ?_ _ | (refine below_call ?_ (by assumption)) | (refine Below.setCell ?_ ?_ _; rotate_left; (simp; try omega)))⟩
end Go.Proofs.YtigfcbofbcpiaaaDoor
