
/- The kind of the forbidden motion of two voices into a slice, by the reference. -/
import Derived.Test.YtigfcbofbcpiaaaDoorPaRef3
namespace Go.Proofs.YtigfcbofbcpiaaaDoor
open Go.RowKit
theorem sgn_eq {x y : Int} (hx : x ≠ 0) (hy : y ≠ 0) : sgn x = sgn y ↔ ((0 < x) ↔ (0 < y)) := by unfold sgn; (repeat' split) <;> omega
theorem sgn_zero {x y : Int} : sgn x * sgn y = 0 ↔ x = 0 ∨ y = 0 := by
  rw [Int.mul_eq_zero]
  have h1 : sgn x = 0 ↔ x = 0 := by unfold sgn; (repeat' split) <;> omega
  have h2 : sgn y = 0 ↔ y = 0 := by unfold sgn; (repeat' split) <;> omega
  rw [h1, h2]
set_option maxRecDepth 100000 in
set_option maxHeartbeats 8000000 in
theorem motion_ok {A S : Option Addr} {n K : Nat} {l : List (List Ev)} {w : World} (h : Stg w A S n K l) (c d : Nat) {a b k : Nat} {va vb : List Ev} (ha : l[a]? = some va) (hb : l[b]? = some vb) (hk : k < K) :
    Calls Tryd.prog 44 #[.slice A n c, .slice S K d, .int .i64 a, .int .i64 b, .int .i64 k] w fun e w' => e = .returned (.tuple #[.int .i64 (motE va vb (momS l) k).1, .int .i64 (motE va vb (momS l) k).2]) ∧ Below w.heap.size w w' := by
  have hbig := h.big
  have hin : a < n := by have := (List.getElem?_eq_some_iff.1 ha).1; have := h.len; omega
  obtain ⟨ba, oa, bs, os, rfl, rfl⟩ := h.addr hin hk
  have q1 := fun W (hW : Below w.heap.size w W) => rmoves_ok (h.kept hW) c d ha hk
  have q2 := fun W (hW : Below w.heap.size w W) => rmoves_ok (h.kept hW) c d hb hk
  have hpos := mv_pos (v := va) (m := momS l) (n := k)
  have E0 := mot_eq va vb (momS l) k
  have s1 := fun W (hW : Below w.heap.size w W) => h.sl hW (by omega) hk
  have q3 := fun W (hW : Below w.heap.size w W) s be oe (hs : SlAt W s be oe n l (mAt (momS l) k)) => rperfect_ok (h.kept hW) c ha hb hk hs
  have q5 := fun W (hW : Below w.heap.size w W) s be oe (hs : SlAt W s be oe n l (mAt (momS l) k)) => rpitch_ok (h.kept hW) c ha hk hs
  have q6 := fun W (hW : Below w.heap.size w W) s be oe (hs : SlAt W s be oe n l (mAt (momS l) k)) => rpitch_ok (h.kept hW) c hb hk hs
  have hp1 := h.pit ha (mAt (momS l) k)
  have hp2 := h.pit hb (mAt (momS l) k)
  have B1 := prf_bd hp1 hp2
  have B2 := prf_bd (h.pit ha (mAt (momS l) (k - 1))) (h.pit hb (mAt (momS l) (k - 1)))
  have n1 := rnum_ok _ hp1
  have n2 := rnum_ok _ hp2
  obtain ⟨mo, hmo⟩ : ∃ z, z = motE va vb (momS l) k := ⟨_, rfl⟩
  rw [← hmo] at E0 ⊢
  obtain ⟨⟨x, bx⟩, hx⟩ : ∃ z, z = mvV va (momS l) k := ⟨_, rfl⟩
  obtain ⟨⟨y, by_⟩, hy⟩ : ∃ z, z = mvV vb (momS l) k := ⟨_, rfl⟩
  rw [← hx] at q1 hpos E0
  rw [← hy] at q2 E0
  simp only at q1 q2 hpos E0
  clear hx hy
  have ht : Anch w := ⟨⟩
  have k0 := Below.refl w.heap.size w
  by_cases hno : bx = false ∨ by_ = false ∨ x = 0 ∨ y = 0
  · have E := Lib.hid (show mo = (0, 0) by
      rw [E0]; unfold motF; rw [if_pos]
      rcases hno with h | h | h
      · exact .inl h
      · exact .inr (.inl h)
      · exact .inr (.inr (sgn_zero.2 h)))
    have HNO : bx = false ∨ (bx = true ∧ by_ = false) ∨ (bx = true ∧ by_ = true ∧ x = 0) ∨ (bx = true ∧ by_ = true ∧ ¬ x = 0 ∧ y = 0) := by
      cases bx <;> cases by_ <;> simp at hno ⊢
      omega
    clear hno E0 q3 q5 q6 n1 n2 B1 B2 hp1 hp2 s1 hpos h ha hb hmo
    rcases HNO with rfl | ⟨rfl, rfl⟩ | ⟨rfl, rfl, rfl⟩ | ⟨rfl, rfl, hx0, rfl⟩
    · go_enter Tryd.func44, Tryd.ntmps44
      go_wp2_with fail
      refine Calls.mono (q1 _ ?_) ?_
      · exact ht.kept (by repeat (first | exact Below.refl _ _ | refine below_drewN ?_ _ | refine Below.drew ?_ | refine below_alloc ?_ _ | (refine below_call ?_ (by assumption)) | (refine Below.setCell ?_ ?_ _; rotate_left; (simp; try omega))))
      rintro e w1 ⟨rfl, hb1⟩
      have hs1 : w.heap.size ≤ w1.heap.size := by have h := hb1.size; (try simp at h); omega
      go_wp2_with fail
      refine Calls.mono (q2 _ ?_) ?_
      · exact ht.kept (by repeat (first | exact Below.refl _ _ | refine below_drewN ?_ _ | refine Below.drew ?_ | refine below_alloc ?_ _ | (refine below_call ?_ (by assumption)) | (refine Below.setCell ?_ ?_ _; rotate_left; (simp; try omega))))
      rintro e w2 ⟨rfl, hb2⟩
      have hs2 : w.heap.size ≤ w2.heap.size := by have h := hb2.size; (try simp at h); omega
      go_wp2
      refine ret_of (by simp [results, Tryd.results44, go_sem, *]; repeat' (first | rfl | apply And.intro)) rfl ⟨?_, by repeat (first | exact Below.refl _ _ | refine below_drewN ?_ _ | refine Below.drew ?_ | refine below_alloc ?_ _ | (refine below_call ?_ (by assumption)) | (refine Below.setCell ?_ ?_ _; rotate_left; (simp; try omega)))⟩
      rw [E.out]
    · go_enter Tryd.func44, Tryd.ntmps44
      go_wp2_with fail
      refine Calls.mono (q1 _ ?_) ?_
      · exact ht.kept (by repeat (first | exact Below.refl _ _ | refine below_drewN ?_ _ | refine Below.drew ?_ | refine below_alloc ?_ _ | (refine below_call ?_ (by assumption)) | (refine Below.setCell ?_ ?_ _; rotate_left; (simp; try omega))))
      rintro e w1 ⟨rfl, hb1⟩
      have hs1 : w.heap.size ≤ w1.heap.size := by have h := hb1.size; (try simp at h); omega
      go_wp2_with fail
      refine Calls.mono (q2 _ ?_) ?_
      · exact ht.kept (by repeat (first | exact Below.refl _ _ | refine below_drewN ?_ _ | refine Below.drew ?_ | refine below_alloc ?_ _ | (refine below_call ?_ (by assumption)) | (refine Below.setCell ?_ ?_ _; rotate_left; (simp; try omega))))
      rintro e w2 ⟨rfl, hb2⟩
      have hs2 : w.heap.size ≤ w2.heap.size := by have h := hb2.size; (try simp at h); omega
      go_wp2
      refine ret_of (by simp [results, Tryd.results44, go_sem, *]; repeat' (first | rfl | apply And.intro)) rfl ⟨?_, by repeat (first | exact Below.refl _ _ | refine below_drewN ?_ _ | refine Below.drew ?_ | refine below_alloc ?_ _ | (refine below_call ?_ (by assumption)) | (refine Below.setCell ?_ ?_ _; rotate_left; (simp; try omega)))⟩
      rw [E.out]
    · go_enter Tryd.func44, Tryd.ntmps44
      go_wp2_with fail
      refine Calls.mono (q1 _ ?_) ?_
      · exact ht.kept (by repeat (first | exact Below.refl _ _ | refine below_drewN ?_ _ | refine Below.drew ?_ | refine below_alloc ?_ _ | (refine below_call ?_ (by assumption)) | (refine Below.setCell ?_ ?_ _; rotate_left; (simp; try omega))))
      rintro e w1 ⟨rfl, hb1⟩
      have hs1 : w.heap.size ≤ w1.heap.size := by have h := hb1.size; (try simp at h); omega
      go_wp2_with fail
      refine Calls.mono (q2 _ ?_) ?_
      · exact ht.kept (by repeat (first | exact Below.refl _ _ | refine below_drewN ?_ _ | refine Below.drew ?_ | refine below_alloc ?_ _ | (refine below_call ?_ (by assumption)) | (refine Below.setCell ?_ ?_ _; rotate_left; (simp; try omega))))
      rintro e w2 ⟨rfl, hb2⟩
      have hs2 : w.heap.size ≤ w2.heap.size := by have h := hb2.size; (try simp at h); omega
      go_wp2
      refine ret_of (by simp [results, Tryd.results44, go_sem, *]; repeat' (first | rfl | apply And.intro)) rfl ⟨?_, by repeat (first | exact Below.refl _ _ | refine below_drewN ?_ _ | refine Below.drew ?_ | refine below_alloc ?_ _ | (refine below_call ?_ (by assumption)) | (refine Below.setCell ?_ ?_ _; rotate_left; (simp; try omega)))⟩
      rw [E.out]
    · have hx1 : (x == 0) = false := by simpa using hx0
      go_enter Tryd.func44, Tryd.ntmps44
      go_wp2_with fail
      refine Calls.mono (q1 _ ?_) ?_
      · exact ht.kept (by repeat (first | exact Below.refl _ _ | refine below_drewN ?_ _ | refine Below.drew ?_ | refine below_alloc ?_ _ | (refine below_call ?_ (by assumption)) | (refine Below.setCell ?_ ?_ _; rotate_left; (simp; try omega))))
      rintro e w1 ⟨rfl, hb1⟩
      have hs1 : w.heap.size ≤ w1.heap.size := by have h := hb1.size; (try simp at h); omega
      go_wp2_with fail
      refine Calls.mono (q2 _ ?_) ?_
      · exact ht.kept (by repeat (first | exact Below.refl _ _ | refine below_drewN ?_ _ | refine Below.drew ?_ | refine below_alloc ?_ _ | (refine below_call ?_ (by assumption)) | (refine Below.setCell ?_ ?_ _; rotate_left; (simp; try omega))))
      rintro e w2 ⟨rfl, hb2⟩
      have hs2 : w.heap.size ≤ w2.heap.size := by have h := hb2.size; (try simp at h); omega
      go_wp2
      refine ret_of (by simp [results, Tryd.results44, go_sem, *]; repeat' (first | rfl | apply And.intro)) rfl ⟨?_, by repeat (first | exact Below.refl _ _ | refine below_drewN ?_ _ | refine Below.drew ?_ | refine below_alloc ?_ _ | (refine below_call ?_ (by assumption)) | (refine Below.setCell ?_ ?_ _; rotate_left; (simp; try omega)))⟩
      rw [E.out]
  · obtain ⟨hbx, hby, hx0, hy0⟩ : bx = true ∧ by_ = true ∧ x ≠ 0 ∧ y ≠ 0 := by
      cases bx <;> cases by_ <;> simp at hno ⊢
      exact hno
    subst hbx hby
    have hk0 : 0 < k := hpos rfl
    have hx1 : (x == 0) = false := by simpa using hx0
    have hy1 : (y == 0) = false := by simpa using hy0
    have hwk : IntKind.i64.wrap ((k : Int) - 1) = ((k - 1 : Nat) : Int) := by rw [IntWalk.i64_in _ (by omega)]; omega
    have s0 := fun W (hW : Below w.heap.size w W) => h.sl hW (by omega) (k := k - 1) (by omega)
    have q4 := fun W (hW : Below w.heap.size w W) s be oe (hs : SlAt W s be oe n l (mAt (momS l) (k - 1))) => rperfect_ok (h.kept hW) c ha hb (k := k - 1) (by omega) hs
    have hkK : (k : Int) < (K : Int) := by omega
    have hkK' : ((k - 1 : Nat) : Int) < (K : Int) := by omega
    have hsg := sgn_eq hx0 hy0
    have hnz : ¬ (sgn x * sgn y = 0) := fun e => by rcases sgn_zero.1 e with e | e <;> contradiction
    obtain ⟨⟨ps, pb⟩, hp⟩ : ∃ z, z = prfE (pitA va (mAt (momS l) k)) (pitA vb (mAt (momS l) k)) := ⟨_, rfl⟩
    obtain ⟨⟨qs, qb⟩, hq⟩ : ∃ z, z = prfE (pitA va (mAt (momS l) (k - 1))) (pitA vb (mAt (momS l) (k - 1))) := ⟨_, rfl⟩
    rw [← hp] at q3 E0 B1
    rw [← hq] at q4 E0 B2
    simp only at q3 q4 E0 B1 B2
    obtain ⟨P', hP'⟩ : ∃ z : Int, z = if pb = true then ps else -1 := ⟨_, rfl⟩
    obtain ⟨Q', hQ'⟩ : ∃ z : Int, z = if qb = true then qs else -1 := ⟨_, rfl⟩
    rw [← hP'] at q3
    rw [← hQ'] at q4
    obtain ⟨up, hup⟩ : ∃ z, z = if numP (pitA vb (mAt (momS l) k)) < numP (pitA va (mAt (momS l) k)) then x else y := ⟨_, rfl⟩
    rw [← hup] at E0
    have E := Lib.hid (show mo = if P' < 0 then (0, 0) else if Q' = P' then (if (0 < x) ↔ (0 < y) then 1 else 3, P') else if ((0 < x) ↔ (0 < y)) ∧ (1 < up ∨ up < -1) then (2, P') else (0, 0) by
      rw [E0, hP', hQ']
      unfold motF
      rw [if_neg (by simpa using hnz)]
      simp only [← hsg]
      have h1 : ¬ ps < 0 := by omega
      have h2 : ¬ ((-1 : Int) = ps) := by omega
      cases pb <;> cases qb <;> simp [h1, h2])
    have HBP := Lib.hid (show pb = true → 0 ≤ P' from fun e => by rw [hP', if_pos e]; exact B1)
    clear E0 hP' hQ' hsg hnz B1 B2 hp hq hmo hpos hno h ha hb hp1 hp2
    have hup2 := Lib.hid hup
    obtain ⟨P, hP⟩ : ∃ p, p = pitA va (mAt (momS l) k) := ⟨_, rfl⟩
    obtain ⟨Q, hQ⟩ : ∃ p, p = pitA vb (mAt (momS l) k) := ⟨_, rfl⟩
    rw [← hP] at q5 n1 hup
    rw [← hQ] at q6 n2 hup
    obtain ⟨P0, P1, P2⟩ := P
    obtain ⟨Q0, Q1, Q2⟩ := Q
    obtain ⟨nP, hnP⟩ : ∃ p, p = numP (P0, P1, P2) := ⟨_, rfl⟩
    obtain ⟨nQ, hnQ⟩ : ∃ p, p = numP (Q0, Q1, Q2) := ⟨_, rfl⟩
    rw [← hnP] at n1 hup
    rw [← hnQ] at n2 hup
    obtain ⟨z1, hz1⟩ : ∃ z, z = (sndV va (mAt (momS l) k)).2 := ⟨_, rfl⟩
    obtain ⟨z2, hz2⟩ : ∃ z, z = (sndV vb (mAt (momS l) k)).2 := ⟨_, rfl⟩
    rw [← hz1] at q5
    rw [← hz2] at q6
    have HUP := Lib.hid hup
    clear hup hup2 hP hQ hnP hnQ hz1 hz2
    by_cases hneg : P' < 0
    · have E2 := Lib.hid (show mo = (0, 0) by rw [E.out, if_pos hneg])
      clear E HUP HBP q4 q5 q6 n1 n2 s0
      go_enter Tryd.func44, Tryd.ntmps44
      go_wp2_with fail
      refine Calls.mono (q1 _ ?_) ?_
      · exact ht.kept (by repeat (first | exact Below.refl _ _ | refine below_drewN ?_ _ | refine Below.drew ?_ | refine below_alloc ?_ _ | (refine below_call ?_ (by assumption)) | (refine Below.setCell ?_ ?_ _; rotate_left; (simp; try omega))))
      rintro e w1 ⟨rfl, hb1⟩
      have hs1 : w.heap.size ≤ w1.heap.size := by have h := hb1.size; (try simp at h); omega
      go_wp2_with fail
      refine Calls.mono (q2 _ ?_) ?_
      · exact ht.kept (by repeat (first | exact Below.refl _ _ | refine below_drewN ?_ _ | refine Below.drew ?_ | refine below_alloc ?_ _ | (refine below_call ?_ (by assumption)) | (refine Below.setCell ?_ ?_ _; rotate_left; (simp; try omega))))
      rintro e w2 ⟨rfl, hb2⟩
      have hs2 : w.heap.size ≤ w2.heap.size := by have h := hb2.size; (try simp at h); omega
      have kk2 : Below w.heap.size w w2 := by repeat (first | exact Below.refl _ _ | refine below_drewN ?_ _ | refine Below.drew ?_ | refine below_alloc ?_ _ | (refine below_call ?_ (by assumption)) | (refine Below.setCell ?_ ?_ _; rotate_left; (simp; try omega)))
      obtain ⟨be, oe, d0, d1, ce, hbs, x0, x1, x2, x3, x4, hs⟩ := s1 w2 kk2
      have q3' := q3 w2 kk2 _ _ _ hs
      clear hs q3 q1 q2 s1
      go_wp2_with fail
      refine q3'.mono ?_
      rintro e w3 ⟨rfl, hb3⟩
      clear x0 x1 x2 x3 x4
      go_wp2
      refine ret_of (by simp [results, Tryd.results44, go_sem, *]; repeat' (first | rfl | apply And.intro)) rfl ⟨?_, by repeat (first | exact Below.refl _ _ | refine below_drewN ?_ _ | refine Below.drew ?_ | refine below_alloc ?_ _ | (refine below_call ?_ (by assumption)) | (refine Below.setCell ?_ ?_ _; rotate_left; (simp; try omega)))⟩
      rw [E2.out]
    · have hneg' : ¬ (P' < 0) := hneg
      by_cases hag : Q' = P'
      · have hagb : (Q' == P') = true := by simpa using hag
        have E2 := Lib.hid (show mo = (if (0 < x) ↔ (0 < y) then 1 else 3, P') by rw [E.out, if_neg hneg, if_pos hag])
        clear E HUP HBP q5 q6 n1 n2 hag
        go_enter Tryd.func44, Tryd.ntmps44
        go_wp2_with fail
        refine Calls.mono (q1 _ ?_) ?_
        · exact ht.kept (by repeat (first | exact Below.refl _ _ | refine below_drewN ?_ _ | refine Below.drew ?_ | refine below_alloc ?_ _ | (refine below_call ?_ (by assumption)) | (refine Below.setCell ?_ ?_ _; rotate_left; (simp; try omega))))
        rintro e w1 ⟨rfl, hb1⟩
        have hs1 : w.heap.size ≤ w1.heap.size := by have h := hb1.size; (try simp at h); omega
        go_wp2_with fail
        refine Calls.mono (q2 _ ?_) ?_
        · exact ht.kept (by repeat (first | exact Below.refl _ _ | refine below_drewN ?_ _ | refine Below.drew ?_ | refine below_alloc ?_ _ | (refine below_call ?_ (by assumption)) | (refine Below.setCell ?_ ?_ _; rotate_left; (simp; try omega))))
        rintro e w2 ⟨rfl, hb2⟩
        have hs2 : w.heap.size ≤ w2.heap.size := by have h := hb2.size; (try simp at h); omega
        have kk2 : Below w.heap.size w w2 := by repeat (first | exact Below.refl _ _ | refine below_drewN ?_ _ | refine Below.drew ?_ | refine below_alloc ?_ _ | (refine below_call ?_ (by assumption)) | (refine Below.setCell ?_ ?_ _; rotate_left; (simp; try omega)))
        obtain ⟨be, oe, d0, d1, ce, hbs, x0, x1, x2, x3, x4, hs⟩ := s1 w2 kk2
        have q3' := q3 w2 kk2 _ _ _ hs
        clear hs q3 q1 q2 s1
        go_wp2_with fail
        refine q3'.mono ?_
        rintro e w3 ⟨rfl, hb3⟩
        have kk3 := below_call kk2 hb3
        clear x0 x1 x2 x3 x4 q3' hbs
        obtain ⟨bf, of, f0, f1, cf, hbs, x0, x1, x2, x3, x4, hs⟩ := s0 w3 kk3
        have q4' := q4 w3 kk3 _ _ _ hs
        clear hs q4 s0
        go_wp2_with fail
        refine q4'.mono ?_
        rintro e w4 ⟨rfl, hb4⟩
        have kk4 := below_call kk3 hb4
        clear x0 x1 x2 x3 x4 q4' hbs
        by_cases gx : 0 < x
        all_goals by_cases gy : 0 < y
        all_goals
          go_wp2
          all_goals
            refine ret_of (by simp [results, Tryd.results44, go_sem, *]; repeat' (first | rfl | apply And.intro)) rfl ⟨?_, by repeat (first | exact Below.refl _ _ | refine below_drewN ?_ _ | refine Below.drew ?_ | refine below_alloc ?_ _ | (refine below_call ?_ (by assumption)) | (refine Below.setCell ?_ ?_ _; rotate_left; (simp; try omega)))⟩
            rw [E2.out]
            grind
      · have hagb : (Q' == P') = false := by simpa using hag
        have E2 := Lib.hid (show mo = if ((0 < x) ↔ (0 < y)) ∧ (1 < up ∨ up < -1) then (2, P') else (0, 0) by rw [E.out, if_neg hneg, if_neg hag])
        clear E HBP hag
        go_enter Tryd.func44, Tryd.ntmps44
        go_wp2_with fail
        refine Calls.mono (q1 _ ?_) ?_
        · exact ht.kept (by repeat (first | exact Below.refl _ _ | refine below_drewN ?_ _ | refine Below.drew ?_ | refine below_alloc ?_ _ | (refine below_call ?_ (by assumption)) | (refine Below.setCell ?_ ?_ _; rotate_left; (simp; try omega))))
        rintro e w1 ⟨rfl, hb1⟩
        have hs1 : w.heap.size ≤ w1.heap.size := by have h := hb1.size; (try simp at h); omega
        go_wp2_with fail
        refine Calls.mono (q2 _ ?_) ?_
        · exact ht.kept (by repeat (first | exact Below.refl _ _ | refine below_drewN ?_ _ | refine Below.drew ?_ | refine below_alloc ?_ _ | (refine below_call ?_ (by assumption)) | (refine Below.setCell ?_ ?_ _; rotate_left; (simp; try omega))))
        rintro e w2 ⟨rfl, hb2⟩
        have hs2 : w.heap.size ≤ w2.heap.size := by have h := hb2.size; (try simp at h); omega
        have kk2 : Below w.heap.size w w2 := by repeat (first | exact Below.refl _ _ | refine below_drewN ?_ _ | refine Below.drew ?_ | refine below_alloc ?_ _ | (refine below_call ?_ (by assumption)) | (refine Below.setCell ?_ ?_ _; rotate_left; (simp; try omega)))
        obtain ⟨be, oe, d0, d1, ce, hbs, x0, x1, x2, x3, x4, hs⟩ := s1 w2 kk2
        have q3' := q3 w2 kk2 _ _ _ hs
        clear hs q3 q1 q2
        go_wp2_with fail
        refine q3'.mono ?_
        rintro e w3 ⟨rfl, hb3⟩
        have kk3 := below_call kk2 hb3
        clear x0 x1 x2 x3 x4 q3' hbs
        obtain ⟨bf, of, f0, f1, cf, hbs, x0, x1, x2, x3, x4, hs⟩ := s0 w3 kk3
        have q4' := q4 w3 kk3 _ _ _ hs
        clear hs q4 s0
        go_wp2_with fail
        refine q4'.mono ?_
        rintro e w4 ⟨rfl, hb4⟩
        have kk4 := below_call kk3 hb4
        clear x0 x1 x2 x3 x4 q4' hbs
        obtain ⟨bg, og, g0, g1, cg, hbs, x0, x1, x2, x3, x4, hs⟩ := s1 w4 kk4
        have q5' := q5 w4 kk4 _ _ _ hs
        clear hs q5
        go_wp2_with fail
        refine q5'.mono ?_
        rintro e w5 ⟨rfl, hb5⟩
        have kk5 := below_call kk4 hb5
        clear x0 x1 x2 x3 x4 q5' hbs
        have kk5' := below_alloc kk5 (.cells #[.int .i64 P0, .int .i64 P1, .int .i64 P2] 57)
        have BP : Blk (w5.alloc (.cells #[.int .i64 P0, .int .i64 P1, .int .i64 P2] 57)) w5.heap.size 57 #[.int .i64 P0, .int .i64 P1, .int .i64 P2] := Blk.new _ _ _
        obtain ⟨bg, og, g0, g1, cg, hbs, x0, x1, x2, x3, x4, hs⟩ := s1 w5 kk5
        have q6' := q6 _ kk5' _ _ _ (hs.kept (below_alloc (Below.refl _ _) _))
        clear hs q6
        go_wp2_with fail
        refine q6'.mono ?_
        rintro e w6 ⟨rfl, hb6⟩
        have kk6 := below_call kk5' hb6
        have BP6 := BP.kept hb6
        have r0 : w6.cell? ⟨w5.heap.size, 0, none⟩ = some (.int .i64 P0) := BP6.cell 0
        have r1 : w6.cell? ⟨w5.heap.size, 1, none⟩ = some (.int .i64 P1) := BP6.cell 1
        have r2 : w6.cell? ⟨w5.heap.size, 2, none⟩ = some (.int .i64 P2) := BP6.cell 2
        have lr := BP6.lt
        clear x0 x1 x2 x3 x4 q6' hbs BP BP6
        go_wp2_with fail
        refine wp_region_calm (by kernel_rfl) (by kernel_rfl) ?_
        repeat (go_big_quiet_step ((go_at_call 73; (first | (with_reducible exact calm_call (n1 _)) | (with_reducible exact calm_call (n2 _))))))
        refine wpQuiet_nil ?_
        intro w7 hb7
        have hupv := HUP.out
        by_cases gx : 0 < x
        all_goals by_cases gy : 0 < y
        all_goals
          go_wp2
          all_goals
            refine ret_of (by simp [results, Tryd.results44, go_sem, *]; repeat' (first | rfl | apply And.intro)) rfl ⟨?_, by repeat (first | exact Below.refl _ _ | refine below_drewN ?_ _ | refine Below.drew ?_ | refine below_alloc ?_ _ | (refine below_call ?_ (by assumption)) | (refine Below.setCell ?_ ?_ _; rotate_left; (simp; try omega)))⟩
            rw [E2.out]
            clear n1 n2 s1
            grind
end Go.Proofs.YtigfcbofbcpiaaaDoor
