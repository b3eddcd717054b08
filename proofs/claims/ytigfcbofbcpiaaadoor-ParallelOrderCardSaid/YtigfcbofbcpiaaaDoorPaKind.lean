
/- The kind of the forbidden motion of two voices into a slice, by the program. -/
import Derived.Test.YtigfcbofbcpiaaaDoorPaProg2
namespace Go.Proofs.YtigfcbofbcpiaaaDoor
open Go.RowKit
def motF (bx by_ pb qb : Bool) (x y ps qs up : Int) : Int × Int :=
  if bx = false ∨ by_ = false ∨ sgn x * sgn y = 0 then (0, 0)
  else if pb = false then (0, 0)
  else if qb = true ∧ qs = ps then (if sgn x = sgn y then 1 else 3, ps)
  else if sgn x = sgn y ∧ (1 < up ∨ up < -1) then (2, ps)
  else (0, 0)
theorem mot_eq (va vb : List Ev) (m : List Tm) (n : Nat) : motE va vb m n = motF (mvV va m n).2 (mvV vb m n).2 (prfE (pitA va (mAt m n)) (pitA vb (mAt m n))).2 (prfE (pitA va (mAt m (n - 1))) (pitA vb (mAt m (n - 1)))).2 (mvV va m n).1 (mvV vb m n).1 (prfE (pitA va (mAt m n)) (pitA vb (mAt m n))).1 (prfE (pitA va (mAt m (n - 1))) (pitA vb (mAt m (n - 1)))).1 (if numP (pitA vb (mAt m n)) < numP (pitA va (mAt m n)) then (mvV va m n).1 else (mvV vb m n).1) := rfl
theorem mv_pos {v : List Ev} {m : List Tm} {n : Nat} (h : (mvV v m n).2 = true) : 0 < n := by
  unfold mvV at h
  by_cases h0 : n < 1
  · rw [if_pos h0] at h; cases h
  · omega
theorem sgn_vals (x : Int) : sgn x = -1 ∨ sgn x = 0 ∨ sgn x = 1 := by unfold sgn; (repeat' split) <;> simp
theorem sgn_mul (x y : Int) : -1 ≤ sgn x * sgn y ∧ sgn x * sgn y ≤ 1 := by
  rcases sgn_vals x with h | h | h <;> rcases sgn_vals y with h' | h' | h' <;> rw [h, h'] <;> decide
set_option maxRecDepth 100000 in
set_option maxHeartbeats 8000000 in
theorem kind_ok {A S : Option Addr} {n K : Nat} {l : List (List Ev)} {w : World} (h : Stg w A S n K l) (ht : Tabs w) (c d : Nat) {a b k : Nat} {va vb : List Ev} (ha : l[a]? = some va) (hb : l[b]? = some vb) (hk : k < K) :
    Calls Tryd.prog 42 #[vX A n c S K d, .int .i64 a, .int .i64 b, .int .i64 k] w fun e w' => e = .returned (.tuple #[.int .i64 (motE va vb (momS l) k).1, .int .i64 (motE va vb (momS l) k).2]) ∧ Below w.heap.size w w' := by
  have q1 := fun W (hW : Below w.heap.size w W) => moves_ok (h.kept hW) c d ha hk
  have q2 := fun W (hW : Below w.heap.size w W) => moves_ok (h.kept hW) c d hb hk
  have q3 := fun W (hW : Below w.heap.size w W) => perfect_ok (h.kept hW) (ht.kept hW) c d ha hb hk
  have q4 := fun (hk0 : 0 < k) W (hW : Below w.heap.size w W) => perfect_ok (h.kept hW) (ht.kept hW) c d ha hb (k := k - 1) (by omega)
  have q5 := fun x y W (hW : Below w.heap.size w W) => upper_ok (h.kept hW) c d ha hb hk x y
  have hpos := mv_pos (v := va) (m := momS l) (n := k)
  have hbig := h.big
  have E0 := mot_eq va vb (momS l) k
  obtain ⟨mo, hmo⟩ : ∃ z, z = motE va vb (momS l) k := ⟨_, rfl⟩
  rw [← hmo] at E0 ⊢
  obtain ⟨⟨x, bx⟩, hx⟩ : ∃ z, z = mvV va (momS l) k := ⟨_, rfl⟩
  obtain ⟨⟨y, by_⟩, hy⟩ : ∃ z, z = mvV vb (momS l) k := ⟨_, rfl⟩
  obtain ⟨⟨ps, pb⟩, hp⟩ : ∃ z, z = prfE (pitA va (mAt (momS l) k)) (pitA vb (mAt (momS l) k)) := ⟨_, rfl⟩
  obtain ⟨⟨qs, qb⟩, hq⟩ : ∃ z, z = prfE (pitA va (mAt (momS l) (k - 1))) (pitA vb (mAt (momS l) (k - 1))) := ⟨_, rfl⟩
  rw [← hx] at q1 hpos E0
  rw [← hy] at q2 E0
  rw [← hp] at q3 E0
  rw [← hq] at q4 E0
  simp only at q1 q2 q3 q4 hpos E0
  have q6 := q5 x y
  obtain ⟨up, hup⟩ : ∃ z, z = if numP (pitA vb (mAt (momS l) k)) < numP (pitA va (mAt (momS l) k)) then x else y := ⟨_, rfl⟩
  rw [← hup] at q6 E0
  have E := Lib.hid E0
  clear E0 hx hy hp hq hup q5 hmo ht ha hb h
  have ht : Anch w := ⟨⟩
  have hm1 := sgn_mul x y
  have hw1 : IntKind.i64.wrap (sgn x * sgn y) = sgn x * sgn y := IntWalk.i64_in _ (by omega)
  cases bx with
  | false =>
    have E2 := Lib.hid (show mo = (0, 0) by rw [E.out]; unfold motF; rw [if_pos (.inl rfl)])
    clear E q3 q4 q6 hm1
    go_enter Tryd.func42, Tryd.ntmps42
    go_wp2_with fail
    refine Calls.mono (q1 _ ?_) ?_
    · exact ht.kept (by repeat (first | exact Below.refl _ _ | refine below_drewN ?_ _ | refine Below.drew ?_ | refine below_alloc ?_ _ | (refine below_call ?_ (by assumption)) | (refine Below.setCell ?_ ?_ _; rotate_left; (simp; try omega))))
    rintro e w1 ⟨rfl, hb1⟩
    have BX1 : Blk w1 (w.heap.size) 75 #[.slice A n c, .slice S K d] := by
      refine Blk.kept ?_ hb1
      repeat (first | with_reducible exact Blk.new _ _ _ | (with_reducible refine Blk.newAt _ _ _ _ ?_; first | rfl | (simp; done)) | with_reducible apply Blk.alloc | with_reducible apply Blk.drewN | with_reducible apply Blk.drew | with_reducible apply Blk.set_to | (with_reducible apply Blk.far_; (simp only [ne_eq]; omega)) | rfl)
    have cX0_1 : w1.cell? ⟨w.heap.size, 0, none⟩ = some (.slice A n c) := BX1.cell 0
    have cX1_1 : w1.cell? ⟨w.heap.size, 1, none⟩ = some (.slice S K d) := BX1.cell 1
    have lX1 : w.heap.size < w1.heap.size := BX1.lt
    have mX1 : w.heap.size < w1.heap.size + 1 := by omega
    have nX1 : w.heap.size < w1.heap.size + 1 + 1 := by omega
    have hs1 : w.heap.size ≤ w1.heap.size := by have h := hb1.size; (try simp at h); omega
    go_wp2_with fail
    refine Calls.mono (q2 _ ?_) ?_
    · exact ht.kept (by repeat (first | exact Below.refl _ _ | refine below_drewN ?_ _ | refine Below.drew ?_ | refine below_alloc ?_ _ | (refine below_call ?_ (by assumption)) | (refine Below.setCell ?_ ?_ _; rotate_left; (simp; try omega))))
    rintro e w2 ⟨rfl, hb2⟩
    have BX2 : Blk w2 (w.heap.size) 75 #[.slice A n c, .slice S K d] := by
      refine Blk.kept ?_ hb2
      repeat (first | with_reducible exact BX1 | with_reducible exact Blk.new _ _ _ | (with_reducible refine Blk.newAt _ _ _ _ ?_; first | rfl | (simp; done)) | with_reducible apply Blk.alloc | with_reducible apply Blk.drewN | with_reducible apply Blk.drew | with_reducible apply Blk.set_to | (with_reducible apply Blk.far_; (simp only [ne_eq]; omega)) | rfl)
    have cX0_2 : w2.cell? ⟨w.heap.size, 0, none⟩ = some (.slice A n c) := BX2.cell 0
    have cX1_2 : w2.cell? ⟨w.heap.size, 1, none⟩ = some (.slice S K d) := BX2.cell 1
    have lX2 : w.heap.size < w2.heap.size := BX2.lt
    have mX2 : w.heap.size < w2.heap.size + 1 := by omega
    have nX2 : w.heap.size < w2.heap.size + 1 + 1 := by omega
    clear BX1 lX1 mX1 nX1 cX0_1 cX1_1
    have hs2 : w.heap.size ≤ w2.heap.size := by have h := hb2.size; (try simp at h); omega
    go_wp2
    refine ret_of (by simp [results, Tryd.results42, go_sem, *]; repeat' (first | rfl | apply And.intro)) rfl ⟨?_, by repeat (first | exact Below.refl _ _ | refine below_drewN ?_ _ | refine Below.drew ?_ | refine below_alloc ?_ _ | (refine below_call ?_ (by assumption)) | (refine Below.setCell ?_ ?_ _; rotate_left; (simp; try omega)))⟩
    rw [E2.out]
  | true =>
    have hk0 : 0 < k := hpos rfl
    have hwk : IntKind.i64.wrap ((k : Int) - 1) = ((k - 1 : Nat) : Int) := by rw [IntWalk.i64_in _ (by omega)]; omega
    cases by_ with
    | false =>
      have E2 := Lib.hid (show mo = (0, 0) by rw [E.out]; unfold motF; rw [if_pos (.inr (.inl rfl))])
      clear E q3 q4 q6 hm1
      go_enter Tryd.func42, Tryd.ntmps42
      go_wp2_with fail
      refine Calls.mono (q1 _ ?_) ?_
      · exact ht.kept (by repeat (first | exact Below.refl _ _ | refine below_drewN ?_ _ | refine Below.drew ?_ | refine below_alloc ?_ _ | (refine below_call ?_ (by assumption)) | (refine Below.setCell ?_ ?_ _; rotate_left; (simp; try omega))))
      rintro e w1 ⟨rfl, hb1⟩
      have BX1 : Blk w1 (w.heap.size) 75 #[.slice A n c, .slice S K d] := by
        refine Blk.kept ?_ hb1
        repeat (first | with_reducible exact Blk.new _ _ _ | (with_reducible refine Blk.newAt _ _ _ _ ?_; first | rfl | (simp; done)) | with_reducible apply Blk.alloc | with_reducible apply Blk.drewN | with_reducible apply Blk.drew | with_reducible apply Blk.set_to | (with_reducible apply Blk.far_; (simp only [ne_eq]; omega)) | rfl)
      have cX0_1 : w1.cell? ⟨w.heap.size, 0, none⟩ = some (.slice A n c) := BX1.cell 0
      have cX1_1 : w1.cell? ⟨w.heap.size, 1, none⟩ = some (.slice S K d) := BX1.cell 1
      have lX1 : w.heap.size < w1.heap.size := BX1.lt
      have mX1 : w.heap.size < w1.heap.size + 1 := by omega
      have nX1 : w.heap.size < w1.heap.size + 1 + 1 := by omega
      have hs1 : w.heap.size ≤ w1.heap.size := by have h := hb1.size; (try simp at h); omega
      go_wp2_with fail
      refine Calls.mono (q2 _ ?_) ?_
      · exact ht.kept (by repeat (first | exact Below.refl _ _ | refine below_drewN ?_ _ | refine Below.drew ?_ | refine below_alloc ?_ _ | (refine below_call ?_ (by assumption)) | (refine Below.setCell ?_ ?_ _; rotate_left; (simp; try omega))))
      rintro e w2 ⟨rfl, hb2⟩
      have BX2 : Blk w2 (w.heap.size) 75 #[.slice A n c, .slice S K d] := by
        refine Blk.kept ?_ hb2
        repeat (first | with_reducible exact BX1 | with_reducible exact Blk.new _ _ _ | (with_reducible refine Blk.newAt _ _ _ _ ?_; first | rfl | (simp; done)) | with_reducible apply Blk.alloc | with_reducible apply Blk.drewN | with_reducible apply Blk.drew | with_reducible apply Blk.set_to | (with_reducible apply Blk.far_; (simp only [ne_eq]; omega)) | rfl)
      have cX0_2 : w2.cell? ⟨w.heap.size, 0, none⟩ = some (.slice A n c) := BX2.cell 0
      have cX1_2 : w2.cell? ⟨w.heap.size, 1, none⟩ = some (.slice S K d) := BX2.cell 1
      have lX2 : w.heap.size < w2.heap.size := BX2.lt
      have mX2 : w.heap.size < w2.heap.size + 1 := by omega
      have nX2 : w.heap.size < w2.heap.size + 1 + 1 := by omega
      clear BX1 lX1 mX1 nX1 cX0_1 cX1_1
      have hs2 : w.heap.size ≤ w2.heap.size := by have h := hb2.size; (try simp at h); omega
      go_wp2
      refine ret_of (by simp [results, Tryd.results42, go_sem, *]; repeat' (first | rfl | apply And.intro)) rfl ⟨?_, by repeat (first | exact Below.refl _ _ | refine below_drewN ?_ _ | refine Below.drew ?_ | refine below_alloc ?_ _ | (refine below_call ?_ (by assumption)) | (refine Below.setCell ?_ ?_ _; rotate_left; (simp; try omega)))⟩
      rw [E2.out]
    | true =>
      have q7 := q4 hk0
      clear q4
      by_cases hs : sgn x * sgn y = 0
      · have hs' : (sgn x * sgn y == 0) = true := by simpa using hs
        have E2 := Lib.hid (show mo = (0, 0) by rw [E.out]; unfold motF; rw [if_pos (.inr (.inr hs))])
        clear E q3 q7 q6 hm1 hs
        go_enter Tryd.func42, Tryd.ntmps42
        go_wp2_with fail
        refine Calls.mono (q1 _ ?_) ?_
        · exact ht.kept (by repeat (first | exact Below.refl _ _ | refine below_drewN ?_ _ | refine Below.drew ?_ | refine below_alloc ?_ _ | (refine below_call ?_ (by assumption)) | (refine Below.setCell ?_ ?_ _; rotate_left; (simp; try omega))))
        rintro e w1 ⟨rfl, hb1⟩
        have BX1 : Blk w1 (w.heap.size) 75 #[.slice A n c, .slice S K d] := by
          refine Blk.kept ?_ hb1
          repeat (first | with_reducible exact Blk.new _ _ _ | (with_reducible refine Blk.newAt _ _ _ _ ?_; first | rfl | (simp; done)) | with_reducible apply Blk.alloc | with_reducible apply Blk.drewN | with_reducible apply Blk.drew | with_reducible apply Blk.set_to | (with_reducible apply Blk.far_; (simp only [ne_eq]; omega)) | rfl)
        have cX0_1 : w1.cell? ⟨w.heap.size, 0, none⟩ = some (.slice A n c) := BX1.cell 0
        have cX1_1 : w1.cell? ⟨w.heap.size, 1, none⟩ = some (.slice S K d) := BX1.cell 1
        have lX1 : w.heap.size < w1.heap.size := BX1.lt
        have mX1 : w.heap.size < w1.heap.size + 1 := by omega
        have nX1 : w.heap.size < w1.heap.size + 1 + 1 := by omega
        have hs1 : w.heap.size ≤ w1.heap.size := by have h := hb1.size; (try simp at h); omega
        go_wp2_with fail
        refine Calls.mono (q2 _ ?_) ?_
        · exact ht.kept (by repeat (first | exact Below.refl _ _ | refine below_drewN ?_ _ | refine Below.drew ?_ | refine below_alloc ?_ _ | (refine below_call ?_ (by assumption)) | (refine Below.setCell ?_ ?_ _; rotate_left; (simp; try omega))))
        rintro e w2 ⟨rfl, hb2⟩
        have BX2 : Blk w2 (w.heap.size) 75 #[.slice A n c, .slice S K d] := by
          refine Blk.kept ?_ hb2
          repeat (first | with_reducible exact BX1 | with_reducible exact Blk.new _ _ _ | (with_reducible refine Blk.newAt _ _ _ _ ?_; first | rfl | (simp; done)) | with_reducible apply Blk.alloc | with_reducible apply Blk.drewN | with_reducible apply Blk.drew | with_reducible apply Blk.set_to | (with_reducible apply Blk.far_; (simp only [ne_eq]; omega)) | rfl)
        have cX0_2 : w2.cell? ⟨w.heap.size, 0, none⟩ = some (.slice A n c) := BX2.cell 0
        have cX1_2 : w2.cell? ⟨w.heap.size, 1, none⟩ = some (.slice S K d) := BX2.cell 1
        have lX2 : w.heap.size < w2.heap.size := BX2.lt
        have mX2 : w.heap.size < w2.heap.size + 1 := by omega
        have nX2 : w.heap.size < w2.heap.size + 1 + 1 := by omega
        clear BX1 lX1 mX1 nX1 cX0_1 cX1_1
        have hs2 : w.heap.size ≤ w2.heap.size := by have h := hb2.size; (try simp at h); omega
        go_wp2_with (go_at_call 64; refine (sign_any _ _).mono ?_; rintro e we ⟨rfl, rfl⟩)
        refine ret_of (by simp [results, Tryd.results42, go_sem, *]; repeat' (first | rfl | apply And.intro)) rfl ⟨?_, by repeat (first | exact Below.refl _ _ | refine below_drewN ?_ _ | refine Below.drew ?_ | refine below_alloc ?_ _ | (refine below_call ?_ (by assumption)) | (refine Below.setCell ?_ ?_ _; rotate_left; (simp; try omega)))⟩
        rw [E2.out]
      · have hs' : (sgn x * sgn y == 0) = false := by simpa using hs
        cases pb with
        | false =>
          have E2 := Lib.hid (show mo = (0, 0) by rw [E.out]; unfold motF; rw [if_neg (by simpa using hs), if_pos rfl])
          clear E q7 q6 hm1 hs
          go_enter Tryd.func42, Tryd.ntmps42
          go_wp2_with fail
          refine Calls.mono (q1 _ ?_) ?_
          · exact ht.kept (by repeat (first | exact Below.refl _ _ | refine below_drewN ?_ _ | refine Below.drew ?_ | refine below_alloc ?_ _ | (refine below_call ?_ (by assumption)) | (refine Below.setCell ?_ ?_ _; rotate_left; (simp; try omega))))
          rintro e w1 ⟨rfl, hb1⟩
          have BX1 : Blk w1 (w.heap.size) 75 #[.slice A n c, .slice S K d] := by
            refine Blk.kept ?_ hb1
            repeat (first | with_reducible exact Blk.new _ _ _ | (with_reducible refine Blk.newAt _ _ _ _ ?_; first | rfl | (simp; done)) | with_reducible apply Blk.alloc | with_reducible apply Blk.drewN | with_reducible apply Blk.drew | with_reducible apply Blk.set_to | (with_reducible apply Blk.far_; (simp only [ne_eq]; omega)) | rfl)
          have cX0_1 : w1.cell? ⟨w.heap.size, 0, none⟩ = some (.slice A n c) := BX1.cell 0
          have cX1_1 : w1.cell? ⟨w.heap.size, 1, none⟩ = some (.slice S K d) := BX1.cell 1
          have lX1 : w.heap.size < w1.heap.size := BX1.lt
          have mX1 : w.heap.size < w1.heap.size + 1 := by omega
          have nX1 : w.heap.size < w1.heap.size + 1 + 1 := by omega
          have hs1 : w.heap.size ≤ w1.heap.size := by have h := hb1.size; (try simp at h); omega
          go_wp2_with fail
          refine Calls.mono (q2 _ ?_) ?_
          · exact ht.kept (by repeat (first | exact Below.refl _ _ | refine below_drewN ?_ _ | refine Below.drew ?_ | refine below_alloc ?_ _ | (refine below_call ?_ (by assumption)) | (refine Below.setCell ?_ ?_ _; rotate_left; (simp; try omega))))
          rintro e w2 ⟨rfl, hb2⟩
          have BX2 : Blk w2 (w.heap.size) 75 #[.slice A n c, .slice S K d] := by
            refine Blk.kept ?_ hb2
            repeat (first | with_reducible exact BX1 | with_reducible exact Blk.new _ _ _ | (with_reducible refine Blk.newAt _ _ _ _ ?_; first | rfl | (simp; done)) | with_reducible apply Blk.alloc | with_reducible apply Blk.drewN | with_reducible apply Blk.drew | with_reducible apply Blk.set_to | (with_reducible apply Blk.far_; (simp only [ne_eq]; omega)) | rfl)
          have cX0_2 : w2.cell? ⟨w.heap.size, 0, none⟩ = some (.slice A n c) := BX2.cell 0
          have cX1_2 : w2.cell? ⟨w.heap.size, 1, none⟩ = some (.slice S K d) := BX2.cell 1
          have lX2 : w.heap.size < w2.heap.size := BX2.lt
          have mX2 : w.heap.size < w2.heap.size + 1 := by omega
          have nX2 : w.heap.size < w2.heap.size + 1 + 1 := by omega
          clear BX1 lX1 mX1 nX1 cX0_1 cX1_1
          have hs2 : w.heap.size ≤ w2.heap.size := by have h := hb2.size; (try simp at h); omega
          go_wp2_with (go_at_call 64; refine (sign_any _ _).mono ?_; rintro e we ⟨rfl, rfl⟩)
          go_wp2_with fail
          refine Calls.mono (q3 _ ?_) ?_
          · exact ht.kept (by repeat (first | exact Below.refl _ _ | refine below_drewN ?_ _ | refine Below.drew ?_ | refine below_alloc ?_ _ | (refine below_call ?_ (by assumption)) | (refine Below.setCell ?_ ?_ _; rotate_left; (simp; try omega))))
          rintro e w3 ⟨rfl, hb3⟩
          have BX3 : Blk w3 (w.heap.size) 75 #[.slice A n c, .slice S K d] := by
            refine Blk.kept ?_ hb3
            repeat (first | with_reducible exact BX2 | with_reducible exact Blk.new _ _ _ | (with_reducible refine Blk.newAt _ _ _ _ ?_; first | rfl | (simp; done)) | with_reducible apply Blk.alloc | with_reducible apply Blk.drewN | with_reducible apply Blk.drew | with_reducible apply Blk.set_to | (with_reducible apply Blk.far_; (simp only [ne_eq]; omega)) | rfl)
          have cX0_3 : w3.cell? ⟨w.heap.size, 0, none⟩ = some (.slice A n c) := BX3.cell 0
          have cX1_3 : w3.cell? ⟨w.heap.size, 1, none⟩ = some (.slice S K d) := BX3.cell 1
          have lX3 : w.heap.size < w3.heap.size := BX3.lt
          have mX3 : w.heap.size < w3.heap.size + 1 := by omega
          have nX3 : w.heap.size < w3.heap.size + 1 + 1 := by omega
          clear BX2 lX2 mX2 nX2 cX0_2 cX1_2
          have hs3 : w.heap.size ≤ w3.heap.size := by have h := hb3.size; (try simp at h); omega
          go_wp2
          refine ret_of (by simp [results, Tryd.results42, go_sem, *]; repeat' (first | rfl | apply And.intro)) rfl ⟨?_, by repeat (first | exact Below.refl _ _ | refine below_drewN ?_ _ | refine Below.drew ?_ | refine below_alloc ?_ _ | (refine below_call ?_ (by assumption)) | (refine Below.setCell ?_ ?_ _; rotate_left; (simp; try omega)))⟩
          rw [E2.out]
        | true =>
          have E2 := Lib.hid (show mo = if qb = true ∧ qs = ps then (if sgn x = sgn y then 1 else 3, ps) else if sgn x = sgn y ∧ (1 < up ∨ up < -1) then (2, ps) else (0, 0) by rw [E.out]; unfold motF; rw [if_neg (by simpa using hs), if_neg (by simp)])
          clear E hm1 hs
          obtain ⟨sx, hsx⟩ : ∃ z, z = sgn x := ⟨_, rfl⟩
          obtain ⟨sy, hsy⟩ : ∃ z, z = sgn y := ⟨_, rfl⟩
          have qx := fun W => sign_any x W
          have qy := fun W => sign_any y W
          rw [← hsx] at E2 hw1 hs' qx
          rw [← hsy] at E2 hw1 hs' qy
          clear hsx hsy
          cases qb
          all_goals
            go_enter Tryd.func42, Tryd.ntmps42
            go_wp2_with fail
            refine Calls.mono (q1 _ ?_) ?_
            · exact ht.kept (by repeat (first | exact Below.refl _ _ | refine below_drewN ?_ _ | refine Below.drew ?_ | refine below_alloc ?_ _ | (refine below_call ?_ (by assumption)) | (refine Below.setCell ?_ ?_ _; rotate_left; (simp; try omega))))
            rintro e w1 ⟨rfl, hb1⟩
            have BX1 : Blk w1 (w.heap.size) 75 #[.slice A n c, .slice S K d] := by
              refine Blk.kept ?_ hb1
              repeat (first | with_reducible exact Blk.new _ _ _ | (with_reducible refine Blk.newAt _ _ _ _ ?_; first | rfl | (simp; done)) | with_reducible apply Blk.alloc | with_reducible apply Blk.drewN | with_reducible apply Blk.drew | with_reducible apply Blk.set_to | (with_reducible apply Blk.far_; (simp only [ne_eq]; omega)) | rfl)
            have cX0_1 : w1.cell? ⟨w.heap.size, 0, none⟩ = some (.slice A n c) := BX1.cell 0
            have cX1_1 : w1.cell? ⟨w.heap.size, 1, none⟩ = some (.slice S K d) := BX1.cell 1
            have lX1 : w.heap.size < w1.heap.size := BX1.lt
            have mX1 : w.heap.size < w1.heap.size + 1 := by omega
            have nX1 : w.heap.size < w1.heap.size + 1 + 1 := by omega
            have hs1 : w.heap.size ≤ w1.heap.size := by have h := hb1.size; (try simp at h); omega
            go_wp2_with fail
            refine Calls.mono (q2 _ ?_) ?_
            · exact ht.kept (by repeat (first | exact Below.refl _ _ | refine below_drewN ?_ _ | refine Below.drew ?_ | refine below_alloc ?_ _ | (refine below_call ?_ (by assumption)) | (refine Below.setCell ?_ ?_ _; rotate_left; (simp; try omega))))
            rintro e w2 ⟨rfl, hb2⟩
            have BX2 : Blk w2 (w.heap.size) 75 #[.slice A n c, .slice S K d] := by
              refine Blk.kept ?_ hb2
              repeat (first | with_reducible exact BX1 | with_reducible exact Blk.new _ _ _ | (with_reducible refine Blk.newAt _ _ _ _ ?_; first | rfl | (simp; done)) | with_reducible apply Blk.alloc | with_reducible apply Blk.drewN | with_reducible apply Blk.drew | with_reducible apply Blk.set_to | (with_reducible apply Blk.far_; (simp only [ne_eq]; omega)) | rfl)
            have cX0_2 : w2.cell? ⟨w.heap.size, 0, none⟩ = some (.slice A n c) := BX2.cell 0
            have cX1_2 : w2.cell? ⟨w.heap.size, 1, none⟩ = some (.slice S K d) := BX2.cell 1
            have lX2 : w.heap.size < w2.heap.size := BX2.lt
            have mX2 : w.heap.size < w2.heap.size + 1 := by omega
            have nX2 : w.heap.size < w2.heap.size + 1 + 1 := by omega
            clear BX1 lX1 mX1 nX1 cX0_1 cX1_1
            have hs2 : w.heap.size ≤ w2.heap.size := by have h := hb2.size; (try simp at h); omega
            go_wp2_with (go_at_call 64; (first | (with_reducible refine (qx _).mono ?_) | (with_reducible refine (qy _).mono ?_)); rintro e we ⟨rfl, rfl⟩)
            go_wp2_with fail
            refine Calls.mono (q3 _ ?_) ?_
            · exact ht.kept (by repeat (first | exact Below.refl _ _ | refine below_drewN ?_ _ | refine Below.drew ?_ | refine below_alloc ?_ _ | (refine below_call ?_ (by assumption)) | (refine Below.setCell ?_ ?_ _; rotate_left; (simp; try omega))))
            rintro e w3 ⟨rfl, hb3⟩
            have BX3 : Blk w3 (w.heap.size) 75 #[.slice A n c, .slice S K d] := by
              refine Blk.kept ?_ hb3
              repeat (first | with_reducible exact BX2 | with_reducible exact Blk.new _ _ _ | (with_reducible refine Blk.newAt _ _ _ _ ?_; first | rfl | (simp; done)) | with_reducible apply Blk.alloc | with_reducible apply Blk.drewN | with_reducible apply Blk.drew | with_reducible apply Blk.set_to | (with_reducible apply Blk.far_; (simp only [ne_eq]; omega)) | rfl)
            have cX0_3 : w3.cell? ⟨w.heap.size, 0, none⟩ = some (.slice A n c) := BX3.cell 0
            have cX1_3 : w3.cell? ⟨w.heap.size, 1, none⟩ = some (.slice S K d) := BX3.cell 1
            have lX3 : w.heap.size < w3.heap.size := BX3.lt
            have mX3 : w.heap.size < w3.heap.size + 1 := by omega
            have nX3 : w.heap.size < w3.heap.size + 1 + 1 := by omega
            clear BX2 lX2 mX2 nX2 cX0_2 cX1_2
            have hs3 : w.heap.size ≤ w3.heap.size := by have h := hb3.size; (try simp at h); omega
            go_wp2_with fail
            refine Calls.mono (q7 _ ?_) ?_
            · exact ht.kept (by repeat (first | exact Below.refl _ _ | refine below_drewN ?_ _ | refine Below.drew ?_ | refine below_alloc ?_ _ | (refine below_call ?_ (by assumption)) | (refine Below.setCell ?_ ?_ _; rotate_left; (simp; try omega))))
            rintro e w4 ⟨rfl, hb4⟩
            have BX4 : Blk w4 (w.heap.size) 75 #[.slice A n c, .slice S K d] := by
              refine Blk.kept ?_ hb4
              repeat (first | with_reducible exact BX3 | with_reducible exact Blk.new _ _ _ | (with_reducible refine Blk.newAt _ _ _ _ ?_; first | rfl | (simp; done)) | with_reducible apply Blk.alloc | with_reducible apply Blk.drewN | with_reducible apply Blk.drew | with_reducible apply Blk.set_to | (with_reducible apply Blk.far_; (simp only [ne_eq]; omega)) | rfl)
            have cX0_4 : w4.cell? ⟨w.heap.size, 0, none⟩ = some (.slice A n c) := BX4.cell 0
            have cX1_4 : w4.cell? ⟨w.heap.size, 1, none⟩ = some (.slice S K d) := BX4.cell 1
            have lX4 : w.heap.size < w4.heap.size := BX4.lt
            have mX4 : w.heap.size < w4.heap.size + 1 := by omega
            have nX4 : w.heap.size < w4.heap.size + 1 + 1 := by omega
            clear BX3 lX3 mX3 nX3 cX0_3 cX1_3
            have hs4 : w.heap.size ≤ w4.heap.size := by have h := hb4.size; (try simp at h); omega
            go_wp2_with (go_at_call 64; (first | (with_reducible refine (qx _).mono ?_) | (with_reducible refine (qy _).mono ?_)); rintro e we ⟨rfl, rfl⟩)
            go_wp2_with fail
            refine Calls.mono (q6 _ ?_) ?_
            · exact ht.kept (by repeat (first | exact Below.refl _ _ | refine below_drewN ?_ _ | refine Below.drew ?_ | refine below_alloc ?_ _ | (refine below_call ?_ (by assumption)) | (refine Below.setCell ?_ ?_ _; rotate_left; (simp; try omega))))
            rintro e w5 ⟨rfl, hb5⟩
            have BX5 : Blk w5 (w.heap.size) 75 #[.slice A n c, .slice S K d] := by
              refine Blk.kept ?_ hb5
              repeat (first | with_reducible exact BX4 | with_reducible exact Blk.new _ _ _ | (with_reducible refine Blk.newAt _ _ _ _ ?_; first | rfl | (simp; done)) | with_reducible apply Blk.alloc | with_reducible apply Blk.drewN | with_reducible apply Blk.drew | with_reducible apply Blk.set_to | (with_reducible apply Blk.far_; (simp only [ne_eq]; omega)) | rfl)
            have cX0_5 : w5.cell? ⟨w.heap.size, 0, none⟩ = some (.slice A n c) := BX5.cell 0
            have cX1_5 : w5.cell? ⟨w.heap.size, 1, none⟩ = some (.slice S K d) := BX5.cell 1
            have lX5 : w.heap.size < w5.heap.size := BX5.lt
            have mX5 : w.heap.size < w5.heap.size + 1 := by omega
            have nX5 : w.heap.size < w5.heap.size + 1 + 1 := by omega
            clear BX4 lX4 mX4 nX4 cX0_4 cX1_4
            have hs5 : w.heap.size ≤ w5.heap.size := by have h := hb5.size; (try simp at h); omega
            go_wp2
            all_goals
              refine ret_of (by simp [results, Tryd.results42, go_sem, *]; repeat' (first | rfl | apply And.intro)) rfl ⟨?_, by repeat (first | exact Below.refl _ _ | refine below_drewN ?_ _ | refine Below.drew ?_ | refine below_alloc ?_ _ | (refine below_call ?_ (by assumption)) | (refine Below.setCell ?_ ?_ _; rotate_left; (simp; try omega)))⟩
              rw [E2.out]
              have hq1 : (qs == ps) = decide (qs = ps) := by by_cases hh : qs = ps <;> simp [hh]
              have hs1 : (sx == sy) = decide (sx = sy) := by by_cases hh : sx = sy <;> simp [hh]
              clear q1 q2 q3 q6 q7 qx qy
              grind
end Go.Proofs.YtigfcbofbcpiaaaDoor
