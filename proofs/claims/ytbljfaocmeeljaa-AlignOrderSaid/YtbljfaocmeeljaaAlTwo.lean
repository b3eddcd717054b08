/- The chapter's setting and its slices. -/
import Derived.Test.YtbljfaocmeeljaaAlSame
import Derived.Test.YtbljfaocmeeljaaAlOrder
namespace Go.Proofs.Ytbljfaocmeeljaa
open Go.RowKit
def noteE (a d s : Int) : Ev := ⟨(a, 1), (d, 1), (s, 4, 0), false, 0, 0⟩
def restE (a d : Int) : Ev := ⟨(a, 1), (d, 1), (0, 0, 0), true, 0, 0⟩
def twoL : List (List Ev) := [[noteE 0 2 0, noteE 2 4 1], [restE 0 3, noteE 3 1 4]]
theorem tS_one (n : Int) : tS n 1 = (n, 1) := by
  have e : gg n 1 = 1 := by unfold gg; simp
  unfold tS
  rw [e, if_neg (by omega)]; simp
set_option maxRecDepth 100000 in
set_option maxHeartbeats 1000000 in
theorem note_any (a d s : Int) (ha : 0 ≤ a) (ha' : a ≤ 1000) (hd : 0 ≤ d) (hd' : d ≤ 1000) (w : World) :
    Calls Try.prog 63 #[.int .i64 a, .int .i64 d, .int .i64 s] w fun e w' => e = .returned (.agg (cE (noteE a d s)).toArray) ∧ Below w.heap.size w w' := by
  have q1 := t_any a 1
  have q2 := t_any d 1
  rw [tS_one a] at q1
  rw [tS_one d] at q2
  have r0 : Blk (w.alloc (.cells #[.int .i64 0, .int .i64 0, .int .i64 0, .int .i64 0, .int .i64 0, .int .i64 0, .int .i64 0, .bool false, .int .i64 0, .int .i64 0] 67)) w.heap.size 67 #[.int .i64 0, .int .i64 0, .int .i64 0, .int .i64 0, .int .i64 0, .int .i64 0, .int .i64 0, .bool false, .int .i64 0, .int .i64 0] := Blk.new _ _ _
  have k0 : Below w.heap.size w (w.alloc (.cells #[.int .i64 0, .int .i64 0, .int .i64 0, .int .i64 0, .int .i64 0, .int .i64 0, .int .i64 0, .bool false, .int .i64 0, .int .i64 0] 67)) := by repeat (first | with_reducible exact Below.refl _ _ | with_reducible assumption | with_reducible refine below_drewN ?_ _ | with_reducible refine Below.drew ?_ | with_reducible refine below_alloc ?_ _ | (with_reducible refine Below.setCell ?_ ?_ _; rotate_left; ((try simp only); omega)))
  go_enter Try.func63, Try.ntmps63
  go_wp2_with fail
  refine (q1 _ (by omega) (by omega) (by omega) (by omega)).mono ?_
  rintro e w1 ⟨rfl, hb1⟩
  have r1 := r0.kept hb1
  have k1 := below_call k0 hb1
  go_wp2_with fail
  refine (q2 _ (by omega) (by omega) (by omega) (by omega)).mono ?_
  rintro e w2 ⟨rfl, hb2⟩
  have r2 := r1.kept hb2
  have k2 := below_call k1 hb2
  obtain ⟨c0, c1, c2, c3, c4, c5, c6, c7, c8, c9⟩ : w2.cell? ⟨w.heap.size, 0, none⟩ = some (.int .i64 0) ∧ w2.cell? ⟨w.heap.size, 1, none⟩ = some (.int .i64 0) ∧ w2.cell? ⟨w.heap.size, 2, none⟩ = some (.int .i64 0) ∧ w2.cell? ⟨w.heap.size, 3, none⟩ = some (.int .i64 0) ∧ w2.cell? ⟨w.heap.size, 4, none⟩ = some (.int .i64 0) ∧ w2.cell? ⟨w.heap.size, 5, none⟩ = some (.int .i64 0) ∧ w2.cell? ⟨w.heap.size, 6, none⟩ = some (.int .i64 0) ∧ w2.cell? ⟨w.heap.size, 7, none⟩ = some (.bool false) ∧ w2.cell? ⟨w.heap.size, 8, none⟩ = some (.int .i64 0) ∧ w2.cell? ⟨w.heap.size, 9, none⟩ = some (.int .i64 0) :=
    ⟨r2.cell 0, r2.cell 1, r2.cell 2, r2.cell 3, r2.cell 4, r2.cell 5, r2.cell 6, r2.cell 7, r2.cell 8, r2.cell 9⟩
  have fz := r2.frozen
  have lz := r2.lt
  go_wp2
  refine ret_of (by simp [results, Try.results63, go_sem, *]; repeat' (first | rfl | apply And.intro)) rfl ⟨rfl, by repeat (first | with_reducible exact Below.refl _ _ | with_reducible assumption | with_reducible refine below_drewN ?_ _ | with_reducible refine Below.drew ?_ | with_reducible refine below_alloc ?_ _ | (with_reducible refine Below.setCell ?_ ?_ _; rotate_left; ((try simp only); omega)))⟩
set_option maxRecDepth 100000 in
set_option maxHeartbeats 1000000 in
theorem rest_any (a d : Int) (ha : 0 ≤ a) (ha' : a ≤ 1000) (hd : 0 ≤ d) (hd' : d ≤ 1000) (w : World) :
    Calls Try.prog 64 #[.int .i64 a, .int .i64 d] w fun e w' => e = .returned (.agg (cE (restE a d)).toArray) ∧ Below w.heap.size w w' := by
  have q1 := t_any a 1
  have q2 := t_any d 1
  rw [tS_one a] at q1
  rw [tS_one d] at q2
  have r0 : Blk (w.alloc (.cells #[.int .i64 0, .int .i64 0, .int .i64 0, .int .i64 0, .int .i64 0, .int .i64 0, .int .i64 0, .bool false, .int .i64 0, .int .i64 0] 67)) w.heap.size 67 #[.int .i64 0, .int .i64 0, .int .i64 0, .int .i64 0, .int .i64 0, .int .i64 0, .int .i64 0, .bool false, .int .i64 0, .int .i64 0] := Blk.new _ _ _
  have k0 : Below w.heap.size w (w.alloc (.cells #[.int .i64 0, .int .i64 0, .int .i64 0, .int .i64 0, .int .i64 0, .int .i64 0, .int .i64 0, .bool false, .int .i64 0, .int .i64 0] 67)) := by repeat (first | with_reducible exact Below.refl _ _ | with_reducible assumption | with_reducible refine below_drewN ?_ _ | with_reducible refine Below.drew ?_ | with_reducible refine below_alloc ?_ _ | (with_reducible refine Below.setCell ?_ ?_ _; rotate_left; ((try simp only); omega)))
  go_enter Try.func64, Try.ntmps64
  go_wp2_with fail
  refine (q1 _ (by omega) (by omega) (by omega) (by omega)).mono ?_
  rintro e w1 ⟨rfl, hb1⟩
  have r1 := r0.kept hb1
  have k1 := below_call k0 hb1
  go_wp2_with fail
  refine (q2 _ (by omega) (by omega) (by omega) (by omega)).mono ?_
  rintro e w2 ⟨rfl, hb2⟩
  have r2 := r1.kept hb2
  have k2 := below_call k1 hb2
  obtain ⟨c0, c1, c2, c3, c4, c5, c6, c7, c8, c9⟩ : w2.cell? ⟨w.heap.size, 0, none⟩ = some (.int .i64 0) ∧ w2.cell? ⟨w.heap.size, 1, none⟩ = some (.int .i64 0) ∧ w2.cell? ⟨w.heap.size, 2, none⟩ = some (.int .i64 0) ∧ w2.cell? ⟨w.heap.size, 3, none⟩ = some (.int .i64 0) ∧ w2.cell? ⟨w.heap.size, 4, none⟩ = some (.int .i64 0) ∧ w2.cell? ⟨w.heap.size, 5, none⟩ = some (.int .i64 0) ∧ w2.cell? ⟨w.heap.size, 6, none⟩ = some (.int .i64 0) ∧ w2.cell? ⟨w.heap.size, 7, none⟩ = some (.bool false) ∧ w2.cell? ⟨w.heap.size, 8, none⟩ = some (.int .i64 0) ∧ w2.cell? ⟨w.heap.size, 9, none⟩ = some (.int .i64 0) :=
    ⟨r2.cell 0, r2.cell 1, r2.cell 2, r2.cell 3, r2.cell 4, r2.cell 5, r2.cell 6, r2.cell 7, r2.cell 8, r2.cell 9⟩
  have fz := r2.frozen
  have lz := r2.lt
  go_wp2
  refine ret_of (by simp [results, Try.results64, go_sem, *]; repeat' (first | rfl | apply And.intro)) rfl ⟨rfl, by repeat (first | with_reducible exact Below.refl _ _ | with_reducible assumption | with_reducible refine below_drewN ?_ _ | with_reducible refine Below.drew ?_ | with_reducible refine below_alloc ?_ _ | (with_reducible refine Below.setCell ?_ ?_ _; rotate_left; ((try simp only); omega)))⟩
theorem readsV_two {w : World} {B g g1 g2 : Nat} {v1 v2 : List Ev} {n1 n2 : Nat} (h : Reads w B 1 (some ⟨g, 0, none⟩) 2 [.slice (some ⟨g1, 0, none⟩) n1 n1, .slice (some ⟨g2, 0, none⟩) n2 n2]) (h1 : Reads w B 10 (some ⟨g1, 0, none⟩) n1 (csE v1)) (h2 : Reads w B 10 (some ⟨g2, 0, none⟩) n2 (csE v2)) (hn1 : n1 ≤ 9223372036854775807) (hn2 : n2 ≤ 9223372036854775807) :
    ReadsV w B (some ⟨g, 0, none⟩) 2 [v1, v2] := by
  refine ⟨[(some ⟨g1, 0, none⟩, n1, n1), (some ⟨g2, 0, none⟩, n2, n2)], rfl, h, fun k d v hd hv => ?_⟩
  match k, hd, hv with
  | 0, hd, hv => simp at hd hv; subst hd; subst hv; exact ⟨h1, hn1⟩
  | 1, hd, hv => simp at hd hv; subst hd; subst hv; exact ⟨h2, hn2⟩
  | k + 2, hd, hv => simp at hd
set_option maxRecDepth 100000 in
set_option maxHeartbeats 1000000 in
theorem two_any (w : World) : Calls Try.prog 32 #[] w fun e w' => ∃ A, e = .returned (.slice A 2 2) ∧ ReadsV w' w'.heap.size A 2 twoL ∧ Below w.heap.size w w' := by
  go_enter Try.func32, Try.ntmps32
  go_wp2_with fail
  refine (note_any 0 2 0 (by omega) (by omega) (by omega) (by omega) _).mono ?_
  rintro e w1 ⟨rfl, hb1⟩
  go_wp2_with fail
  refine (note_any 2 4 1 (by omega) (by omega) (by omega) (by omega) _).mono ?_
  rintro e w2 ⟨rfl, hb2⟩
  have k2 := below_call hb1 hb2
  clear hb1 hb2
  simp only [cE, noteE]
  go_wp2_with fail
  have R1 : Reads (w2.alloc (.cells (csE [noteE 0 2 0, noteE 2 4 1]).toArray 67)) (w2.heap.size + 1) 10 (some ⟨w2.heap.size, 0, none⟩) 2 (csE [noteE 0 2 0, noteE 2 4 1]) := Reads.newAt _ _ _ 2 10 _ rfl rfl
  have k3 : Below w.heap.size w (w2.alloc (.cells (csE [noteE 0 2 0, noteE 2 4 1]).toArray 67)) := below_alloc k2 _
  refine (rest_any 0 3 (by omega) (by omega) (by omega) (by omega) _).mono ?_
  rintro e w4 ⟨rfl, hb4⟩
  have R4 := R1.below (by simp) hb4
  have k4 := below_call k3 hb4
  have z4 := hb4.size
  clear R1 k3 hb4
  go_wp2_with fail
  refine (note_any 3 1 4 (by omega) (by omega) (by omega) (by omega) _).mono ?_
  rintro e w5 ⟨rfl, hb5⟩
  have z5 := hb5.size
  have R5 := R4.below (by simpa using z4) hb5
  have k5 := below_call k4 hb5
  simp only [World.size_alloc] at z4
  clear R4 hb5
  simp only [cE, noteE, restE]
  go_wp2_with fail
  go_ret
  have kA : Below w5.heap.size w5 ((w5.alloc (.cells (csE [restE 0 3, noteE 3 1 4]).toArray 67)).alloc (.cells #[.slice (some ⟨w2.heap.size, 0, none⟩) 2 2, .slice (some ⟨w5.heap.size, 0, none⟩) 2 2] 61)) := below_alloc (below_alloc (Below.refl _ _) _) _
  have R2 : Reads (w5.alloc (.cells (csE [restE 0 3, noteE 3 1 4]).toArray 67)) (w5.heap.size + 1) 10 (some ⟨w5.heap.size, 0, none⟩) 2 (csE [restE 0 3, noteE 3 1 4]) := Reads.newAt _ _ _ 2 10 _ rfl rfl
  have R3 : Reads ((w5.alloc (.cells (csE [restE 0 3, noteE 3 1 4]).toArray 67)).alloc (.cells #[.slice (some ⟨w2.heap.size, 0, none⟩) 2 2, .slice (some ⟨w5.heap.size, 0, none⟩) 2 2] 61)) (w5.heap.size + 2) 1 (some ⟨w5.heap.size + 1, 0, none⟩) 2 [.slice (some ⟨w2.heap.size, 0, none⟩) 2 2, .slice (some ⟨w5.heap.size, 0, none⟩) 2 2] := Reads.newAt _ _ _ 2 1 _ (by simp) rfl
  refine ⟨_, rfl, readsV_two (R3.more (by simp)) ((R5.below (by omega) kA).more (by simp; omega)) ((R2.below (by simp) (below_alloc (Below.refl _ _) _)).more (by simp)) (by omega) (by omega), below_call k5 kA⟩
end Go.Proofs.Ytbljfaocmeeljaa
