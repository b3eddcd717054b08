/- The law's slice of two events. -/
import Derived.Test.YtbljfaocmeeljaaAlTwo
import Derived.Test.YtbljfaocmeeljaaAlSlice
namespace Go.Proofs.Ytbljfaocmeeljaa
open Go.RowKit
/-- What the law's slice hands back. -/
def S27Ret (a d x y : Int) (w : World) (e : Ending) (w' : World) : Prop := ∃ g, e = .returned (.agg #[.int .i64 a, .int .i64 1, .int .i64 d, .int .i64 1, .slice (some ⟨g, 0, none⟩) 2 2]) ∧ Reads w' w'.heap.size 1 (some ⟨g, 0, none⟩) 2 (csN [x, y]) ∧ Below w.heap.size w w'
theorem s27_of {a d x y : Int} {w w' : World} {g : Nat} (h : Reads w' w'.heap.size 1 (some ⟨g, 0, none⟩) 2 (csN [x, y])) (hb : Below w.heap.size w w') : S27Ret a d x y w (.returned (.agg #[.int .i64 a, .int .i64 1, .int .i64 d, .int .i64 1, .slice (some ⟨g, 0, none⟩) 2 2])) w' := ⟨g, rfl, h, hb⟩
set_option maxRecDepth 100000 in
set_option maxHeartbeats 8000000 in
theorem slice27_any (a d x y : Int) (ha : 0 ≤ a) (ha' : a ≤ 1000) (hd : 0 ≤ d) (hd' : d ≤ 1000) (w : World) :
    Calls Try.prog 41 #[.int .i64 a, .int .i64 d, .int .i64 x, .int .i64 y] w fun e w' => S27Ret a d x y w e w' := by
  have q1 := t_any a 1
  have q2 := t_any d 1
  rw [tS_one a] at q1
  rw [tS_one d] at q2
  have r0 : Blk (w.alloc (.cells #[.int .i64 0, .int .i64 0, .int .i64 0, .int .i64 0, .slice none 0 0] 59)) w.heap.size 59 #[.int .i64 0, .int .i64 0, .int .i64 0, .int .i64 0, .slice none 0 0] := Blk.new _ _ _
  have k0 : Below w.heap.size w (w.alloc (.cells #[.int .i64 0, .int .i64 0, .int .i64 0, .int .i64 0, .slice none 0 0] 59)) := by repeat (first | with_reducible exact Below.refl _ _ | with_reducible assumption | with_reducible refine below_drewN ?_ _ | with_reducible refine Below.drew ?_ | with_reducible refine below_alloc ?_ _ | (with_reducible refine Below.setCell ?_ ?_ _; rotate_left; ((try simp only); omega)))
  go_enter Try.func41, Try.ntmps41
  go_wp2_with fail
  refine (q1 _ (by omega) (by omega) (by omega) (by omega)).mono ?_
  rintro e w1 ⟨rfl, hb1⟩
  have r1 := r0.kept hb1
  have k1 := below_call k0 hb1
  go_wp2_with fail
  refine (q2 _ (by omega) (by omega) (by omega) (by omega)).mono ?_
  rintro e w2 ⟨rfl, hb2⟩
  have r2 := r1.kept hb2
  have k2 := below_call k1 hb2
  obtain ⟨c0, c1, c2, c3, c4⟩ : w2.cell? ⟨w.heap.size, 0, none⟩ = some (.int .i64 0) ∧ w2.cell? ⟨w.heap.size, 1, none⟩ = some (.int .i64 0) ∧ w2.cell? ⟨w.heap.size, 2, none⟩ = some (.int .i64 0) ∧ w2.cell? ⟨w.heap.size, 3, none⟩ = some (.int .i64 0) ∧ w2.cell? ⟨w.heap.size, 4, none⟩ = some (.slice none 0 0) := ⟨r2.cell 0, r2.cell 1, r2.cell 2, r2.cell 3, r2.cell 4⟩
  have fz := r2.frozen
  have lz := r2.lt
  go_wp2
  refine ret_of (by simp [results, Try.results41, go_sem, *]; repeat' (first | rfl | apply And.intro)) rfl (s27_of ?_ (by repeat (first | with_reducible exact Below.refl _ _ | with_reducible assumption | with_reducible refine below_drewN ?_ _ | with_reducible refine Below.drew ?_ | with_reducible refine below_alloc ?_ _ | (with_reducible refine Below.setCell ?_ ?_ _; rotate_left; ((try simp only); omega)))))
  have h9 := Reads.newAt ((((((w2.setCell ⟨w.heap.size, 0, none⟩ (.int .i64 a)).setCell ⟨w.heap.size, 1, none⟩ (.int .i64 1)).setCell ⟨w.heap.size, 2, none⟩ (.int .i64 d)).setCell ⟨w.heap.size, 3, none⟩ (.int .i64 1)).setCell ⟨w.heap.size, 4, none⟩ (.slice (some ⟨w2.heap.size, 0, none⟩) 2 2))) 3 #[.int .i64 x, .int .i64 y] 2 1 w2.heap.size (by simp) rfl
  exact h9.more (by simp)
end Go.Proofs.Ytbljfaocmeeljaa
