/- The walks through kind (without a name), parsed and refused. -/
import Derived.Test.YtmbnpblejhlefaaDoorChKnownMath
namespace Go.Proofs.YtmbnpblejhlefaaDoor
open Go.RowKit
set_option maxRecDepth 100000 in
set_option maxHeartbeats 1000000 in
theorem kind_none (p q : Int × Int × Int) (K : Int) (w : World) (ht : Tabs w) (k1 : kindE p q = (K, 0)) (k2 : kindE q p = (K, 0)) (n1 : nameE p q = (⟨#[]⟩, 18)) (n2 : nameE q p = (⟨#[]⟩, 18)) :
    Calls Tryd.prog 28 #[vP p, vP q, .int .i64 K, .string ⟨#[]⟩] w fun e w' => e = .returned (.bool true) ∧ Below w.heap.size w w' := by
  have q1 := fun W hW => Kind_any p q W hW
  have q2 := fun W hW => Kind_any q p W hW
  have q3 := fun W hW => Name_any p q W hW
  have q4 := fun W hW => Name_any q p W hW
  rw [k1] at q1
  rw [k2] at q2
  rw [n1] at q3
  rw [n2] at q4
  clear k1 k2 n1 n2
  obtain ⟨a, b, c⟩ := p
  obtain ⟨a', b', c'⟩ := q
  go_enter Tryd.func28, Tryd.ntmps28
  go_wp2_with fail
  refine Calls.mono (q1 _ ?_) ?_
  · exact ht.kept (by repeat (first | exact Below.refl _ _ | refine below_drewN ?_ _ | refine Below.drew ?_ | refine below_alloc ?_ _ | (refine below_call ?_ (by assumption)) | (refine Below.setCell ?_ ?_ _; rotate_left; (simp; try omega))))
  rintro e w1 ⟨rfl, hb1⟩
  have BP1 : Blk w1 (w.heap.size) 36 #[.int .i64 a, .int .i64 b, .int .i64 c] := by
    refine Blk.kept ?_ hb1
    repeat (first | with_reducible exact Blk.new _ _ _ | (with_reducible refine Blk.newAt _ _ _ _ ?_; first | rfl | (simp; done)) | with_reducible apply Blk.alloc | with_reducible apply Blk.drewN | with_reducible apply Blk.drew | with_reducible apply Blk.set_to | (with_reducible apply Blk.far_; (simp only [ne_eq]; omega)) | rfl)
  have cP0_1 : w1.cell? ⟨w.heap.size, 0, none⟩ = some (.int .i64 a) := BP1.cell 0
  have cP1_1 : w1.cell? ⟨w.heap.size, 1, none⟩ = some (.int .i64 b) := BP1.cell 1
  have cP2_1 : w1.cell? ⟨w.heap.size, 2, none⟩ = some (.int .i64 c) := BP1.cell 2
  have lP1 : w.heap.size < w1.heap.size := BP1.lt
  have mP1 : w.heap.size < w1.heap.size + 1 := by omega
  have nP1 : w.heap.size < w1.heap.size + 1 + 1 := by omega
  have BQ1 : Blk w1 (w.heap.size + 1) 36 #[.int .i64 a', .int .i64 b', .int .i64 c'] := by
    refine Blk.kept ?_ hb1
    repeat (first | with_reducible exact Blk.new _ _ _ | (with_reducible refine Blk.newAt _ _ _ _ ?_; first | rfl | (simp; done)) | with_reducible apply Blk.alloc | with_reducible apply Blk.drewN | with_reducible apply Blk.drew | with_reducible apply Blk.set_to | (with_reducible apply Blk.far_; (simp only [ne_eq]; omega)) | rfl)
  have cQ0_1 : w1.cell? ⟨w.heap.size + 1, 0, none⟩ = some (.int .i64 a') := BQ1.cell 0
  have cQ1_1 : w1.cell? ⟨w.heap.size + 1, 1, none⟩ = some (.int .i64 b') := BQ1.cell 1
  have cQ2_1 : w1.cell? ⟨w.heap.size + 1, 2, none⟩ = some (.int .i64 c') := BQ1.cell 2
  have lQ1 : w.heap.size + 1 < w1.heap.size := BQ1.lt
  have mQ1 : w.heap.size + 1 < w1.heap.size + 1 := by omega
  have nQ1 : w.heap.size + 1 < w1.heap.size + 1 + 1 := by omega
  have hs1 : w.heap.size ≤ w1.heap.size := by have h := hb1.size; (try simp at h); omega
  go_wp2_with fail
  refine Calls.mono (q2 _ ?_) ?_
  · exact ht.kept (by repeat (first | exact Below.refl _ _ | refine below_drewN ?_ _ | refine Below.drew ?_ | refine below_alloc ?_ _ | (refine below_call ?_ (by assumption)) | (refine Below.setCell ?_ ?_ _; rotate_left; (simp; try omega))))
  rintro e w2 ⟨rfl, hb2⟩
  have BP2 : Blk w2 (w.heap.size) 36 #[.int .i64 a, .int .i64 b, .int .i64 c] := by
    refine Blk.kept ?_ hb2
    repeat (first | with_reducible exact BP1 | with_reducible exact Blk.new _ _ _ | (with_reducible refine Blk.newAt _ _ _ _ ?_; first | rfl | (simp; done)) | with_reducible apply Blk.alloc | with_reducible apply Blk.drewN | with_reducible apply Blk.drew | with_reducible apply Blk.set_to | (with_reducible apply Blk.far_; (simp only [ne_eq]; omega)) | rfl)
  have cP0_2 : w2.cell? ⟨w.heap.size, 0, none⟩ = some (.int .i64 a) := BP2.cell 0
  have cP1_2 : w2.cell? ⟨w.heap.size, 1, none⟩ = some (.int .i64 b) := BP2.cell 1
  have cP2_2 : w2.cell? ⟨w.heap.size, 2, none⟩ = some (.int .i64 c) := BP2.cell 2
  have lP2 : w.heap.size < w2.heap.size := BP2.lt
  have mP2 : w.heap.size < w2.heap.size + 1 := by omega
  have nP2 : w.heap.size < w2.heap.size + 1 + 1 := by omega
  have BQ2 : Blk w2 (w.heap.size + 1) 36 #[.int .i64 a', .int .i64 b', .int .i64 c'] := by
    refine Blk.kept ?_ hb2
    repeat (first | with_reducible exact BQ1 | with_reducible exact Blk.new _ _ _ | (with_reducible refine Blk.newAt _ _ _ _ ?_; first | rfl | (simp; done)) | with_reducible apply Blk.alloc | with_reducible apply Blk.drewN | with_reducible apply Blk.drew | with_reducible apply Blk.set_to | (with_reducible apply Blk.far_; (simp only [ne_eq]; omega)) | rfl)
  have cQ0_2 : w2.cell? ⟨w.heap.size + 1, 0, none⟩ = some (.int .i64 a') := BQ2.cell 0
  have cQ1_2 : w2.cell? ⟨w.heap.size + 1, 1, none⟩ = some (.int .i64 b') := BQ2.cell 1
  have cQ2_2 : w2.cell? ⟨w.heap.size + 1, 2, none⟩ = some (.int .i64 c') := BQ2.cell 2
  have lQ2 : w.heap.size + 1 < w2.heap.size := BQ2.lt
  have mQ2 : w.heap.size + 1 < w2.heap.size + 1 := by omega
  have nQ2 : w.heap.size + 1 < w2.heap.size + 1 + 1 := by omega
  clear BP1 lP1 mP1 nP1 cP0_1 cP1_1 cP2_1 BQ1 lQ1 mQ1 nQ1 cQ0_1 cQ1_1 cQ2_1
  have hs2 : w.heap.size ≤ w2.heap.size := by have h := hb2.size; (try simp at h); omega
  go_wp2_with fail
  refine Calls.mono (q3 _ ?_) ?_
  · exact ht.kept (by repeat (first | exact Below.refl _ _ | refine below_drewN ?_ _ | refine Below.drew ?_ | refine below_alloc ?_ _ | (refine below_call ?_ (by assumption)) | (refine Below.setCell ?_ ?_ _; rotate_left; (simp; try omega))))
  rintro e w3 ⟨rfl, hb3⟩
  have BP3 : Blk w3 (w.heap.size) 36 #[.int .i64 a, .int .i64 b, .int .i64 c] := by
    refine Blk.kept ?_ hb3
    repeat (first | with_reducible exact BP2 | with_reducible exact Blk.new _ _ _ | (with_reducible refine Blk.newAt _ _ _ _ ?_; first | rfl | (simp; done)) | with_reducible apply Blk.alloc | with_reducible apply Blk.drewN | with_reducible apply Blk.drew | with_reducible apply Blk.set_to | (with_reducible apply Blk.far_; (simp only [ne_eq]; omega)) | rfl)
  have cP0_3 : w3.cell? ⟨w.heap.size, 0, none⟩ = some (.int .i64 a) := BP3.cell 0
  have cP1_3 : w3.cell? ⟨w.heap.size, 1, none⟩ = some (.int .i64 b) := BP3.cell 1
  have cP2_3 : w3.cell? ⟨w.heap.size, 2, none⟩ = some (.int .i64 c) := BP3.cell 2
  have lP3 : w.heap.size < w3.heap.size := BP3.lt
  have mP3 : w.heap.size < w3.heap.size + 1 := by omega
  have nP3 : w.heap.size < w3.heap.size + 1 + 1 := by omega
  have BQ3 : Blk w3 (w.heap.size + 1) 36 #[.int .i64 a', .int .i64 b', .int .i64 c'] := by
    refine Blk.kept ?_ hb3
    repeat (first | with_reducible exact BQ2 | with_reducible exact Blk.new _ _ _ | (with_reducible refine Blk.newAt _ _ _ _ ?_; first | rfl | (simp; done)) | with_reducible apply Blk.alloc | with_reducible apply Blk.drewN | with_reducible apply Blk.drew | with_reducible apply Blk.set_to | (with_reducible apply Blk.far_; (simp only [ne_eq]; omega)) | rfl)
  have cQ0_3 : w3.cell? ⟨w.heap.size + 1, 0, none⟩ = some (.int .i64 a') := BQ3.cell 0
  have cQ1_3 : w3.cell? ⟨w.heap.size + 1, 1, none⟩ = some (.int .i64 b') := BQ3.cell 1
  have cQ2_3 : w3.cell? ⟨w.heap.size + 1, 2, none⟩ = some (.int .i64 c') := BQ3.cell 2
  have lQ3 : w.heap.size + 1 < w3.heap.size := BQ3.lt
  have mQ3 : w.heap.size + 1 < w3.heap.size + 1 := by omega
  have nQ3 : w.heap.size + 1 < w3.heap.size + 1 + 1 := by omega
  clear BP2 lP2 mP2 nP2 cP0_2 cP1_2 cP2_2 BQ2 lQ2 mQ2 nQ2 cQ0_2 cQ1_2 cQ2_2
  have hs3 : w.heap.size ≤ w3.heap.size := by have h := hb3.size; (try simp at h); omega
  go_wp2_with fail
  refine Calls.mono (q4 _ ?_) ?_
  · exact ht.kept (by repeat (first | exact Below.refl _ _ | refine below_drewN ?_ _ | refine Below.drew ?_ | refine below_alloc ?_ _ | (refine below_call ?_ (by assumption)) | (refine Below.setCell ?_ ?_ _; rotate_left; (simp; try omega))))
  rintro e w4 ⟨rfl, hb4⟩
  have BP4 : Blk w4 (w.heap.size) 36 #[.int .i64 a, .int .i64 b, .int .i64 c] := by
    refine Blk.kept ?_ hb4
    repeat (first | with_reducible exact BP3 | with_reducible exact Blk.new _ _ _ | (with_reducible refine Blk.newAt _ _ _ _ ?_; first | rfl | (simp; done)) | with_reducible apply Blk.alloc | with_reducible apply Blk.drewN | with_reducible apply Blk.drew | with_reducible apply Blk.set_to | (with_reducible apply Blk.far_; (simp only [ne_eq]; omega)) | rfl)
  have cP0_4 : w4.cell? ⟨w.heap.size, 0, none⟩ = some (.int .i64 a) := BP4.cell 0
  have cP1_4 : w4.cell? ⟨w.heap.size, 1, none⟩ = some (.int .i64 b) := BP4.cell 1
  have cP2_4 : w4.cell? ⟨w.heap.size, 2, none⟩ = some (.int .i64 c) := BP4.cell 2
  have lP4 : w.heap.size < w4.heap.size := BP4.lt
  have mP4 : w.heap.size < w4.heap.size + 1 := by omega
  have nP4 : w.heap.size < w4.heap.size + 1 + 1 := by omega
  have BQ4 : Blk w4 (w.heap.size + 1) 36 #[.int .i64 a', .int .i64 b', .int .i64 c'] := by
    refine Blk.kept ?_ hb4
    repeat (first | with_reducible exact BQ3 | with_reducible exact Blk.new _ _ _ | (with_reducible refine Blk.newAt _ _ _ _ ?_; first | rfl | (simp; done)) | with_reducible apply Blk.alloc | with_reducible apply Blk.drewN | with_reducible apply Blk.drew | with_reducible apply Blk.set_to | (with_reducible apply Blk.far_; (simp only [ne_eq]; omega)) | rfl)
  have cQ0_4 : w4.cell? ⟨w.heap.size + 1, 0, none⟩ = some (.int .i64 a') := BQ4.cell 0
  have cQ1_4 : w4.cell? ⟨w.heap.size + 1, 1, none⟩ = some (.int .i64 b') := BQ4.cell 1
  have cQ2_4 : w4.cell? ⟨w.heap.size + 1, 2, none⟩ = some (.int .i64 c') := BQ4.cell 2
  have lQ4 : w.heap.size + 1 < w4.heap.size := BQ4.lt
  have mQ4 : w.heap.size + 1 < w4.heap.size + 1 := by omega
  have nQ4 : w.heap.size + 1 < w4.heap.size + 1 + 1 := by omega
  clear BP3 lP3 mP3 nP3 cP0_3 cP1_3 cP2_3 BQ3 lQ3 mQ3 nQ3 cQ0_3 cQ1_3 cQ2_3
  have hs4 : w.heap.size ≤ w4.heap.size := by have h := hb4.size; (try simp at h); omega
  have kb : Below w.heap.size w w4 := by repeat (first | exact Below.refl _ _ | refine below_drewN ?_ _ | refine Below.drew ?_ | refine below_alloc ?_ _ | (refine below_call ?_ (by assumption)) | (refine Below.setCell ?_ ?_ _; rotate_left; (simp; try omega)))
  go_wp2
  go_ret
  exact ⟨rfl, by repeat (first | with_reducible exact Below.refl _ _ | with_reducible assumption | with_reducible refine below_drewN ?_ _ | with_reducible refine Below.drew ?_ | with_reducible refine below_alloc ?_ _ | (with_reducible refine Below.setCell ?_ ?_ _; rotate_left; ((try simp only); omega)))⟩
set_option maxRecDepth 100000 in
set_option maxHeartbeats 1000000 in
theorem parsed_ok (s : ByteArray) (u v : Int) (w : World) (ht : Tabs2 w) (h0 : 0 ≤ u) (h1 : u ≤ 62) (hn : nameX (u, v) = s) (hs : s ≠ ⟨#[]⟩) (hz : s.size ≤ maxLen) :
    Calls Tryd.prog 29 #[.string s, .int .i64 u, .int .i64 v] w fun e w' => e = .returned (.bool true) ∧ Below w.heap.size w w' := by
  have q1 := fun W hW => Parse_yes (u, v) W hW h0 h1 (by rw [hn]; exact hs) (by rw [hn]; exact hz)
  rw [hn] at q1
  clear hn hs
  go_enter Tryd.func29, Tryd.ntmps29
  go_wp2_with fail
  refine Calls.mono (q1 _ ?_) ?_
  · exact ht.kept (by repeat (first | exact Below.refl _ _ | refine below_drewN ?_ _ | refine Below.drew ?_ | refine below_alloc ?_ _ | (refine below_call ?_ (by assumption)) | (refine Below.setCell ?_ ?_ _; rotate_left; (simp; try omega))))
  rintro e w1 ⟨rfl, hb1⟩
  have hs1 : w.heap.size ≤ w1.heap.size := by have h := hb1.size; (try simp at h); omega
  have kb : Below w.heap.size w w1 := by repeat (first | exact Below.refl _ _ | refine below_drewN ?_ _ | refine Below.drew ?_ | refine below_alloc ?_ _ | (refine below_call ?_ (by assumption)) | (refine Below.setCell ?_ ?_ _; rotate_left; (simp; try omega)))
  go_wp2
  go_ret
  exact ⟨rfl, by repeat (first | with_reducible exact Below.refl _ _ | with_reducible assumption | with_reducible refine below_drewN ?_ _ | with_reducible refine Below.drew ?_ | with_reducible refine below_alloc ?_ _ | (with_reducible refine Below.setCell ?_ ?_ _; rotate_left; ((try simp only); omega)))⟩
set_option maxRecDepth 100000 in
set_option maxHeartbeats 1000000 in
theorem refused_ok (s : ByteArray) (w : World) (ht : Tabs2 w) (hn : NoName s) (hz : s.size ≤ maxLen) :
    Calls Tryd.prog 30 #[.string s] w fun e w' => e = .returned (.bool true) ∧ Below w.heap.size w w' := by
  have q1 := fun W hW => Parse_no s W hW hz hn
  clear hn
  go_enter Tryd.func30, Tryd.ntmps30
  go_wp2_with fail
  refine Calls.mono (q1 _ ?_) ?_
  · exact ht.kept (by repeat (first | exact Below.refl _ _ | refine below_drewN ?_ _ | refine Below.drew ?_ | refine below_alloc ?_ _ | (refine below_call ?_ (by assumption)) | (refine Below.setCell ?_ ?_ _; rotate_left; (simp; try omega))))
  rintro e w1 ⟨rfl, hb1⟩
  have hs1 : w.heap.size ≤ w1.heap.size := by have h := hb1.size; (try simp at h); omega
  have kb : Below w.heap.size w w1 := by repeat (first | exact Below.refl _ _ | refine below_drewN ?_ _ | refine Below.drew ?_ | refine below_alloc ?_ _ | (refine below_call ?_ (by assumption)) | (refine Below.setCell ?_ ?_ _; rotate_left; (simp; try omega)))
  go_wp2
  go_ret
  exact ⟨rfl, by repeat (first | with_reducible exact Below.refl _ _ | with_reducible assumption | with_reducible refine below_drewN ?_ _ | with_reducible refine Below.drew ?_ | with_reducible refine below_alloc ?_ _ | (with_reducible refine Below.setCell ?_ ?_ _; rotate_left; ((try simp only); omega)))⟩
end Go.Proofs.YtmbnpblejhlefaaDoor
