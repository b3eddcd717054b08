/- IntervalOctaves: for every two numbers: the order of the two pitches that they make changes neither the simple interval nor the kind, nor does an octave more between them. -/
import Derived.Test.YtmbnpblejhlefaaDoorChSentOf
import Derived.Test.YtmbnpblejhlefaaDoorChOct
namespace Go.Proofs.YtmbnpblejhlefaaDoor.intervalOctaves
open Go.RowKit Go.ChangeShapes Go.WideShapes Go.ChangeAt
set_option maxRecDepth 100000 in
set_option maxHeartbeats 4000000 in
theorem walk (a b : Int) (w : World) (ha : -9223372036854775808 ≤ a ∧ a ≤ 9223372036854775807) (hb : -9223372036854775808 ≤ b ∧ b ≤ 9223372036854775807) (ht : Tabs2 w) :
    Calls Tryd.prog 6 #[.int .i64 a, .int .i64 b] w fun e w' => e = .returned (.bool true) ∧ Below w.heap.size w w' := by
  have qk := fun W (hW : Tabs2 W) => known_any W hW
  have m1 := fun W => made_any a W ha.1 ha.2
  have m2 := fun W => made_any b W hb.1 hb.2
  have hpa := madeP_ok a
  have hpb := madeP_ok b
  have ba := madeP_bd a
  have bb := madeP_bd b
  have hbass : ∃ lo : Nat, bassE [madeP a, madeP b] = ((lo : Int), 0) ∧ lo ≤ 1 := by
    have hc : chordE [madeP a, madeP b] = 0 := by simp [chordE, firstE, hpa, hpb]
    refine ⟨bassL [madeP a, madeP b], ?_, ?_⟩
    · unfold bassE; rw [hc, if_neg (fun h => h rfl), if_neg (by simp)]
    · have := bassL_lt (l := [madeP a, madeP b]) (by simp); simp at this; omega
  obtain ⟨lo, hlo, hlo1⟩ := hbass
  have qb := fun W (B : Nat) (A : Option Addr) (h : Reads W B 3 A 2 (csP [madeP a, madeP b])) (hB : B ≤ W.heap.size) (hW : Tabs2 W) => Bass_any A 2 2 [madeP a, madeP b] B W h hB (by omega) hW.tabs
  rw [hlo] at qb
  have dl0 : decide ((lo : Int) < 0) = false := by simp
  have dl1 : decide ((1 : Int) < (lo : Int)) = false := by simp; omega
  clear hlo
  obtain ⟨p, hp⟩ : ∃ p, p = madeP a := ⟨_, rfl⟩
  obtain ⟨q, hq⟩ : ∃ p, p = madeP b := ⟨_, rfl⟩
  rw [← hp] at m1 qb hpa ba
  rw [← hq] at m2 qb hpb bb
  clear hp hq
  obtain ⟨a0, a1, a2⟩ := p
  obtain ⟨b0, b1, b2⟩ := q
  simp only at ba bb
  by_cases hsw : swB (a0, a1, a2) (b0, b1, b2)
  · have hd : decide (b1 * 7 + b0 < a1 * 7 + a0) = true ∨ (decide (b1 * 7 + b0 < a1 * 7 + a0) = false ∧ (b1 == a1) = true ∧ (b0 == a0) = true ∧ decide (b2 < a2) = true) := by
      unfold swB at hsw
      simp only at hsw
      by_cases h : b1 * 7 + b0 < a1 * 7 + a0
      · exact .inl (by simpa using h)
      · exact .inr ⟨by simpa using h, by simp; omega, by simp; omega, by simp; omega⟩
    replace hsw : ¬ swB (b0, b1, b2) (a0, a1, a2) := by unfold swB at hsw ⊢; simp only at hsw ⊢; omega
    obtain ⟨⟨x0, x1⟩, k, e1, e2, e3, e4, e5, x2, x3⟩ := oct_law (p := (b0, b1, b2)) (q := (a0, a1, a2)) hpb hpa (pchk_mk (by unfold upP; simp only; omega)) hsw
    have s1 := fun W (hW : Tabs2 W) => Simple_any (b0, b1, b2) (a0, a1, a2) W hW.tabs
    have s2 := fun W (hW : Tabs2 W) => Simple_any (a0, a1, a2) (b0, b1, b2) W hW.tabs
    have s3 := fun W (hW : Tabs2 W) => Simple_any (b0, b1, b2) (a0, a1 + 1, a2) W hW.tabs
    have d1 := fun W (hW : Tabs2 W) => Kind_any (b0, b1, b2) (a0, a1, a2) W hW.tabs
    have d2 := fun W (hW : Tabs2 W) => Kind_any (a0, a1 + 1, a2) (b0, b1, b2) W hW.tabs
    rw [e1] at s1
    rw [e2] at s2
    rw [show simE (b0, b1, b2) (a0, a1 + 1, a2) = ((x0, x1), 0) from e3] at s3
    rw [e4] at d1
    rw [show kindE (a0, a1 + 1, a2) (b0, b1, b2) = (k, 0) from e5] at d2
    simp only at x2 x3
    clear e1 e2 e3 e4 e5 hsw hpa hpb
    rcases hd with g0 | ⟨g0, g1, g2, g3⟩
    all_goals
      go_enter Tryd.func6, Tryd.ntmps6
      go_wp2_with fail
      refine Calls.mono (qk _ ?_) ?_
      · exact ht.kept (by repeat (first | with_reducible exact Below.refl _ _ | with_reducible assumption | with_reducible refine below_drewN ?_ _ | with_reducible refine Below.drew ?_ | with_reducible refine below_alloc ?_ _ | (with_reducible refine Below.setCell ?_ ?_ _; rotate_left; ((try simp only); omega))))
      rintro e w1 ⟨rfl, hb1⟩
      have kb1 : Below w.heap.size w w1 := below_call (by repeat (first | with_reducible exact Below.refl _ _ | with_reducible assumption | with_reducible refine below_drewN ?_ _ | with_reducible refine Below.drew ?_ | with_reducible refine below_alloc ?_ _ | (with_reducible refine Below.setCell ?_ ?_ _; rotate_left; ((try simp only); omega)))) hb1
      have hs1 : w.heap.size ≤ w1.heap.size := by have h := hb1.size; (try simp at h); omega
      go_wp2_with fail
      refine (m1 _).mono ?_
      rintro e w2 ⟨rfl, hb2⟩
      have kb2 : Below w.heap.size w w2 := below_call (by repeat (first | with_reducible exact Below.refl _ _ | with_reducible assumption | with_reducible refine below_drewN ?_ _ | with_reducible refine Below.drew ?_ | with_reducible refine below_alloc ?_ _ | (with_reducible refine Below.setCell ?_ ?_ _; rotate_left; ((try simp only); omega)))) hb2
      have hs2 : w.heap.size ≤ w2.heap.size := by have h := hb2.size; (try simp at h); omega
      go_wp2_with fail
      refine (m2 _).mono ?_
      rintro e w3 ⟨rfl, hb3⟩
      have kb3 : Below w.heap.size w w3 := below_call (by repeat (first | with_reducible exact Below.refl _ _ | with_reducible assumption | with_reducible refine below_drewN ?_ _ | with_reducible refine Below.drew ?_ | with_reducible refine below_alloc ?_ _ | (with_reducible refine Below.setCell ?_ ?_ _; rotate_left; ((try simp only); omega)))) hb3
      have hs3 : w.heap.size ≤ w3.heap.size := by have h := hb3.size; (try simp at h); omega
      go_wp2_with fail
      refine (qb _ (w3.heap.size + 1 + 1 + 1) _ (Reads.newAt _ _ _ 2 3 _ (by simp) rfl) (by simp) (ht.kept (below_alloc (below_alloc (below_alloc kb3 _) _) _))).mono ?_
      rintro e w4 ⟨rfl, hb4⟩
      have kb4 : Below w.heap.size w w4 := below_call (by repeat (first | with_reducible exact Below.refl _ _ | with_reducible assumption | with_reducible refine below_drewN ?_ _ | with_reducible refine Below.drew ?_ | with_reducible refine below_alloc ?_ _ | (with_reducible refine Below.setCell ?_ ?_ _; rotate_left; ((try simp only); omega)))) hb4
      have BP4 : Blk w4 (w3.heap.size) 36 #[.int .i64 a0, .int .i64 a1, .int .i64 a2] := by
        refine Blk.kept ?_ hb4
        repeat (first | with_reducible exact Blk.new _ _ _ | (with_reducible refine Blk.newAt _ _ _ _ ?_; first | rfl | (simp; done)) | with_reducible apply Blk.alloc | with_reducible apply Blk.drewN | with_reducible apply Blk.drew | with_reducible apply Blk.set_to | (with_reducible apply Blk.far_; (simp only [ne_eq]; omega)) | rfl)
      have cP0_4 : w4.cell? ⟨w3.heap.size, 0, none⟩ = some (.int .i64 a0) := BP4.cell 0
      have cP1_4 : w4.cell? ⟨w3.heap.size, 1, none⟩ = some (.int .i64 a1) := BP4.cell 1
      have cP2_4 : w4.cell? ⟨w3.heap.size, 2, none⟩ = some (.int .i64 a2) := BP4.cell 2
      have lP4 : w3.heap.size < w4.heap.size := BP4.lt
      have mP4 : w3.heap.size < w4.heap.size + 1 := by omega
      have nP4 : w3.heap.size < w4.heap.size + 1 + 1 := by omega
      have fP0_4 := BP4.frozen 0
      have fP1_4 := BP4.frozen 1
      have fP2_4 := BP4.frozen 2
      have BQ4 : Blk w4 (w3.heap.size + 1) 36 #[.int .i64 b0, .int .i64 b1, .int .i64 b2] := by
        refine Blk.kept ?_ hb4
        repeat (first | with_reducible exact Blk.new _ _ _ | (with_reducible refine Blk.newAt _ _ _ _ ?_; first | rfl | (simp; done)) | with_reducible apply Blk.alloc | with_reducible apply Blk.drewN | with_reducible apply Blk.drew | with_reducible apply Blk.set_to | (with_reducible apply Blk.far_; (simp only [ne_eq]; omega)) | rfl)
      have cQ0_4 : w4.cell? ⟨w3.heap.size + 1, 0, none⟩ = some (.int .i64 b0) := BQ4.cell 0
      have cQ1_4 : w4.cell? ⟨w3.heap.size + 1, 1, none⟩ = some (.int .i64 b1) := BQ4.cell 1
      have cQ2_4 : w4.cell? ⟨w3.heap.size + 1, 2, none⟩ = some (.int .i64 b2) := BQ4.cell 2
      have lQ4 : w3.heap.size + 1 < w4.heap.size := BQ4.lt
      have mQ4 : w3.heap.size + 1 < w4.heap.size + 1 := by omega
      have nQ4 : w3.heap.size + 1 < w4.heap.size + 1 + 1 := by omega
      have fQ0_4 := BQ4.frozen 0
      have fQ1_4 := BQ4.frozen 1
      have fQ2_4 := BQ4.frozen 2
      have eQP4 : w3.heap.size + 1 ≠ w3.heap.size := by omega
      have ePQ4 : w3.heap.size ≠ w3.heap.size + 1 := by omega
      have hs4 : w.heap.size ≤ w4.heap.size := by have h := hb4.size; (try simp at h); omega
      go_wp2_with fail
      refine Calls.mono (s1 _ ?_) ?_
      · exact ht.kept (by repeat (first | with_reducible exact Below.refl _ _ | with_reducible assumption | with_reducible refine below_drewN ?_ _ | with_reducible refine Below.drew ?_ | with_reducible refine below_alloc ?_ _ | (with_reducible refine Below.setCell ?_ ?_ _; rotate_left; ((try simp only); omega))))
      rintro e w5 ⟨rfl, hb5⟩
      have kb5 : Below w.heap.size w w5 := below_call (by repeat (first | with_reducible exact Below.refl _ _ | with_reducible assumption | with_reducible refine below_drewN ?_ _ | with_reducible refine Below.drew ?_ | with_reducible refine below_alloc ?_ _ | (with_reducible refine Below.setCell ?_ ?_ _; rotate_left; ((try simp only); omega)))) hb5
      have BP5 : Blk w5 (w3.heap.size) 36 #[.int .i64 b0, .int .i64 b1, .int .i64 b2] := by
        refine Blk.kept ?_ hb5
        repeat (first | with_reducible exact BP4 | with_reducible exact Blk.new _ _ _ | (with_reducible refine Blk.newAt _ _ _ _ ?_; first | rfl | (simp; done)) | with_reducible apply Blk.alloc | with_reducible apply Blk.drewN | with_reducible apply Blk.drew | with_reducible apply Blk.set_to | (with_reducible apply Blk.far_; (simp only [ne_eq]; omega)) | rfl)
      have cP0_5 : w5.cell? ⟨w3.heap.size, 0, none⟩ = some (.int .i64 b0) := BP5.cell 0
      have cP1_5 : w5.cell? ⟨w3.heap.size, 1, none⟩ = some (.int .i64 b1) := BP5.cell 1
      have cP2_5 : w5.cell? ⟨w3.heap.size, 2, none⟩ = some (.int .i64 b2) := BP5.cell 2
      have lP5 : w3.heap.size < w5.heap.size := BP5.lt
      have mP5 : w3.heap.size < w5.heap.size + 1 := by omega
      have nP5 : w3.heap.size < w5.heap.size + 1 + 1 := by omega
      have fP0_5 := BP5.frozen 0
      have fP1_5 := BP5.frozen 1
      have fP2_5 := BP5.frozen 2
      have BQ5 : Blk w5 (w3.heap.size + 1) 36 #[.int .i64 a0, .int .i64 a1, .int .i64 a2] := by
        refine Blk.kept ?_ hb5
        repeat (first | with_reducible exact BQ4 | with_reducible exact Blk.new _ _ _ | (with_reducible refine Blk.newAt _ _ _ _ ?_; first | rfl | (simp; done)) | with_reducible apply Blk.alloc | with_reducible apply Blk.drewN | with_reducible apply Blk.drew | with_reducible apply Blk.set_to | (with_reducible apply Blk.far_; (simp only [ne_eq]; omega)) | rfl)
      have cQ0_5 : w5.cell? ⟨w3.heap.size + 1, 0, none⟩ = some (.int .i64 a0) := BQ5.cell 0
      have cQ1_5 : w5.cell? ⟨w3.heap.size + 1, 1, none⟩ = some (.int .i64 a1) := BQ5.cell 1
      have cQ2_5 : w5.cell? ⟨w3.heap.size + 1, 2, none⟩ = some (.int .i64 a2) := BQ5.cell 2
      have lQ5 : w3.heap.size + 1 < w5.heap.size := BQ5.lt
      have mQ5 : w3.heap.size + 1 < w5.heap.size + 1 := by omega
      have nQ5 : w3.heap.size + 1 < w5.heap.size + 1 + 1 := by omega
      have fQ0_5 := BQ5.frozen 0
      have fQ1_5 := BQ5.frozen 1
      have fQ2_5 := BQ5.frozen 2
      have BU5 : Blk w5 (w4.heap.size) 36 #[.int .i64 a0, .int .i64 (a1 + 1), .int .i64 a2] := by
        refine Blk.kept ?_ hb5
        repeat (first | with_reducible exact Blk.new _ _ _ | (with_reducible refine Blk.newAt _ _ _ _ ?_; first | rfl | (simp; done)) | with_reducible apply Blk.alloc | with_reducible apply Blk.drewN | with_reducible apply Blk.drew | with_reducible apply Blk.set_to | (with_reducible apply Blk.far_; (simp only [ne_eq]; omega)) | rfl)
      have cU0_5 : w5.cell? ⟨w4.heap.size, 0, none⟩ = some (.int .i64 a0) := BU5.cell 0
      have cU1_5 : w5.cell? ⟨w4.heap.size, 1, none⟩ = some (.int .i64 (a1 + 1)) := BU5.cell 1
      have cU2_5 : w5.cell? ⟨w4.heap.size, 2, none⟩ = some (.int .i64 a2) := BU5.cell 2
      have lU5 : w4.heap.size < w5.heap.size := BU5.lt
      have mU5 : w4.heap.size < w5.heap.size + 1 := by omega
      have nU5 : w4.heap.size < w5.heap.size + 1 + 1 := by omega
      have fU0_5 := BU5.frozen 0
      have fU1_5 := BU5.frozen 1
      have fU2_5 := BU5.frozen 2
      have eUP5 : w4.heap.size ≠ w3.heap.size := by omega
      have ePU5 : w3.heap.size ≠ w4.heap.size := by omega
      have eUQ5 : w4.heap.size ≠ w3.heap.size + 1 := by omega
      have eQU5 : w3.heap.size + 1 ≠ w4.heap.size := by omega
      clear BP4 lP4 mP4 nP4 cP0_4 cP1_4 cP2_4 fP0_4 fP1_4 fP2_4 BQ4 lQ4 mQ4 nQ4 cQ0_4 cQ1_4 cQ2_4 fQ0_4 fQ1_4 fQ2_4
      have hs5 : w.heap.size ≤ w5.heap.size := by have h := hb5.size; (try simp at h); omega
      go_wp2_with fail
      refine Calls.mono (s2 _ ?_) ?_
      · exact ht.kept (by repeat (first | with_reducible exact Below.refl _ _ | with_reducible assumption | with_reducible refine below_drewN ?_ _ | with_reducible refine Below.drew ?_ | with_reducible refine below_alloc ?_ _ | (with_reducible refine Below.setCell ?_ ?_ _; rotate_left; ((try simp only); omega))))
      rintro e w6 ⟨rfl, hb6⟩
      have kb6 : Below w.heap.size w w6 := below_call (by repeat (first | with_reducible exact Below.refl _ _ | with_reducible assumption | with_reducible refine below_drewN ?_ _ | with_reducible refine Below.drew ?_ | with_reducible refine below_alloc ?_ _ | (with_reducible refine Below.setCell ?_ ?_ _; rotate_left; ((try simp only); omega)))) hb6
      have BP6 : Blk w6 (w3.heap.size) 36 #[.int .i64 b0, .int .i64 b1, .int .i64 b2] := by
        refine Blk.kept ?_ hb6
        repeat (first | with_reducible exact BP5 | with_reducible exact Blk.new _ _ _ | (with_reducible refine Blk.newAt _ _ _ _ ?_; first | rfl | (simp; done)) | with_reducible apply Blk.alloc | with_reducible apply Blk.drewN | with_reducible apply Blk.drew | with_reducible apply Blk.set_to | (with_reducible apply Blk.far_; (simp only [ne_eq]; omega)) | rfl)
      have cP0_6 : w6.cell? ⟨w3.heap.size, 0, none⟩ = some (.int .i64 b0) := BP6.cell 0
      have cP1_6 : w6.cell? ⟨w3.heap.size, 1, none⟩ = some (.int .i64 b1) := BP6.cell 1
      have cP2_6 : w6.cell? ⟨w3.heap.size, 2, none⟩ = some (.int .i64 b2) := BP6.cell 2
      have lP6 : w3.heap.size < w6.heap.size := BP6.lt
      have mP6 : w3.heap.size < w6.heap.size + 1 := by omega
      have nP6 : w3.heap.size < w6.heap.size + 1 + 1 := by omega
      have fP0_6 := BP6.frozen 0
      have fP1_6 := BP6.frozen 1
      have fP2_6 := BP6.frozen 2
      have BQ6 : Blk w6 (w3.heap.size + 1) 36 #[.int .i64 a0, .int .i64 a1, .int .i64 a2] := by
        refine Blk.kept ?_ hb6
        repeat (first | with_reducible exact BQ5 | with_reducible exact Blk.new _ _ _ | (with_reducible refine Blk.newAt _ _ _ _ ?_; first | rfl | (simp; done)) | with_reducible apply Blk.alloc | with_reducible apply Blk.drewN | with_reducible apply Blk.drew | with_reducible apply Blk.set_to | (with_reducible apply Blk.far_; (simp only [ne_eq]; omega)) | rfl)
      have cQ0_6 : w6.cell? ⟨w3.heap.size + 1, 0, none⟩ = some (.int .i64 a0) := BQ6.cell 0
      have cQ1_6 : w6.cell? ⟨w3.heap.size + 1, 1, none⟩ = some (.int .i64 a1) := BQ6.cell 1
      have cQ2_6 : w6.cell? ⟨w3.heap.size + 1, 2, none⟩ = some (.int .i64 a2) := BQ6.cell 2
      have lQ6 : w3.heap.size + 1 < w6.heap.size := BQ6.lt
      have mQ6 : w3.heap.size + 1 < w6.heap.size + 1 := by omega
      have nQ6 : w3.heap.size + 1 < w6.heap.size + 1 + 1 := by omega
      have fQ0_6 := BQ6.frozen 0
      have fQ1_6 := BQ6.frozen 1
      have fQ2_6 := BQ6.frozen 2
      have BU6 : Blk w6 (w4.heap.size) 36 #[.int .i64 a0, .int .i64 (a1 + 1), .int .i64 a2] := by
        refine Blk.kept ?_ hb6
        repeat (first | with_reducible exact BU5 | with_reducible exact Blk.new _ _ _ | (with_reducible refine Blk.newAt _ _ _ _ ?_; first | rfl | (simp; done)) | with_reducible apply Blk.alloc | with_reducible apply Blk.drewN | with_reducible apply Blk.drew | with_reducible apply Blk.set_to | (with_reducible apply Blk.far_; (simp only [ne_eq]; omega)) | rfl)
      have cU0_6 : w6.cell? ⟨w4.heap.size, 0, none⟩ = some (.int .i64 a0) := BU6.cell 0
      have cU1_6 : w6.cell? ⟨w4.heap.size, 1, none⟩ = some (.int .i64 (a1 + 1)) := BU6.cell 1
      have cU2_6 : w6.cell? ⟨w4.heap.size, 2, none⟩ = some (.int .i64 a2) := BU6.cell 2
      have lU6 : w4.heap.size < w6.heap.size := BU6.lt
      have mU6 : w4.heap.size < w6.heap.size + 1 := by omega
      have nU6 : w4.heap.size < w6.heap.size + 1 + 1 := by omega
      have fU0_6 := BU6.frozen 0
      have fU1_6 := BU6.frozen 1
      have fU2_6 := BU6.frozen 2
      have BX6 : Blk w6 (w5.heap.size) 38 #[.int .i64 x0, .int .i64 x1] := by
        refine Blk.kept ?_ hb6
        repeat (first | with_reducible exact Blk.new _ _ _ | (with_reducible refine Blk.newAt _ _ _ _ ?_; first | rfl | (simp; done)) | with_reducible apply Blk.alloc | with_reducible apply Blk.drewN | with_reducible apply Blk.drew | with_reducible apply Blk.set_to | (with_reducible apply Blk.far_; (simp only [ne_eq]; omega)) | rfl)
      have cX0_6 : w6.cell? ⟨w5.heap.size, 0, none⟩ = some (.int .i64 x0) := BX6.cell 0
      have cX1_6 : w6.cell? ⟨w5.heap.size, 1, none⟩ = some (.int .i64 x1) := BX6.cell 1
      have lX6 : w5.heap.size < w6.heap.size := BX6.lt
      have mX6 : w5.heap.size < w6.heap.size + 1 := by omega
      have nX6 : w5.heap.size < w6.heap.size + 1 + 1 := by omega
      have eXP6 : w5.heap.size ≠ w3.heap.size := by omega
      have ePX6 : w3.heap.size ≠ w5.heap.size := by omega
      have eXQ6 : w5.heap.size ≠ w3.heap.size + 1 := by omega
      have eQX6 : w3.heap.size + 1 ≠ w5.heap.size := by omega
      have eXU6 : w5.heap.size ≠ w4.heap.size := by omega
      have eUX6 : w4.heap.size ≠ w5.heap.size := by omega
      clear BP5 lP5 mP5 nP5 cP0_5 cP1_5 cP2_5 fP0_5 fP1_5 fP2_5 BQ5 lQ5 mQ5 nQ5 cQ0_5 cQ1_5 cQ2_5 fQ0_5 fQ1_5 fQ2_5 BU5 lU5 mU5 nU5 cU0_5 cU1_5 cU2_5 fU0_5 fU1_5 fU2_5
      have hs6 : w.heap.size ≤ w6.heap.size := by have h := hb6.size; (try simp at h); omega
      go_wp2_with fail
      refine Calls.mono (s3 _ ?_) ?_
      · exact ht.kept (by repeat (first | with_reducible exact Below.refl _ _ | with_reducible assumption | with_reducible refine below_drewN ?_ _ | with_reducible refine Below.drew ?_ | with_reducible refine below_alloc ?_ _ | (with_reducible refine Below.setCell ?_ ?_ _; rotate_left; ((try simp only); omega))))
      rintro e w7 ⟨rfl, hb7⟩
      have kb7 : Below w.heap.size w w7 := below_call (by repeat (first | with_reducible exact Below.refl _ _ | with_reducible assumption | with_reducible refine below_drewN ?_ _ | with_reducible refine Below.drew ?_ | with_reducible refine below_alloc ?_ _ | (with_reducible refine Below.setCell ?_ ?_ _; rotate_left; ((try simp only); omega)))) hb7
      have BP7 : Blk w7 (w3.heap.size) 36 #[.int .i64 b0, .int .i64 b1, .int .i64 b2] := by
        refine Blk.kept ?_ hb7
        repeat (first | with_reducible exact BP6 | with_reducible exact Blk.new _ _ _ | (with_reducible refine Blk.newAt _ _ _ _ ?_; first | rfl | (simp; done)) | with_reducible apply Blk.alloc | with_reducible apply Blk.drewN | with_reducible apply Blk.drew | with_reducible apply Blk.set_to | (with_reducible apply Blk.far_; (simp only [ne_eq]; omega)) | rfl)
      have cP0_7 : w7.cell? ⟨w3.heap.size, 0, none⟩ = some (.int .i64 b0) := BP7.cell 0
      have cP1_7 : w7.cell? ⟨w3.heap.size, 1, none⟩ = some (.int .i64 b1) := BP7.cell 1
      have cP2_7 : w7.cell? ⟨w3.heap.size, 2, none⟩ = some (.int .i64 b2) := BP7.cell 2
      have lP7 : w3.heap.size < w7.heap.size := BP7.lt
      have mP7 : w3.heap.size < w7.heap.size + 1 := by omega
      have nP7 : w3.heap.size < w7.heap.size + 1 + 1 := by omega
      have fP0_7 := BP7.frozen 0
      have fP1_7 := BP7.frozen 1
      have fP2_7 := BP7.frozen 2
      have BQ7 : Blk w7 (w3.heap.size + 1) 36 #[.int .i64 a0, .int .i64 a1, .int .i64 a2] := by
        refine Blk.kept ?_ hb7
        repeat (first | with_reducible exact BQ6 | with_reducible exact Blk.new _ _ _ | (with_reducible refine Blk.newAt _ _ _ _ ?_; first | rfl | (simp; done)) | with_reducible apply Blk.alloc | with_reducible apply Blk.drewN | with_reducible apply Blk.drew | with_reducible apply Blk.set_to | (with_reducible apply Blk.far_; (simp only [ne_eq]; omega)) | rfl)
      have cQ0_7 : w7.cell? ⟨w3.heap.size + 1, 0, none⟩ = some (.int .i64 a0) := BQ7.cell 0
      have cQ1_7 : w7.cell? ⟨w3.heap.size + 1, 1, none⟩ = some (.int .i64 a1) := BQ7.cell 1
      have cQ2_7 : w7.cell? ⟨w3.heap.size + 1, 2, none⟩ = some (.int .i64 a2) := BQ7.cell 2
      have lQ7 : w3.heap.size + 1 < w7.heap.size := BQ7.lt
      have mQ7 : w3.heap.size + 1 < w7.heap.size + 1 := by omega
      have nQ7 : w3.heap.size + 1 < w7.heap.size + 1 + 1 := by omega
      have fQ0_7 := BQ7.frozen 0
      have fQ1_7 := BQ7.frozen 1
      have fQ2_7 := BQ7.frozen 2
      have BU7 : Blk w7 (w4.heap.size) 36 #[.int .i64 a0, .int .i64 (a1 + 1), .int .i64 a2] := by
        refine Blk.kept ?_ hb7
        repeat (first | with_reducible exact BU6 | with_reducible exact Blk.new _ _ _ | (with_reducible refine Blk.newAt _ _ _ _ ?_; first | rfl | (simp; done)) | with_reducible apply Blk.alloc | with_reducible apply Blk.drewN | with_reducible apply Blk.drew | with_reducible apply Blk.set_to | (with_reducible apply Blk.far_; (simp only [ne_eq]; omega)) | rfl)
      have cU0_7 : w7.cell? ⟨w4.heap.size, 0, none⟩ = some (.int .i64 a0) := BU7.cell 0
      have cU1_7 : w7.cell? ⟨w4.heap.size, 1, none⟩ = some (.int .i64 (a1 + 1)) := BU7.cell 1
      have cU2_7 : w7.cell? ⟨w4.heap.size, 2, none⟩ = some (.int .i64 a2) := BU7.cell 2
      have lU7 : w4.heap.size < w7.heap.size := BU7.lt
      have mU7 : w4.heap.size < w7.heap.size + 1 := by omega
      have nU7 : w4.heap.size < w7.heap.size + 1 + 1 := by omega
      have fU0_7 := BU7.frozen 0
      have fU1_7 := BU7.frozen 1
      have fU2_7 := BU7.frozen 2
      have BX7 : Blk w7 (w5.heap.size) 38 #[.int .i64 x0, .int .i64 x1] := by
        refine Blk.kept ?_ hb7
        repeat (first | with_reducible exact BX6 | with_reducible exact Blk.new _ _ _ | (with_reducible refine Blk.newAt _ _ _ _ ?_; first | rfl | (simp; done)) | with_reducible apply Blk.alloc | with_reducible apply Blk.drewN | with_reducible apply Blk.drew | with_reducible apply Blk.set_to | (with_reducible apply Blk.far_; (simp only [ne_eq]; omega)) | rfl)
      have cX0_7 : w7.cell? ⟨w5.heap.size, 0, none⟩ = some (.int .i64 x0) := BX7.cell 0
      have cX1_7 : w7.cell? ⟨w5.heap.size, 1, none⟩ = some (.int .i64 x1) := BX7.cell 1
      have lX7 : w5.heap.size < w7.heap.size := BX7.lt
      have mX7 : w5.heap.size < w7.heap.size + 1 := by omega
      have nX7 : w5.heap.size < w7.heap.size + 1 + 1 := by omega
      have BY7 : Blk w7 (w6.heap.size) 38 #[.int .i64 x0, .int .i64 x1] := by
        refine Blk.kept ?_ hb7
        repeat (first | with_reducible exact Blk.new _ _ _ | (with_reducible refine Blk.newAt _ _ _ _ ?_; first | rfl | (simp; done)) | with_reducible apply Blk.alloc | with_reducible apply Blk.drewN | with_reducible apply Blk.drew | with_reducible apply Blk.set_to | (with_reducible apply Blk.far_; (simp only [ne_eq]; omega)) | rfl)
      have cY0_7 : w7.cell? ⟨w6.heap.size, 0, none⟩ = some (.int .i64 x0) := BY7.cell 0
      have cY1_7 : w7.cell? ⟨w6.heap.size, 1, none⟩ = some (.int .i64 x1) := BY7.cell 1
      have lY7 : w6.heap.size < w7.heap.size := BY7.lt
      have mY7 : w6.heap.size < w7.heap.size + 1 := by omega
      have nY7 : w6.heap.size < w7.heap.size + 1 + 1 := by omega
      have eYP7 : w6.heap.size ≠ w3.heap.size := by omega
      have ePY7 : w3.heap.size ≠ w6.heap.size := by omega
      have eYQ7 : w6.heap.size ≠ w3.heap.size + 1 := by omega
      have eQY7 : w3.heap.size + 1 ≠ w6.heap.size := by omega
      have eYU7 : w6.heap.size ≠ w4.heap.size := by omega
      have eUY7 : w4.heap.size ≠ w6.heap.size := by omega
      clear BP6 lP6 mP6 nP6 cP0_6 cP1_6 cP2_6 fP0_6 fP1_6 fP2_6 BQ6 lQ6 mQ6 nQ6 cQ0_6 cQ1_6 cQ2_6 fQ0_6 fQ1_6 fQ2_6 BU6 lU6 mU6 nU6 cU0_6 cU1_6 cU2_6 fU0_6 fU1_6 fU2_6 BX6 lX6 mX6 nX6 cX0_6 cX1_6
      have hs7 : w.heap.size ≤ w7.heap.size := by have h := hb7.size; (try simp at h); omega
      go_wp2_with fail
      refine Calls.mono (d1 _ ?_) ?_
      · exact ht.kept (by repeat (first | with_reducible exact Below.refl _ _ | with_reducible assumption | with_reducible refine below_drewN ?_ _ | with_reducible refine Below.drew ?_ | with_reducible refine below_alloc ?_ _ | (with_reducible refine Below.setCell ?_ ?_ _; rotate_left; ((try simp only); omega))))
      rintro e w8 ⟨rfl, hb8⟩
      have kb8 : Below w.heap.size w w8 := below_call (by repeat (first | with_reducible exact Below.refl _ _ | with_reducible assumption | with_reducible refine below_drewN ?_ _ | with_reducible refine Below.drew ?_ | with_reducible refine below_alloc ?_ _ | (with_reducible refine Below.setCell ?_ ?_ _; rotate_left; ((try simp only); omega)))) hb8
      have BP8 : Blk w8 (w3.heap.size) 36 #[.int .i64 b0, .int .i64 b1, .int .i64 b2] := by
        refine Blk.kept ?_ hb8
        repeat (first | with_reducible exact BP7 | with_reducible exact Blk.new _ _ _ | (with_reducible refine Blk.newAt _ _ _ _ ?_; first | rfl | (simp; done)) | with_reducible apply Blk.alloc | with_reducible apply Blk.drewN | with_reducible apply Blk.drew | with_reducible apply Blk.set_to | (with_reducible apply Blk.far_; (simp only [ne_eq]; omega)) | rfl)
      have cP0_8 : w8.cell? ⟨w3.heap.size, 0, none⟩ = some (.int .i64 b0) := BP8.cell 0
      have cP1_8 : w8.cell? ⟨w3.heap.size, 1, none⟩ = some (.int .i64 b1) := BP8.cell 1
      have cP2_8 : w8.cell? ⟨w3.heap.size, 2, none⟩ = some (.int .i64 b2) := BP8.cell 2
      have lP8 : w3.heap.size < w8.heap.size := BP8.lt
      have mP8 : w3.heap.size < w8.heap.size + 1 := by omega
      have nP8 : w3.heap.size < w8.heap.size + 1 + 1 := by omega
      have fP0_8 := BP8.frozen 0
      have fP1_8 := BP8.frozen 1
      have fP2_8 := BP8.frozen 2
      have BQ8 : Blk w8 (w3.heap.size + 1) 36 #[.int .i64 a0, .int .i64 a1, .int .i64 a2] := by
        refine Blk.kept ?_ hb8
        repeat (first | with_reducible exact BQ7 | with_reducible exact Blk.new _ _ _ | (with_reducible refine Blk.newAt _ _ _ _ ?_; first | rfl | (simp; done)) | with_reducible apply Blk.alloc | with_reducible apply Blk.drewN | with_reducible apply Blk.drew | with_reducible apply Blk.set_to | (with_reducible apply Blk.far_; (simp only [ne_eq]; omega)) | rfl)
      have cQ0_8 : w8.cell? ⟨w3.heap.size + 1, 0, none⟩ = some (.int .i64 a0) := BQ8.cell 0
      have cQ1_8 : w8.cell? ⟨w3.heap.size + 1, 1, none⟩ = some (.int .i64 a1) := BQ8.cell 1
      have cQ2_8 : w8.cell? ⟨w3.heap.size + 1, 2, none⟩ = some (.int .i64 a2) := BQ8.cell 2
      have lQ8 : w3.heap.size + 1 < w8.heap.size := BQ8.lt
      have mQ8 : w3.heap.size + 1 < w8.heap.size + 1 := by omega
      have nQ8 : w3.heap.size + 1 < w8.heap.size + 1 + 1 := by omega
      have fQ0_8 := BQ8.frozen 0
      have fQ1_8 := BQ8.frozen 1
      have fQ2_8 := BQ8.frozen 2
      have BU8 : Blk w8 (w4.heap.size) 36 #[.int .i64 a0, .int .i64 (a1 + 1), .int .i64 a2] := by
        refine Blk.kept ?_ hb8
        repeat (first | with_reducible exact BU7 | with_reducible exact Blk.new _ _ _ | (with_reducible refine Blk.newAt _ _ _ _ ?_; first | rfl | (simp; done)) | with_reducible apply Blk.alloc | with_reducible apply Blk.drewN | with_reducible apply Blk.drew | with_reducible apply Blk.set_to | (with_reducible apply Blk.far_; (simp only [ne_eq]; omega)) | rfl)
      have cU0_8 : w8.cell? ⟨w4.heap.size, 0, none⟩ = some (.int .i64 a0) := BU8.cell 0
      have cU1_8 : w8.cell? ⟨w4.heap.size, 1, none⟩ = some (.int .i64 (a1 + 1)) := BU8.cell 1
      have cU2_8 : w8.cell? ⟨w4.heap.size, 2, none⟩ = some (.int .i64 a2) := BU8.cell 2
      have lU8 : w4.heap.size < w8.heap.size := BU8.lt
      have mU8 : w4.heap.size < w8.heap.size + 1 := by omega
      have nU8 : w4.heap.size < w8.heap.size + 1 + 1 := by omega
      have fU0_8 := BU8.frozen 0
      have fU1_8 := BU8.frozen 1
      have fU2_8 := BU8.frozen 2
      have BX8 : Blk w8 (w5.heap.size) 38 #[.int .i64 x0, .int .i64 x1] := by
        refine Blk.kept ?_ hb8
        repeat (first | with_reducible exact BX7 | with_reducible exact Blk.new _ _ _ | (with_reducible refine Blk.newAt _ _ _ _ ?_; first | rfl | (simp; done)) | with_reducible apply Blk.alloc | with_reducible apply Blk.drewN | with_reducible apply Blk.drew | with_reducible apply Blk.set_to | (with_reducible apply Blk.far_; (simp only [ne_eq]; omega)) | rfl)
      have cX0_8 : w8.cell? ⟨w5.heap.size, 0, none⟩ = some (.int .i64 x0) := BX8.cell 0
      have cX1_8 : w8.cell? ⟨w5.heap.size, 1, none⟩ = some (.int .i64 x1) := BX8.cell 1
      have lX8 : w5.heap.size < w8.heap.size := BX8.lt
      have mX8 : w5.heap.size < w8.heap.size + 1 := by omega
      have nX8 : w5.heap.size < w8.heap.size + 1 + 1 := by omega
      have BY8 : Blk w8 (w6.heap.size) 38 #[.int .i64 x0, .int .i64 x1] := by
        refine Blk.kept ?_ hb8
        repeat (first | with_reducible exact BY7 | with_reducible exact Blk.new _ _ _ | (with_reducible refine Blk.newAt _ _ _ _ ?_; first | rfl | (simp; done)) | with_reducible apply Blk.alloc | with_reducible apply Blk.drewN | with_reducible apply Blk.drew | with_reducible apply Blk.set_to | (with_reducible apply Blk.far_; (simp only [ne_eq]; omega)) | rfl)
      have cY0_8 : w8.cell? ⟨w6.heap.size, 0, none⟩ = some (.int .i64 x0) := BY8.cell 0
      have cY1_8 : w8.cell? ⟨w6.heap.size, 1, none⟩ = some (.int .i64 x1) := BY8.cell 1
      have lY8 : w6.heap.size < w8.heap.size := BY8.lt
      have mY8 : w6.heap.size < w8.heap.size + 1 := by omega
      have nY8 : w6.heap.size < w8.heap.size + 1 + 1 := by omega
      have BZ8 : Blk w8 (w7.heap.size) 38 #[.int .i64 x0, .int .i64 x1] := by
        refine Blk.kept ?_ hb8
        repeat (first | with_reducible exact Blk.new _ _ _ | (with_reducible refine Blk.newAt _ _ _ _ ?_; first | rfl | (simp; done)) | with_reducible apply Blk.alloc | with_reducible apply Blk.drewN | with_reducible apply Blk.drew | with_reducible apply Blk.set_to | (with_reducible apply Blk.far_; (simp only [ne_eq]; omega)) | rfl)
      have cZ0_8 : w8.cell? ⟨w7.heap.size, 0, none⟩ = some (.int .i64 x0) := BZ8.cell 0
      have cZ1_8 : w8.cell? ⟨w7.heap.size, 1, none⟩ = some (.int .i64 x1) := BZ8.cell 1
      have lZ8 : w7.heap.size < w8.heap.size := BZ8.lt
      have mZ8 : w7.heap.size < w8.heap.size + 1 := by omega
      have nZ8 : w7.heap.size < w8.heap.size + 1 + 1 := by omega
      have eZP8 : w7.heap.size ≠ w3.heap.size := by omega
      have ePZ8 : w3.heap.size ≠ w7.heap.size := by omega
      have eZQ8 : w7.heap.size ≠ w3.heap.size + 1 := by omega
      have eQZ8 : w3.heap.size + 1 ≠ w7.heap.size := by omega
      have eZU8 : w7.heap.size ≠ w4.heap.size := by omega
      have eUZ8 : w4.heap.size ≠ w7.heap.size := by omega
      clear BP7 lP7 mP7 nP7 cP0_7 cP1_7 cP2_7 fP0_7 fP1_7 fP2_7 BQ7 lQ7 mQ7 nQ7 cQ0_7 cQ1_7 cQ2_7 fQ0_7 fQ1_7 fQ2_7 BU7 lU7 mU7 nU7 cU0_7 cU1_7 cU2_7 fU0_7 fU1_7 fU2_7 BX7 lX7 mX7 nX7 cX0_7 cX1_7 BY7 lY7 mY7 nY7 cY0_7 cY1_7
      have hs8 : w.heap.size ≤ w8.heap.size := by have h := hb8.size; (try simp at h); omega
      go_wp2_with fail
      refine Calls.mono (d2 _ ?_) ?_
      · exact ht.kept (by repeat (first | with_reducible exact Below.refl _ _ | with_reducible assumption | with_reducible refine below_drewN ?_ _ | with_reducible refine Below.drew ?_ | with_reducible refine below_alloc ?_ _ | (with_reducible refine Below.setCell ?_ ?_ _; rotate_left; ((try simp only); omega))))
      rintro e w9 ⟨rfl, hb9⟩
      have kb9 : Below w.heap.size w w9 := below_call (by repeat (first | with_reducible exact Below.refl _ _ | with_reducible assumption | with_reducible refine below_drewN ?_ _ | with_reducible refine Below.drew ?_ | with_reducible refine below_alloc ?_ _ | (with_reducible refine Below.setCell ?_ ?_ _; rotate_left; ((try simp only); omega)))) hb9
      have BP9 : Blk w9 (w3.heap.size) 36 #[.int .i64 b0, .int .i64 b1, .int .i64 b2] := by
        refine Blk.kept ?_ hb9
        repeat (first | with_reducible exact BP8 | with_reducible exact Blk.new _ _ _ | (with_reducible refine Blk.newAt _ _ _ _ ?_; first | rfl | (simp; done)) | with_reducible apply Blk.alloc | with_reducible apply Blk.drewN | with_reducible apply Blk.drew | with_reducible apply Blk.set_to | (with_reducible apply Blk.far_; (simp only [ne_eq]; omega)) | rfl)
      have cP0_9 : w9.cell? ⟨w3.heap.size, 0, none⟩ = some (.int .i64 b0) := BP9.cell 0
      have cP1_9 : w9.cell? ⟨w3.heap.size, 1, none⟩ = some (.int .i64 b1) := BP9.cell 1
      have cP2_9 : w9.cell? ⟨w3.heap.size, 2, none⟩ = some (.int .i64 b2) := BP9.cell 2
      have lP9 : w3.heap.size < w9.heap.size := BP9.lt
      have mP9 : w3.heap.size < w9.heap.size + 1 := by omega
      have nP9 : w3.heap.size < w9.heap.size + 1 + 1 := by omega
      have fP0_9 := BP9.frozen 0
      have fP1_9 := BP9.frozen 1
      have fP2_9 := BP9.frozen 2
      have BQ9 : Blk w9 (w3.heap.size + 1) 36 #[.int .i64 a0, .int .i64 a1, .int .i64 a2] := by
        refine Blk.kept ?_ hb9
        repeat (first | with_reducible exact BQ8 | with_reducible exact Blk.new _ _ _ | (with_reducible refine Blk.newAt _ _ _ _ ?_; first | rfl | (simp; done)) | with_reducible apply Blk.alloc | with_reducible apply Blk.drewN | with_reducible apply Blk.drew | with_reducible apply Blk.set_to | (with_reducible apply Blk.far_; (simp only [ne_eq]; omega)) | rfl)
      have cQ0_9 : w9.cell? ⟨w3.heap.size + 1, 0, none⟩ = some (.int .i64 a0) := BQ9.cell 0
      have cQ1_9 : w9.cell? ⟨w3.heap.size + 1, 1, none⟩ = some (.int .i64 a1) := BQ9.cell 1
      have cQ2_9 : w9.cell? ⟨w3.heap.size + 1, 2, none⟩ = some (.int .i64 a2) := BQ9.cell 2
      have lQ9 : w3.heap.size + 1 < w9.heap.size := BQ9.lt
      have mQ9 : w3.heap.size + 1 < w9.heap.size + 1 := by omega
      have nQ9 : w3.heap.size + 1 < w9.heap.size + 1 + 1 := by omega
      have fQ0_9 := BQ9.frozen 0
      have fQ1_9 := BQ9.frozen 1
      have fQ2_9 := BQ9.frozen 2
      have BU9 : Blk w9 (w4.heap.size) 36 #[.int .i64 a0, .int .i64 (a1 + 1), .int .i64 a2] := by
        refine Blk.kept ?_ hb9
        repeat (first | with_reducible exact BU8 | with_reducible exact Blk.new _ _ _ | (with_reducible refine Blk.newAt _ _ _ _ ?_; first | rfl | (simp; done)) | with_reducible apply Blk.alloc | with_reducible apply Blk.drewN | with_reducible apply Blk.drew | with_reducible apply Blk.set_to | (with_reducible apply Blk.far_; (simp only [ne_eq]; omega)) | rfl)
      have cU0_9 : w9.cell? ⟨w4.heap.size, 0, none⟩ = some (.int .i64 a0) := BU9.cell 0
      have cU1_9 : w9.cell? ⟨w4.heap.size, 1, none⟩ = some (.int .i64 (a1 + 1)) := BU9.cell 1
      have cU2_9 : w9.cell? ⟨w4.heap.size, 2, none⟩ = some (.int .i64 a2) := BU9.cell 2
      have lU9 : w4.heap.size < w9.heap.size := BU9.lt
      have mU9 : w4.heap.size < w9.heap.size + 1 := by omega
      have nU9 : w4.heap.size < w9.heap.size + 1 + 1 := by omega
      have fU0_9 := BU9.frozen 0
      have fU1_9 := BU9.frozen 1
      have fU2_9 := BU9.frozen 2
      have BX9 : Blk w9 (w5.heap.size) 38 #[.int .i64 x0, .int .i64 x1] := by
        refine Blk.kept ?_ hb9
        repeat (first | with_reducible exact BX8 | with_reducible exact Blk.new _ _ _ | (with_reducible refine Blk.newAt _ _ _ _ ?_; first | rfl | (simp; done)) | with_reducible apply Blk.alloc | with_reducible apply Blk.drewN | with_reducible apply Blk.drew | with_reducible apply Blk.set_to | (with_reducible apply Blk.far_; (simp only [ne_eq]; omega)) | rfl)
      have cX0_9 : w9.cell? ⟨w5.heap.size, 0, none⟩ = some (.int .i64 x0) := BX9.cell 0
      have cX1_9 : w9.cell? ⟨w5.heap.size, 1, none⟩ = some (.int .i64 x1) := BX9.cell 1
      have lX9 : w5.heap.size < w9.heap.size := BX9.lt
      have mX9 : w5.heap.size < w9.heap.size + 1 := by omega
      have nX9 : w5.heap.size < w9.heap.size + 1 + 1 := by omega
      have BY9 : Blk w9 (w6.heap.size) 38 #[.int .i64 x0, .int .i64 x1] := by
        refine Blk.kept ?_ hb9
        repeat (first | with_reducible exact BY8 | with_reducible exact Blk.new _ _ _ | (with_reducible refine Blk.newAt _ _ _ _ ?_; first | rfl | (simp; done)) | with_reducible apply Blk.alloc | with_reducible apply Blk.drewN | with_reducible apply Blk.drew | with_reducible apply Blk.set_to | (with_reducible apply Blk.far_; (simp only [ne_eq]; omega)) | rfl)
      have cY0_9 : w9.cell? ⟨w6.heap.size, 0, none⟩ = some (.int .i64 x0) := BY9.cell 0
      have cY1_9 : w9.cell? ⟨w6.heap.size, 1, none⟩ = some (.int .i64 x1) := BY9.cell 1
      have lY9 : w6.heap.size < w9.heap.size := BY9.lt
      have mY9 : w6.heap.size < w9.heap.size + 1 := by omega
      have nY9 : w6.heap.size < w9.heap.size + 1 + 1 := by omega
      have BZ9 : Blk w9 (w7.heap.size) 38 #[.int .i64 x0, .int .i64 x1] := by
        refine Blk.kept ?_ hb9
        repeat (first | with_reducible exact BZ8 | with_reducible exact Blk.new _ _ _ | (with_reducible refine Blk.newAt _ _ _ _ ?_; first | rfl | (simp; done)) | with_reducible apply Blk.alloc | with_reducible apply Blk.drewN | with_reducible apply Blk.drew | with_reducible apply Blk.set_to | (with_reducible apply Blk.far_; (simp only [ne_eq]; omega)) | rfl)
      have cZ0_9 : w9.cell? ⟨w7.heap.size, 0, none⟩ = some (.int .i64 x0) := BZ9.cell 0
      have cZ1_9 : w9.cell? ⟨w7.heap.size, 1, none⟩ = some (.int .i64 x1) := BZ9.cell 1
      have lZ9 : w7.heap.size < w9.heap.size := BZ9.lt
      have mZ9 : w7.heap.size < w9.heap.size + 1 := by omega
      have nZ9 : w7.heap.size < w9.heap.size + 1 + 1 := by omega
      clear BP8 lP8 mP8 nP8 cP0_8 cP1_8 cP2_8 fP0_8 fP1_8 fP2_8 BQ8 lQ8 mQ8 nQ8 cQ0_8 cQ1_8 cQ2_8 fQ0_8 fQ1_8 fQ2_8 BU8 lU8 mU8 nU8 cU0_8 cU1_8 cU2_8 fU0_8 fU1_8 fU2_8 BX8 lX8 mX8 nX8 cX0_8 cX1_8 BY8 lY8 mY8 nY8 cY0_8 cY1_8 BZ8 lZ8 mZ8 nZ8 cZ0_8 cZ1_8
      have hs9 : w.heap.size ≤ w9.heap.size := by have h := hb9.size; (try simp at h); omega
      go_wp2
      go_ret
      exact ⟨rfl, by repeat (first | with_reducible exact Below.refl _ _ | with_reducible assumption | with_reducible refine below_drewN ?_ _ | with_reducible refine Below.drew ?_ | with_reducible refine below_alloc ?_ _ | (with_reducible refine Below.setCell ?_ ?_ _; rotate_left; ((try simp only); omega)))⟩
  · have hd : (decide (b1 * 7 + b0 < a1 * 7 + a0) = false ∧ (b1 == a1) = false) ∨ (decide (b1 * 7 + b0 < a1 * 7 + a0) = false ∧ (b1 == a1) = true ∧ (b0 == a0) = false) ∨ (decide (b1 * 7 + b0 < a1 * 7 + a0) = false ∧ (b1 == a1) = true ∧ (b0 == a0) = true ∧ decide (b2 < a2) = false) := by
      unfold swB at hsw
      simp only at hsw
      by_cases h1 : b1 = a1
      · by_cases h0 : b0 = a0
        · exact .inr (.inr ⟨by simp; omega, by simpa using h1, by simpa using h0, by simp; omega⟩)
        · exact .inr (.inl ⟨by simp; omega, by simpa using h1, by simpa using h0⟩)
      · exact .inl ⟨by simp; omega, by simpa using h1⟩
    obtain ⟨⟨x0, x1⟩, k, e1, e2, e3, e4, e5, x2, x3⟩ := oct_law (p := (a0, a1, a2)) (q := (b0, b1, b2)) hpa hpb (pchk_mk (by unfold upP; simp only; omega)) hsw
    have s1 := fun W (hW : Tabs2 W) => Simple_any (a0, a1, a2) (b0, b1, b2) W hW.tabs
    have s2 := fun W (hW : Tabs2 W) => Simple_any (b0, b1, b2) (a0, a1, a2) W hW.tabs
    have s3 := fun W (hW : Tabs2 W) => Simple_any (a0, a1, a2) (b0, b1 + 1, b2) W hW.tabs
    have d1 := fun W (hW : Tabs2 W) => Kind_any (a0, a1, a2) (b0, b1, b2) W hW.tabs
    have d2 := fun W (hW : Tabs2 W) => Kind_any (b0, b1 + 1, b2) (a0, a1, a2) W hW.tabs
    rw [e1] at s1
    rw [e2] at s2
    rw [show simE (a0, a1, a2) (b0, b1 + 1, b2) = ((x0, x1), 0) from e3] at s3
    rw [e4] at d1
    rw [show kindE (b0, b1 + 1, b2) (a0, a1, a2) = (k, 0) from e5] at d2
    simp only at x2 x3
    clear e1 e2 e3 e4 e5 hsw hpa hpb
    rcases hd with ⟨g0, g1⟩ | ⟨g0, g1, g2⟩ | ⟨g0, g1, g2, g3⟩
    all_goals
      go_enter Tryd.func6, Tryd.ntmps6
      go_wp2_with fail
      refine Calls.mono (qk _ ?_) ?_
      · exact ht.kept (by repeat (first | with_reducible exact Below.refl _ _ | with_reducible assumption | with_reducible refine below_drewN ?_ _ | with_reducible refine Below.drew ?_ | with_reducible refine below_alloc ?_ _ | (with_reducible refine Below.setCell ?_ ?_ _; rotate_left; ((try simp only); omega))))
      rintro e w1 ⟨rfl, hb1⟩
      have kb1 : Below w.heap.size w w1 := below_call (by repeat (first | with_reducible exact Below.refl _ _ | with_reducible assumption | with_reducible refine below_drewN ?_ _ | with_reducible refine Below.drew ?_ | with_reducible refine below_alloc ?_ _ | (with_reducible refine Below.setCell ?_ ?_ _; rotate_left; ((try simp only); omega)))) hb1
      have hs1 : w.heap.size ≤ w1.heap.size := by have h := hb1.size; (try simp at h); omega
      go_wp2_with fail
      refine (m1 _).mono ?_
      rintro e w2 ⟨rfl, hb2⟩
      have kb2 : Below w.heap.size w w2 := below_call (by repeat (first | with_reducible exact Below.refl _ _ | with_reducible assumption | with_reducible refine below_drewN ?_ _ | with_reducible refine Below.drew ?_ | with_reducible refine below_alloc ?_ _ | (with_reducible refine Below.setCell ?_ ?_ _; rotate_left; ((try simp only); omega)))) hb2
      have hs2 : w.heap.size ≤ w2.heap.size := by have h := hb2.size; (try simp at h); omega
      go_wp2_with fail
      refine (m2 _).mono ?_
      rintro e w3 ⟨rfl, hb3⟩
      have kb3 : Below w.heap.size w w3 := below_call (by repeat (first | with_reducible exact Below.refl _ _ | with_reducible assumption | with_reducible refine below_drewN ?_ _ | with_reducible refine Below.drew ?_ | with_reducible refine below_alloc ?_ _ | (with_reducible refine Below.setCell ?_ ?_ _; rotate_left; ((try simp only); omega)))) hb3
      have hs3 : w.heap.size ≤ w3.heap.size := by have h := hb3.size; (try simp at h); omega
      go_wp2_with fail
      refine (qb _ (w3.heap.size + 1 + 1 + 1) _ (Reads.newAt _ _ _ 2 3 _ (by simp) rfl) (by simp) (ht.kept (below_alloc (below_alloc (below_alloc kb3 _) _) _))).mono ?_
      rintro e w4 ⟨rfl, hb4⟩
      have kb4 : Below w.heap.size w w4 := below_call (by repeat (first | with_reducible exact Below.refl _ _ | with_reducible assumption | with_reducible refine below_drewN ?_ _ | with_reducible refine Below.drew ?_ | with_reducible refine below_alloc ?_ _ | (with_reducible refine Below.setCell ?_ ?_ _; rotate_left; ((try simp only); omega)))) hb4
      have BP4 : Blk w4 (w3.heap.size) 36 #[.int .i64 a0, .int .i64 a1, .int .i64 a2] := by
        refine Blk.kept ?_ hb4
        repeat (first | with_reducible exact Blk.new _ _ _ | (with_reducible refine Blk.newAt _ _ _ _ ?_; first | rfl | (simp; done)) | with_reducible apply Blk.alloc | with_reducible apply Blk.drewN | with_reducible apply Blk.drew | with_reducible apply Blk.set_to | (with_reducible apply Blk.far_; (simp only [ne_eq]; omega)) | rfl)
      have cP0_4 : w4.cell? ⟨w3.heap.size, 0, none⟩ = some (.int .i64 a0) := BP4.cell 0
      have cP1_4 : w4.cell? ⟨w3.heap.size, 1, none⟩ = some (.int .i64 a1) := BP4.cell 1
      have cP2_4 : w4.cell? ⟨w3.heap.size, 2, none⟩ = some (.int .i64 a2) := BP4.cell 2
      have lP4 : w3.heap.size < w4.heap.size := BP4.lt
      have mP4 : w3.heap.size < w4.heap.size + 1 := by omega
      have nP4 : w3.heap.size < w4.heap.size + 1 + 1 := by omega
      have fP0_4 := BP4.frozen 0
      have fP1_4 := BP4.frozen 1
      have fP2_4 := BP4.frozen 2
      have BQ4 : Blk w4 (w3.heap.size + 1) 36 #[.int .i64 b0, .int .i64 b1, .int .i64 b2] := by
        refine Blk.kept ?_ hb4
        repeat (first | with_reducible exact Blk.new _ _ _ | (with_reducible refine Blk.newAt _ _ _ _ ?_; first | rfl | (simp; done)) | with_reducible apply Blk.alloc | with_reducible apply Blk.drewN | with_reducible apply Blk.drew | with_reducible apply Blk.set_to | (with_reducible apply Blk.far_; (simp only [ne_eq]; omega)) | rfl)
      have cQ0_4 : w4.cell? ⟨w3.heap.size + 1, 0, none⟩ = some (.int .i64 b0) := BQ4.cell 0
      have cQ1_4 : w4.cell? ⟨w3.heap.size + 1, 1, none⟩ = some (.int .i64 b1) := BQ4.cell 1
      have cQ2_4 : w4.cell? ⟨w3.heap.size + 1, 2, none⟩ = some (.int .i64 b2) := BQ4.cell 2
      have lQ4 : w3.heap.size + 1 < w4.heap.size := BQ4.lt
      have mQ4 : w3.heap.size + 1 < w4.heap.size + 1 := by omega
      have nQ4 : w3.heap.size + 1 < w4.heap.size + 1 + 1 := by omega
      have fQ0_4 := BQ4.frozen 0
      have fQ1_4 := BQ4.frozen 1
      have fQ2_4 := BQ4.frozen 2
      have eQP4 : w3.heap.size + 1 ≠ w3.heap.size := by omega
      have ePQ4 : w3.heap.size ≠ w3.heap.size + 1 := by omega
      have hs4 : w.heap.size ≤ w4.heap.size := by have h := hb4.size; (try simp at h); omega
      go_wp2_with fail
      refine Calls.mono (s1 _ ?_) ?_
      · exact ht.kept (by repeat (first | with_reducible exact Below.refl _ _ | with_reducible assumption | with_reducible refine below_drewN ?_ _ | with_reducible refine Below.drew ?_ | with_reducible refine below_alloc ?_ _ | (with_reducible refine Below.setCell ?_ ?_ _; rotate_left; ((try simp only); omega))))
      rintro e w5 ⟨rfl, hb5⟩
      have kb5 : Below w.heap.size w w5 := below_call (by repeat (first | with_reducible exact Below.refl _ _ | with_reducible assumption | with_reducible refine below_drewN ?_ _ | with_reducible refine Below.drew ?_ | with_reducible refine below_alloc ?_ _ | (with_reducible refine Below.setCell ?_ ?_ _; rotate_left; ((try simp only); omega)))) hb5
      have BP5 : Blk w5 (w3.heap.size) 36 #[.int .i64 a0, .int .i64 a1, .int .i64 a2] := by
        refine Blk.kept ?_ hb5
        repeat (first | with_reducible exact BP4 | with_reducible exact Blk.new _ _ _ | (with_reducible refine Blk.newAt _ _ _ _ ?_; first | rfl | (simp; done)) | with_reducible apply Blk.alloc | with_reducible apply Blk.drewN | with_reducible apply Blk.drew | with_reducible apply Blk.set_to | (with_reducible apply Blk.far_; (simp only [ne_eq]; omega)) | rfl)
      have cP0_5 : w5.cell? ⟨w3.heap.size, 0, none⟩ = some (.int .i64 a0) := BP5.cell 0
      have cP1_5 : w5.cell? ⟨w3.heap.size, 1, none⟩ = some (.int .i64 a1) := BP5.cell 1
      have cP2_5 : w5.cell? ⟨w3.heap.size, 2, none⟩ = some (.int .i64 a2) := BP5.cell 2
      have lP5 : w3.heap.size < w5.heap.size := BP5.lt
      have mP5 : w3.heap.size < w5.heap.size + 1 := by omega
      have nP5 : w3.heap.size < w5.heap.size + 1 + 1 := by omega
      have fP0_5 := BP5.frozen 0
      have fP1_5 := BP5.frozen 1
      have fP2_5 := BP5.frozen 2
      have BQ5 : Blk w5 (w3.heap.size + 1) 36 #[.int .i64 b0, .int .i64 b1, .int .i64 b2] := by
        refine Blk.kept ?_ hb5
        repeat (first | with_reducible exact BQ4 | with_reducible exact Blk.new _ _ _ | (with_reducible refine Blk.newAt _ _ _ _ ?_; first | rfl | (simp; done)) | with_reducible apply Blk.alloc | with_reducible apply Blk.drewN | with_reducible apply Blk.drew | with_reducible apply Blk.set_to | (with_reducible apply Blk.far_; (simp only [ne_eq]; omega)) | rfl)
      have cQ0_5 : w5.cell? ⟨w3.heap.size + 1, 0, none⟩ = some (.int .i64 b0) := BQ5.cell 0
      have cQ1_5 : w5.cell? ⟨w3.heap.size + 1, 1, none⟩ = some (.int .i64 b1) := BQ5.cell 1
      have cQ2_5 : w5.cell? ⟨w3.heap.size + 1, 2, none⟩ = some (.int .i64 b2) := BQ5.cell 2
      have lQ5 : w3.heap.size + 1 < w5.heap.size := BQ5.lt
      have mQ5 : w3.heap.size + 1 < w5.heap.size + 1 := by omega
      have nQ5 : w3.heap.size + 1 < w5.heap.size + 1 + 1 := by omega
      have fQ0_5 := BQ5.frozen 0
      have fQ1_5 := BQ5.frozen 1
      have fQ2_5 := BQ5.frozen 2
      have BU5 : Blk w5 (w4.heap.size) 36 #[.int .i64 b0, .int .i64 (b1 + 1), .int .i64 b2] := by
        refine Blk.kept ?_ hb5
        repeat (first | with_reducible exact Blk.new _ _ _ | (with_reducible refine Blk.newAt _ _ _ _ ?_; first | rfl | (simp; done)) | with_reducible apply Blk.alloc | with_reducible apply Blk.drewN | with_reducible apply Blk.drew | with_reducible apply Blk.set_to | (with_reducible apply Blk.far_; (simp only [ne_eq]; omega)) | rfl)
      have cU0_5 : w5.cell? ⟨w4.heap.size, 0, none⟩ = some (.int .i64 b0) := BU5.cell 0
      have cU1_5 : w5.cell? ⟨w4.heap.size, 1, none⟩ = some (.int .i64 (b1 + 1)) := BU5.cell 1
      have cU2_5 : w5.cell? ⟨w4.heap.size, 2, none⟩ = some (.int .i64 b2) := BU5.cell 2
      have lU5 : w4.heap.size < w5.heap.size := BU5.lt
      have mU5 : w4.heap.size < w5.heap.size + 1 := by omega
      have nU5 : w4.heap.size < w5.heap.size + 1 + 1 := by omega
      have fU0_5 := BU5.frozen 0
      have fU1_5 := BU5.frozen 1
      have fU2_5 := BU5.frozen 2
      have eUP5 : w4.heap.size ≠ w3.heap.size := by omega
      have ePU5 : w3.heap.size ≠ w4.heap.size := by omega
      have eUQ5 : w4.heap.size ≠ w3.heap.size + 1 := by omega
      have eQU5 : w3.heap.size + 1 ≠ w4.heap.size := by omega
      clear BP4 lP4 mP4 nP4 cP0_4 cP1_4 cP2_4 fP0_4 fP1_4 fP2_4 BQ4 lQ4 mQ4 nQ4 cQ0_4 cQ1_4 cQ2_4 fQ0_4 fQ1_4 fQ2_4
      have hs5 : w.heap.size ≤ w5.heap.size := by have h := hb5.size; (try simp at h); omega
      go_wp2_with fail
      refine Calls.mono (s2 _ ?_) ?_
      · exact ht.kept (by repeat (first | with_reducible exact Below.refl _ _ | with_reducible assumption | with_reducible refine below_drewN ?_ _ | with_reducible refine Below.drew ?_ | with_reducible refine below_alloc ?_ _ | (with_reducible refine Below.setCell ?_ ?_ _; rotate_left; ((try simp only); omega))))
      rintro e w6 ⟨rfl, hb6⟩
      have kb6 : Below w.heap.size w w6 := below_call (by repeat (first | with_reducible exact Below.refl _ _ | with_reducible assumption | with_reducible refine below_drewN ?_ _ | with_reducible refine Below.drew ?_ | with_reducible refine below_alloc ?_ _ | (with_reducible refine Below.setCell ?_ ?_ _; rotate_left; ((try simp only); omega)))) hb6
      have BP6 : Blk w6 (w3.heap.size) 36 #[.int .i64 a0, .int .i64 a1, .int .i64 a2] := by
        refine Blk.kept ?_ hb6
        repeat (first | with_reducible exact BP5 | with_reducible exact Blk.new _ _ _ | (with_reducible refine Blk.newAt _ _ _ _ ?_; first | rfl | (simp; done)) | with_reducible apply Blk.alloc | with_reducible apply Blk.drewN | with_reducible apply Blk.drew | with_reducible apply Blk.set_to | (with_reducible apply Blk.far_; (simp only [ne_eq]; omega)) | rfl)
      have cP0_6 : w6.cell? ⟨w3.heap.size, 0, none⟩ = some (.int .i64 a0) := BP6.cell 0
      have cP1_6 : w6.cell? ⟨w3.heap.size, 1, none⟩ = some (.int .i64 a1) := BP6.cell 1
      have cP2_6 : w6.cell? ⟨w3.heap.size, 2, none⟩ = some (.int .i64 a2) := BP6.cell 2
      have lP6 : w3.heap.size < w6.heap.size := BP6.lt
      have mP6 : w3.heap.size < w6.heap.size + 1 := by omega
      have nP6 : w3.heap.size < w6.heap.size + 1 + 1 := by omega
      have fP0_6 := BP6.frozen 0
      have fP1_6 := BP6.frozen 1
      have fP2_6 := BP6.frozen 2
      have BQ6 : Blk w6 (w3.heap.size + 1) 36 #[.int .i64 b0, .int .i64 b1, .int .i64 b2] := by
        refine Blk.kept ?_ hb6
        repeat (first | with_reducible exact BQ5 | with_reducible exact Blk.new _ _ _ | (with_reducible refine Blk.newAt _ _ _ _ ?_; first | rfl | (simp; done)) | with_reducible apply Blk.alloc | with_reducible apply Blk.drewN | with_reducible apply Blk.drew | with_reducible apply Blk.set_to | (with_reducible apply Blk.far_; (simp only [ne_eq]; omega)) | rfl)
      have cQ0_6 : w6.cell? ⟨w3.heap.size + 1, 0, none⟩ = some (.int .i64 b0) := BQ6.cell 0
      have cQ1_6 : w6.cell? ⟨w3.heap.size + 1, 1, none⟩ = some (.int .i64 b1) := BQ6.cell 1
      have cQ2_6 : w6.cell? ⟨w3.heap.size + 1, 2, none⟩ = some (.int .i64 b2) := BQ6.cell 2
      have lQ6 : w3.heap.size + 1 < w6.heap.size := BQ6.lt
      have mQ6 : w3.heap.size + 1 < w6.heap.size + 1 := by omega
      have nQ6 : w3.heap.size + 1 < w6.heap.size + 1 + 1 := by omega
      have fQ0_6 := BQ6.frozen 0
      have fQ1_6 := BQ6.frozen 1
      have fQ2_6 := BQ6.frozen 2
      have BU6 : Blk w6 (w4.heap.size) 36 #[.int .i64 b0, .int .i64 (b1 + 1), .int .i64 b2] := by
        refine Blk.kept ?_ hb6
        repeat (first | with_reducible exact BU5 | with_reducible exact Blk.new _ _ _ | (with_reducible refine Blk.newAt _ _ _ _ ?_; first | rfl | (simp; done)) | with_reducible apply Blk.alloc | with_reducible apply Blk.drewN | with_reducible apply Blk.drew | with_reducible apply Blk.set_to | (with_reducible apply Blk.far_; (simp only [ne_eq]; omega)) | rfl)
      have cU0_6 : w6.cell? ⟨w4.heap.size, 0, none⟩ = some (.int .i64 b0) := BU6.cell 0
      have cU1_6 : w6.cell? ⟨w4.heap.size, 1, none⟩ = some (.int .i64 (b1 + 1)) := BU6.cell 1
      have cU2_6 : w6.cell? ⟨w4.heap.size, 2, none⟩ = some (.int .i64 b2) := BU6.cell 2
      have lU6 : w4.heap.size < w6.heap.size := BU6.lt
      have mU6 : w4.heap.size < w6.heap.size + 1 := by omega
      have nU6 : w4.heap.size < w6.heap.size + 1 + 1 := by omega
      have fU0_6 := BU6.frozen 0
      have fU1_6 := BU6.frozen 1
      have fU2_6 := BU6.frozen 2
      have BX6 : Blk w6 (w5.heap.size) 38 #[.int .i64 x0, .int .i64 x1] := by
        refine Blk.kept ?_ hb6
        repeat (first | with_reducible exact Blk.new _ _ _ | (with_reducible refine Blk.newAt _ _ _ _ ?_; first | rfl | (simp; done)) | with_reducible apply Blk.alloc | with_reducible apply Blk.drewN | with_reducible apply Blk.drew | with_reducible apply Blk.set_to | (with_reducible apply Blk.far_; (simp only [ne_eq]; omega)) | rfl)
      have cX0_6 : w6.cell? ⟨w5.heap.size, 0, none⟩ = some (.int .i64 x0) := BX6.cell 0
      have cX1_6 : w6.cell? ⟨w5.heap.size, 1, none⟩ = some (.int .i64 x1) := BX6.cell 1
      have lX6 : w5.heap.size < w6.heap.size := BX6.lt
      have mX6 : w5.heap.size < w6.heap.size + 1 := by omega
      have nX6 : w5.heap.size < w6.heap.size + 1 + 1 := by omega
      have eXP6 : w5.heap.size ≠ w3.heap.size := by omega
      have ePX6 : w3.heap.size ≠ w5.heap.size := by omega
      have eXQ6 : w5.heap.size ≠ w3.heap.size + 1 := by omega
      have eQX6 : w3.heap.size + 1 ≠ w5.heap.size := by omega
      have eXU6 : w5.heap.size ≠ w4.heap.size := by omega
      have eUX6 : w4.heap.size ≠ w5.heap.size := by omega
      clear BP5 lP5 mP5 nP5 cP0_5 cP1_5 cP2_5 fP0_5 fP1_5 fP2_5 BQ5 lQ5 mQ5 nQ5 cQ0_5 cQ1_5 cQ2_5 fQ0_5 fQ1_5 fQ2_5 BU5 lU5 mU5 nU5 cU0_5 cU1_5 cU2_5 fU0_5 fU1_5 fU2_5
      have hs6 : w.heap.size ≤ w6.heap.size := by have h := hb6.size; (try simp at h); omega
      go_wp2_with fail
      refine Calls.mono (s3 _ ?_) ?_
      · exact ht.kept (by repeat (first | with_reducible exact Below.refl _ _ | with_reducible assumption | with_reducible refine below_drewN ?_ _ | with_reducible refine Below.drew ?_ | with_reducible refine below_alloc ?_ _ | (with_reducible refine Below.setCell ?_ ?_ _; rotate_left; ((try simp only); omega))))
      rintro e w7 ⟨rfl, hb7⟩
      have kb7 : Below w.heap.size w w7 := below_call (by repeat (first | with_reducible exact Below.refl _ _ | with_reducible assumption | with_reducible refine below_drewN ?_ _ | with_reducible refine Below.drew ?_ | with_reducible refine below_alloc ?_ _ | (with_reducible refine Below.setCell ?_ ?_ _; rotate_left; ((try simp only); omega)))) hb7
      have BP7 : Blk w7 (w3.heap.size) 36 #[.int .i64 a0, .int .i64 a1, .int .i64 a2] := by
        refine Blk.kept ?_ hb7
        repeat (first | with_reducible exact BP6 | with_reducible exact Blk.new _ _ _ | (with_reducible refine Blk.newAt _ _ _ _ ?_; first | rfl | (simp; done)) | with_reducible apply Blk.alloc | with_reducible apply Blk.drewN | with_reducible apply Blk.drew | with_reducible apply Blk.set_to | (with_reducible apply Blk.far_; (simp only [ne_eq]; omega)) | rfl)
      have cP0_7 : w7.cell? ⟨w3.heap.size, 0, none⟩ = some (.int .i64 a0) := BP7.cell 0
      have cP1_7 : w7.cell? ⟨w3.heap.size, 1, none⟩ = some (.int .i64 a1) := BP7.cell 1
      have cP2_7 : w7.cell? ⟨w3.heap.size, 2, none⟩ = some (.int .i64 a2) := BP7.cell 2
      have lP7 : w3.heap.size < w7.heap.size := BP7.lt
      have mP7 : w3.heap.size < w7.heap.size + 1 := by omega
      have nP7 : w3.heap.size < w7.heap.size + 1 + 1 := by omega
      have fP0_7 := BP7.frozen 0
      have fP1_7 := BP7.frozen 1
      have fP2_7 := BP7.frozen 2
      have BQ7 : Blk w7 (w3.heap.size + 1) 36 #[.int .i64 b0, .int .i64 b1, .int .i64 b2] := by
        refine Blk.kept ?_ hb7
        repeat (first | with_reducible exact BQ6 | with_reducible exact Blk.new _ _ _ | (with_reducible refine Blk.newAt _ _ _ _ ?_; first | rfl | (simp; done)) | with_reducible apply Blk.alloc | with_reducible apply Blk.drewN | with_reducible apply Blk.drew | with_reducible apply Blk.set_to | (with_reducible apply Blk.far_; (simp only [ne_eq]; omega)) | rfl)
      have cQ0_7 : w7.cell? ⟨w3.heap.size + 1, 0, none⟩ = some (.int .i64 b0) := BQ7.cell 0
      have cQ1_7 : w7.cell? ⟨w3.heap.size + 1, 1, none⟩ = some (.int .i64 b1) := BQ7.cell 1
      have cQ2_7 : w7.cell? ⟨w3.heap.size + 1, 2, none⟩ = some (.int .i64 b2) := BQ7.cell 2
      have lQ7 : w3.heap.size + 1 < w7.heap.size := BQ7.lt
      have mQ7 : w3.heap.size + 1 < w7.heap.size + 1 := by omega
      have nQ7 : w3.heap.size + 1 < w7.heap.size + 1 + 1 := by omega
      have fQ0_7 := BQ7.frozen 0
      have fQ1_7 := BQ7.frozen 1
      have fQ2_7 := BQ7.frozen 2
      have BU7 : Blk w7 (w4.heap.size) 36 #[.int .i64 b0, .int .i64 (b1 + 1), .int .i64 b2] := by
        refine Blk.kept ?_ hb7
        repeat (first | with_reducible exact BU6 | with_reducible exact Blk.new _ _ _ | (with_reducible refine Blk.newAt _ _ _ _ ?_; first | rfl | (simp; done)) | with_reducible apply Blk.alloc | with_reducible apply Blk.drewN | with_reducible apply Blk.drew | with_reducible apply Blk.set_to | (with_reducible apply Blk.far_; (simp only [ne_eq]; omega)) | rfl)
      have cU0_7 : w7.cell? ⟨w4.heap.size, 0, none⟩ = some (.int .i64 b0) := BU7.cell 0
      have cU1_7 : w7.cell? ⟨w4.heap.size, 1, none⟩ = some (.int .i64 (b1 + 1)) := BU7.cell 1
      have cU2_7 : w7.cell? ⟨w4.heap.size, 2, none⟩ = some (.int .i64 b2) := BU7.cell 2
      have lU7 : w4.heap.size < w7.heap.size := BU7.lt
      have mU7 : w4.heap.size < w7.heap.size + 1 := by omega
      have nU7 : w4.heap.size < w7.heap.size + 1 + 1 := by omega
      have fU0_7 := BU7.frozen 0
      have fU1_7 := BU7.frozen 1
      have fU2_7 := BU7.frozen 2
      have BX7 : Blk w7 (w5.heap.size) 38 #[.int .i64 x0, .int .i64 x1] := by
        refine Blk.kept ?_ hb7
        repeat (first | with_reducible exact BX6 | with_reducible exact Blk.new _ _ _ | (with_reducible refine Blk.newAt _ _ _ _ ?_; first | rfl | (simp; done)) | with_reducible apply Blk.alloc | with_reducible apply Blk.drewN | with_reducible apply Blk.drew | with_reducible apply Blk.set_to | (with_reducible apply Blk.far_; (simp only [ne_eq]; omega)) | rfl)
      have cX0_7 : w7.cell? ⟨w5.heap.size, 0, none⟩ = some (.int .i64 x0) := BX7.cell 0
      have cX1_7 : w7.cell? ⟨w5.heap.size, 1, none⟩ = some (.int .i64 x1) := BX7.cell 1
      have lX7 : w5.heap.size < w7.heap.size := BX7.lt
      have mX7 : w5.heap.size < w7.heap.size + 1 := by omega
      have nX7 : w5.heap.size < w7.heap.size + 1 + 1 := by omega
      have BY7 : Blk w7 (w6.heap.size) 38 #[.int .i64 x0, .int .i64 x1] := by
        refine Blk.kept ?_ hb7
        repeat (first | with_reducible exact Blk.new _ _ _ | (with_reducible refine Blk.newAt _ _ _ _ ?_; first | rfl | (simp; done)) | with_reducible apply Blk.alloc | with_reducible apply Blk.drewN | with_reducible apply Blk.drew | with_reducible apply Blk.set_to | (with_reducible apply Blk.far_; (simp only [ne_eq]; omega)) | rfl)
      have cY0_7 : w7.cell? ⟨w6.heap.size, 0, none⟩ = some (.int .i64 x0) := BY7.cell 0
      have cY1_7 : w7.cell? ⟨w6.heap.size, 1, none⟩ = some (.int .i64 x1) := BY7.cell 1
      have lY7 : w6.heap.size < w7.heap.size := BY7.lt
      have mY7 : w6.heap.size < w7.heap.size + 1 := by omega
      have nY7 : w6.heap.size < w7.heap.size + 1 + 1 := by omega
      have eYP7 : w6.heap.size ≠ w3.heap.size := by omega
      have ePY7 : w3.heap.size ≠ w6.heap.size := by omega
      have eYQ7 : w6.heap.size ≠ w3.heap.size + 1 := by omega
      have eQY7 : w3.heap.size + 1 ≠ w6.heap.size := by omega
      have eYU7 : w6.heap.size ≠ w4.heap.size := by omega
      have eUY7 : w4.heap.size ≠ w6.heap.size := by omega
      clear BP6 lP6 mP6 nP6 cP0_6 cP1_6 cP2_6 fP0_6 fP1_6 fP2_6 BQ6 lQ6 mQ6 nQ6 cQ0_6 cQ1_6 cQ2_6 fQ0_6 fQ1_6 fQ2_6 BU6 lU6 mU6 nU6 cU0_6 cU1_6 cU2_6 fU0_6 fU1_6 fU2_6 BX6 lX6 mX6 nX6 cX0_6 cX1_6
      have hs7 : w.heap.size ≤ w7.heap.size := by have h := hb7.size; (try simp at h); omega
      go_wp2_with fail
      refine Calls.mono (d1 _ ?_) ?_
      · exact ht.kept (by repeat (first | with_reducible exact Below.refl _ _ | with_reducible assumption | with_reducible refine below_drewN ?_ _ | with_reducible refine Below.drew ?_ | with_reducible refine below_alloc ?_ _ | (with_reducible refine Below.setCell ?_ ?_ _; rotate_left; ((try simp only); omega))))
      rintro e w8 ⟨rfl, hb8⟩
      have kb8 : Below w.heap.size w w8 := below_call (by repeat (first | with_reducible exact Below.refl _ _ | with_reducible assumption | with_reducible refine below_drewN ?_ _ | with_reducible refine Below.drew ?_ | with_reducible refine below_alloc ?_ _ | (with_reducible refine Below.setCell ?_ ?_ _; rotate_left; ((try simp only); omega)))) hb8
      have BP8 : Blk w8 (w3.heap.size) 36 #[.int .i64 a0, .int .i64 a1, .int .i64 a2] := by
        refine Blk.kept ?_ hb8
        repeat (first | with_reducible exact BP7 | with_reducible exact Blk.new _ _ _ | (with_reducible refine Blk.newAt _ _ _ _ ?_; first | rfl | (simp; done)) | with_reducible apply Blk.alloc | with_reducible apply Blk.drewN | with_reducible apply Blk.drew | with_reducible apply Blk.set_to | (with_reducible apply Blk.far_; (simp only [ne_eq]; omega)) | rfl)
      have cP0_8 : w8.cell? ⟨w3.heap.size, 0, none⟩ = some (.int .i64 a0) := BP8.cell 0
      have cP1_8 : w8.cell? ⟨w3.heap.size, 1, none⟩ = some (.int .i64 a1) := BP8.cell 1
      have cP2_8 : w8.cell? ⟨w3.heap.size, 2, none⟩ = some (.int .i64 a2) := BP8.cell 2
      have lP8 : w3.heap.size < w8.heap.size := BP8.lt
      have mP8 : w3.heap.size < w8.heap.size + 1 := by omega
      have nP8 : w3.heap.size < w8.heap.size + 1 + 1 := by omega
      have fP0_8 := BP8.frozen 0
      have fP1_8 := BP8.frozen 1
      have fP2_8 := BP8.frozen 2
      have BQ8 : Blk w8 (w3.heap.size + 1) 36 #[.int .i64 b0, .int .i64 b1, .int .i64 b2] := by
        refine Blk.kept ?_ hb8
        repeat (first | with_reducible exact BQ7 | with_reducible exact Blk.new _ _ _ | (with_reducible refine Blk.newAt _ _ _ _ ?_; first | rfl | (simp; done)) | with_reducible apply Blk.alloc | with_reducible apply Blk.drewN | with_reducible apply Blk.drew | with_reducible apply Blk.set_to | (with_reducible apply Blk.far_; (simp only [ne_eq]; omega)) | rfl)
      have cQ0_8 : w8.cell? ⟨w3.heap.size + 1, 0, none⟩ = some (.int .i64 b0) := BQ8.cell 0
      have cQ1_8 : w8.cell? ⟨w3.heap.size + 1, 1, none⟩ = some (.int .i64 b1) := BQ8.cell 1
      have cQ2_8 : w8.cell? ⟨w3.heap.size + 1, 2, none⟩ = some (.int .i64 b2) := BQ8.cell 2
      have lQ8 : w3.heap.size + 1 < w8.heap.size := BQ8.lt
      have mQ8 : w3.heap.size + 1 < w8.heap.size + 1 := by omega
      have nQ8 : w3.heap.size + 1 < w8.heap.size + 1 + 1 := by omega
      have fQ0_8 := BQ8.frozen 0
      have fQ1_8 := BQ8.frozen 1
      have fQ2_8 := BQ8.frozen 2
      have BU8 : Blk w8 (w4.heap.size) 36 #[.int .i64 b0, .int .i64 (b1 + 1), .int .i64 b2] := by
        refine Blk.kept ?_ hb8
        repeat (first | with_reducible exact BU7 | with_reducible exact Blk.new _ _ _ | (with_reducible refine Blk.newAt _ _ _ _ ?_; first | rfl | (simp; done)) | with_reducible apply Blk.alloc | with_reducible apply Blk.drewN | with_reducible apply Blk.drew | with_reducible apply Blk.set_to | (with_reducible apply Blk.far_; (simp only [ne_eq]; omega)) | rfl)
      have cU0_8 : w8.cell? ⟨w4.heap.size, 0, none⟩ = some (.int .i64 b0) := BU8.cell 0
      have cU1_8 : w8.cell? ⟨w4.heap.size, 1, none⟩ = some (.int .i64 (b1 + 1)) := BU8.cell 1
      have cU2_8 : w8.cell? ⟨w4.heap.size, 2, none⟩ = some (.int .i64 b2) := BU8.cell 2
      have lU8 : w4.heap.size < w8.heap.size := BU8.lt
      have mU8 : w4.heap.size < w8.heap.size + 1 := by omega
      have nU8 : w4.heap.size < w8.heap.size + 1 + 1 := by omega
      have fU0_8 := BU8.frozen 0
      have fU1_8 := BU8.frozen 1
      have fU2_8 := BU8.frozen 2
      have BX8 : Blk w8 (w5.heap.size) 38 #[.int .i64 x0, .int .i64 x1] := by
        refine Blk.kept ?_ hb8
        repeat (first | with_reducible exact BX7 | with_reducible exact Blk.new _ _ _ | (with_reducible refine Blk.newAt _ _ _ _ ?_; first | rfl | (simp; done)) | with_reducible apply Blk.alloc | with_reducible apply Blk.drewN | with_reducible apply Blk.drew | with_reducible apply Blk.set_to | (with_reducible apply Blk.far_; (simp only [ne_eq]; omega)) | rfl)
      have cX0_8 : w8.cell? ⟨w5.heap.size, 0, none⟩ = some (.int .i64 x0) := BX8.cell 0
      have cX1_8 : w8.cell? ⟨w5.heap.size, 1, none⟩ = some (.int .i64 x1) := BX8.cell 1
      have lX8 : w5.heap.size < w8.heap.size := BX8.lt
      have mX8 : w5.heap.size < w8.heap.size + 1 := by omega
      have nX8 : w5.heap.size < w8.heap.size + 1 + 1 := by omega
      have BY8 : Blk w8 (w6.heap.size) 38 #[.int .i64 x0, .int .i64 x1] := by
        refine Blk.kept ?_ hb8
        repeat (first | with_reducible exact BY7 | with_reducible exact Blk.new _ _ _ | (with_reducible refine Blk.newAt _ _ _ _ ?_; first | rfl | (simp; done)) | with_reducible apply Blk.alloc | with_reducible apply Blk.drewN | with_reducible apply Blk.drew | with_reducible apply Blk.set_to | (with_reducible apply Blk.far_; (simp only [ne_eq]; omega)) | rfl)
      have cY0_8 : w8.cell? ⟨w6.heap.size, 0, none⟩ = some (.int .i64 x0) := BY8.cell 0
      have cY1_8 : w8.cell? ⟨w6.heap.size, 1, none⟩ = some (.int .i64 x1) := BY8.cell 1
      have lY8 : w6.heap.size < w8.heap.size := BY8.lt
      have mY8 : w6.heap.size < w8.heap.size + 1 := by omega
      have nY8 : w6.heap.size < w8.heap.size + 1 + 1 := by omega
      have BZ8 : Blk w8 (w7.heap.size) 38 #[.int .i64 x0, .int .i64 x1] := by
        refine Blk.kept ?_ hb8
        repeat (first | with_reducible exact Blk.new _ _ _ | (with_reducible refine Blk.newAt _ _ _ _ ?_; first | rfl | (simp; done)) | with_reducible apply Blk.alloc | with_reducible apply Blk.drewN | with_reducible apply Blk.drew | with_reducible apply Blk.set_to | (with_reducible apply Blk.far_; (simp only [ne_eq]; omega)) | rfl)
      have cZ0_8 : w8.cell? ⟨w7.heap.size, 0, none⟩ = some (.int .i64 x0) := BZ8.cell 0
      have cZ1_8 : w8.cell? ⟨w7.heap.size, 1, none⟩ = some (.int .i64 x1) := BZ8.cell 1
      have lZ8 : w7.heap.size < w8.heap.size := BZ8.lt
      have mZ8 : w7.heap.size < w8.heap.size + 1 := by omega
      have nZ8 : w7.heap.size < w8.heap.size + 1 + 1 := by omega
      have eZP8 : w7.heap.size ≠ w3.heap.size := by omega
      have ePZ8 : w3.heap.size ≠ w7.heap.size := by omega
      have eZQ8 : w7.heap.size ≠ w3.heap.size + 1 := by omega
      have eQZ8 : w3.heap.size + 1 ≠ w7.heap.size := by omega
      have eZU8 : w7.heap.size ≠ w4.heap.size := by omega
      have eUZ8 : w4.heap.size ≠ w7.heap.size := by omega
      clear BP7 lP7 mP7 nP7 cP0_7 cP1_7 cP2_7 fP0_7 fP1_7 fP2_7 BQ7 lQ7 mQ7 nQ7 cQ0_7 cQ1_7 cQ2_7 fQ0_7 fQ1_7 fQ2_7 BU7 lU7 mU7 nU7 cU0_7 cU1_7 cU2_7 fU0_7 fU1_7 fU2_7 BX7 lX7 mX7 nX7 cX0_7 cX1_7 BY7 lY7 mY7 nY7 cY0_7 cY1_7
      have hs8 : w.heap.size ≤ w8.heap.size := by have h := hb8.size; (try simp at h); omega
      go_wp2_with fail
      refine Calls.mono (d2 _ ?_) ?_
      · exact ht.kept (by repeat (first | with_reducible exact Below.refl _ _ | with_reducible assumption | with_reducible refine below_drewN ?_ _ | with_reducible refine Below.drew ?_ | with_reducible refine below_alloc ?_ _ | (with_reducible refine Below.setCell ?_ ?_ _; rotate_left; ((try simp only); omega))))
      rintro e w9 ⟨rfl, hb9⟩
      have kb9 : Below w.heap.size w w9 := below_call (by repeat (first | with_reducible exact Below.refl _ _ | with_reducible assumption | with_reducible refine below_drewN ?_ _ | with_reducible refine Below.drew ?_ | with_reducible refine below_alloc ?_ _ | (with_reducible refine Below.setCell ?_ ?_ _; rotate_left; ((try simp only); omega)))) hb9
      have BP9 : Blk w9 (w3.heap.size) 36 #[.int .i64 a0, .int .i64 a1, .int .i64 a2] := by
        refine Blk.kept ?_ hb9
        repeat (first | with_reducible exact BP8 | with_reducible exact Blk.new _ _ _ | (with_reducible refine Blk.newAt _ _ _ _ ?_; first | rfl | (simp; done)) | with_reducible apply Blk.alloc | with_reducible apply Blk.drewN | with_reducible apply Blk.drew | with_reducible apply Blk.set_to | (with_reducible apply Blk.far_; (simp only [ne_eq]; omega)) | rfl)
      have cP0_9 : w9.cell? ⟨w3.heap.size, 0, none⟩ = some (.int .i64 a0) := BP9.cell 0
      have cP1_9 : w9.cell? ⟨w3.heap.size, 1, none⟩ = some (.int .i64 a1) := BP9.cell 1
      have cP2_9 : w9.cell? ⟨w3.heap.size, 2, none⟩ = some (.int .i64 a2) := BP9.cell 2
      have lP9 : w3.heap.size < w9.heap.size := BP9.lt
      have mP9 : w3.heap.size < w9.heap.size + 1 := by omega
      have nP9 : w3.heap.size < w9.heap.size + 1 + 1 := by omega
      have fP0_9 := BP9.frozen 0
      have fP1_9 := BP9.frozen 1
      have fP2_9 := BP9.frozen 2
      have BQ9 : Blk w9 (w3.heap.size + 1) 36 #[.int .i64 b0, .int .i64 b1, .int .i64 b2] := by
        refine Blk.kept ?_ hb9
        repeat (first | with_reducible exact BQ8 | with_reducible exact Blk.new _ _ _ | (with_reducible refine Blk.newAt _ _ _ _ ?_; first | rfl | (simp; done)) | with_reducible apply Blk.alloc | with_reducible apply Blk.drewN | with_reducible apply Blk.drew | with_reducible apply Blk.set_to | (with_reducible apply Blk.far_; (simp only [ne_eq]; omega)) | rfl)
      have cQ0_9 : w9.cell? ⟨w3.heap.size + 1, 0, none⟩ = some (.int .i64 b0) := BQ9.cell 0
      have cQ1_9 : w9.cell? ⟨w3.heap.size + 1, 1, none⟩ = some (.int .i64 b1) := BQ9.cell 1
      have cQ2_9 : w9.cell? ⟨w3.heap.size + 1, 2, none⟩ = some (.int .i64 b2) := BQ9.cell 2
      have lQ9 : w3.heap.size + 1 < w9.heap.size := BQ9.lt
      have mQ9 : w3.heap.size + 1 < w9.heap.size + 1 := by omega
      have nQ9 : w3.heap.size + 1 < w9.heap.size + 1 + 1 := by omega
      have fQ0_9 := BQ9.frozen 0
      have fQ1_9 := BQ9.frozen 1
      have fQ2_9 := BQ9.frozen 2
      have BU9 : Blk w9 (w4.heap.size) 36 #[.int .i64 b0, .int .i64 (b1 + 1), .int .i64 b2] := by
        refine Blk.kept ?_ hb9
        repeat (first | with_reducible exact BU8 | with_reducible exact Blk.new _ _ _ | (with_reducible refine Blk.newAt _ _ _ _ ?_; first | rfl | (simp; done)) | with_reducible apply Blk.alloc | with_reducible apply Blk.drewN | with_reducible apply Blk.drew | with_reducible apply Blk.set_to | (with_reducible apply Blk.far_; (simp only [ne_eq]; omega)) | rfl)
      have cU0_9 : w9.cell? ⟨w4.heap.size, 0, none⟩ = some (.int .i64 b0) := BU9.cell 0
      have cU1_9 : w9.cell? ⟨w4.heap.size, 1, none⟩ = some (.int .i64 (b1 + 1)) := BU9.cell 1
      have cU2_9 : w9.cell? ⟨w4.heap.size, 2, none⟩ = some (.int .i64 b2) := BU9.cell 2
      have lU9 : w4.heap.size < w9.heap.size := BU9.lt
      have mU9 : w4.heap.size < w9.heap.size + 1 := by omega
      have nU9 : w4.heap.size < w9.heap.size + 1 + 1 := by omega
      have fU0_9 := BU9.frozen 0
      have fU1_9 := BU9.frozen 1
      have fU2_9 := BU9.frozen 2
      have BX9 : Blk w9 (w5.heap.size) 38 #[.int .i64 x0, .int .i64 x1] := by
        refine Blk.kept ?_ hb9
        repeat (first | with_reducible exact BX8 | with_reducible exact Blk.new _ _ _ | (with_reducible refine Blk.newAt _ _ _ _ ?_; first | rfl | (simp; done)) | with_reducible apply Blk.alloc | with_reducible apply Blk.drewN | with_reducible apply Blk.drew | with_reducible apply Blk.set_to | (with_reducible apply Blk.far_; (simp only [ne_eq]; omega)) | rfl)
      have cX0_9 : w9.cell? ⟨w5.heap.size, 0, none⟩ = some (.int .i64 x0) := BX9.cell 0
      have cX1_9 : w9.cell? ⟨w5.heap.size, 1, none⟩ = some (.int .i64 x1) := BX9.cell 1
      have lX9 : w5.heap.size < w9.heap.size := BX9.lt
      have mX9 : w5.heap.size < w9.heap.size + 1 := by omega
      have nX9 : w5.heap.size < w9.heap.size + 1 + 1 := by omega
      have BY9 : Blk w9 (w6.heap.size) 38 #[.int .i64 x0, .int .i64 x1] := by
        refine Blk.kept ?_ hb9
        repeat (first | with_reducible exact BY8 | with_reducible exact Blk.new _ _ _ | (with_reducible refine Blk.newAt _ _ _ _ ?_; first | rfl | (simp; done)) | with_reducible apply Blk.alloc | with_reducible apply Blk.drewN | with_reducible apply Blk.drew | with_reducible apply Blk.set_to | (with_reducible apply Blk.far_; (simp only [ne_eq]; omega)) | rfl)
      have cY0_9 : w9.cell? ⟨w6.heap.size, 0, none⟩ = some (.int .i64 x0) := BY9.cell 0
      have cY1_9 : w9.cell? ⟨w6.heap.size, 1, none⟩ = some (.int .i64 x1) := BY9.cell 1
      have lY9 : w6.heap.size < w9.heap.size := BY9.lt
      have mY9 : w6.heap.size < w9.heap.size + 1 := by omega
      have nY9 : w6.heap.size < w9.heap.size + 1 + 1 := by omega
      have BZ9 : Blk w9 (w7.heap.size) 38 #[.int .i64 x0, .int .i64 x1] := by
        refine Blk.kept ?_ hb9
        repeat (first | with_reducible exact BZ8 | with_reducible exact Blk.new _ _ _ | (with_reducible refine Blk.newAt _ _ _ _ ?_; first | rfl | (simp; done)) | with_reducible apply Blk.alloc | with_reducible apply Blk.drewN | with_reducible apply Blk.drew | with_reducible apply Blk.set_to | (with_reducible apply Blk.far_; (simp only [ne_eq]; omega)) | rfl)
      have cZ0_9 : w9.cell? ⟨w7.heap.size, 0, none⟩ = some (.int .i64 x0) := BZ9.cell 0
      have cZ1_9 : w9.cell? ⟨w7.heap.size, 1, none⟩ = some (.int .i64 x1) := BZ9.cell 1
      have lZ9 : w7.heap.size < w9.heap.size := BZ9.lt
      have mZ9 : w7.heap.size < w9.heap.size + 1 := by omega
      have nZ9 : w7.heap.size < w9.heap.size + 1 + 1 := by omega
      clear BP8 lP8 mP8 nP8 cP0_8 cP1_8 cP2_8 fP0_8 fP1_8 fP2_8 BQ8 lQ8 mQ8 nQ8 cQ0_8 cQ1_8 cQ2_8 fQ0_8 fQ1_8 fQ2_8 BU8 lU8 mU8 nU8 cU0_8 cU1_8 cU2_8 fU0_8 fU1_8 fU2_8 BX8 lX8 mX8 nX8 cX0_8 cX1_8 BY8 lY8 mY8 nY8 cY0_8 cY1_8 BZ8 lZ8 mZ8 nZ8 cZ0_8 cZ1_8
      have hs9 : w.heap.size ≤ w9.heap.size := by have h := hb9.size; (try simp at h); omega
      go_wp2
      go_ret
      exact ⟨rfl, by repeat (first | with_reducible exact Below.refl _ _ | with_reducible assumption | with_reducible refine below_drewN ?_ _ | with_reducible refine Below.drew ?_ | with_reducible refine below_alloc ?_ _ | (with_reducible refine Below.setCell ?_ ?_ _; rotate_left; ((try simp only); omega)))⟩
def laids : List (String × DataW Unit) := Rows.intervalOctavesRow.laid
theorem door_met (os : Os) (args : Array Value) : laidMetH Tryd.prog laids ((World.doorLaid Tryd.prog 80 os).forCall (fun _ _ => 0) ⟨#[], args, []⟩).memory :=
  laidMetH_of_parts3 (fuel := 8) (laidMet_of_run' 8 (by kernel_rfl) (by kernel_rfl)) (by kernel_rfl) (by kernel_rfl)
theorem tabs_of {W : World} (h : laidMetH Tryd.prog laids W) : Tabs2 W := by
  rw [MakeChecks.laidMetH_plain _ _ _ (by kernel_rfl)] at h
  exact ⟨tabs_of_list h (by kernel_rfl) (by kernel_rfl) (by kernel_rfl), sent_of_list h (by kernel_rfl)⟩
set_option maxRecDepth 100000 in
theorem lifted (os : Os) (started : os.Started) (H : Type) (enc : TypeId × Value → H) :
    ReturnsInHanded {} Tryd.checked os 6 .any (fun w args => (Rows.intervalOctavesSpec.pre enc Tryd.prog Tryd.f6 [] false w args ∧ laidMetH Tryd.prog laids w) ∧ sizedMet enc Tryd.prog Tryd.f6 (OpenSpec.ofChange Rows.intervalOctavesSpec) false w args) (Rows.intervalOctavesSpec.post enc Tryd.prog Tryd.f6 false true false false) := by
  refine returnsInHanded_of_change_and (C := Tryd.checked) (X := fun w _ => laidMetH Tryd.prog laids w) (fun _ _ _ hh h => h.of_heap hh) own started (by kernel_rfl) Tryd.func6
    (ChangeSpec.witness_shaped (enc := enc) (C := Tryd.checked) (os := os) (X := fun w _ => laidMetH Tryd.prog laids w) false (World.doorLaid Tryd.prog 80 os) #[.int .i64 0, .int .i64 0] 8 rfl (World.shaped_of_RefB (by kernel_rfl) (by kernel_rfl)) (by kernel_rfl) (by kernel_rfl) (by kernel_rfl) (door_met os _)) ?_
  intro W base args ds gs before hval0 hW _ _ hL _
  have hval : ∀ (j : Nat) t v, Tryd.f6.params[j]? = some t → args[j]? = some v → Value.okWide Tryd.prog W .any base t v := hval0
  have hW' := hW
  obtain ⟨p, q, hA0, hV, rfl, hfz, hnd⟩ := hW
  have hA : DataW.TrodAll enc Tryd.prog W 0 (fun _ => true) true Tryd.f6.params.toList args.toList ds p := hA0
  rw [Tryd.params6] at hA hval
  obtain ⟨v0, vs0, d0, ds0, p0, q0, hargs, rfl, rfl, h0, r0⟩ := trodAll_cons hA
  obtain ⟨v1, vs1, d1, ds1, p1, q1, rfl, rfl, rfl, h1, r1⟩ := trodAll_cons r0
  obtain ⟨rfl, rfl, rfl⟩ := trodAll_nil r1
  obtain rfl : args = #[v0, v1] := by cases args; simp_all
  obtain ⟨rfl, rfl⟩ := trodVars_none hV
  have k0 := h0
  have lt0 : ∀ x ∈ p0, x.block < W.heap.size := by obtain ⟨m, hm⟩ := k0; exact DataW.trod_lt m _ _ _ hm
  obtain ⟨a0, rfl, w0⟩ := arg_int (hval 0 3 v0 rfl rfl) h0
  have k1 := h1
  have lt1 : ∀ x ∈ p1, x.block < W.heap.size := by obtain ⟨m, hm⟩ := k1; exact DataW.trod_lt m _ _ _ hm
  obtain ⟨a1, rfl, w1⟩ := arg_int (hval 1 3 v1 rfl rfl) h1
  clear hA0 hval0
  refine (walk a0 a1 W w0 w1 (tabs_of hL)).mono fun e W' ⟨he, bel⟩ => ?_
  subst he
  exact ⟨_, rfl, _, _, _, [], _, [], hW', trodAll_mk1 (shut_bool Tryd.underlying4 _), (trodAll_cons_mk (Below.trod laidOut (by kernel_rfl) (of_decide_eq_true (by kernel_rfl)) k0 bel lt0) (trodAll_cons_mk (Below.trod laidOut (by kernel_rfl) (of_decide_eq_true (by kernel_rfl)) k1 bel lt1) trodAll_mk0)), rfl, bel.frame _, fun h => by cases h⟩

theorem over : Rows.IntervalOctavesSaid :=
  OpenClaim.holds_of_wide 6 Tryd.f6 rfl rfl rfl rfl rfl rfl rfl ⟨rfl, rfl, rfl, rfl, rfl⟩ rfl rfl rfl rfl rfl (by kernel_rfl) Tryd.func6 (by kernel_rfl)
    (of_decide_eq_true (by kernel_rfl)) (by unfold Func.isWrapper; first | (rw [if_pos (by decide +kernel)]; kernel_rfl) | (rw [if_neg (by decide +kernel)]; exact ⟨rfl, rfl⟩))
    (fun os started H enc _ => lifted os started H enc)

/-- The card: the row, its variables tied to the program's text. -/
theorem proved : Rows.IntervalOctavesCardSaid :=
  Claim7.holds_tied_plain_at .later [] [.data, .data, .data, .sentinel, .sentinel, .data, .data, .data] true Rows.intervalOctavesCard.stood.harness Rows.intervalOctavesCard.stood.looks
    over (fun _ h => by cases h) (by kernel_rfl) (fun _ h => by cases h) intervalOctaves_row_tie rfl ⟨rfl, rfl⟩ (by kernel_rfl) rfl
    (fun f fn hf hfn => by
      obtain rfl : f = 6 := Option.some.inj ((show Tryd.prog.funcNamed Tryd.f6.name = some 6 by kernel_rfl).symm.trans hf) |>.symm
      obtain rfl : fn = Tryd.f6 := (Option.some.inj (Tryd.func6.symm.trans hfn)).symm
      exact ⟨by kernel_rfl, fun j t ht => by
        rw [Tryd.params6] at ht
        have hm : t ∈ Tryd.f6.params.toList := by rw [Tryd.params6]; simpa using Array.mem_of_getElem? ht
        have hall : (Tryd.f6.params.toList.all fun u => !Tryd.prog.wantsStandIn u) = true := by kernel_rfl
        exact (show Tryd.prog.wantsStandIn t = false by simpa using List.all_eq_true.1 hall t hm)⟩)
    (by kernel_rfl)

end Go.Proofs.YtmbnpblejhlefaaDoor.intervalOctaves
