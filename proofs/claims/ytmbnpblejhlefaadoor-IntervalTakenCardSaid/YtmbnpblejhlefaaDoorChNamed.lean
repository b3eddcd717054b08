/- The walk through the program's Name. -/
import Derived.Test.YtmbnpblejhlefaaDoorChName
namespace Go.Proofs.YtmbnpblejhlefaaDoor
open Go.RowKit
theorem notEmpty {t : ByteArray} (h : ¬ t = ⟨#[]⟩) : t.toList.isEmpty = false := by
  rw [Lib.toList_data]
  cases h' : t.data.toList with
  | nil =>
    refine absurd ?_ h
    cases t with
    | mk d =>
      have : d = #[] := by simpa using h'
      rw [this]
  | cons a l => rfl
def nameE (p q : Int × Int × Int) : ByteArray × Int :=
  if (upE p q).2 ≠ 0 then (⟨#[]⟩, (upE p q).2) else if nameX (upE p q).1 = ⟨#[]⟩ then (⟨#[]⟩, 18) else (nameX (upE p q).1, 0)
set_option maxRecDepth 100000 in
set_option maxHeartbeats 1000000 in
theorem Name_any (p q : Int × Int × Int) (w : World) (ht : Tabs w) :
    Calls Tryd.prog 23 #[vP p, vP q] w fun e w' => e = .returned (.tuple #[.string (nameE p q).1, .int .i64 (nameE p q).2]) ∧ Below w.heap.size w w' := by
  have q1 := between_any p q
  have HB := upE_bd p q
  have E0 := Lib.hid (show nameE p q = _ from rfl)
  obtain ⟨⟨⟨u, v⟩, r⟩, hu⟩ : ∃ t, t = upE p q := ⟨_, rfl⟩
  have E := Lib.hid (show nameE p q = if r ≠ 0 then (⟨#[]⟩, r) else if nameX (u, v) = ⟨#[]⟩ then (⟨#[]⟩, 18) else (nameX (u, v), 0) by unfold nameE; rw [← hu])
  rw [← hu] at q1 HB
  simp only at HB
  have q2 := fun w ht => called_any (u, v) w ht HB.1 HB.2.1 (by simp only; omega) (by simp only; omega)
  obtain ⟨tx, htx⟩ : ∃ t, t = nameX (u, v) := ⟨_, rfl⟩
  rw [← htx] at q2 E
  clear htx hu HB E0
  obtain ⟨a, b, c⟩ := p
  obtain ⟨a', b', c'⟩ := q
  by_cases hr : r = 0
  · subst hr
    by_cases hx : tx = ⟨#[]⟩
    · have E := Lib.hid (show nameE (a, b, c) (a', b', c') = (⟨#[]⟩, 18) by rw [E.out, if_neg (fun h => h rfl), if_pos hx])
      subst hx
      go_enter Tryd.func23, Tryd.ntmps23
      go_wp2_with fail
      refine Calls.mono (q1 _ ?_) ?_
      · exact ht.kept (by repeat (first | exact Below.refl _ _ | refine below_drewN ?_ _ | refine Below.drew ?_ | refine below_alloc ?_ _ | (refine below_call ?_ (by assumption)) | (refine Below.setCell ?_ ?_ _; rotate_left; (simp; try omega))))
      rintro e w1 ⟨rfl, hb1⟩
      have BP1 : Blk w1 (w.heap.size) 36 #[.int .i64 a, .int .i64 b, .int .i64 c] := by
        refine Blk.kept ?_ hb1
        repeat (first | with_reducible exact Blk.new _ _ _ | (with_reducible refine Blk.newAt _ _ _ _ ?_; first | rfl | (simp; done)) | with_reducible apply Blk.alloc | with_reducible apply Blk.drewN | with_reducible apply Blk.drew | with_reducible apply Blk.set_to | (with_reducible apply Blk.far_; (simp only [ne_eq]; omega)) | rfl)
      have cP0_1 : w1.cell? ⟨w.heap.size, 0, none⟩ = some (.int .i64 a) := BP1.cell 0
      have cP1_1 : w1.cell? ⟨w.heap.size, 1, none⟩ = some (.int .i64 b) := BP1.cell 1
      have cP2_1 : w1.cell? ⟨w.heap.size, 2, none⟩ = some (.int .i64 c) := BP1.cell 2
      have lP1 : w.heap.size < w1.heap.size := BP1.lt
      have mP1 : w.heap.size < w1.heap.size + 1 := by omega
      have nP1 : w.heap.size < w1.heap.size + 1 + 1 := by omega
      have BQ1 : Blk w1 (w.heap.size + 1) 36 #[.int .i64 a', .int .i64 b', .int .i64 c'] := by
        refine Blk.kept ?_ hb1
        repeat (first | with_reducible exact Blk.new _ _ _ | (with_reducible refine Blk.newAt _ _ _ _ ?_; first | rfl | (simp; done)) | with_reducible apply Blk.alloc | with_reducible apply Blk.drewN | with_reducible apply Blk.drew | with_reducible apply Blk.set_to | (with_reducible apply Blk.far_; (simp only [ne_eq]; omega)) | rfl)
      have cQ0_1 : w1.cell? ⟨w.heap.size + 1, 0, none⟩ = some (.int .i64 a') := BQ1.cell 0
      have cQ1_1 : w1.cell? ⟨w.heap.size + 1, 1, none⟩ = some (.int .i64 b') := BQ1.cell 1
      have cQ2_1 : w1.cell? ⟨w.heap.size + 1, 2, none⟩ = some (.int .i64 c') := BQ1.cell 2
      have lQ1 : w.heap.size + 1 < w1.heap.size := BQ1.lt
      have mQ1 : w.heap.size + 1 < w1.heap.size + 1 := by omega
      have nQ1 : w.heap.size + 1 < w1.heap.size + 1 + 1 := by omega
      have hs1 : w.heap.size ≤ w1.heap.size := by have h := hb1.size; (try simp at h); omega
      go_wp2_with fail
      refine Calls.mono (q2 _ ?_) ?_
      · exact ht.kept (by repeat (first | exact Below.refl _ _ | refine below_drewN ?_ _ | refine Below.drew ?_ | refine below_alloc ?_ _ | (refine below_call ?_ (by assumption)) | (refine Below.setCell ?_ ?_ _; rotate_left; (simp; try omega))))
      rintro e w2 ⟨rfl, hb2⟩
      have BP2 : Blk w2 (w.heap.size) 36 #[.int .i64 a, .int .i64 b, .int .i64 c] := by
        refine Blk.kept ?_ hb2
        repeat (first | with_reducible exact BP1 | with_reducible exact Blk.new _ _ _ | (with_reducible refine Blk.newAt _ _ _ _ ?_; first | rfl | (simp; done)) | with_reducible apply Blk.alloc | with_reducible apply Blk.drewN | with_reducible apply Blk.drew | with_reducible apply Blk.set_to | (with_reducible apply Blk.far_; (simp only [ne_eq]; omega)) | rfl)
      have cP0_2 : w2.cell? ⟨w.heap.size, 0, none⟩ = some (.int .i64 a) := BP2.cell 0
      have cP1_2 : w2.cell? ⟨w.heap.size, 1, none⟩ = some (.int .i64 b) := BP2.cell 1
      have cP2_2 : w2.cell? ⟨w.heap.size, 2, none⟩ = some (.int .i64 c) := BP2.cell 2
      have lP2 : w.heap.size < w2.heap.size := BP2.lt
      have mP2 : w.heap.size < w2.heap.size + 1 := by omega
      have nP2 : w.heap.size < w2.heap.size + 1 + 1 := by omega
      have BQ2 : Blk w2 (w.heap.size + 1) 36 #[.int .i64 a', .int .i64 b', .int .i64 c'] := by
        refine Blk.kept ?_ hb2
        repeat (first | with_reducible exact BQ1 | with_reducible exact Blk.new _ _ _ | (with_reducible refine Blk.newAt _ _ _ _ ?_; first | rfl | (simp; done)) | with_reducible apply Blk.alloc | with_reducible apply Blk.drewN | with_reducible apply Blk.drew | with_reducible apply Blk.set_to | (with_reducible apply Blk.far_; (simp only [ne_eq]; omega)) | rfl)
      have cQ0_2 : w2.cell? ⟨w.heap.size + 1, 0, none⟩ = some (.int .i64 a') := BQ2.cell 0
      have cQ1_2 : w2.cell? ⟨w.heap.size + 1, 1, none⟩ = some (.int .i64 b') := BQ2.cell 1
      have cQ2_2 : w2.cell? ⟨w.heap.size + 1, 2, none⟩ = some (.int .i64 c') := BQ2.cell 2
      have lQ2 : w.heap.size + 1 < w2.heap.size := BQ2.lt
      have mQ2 : w.heap.size + 1 < w2.heap.size + 1 := by omega
      have nQ2 : w.heap.size + 1 < w2.heap.size + 1 + 1 := by omega
      have BX2 : Blk w2 (w1.heap.size) 38 #[.int .i64 u, .int .i64 v] := by
        refine Blk.kept ?_ hb2
        repeat (first | with_reducible exact Blk.new _ _ _ | (with_reducible refine Blk.newAt _ _ _ _ ?_; first | rfl | (simp; done)) | with_reducible apply Blk.alloc | with_reducible apply Blk.drewN | with_reducible apply Blk.drew | with_reducible apply Blk.set_to | (with_reducible apply Blk.far_; (simp only [ne_eq]; omega)) | rfl)
      have cX0_2 : w2.cell? ⟨w1.heap.size, 0, none⟩ = some (.int .i64 u) := BX2.cell 0
      have cX1_2 : w2.cell? ⟨w1.heap.size, 1, none⟩ = some (.int .i64 v) := BX2.cell 1
      have lX2 : w1.heap.size < w2.heap.size := BX2.lt
      have mX2 : w1.heap.size < w2.heap.size + 1 := by omega
      have nX2 : w1.heap.size < w2.heap.size + 1 + 1 := by omega
      clear BP1 lP1 mP1 nP1 cP0_1 cP1_1 cP2_1 BQ1 lQ1 mQ1 nQ1 cQ0_1 cQ1_1 cQ2_1
      have hs2 : w.heap.size ≤ w2.heap.size := by have h := hb2.size; (try simp at h); omega
      have kb : Below w.heap.size w w2 := by repeat (first | exact Below.refl _ _ | refine below_drewN ?_ _ | refine Below.drew ?_ | refine below_alloc ?_ _ | (refine below_call ?_ (by assumption)) | (refine Below.setCell ?_ ?_ _; rotate_left; (simp; try omega)))
      go_wp2
      go_ret2
      rw [E.out]
      exact ⟨rfl, by repeat (first | with_reducible exact Below.refl _ _ | with_reducible assumption | with_reducible refine below_drewN ?_ _ | with_reducible refine Below.drew ?_ | with_reducible refine below_alloc ?_ _ | (with_reducible refine Below.setCell ?_ ?_ _; rotate_left; ((try simp only); omega)))⟩
    · have E := Lib.hid (show nameE (a, b, c) (a', b', c') = (tx, 0) by rw [E.out, if_neg (fun h => h rfl), if_neg hx])
      have dx := notEmpty hx
      go_enter Tryd.func23, Tryd.ntmps23
      go_wp2_with fail
      refine Calls.mono (q1 _ ?_) ?_
      · exact ht.kept (by repeat (first | exact Below.refl _ _ | refine below_drewN ?_ _ | refine Below.drew ?_ | refine below_alloc ?_ _ | (refine below_call ?_ (by assumption)) | (refine Below.setCell ?_ ?_ _; rotate_left; (simp; try omega))))
      rintro e w1 ⟨rfl, hb1⟩
      have BP1 : Blk w1 (w.heap.size) 36 #[.int .i64 a, .int .i64 b, .int .i64 c] := by
        refine Blk.kept ?_ hb1
        repeat (first | with_reducible exact Blk.new _ _ _ | (with_reducible refine Blk.newAt _ _ _ _ ?_; first | rfl | (simp; done)) | with_reducible apply Blk.alloc | with_reducible apply Blk.drewN | with_reducible apply Blk.drew | with_reducible apply Blk.set_to | (with_reducible apply Blk.far_; (simp only [ne_eq]; omega)) | rfl)
      have cP0_1 : w1.cell? ⟨w.heap.size, 0, none⟩ = some (.int .i64 a) := BP1.cell 0
      have cP1_1 : w1.cell? ⟨w.heap.size, 1, none⟩ = some (.int .i64 b) := BP1.cell 1
      have cP2_1 : w1.cell? ⟨w.heap.size, 2, none⟩ = some (.int .i64 c) := BP1.cell 2
      have lP1 : w.heap.size < w1.heap.size := BP1.lt
      have mP1 : w.heap.size < w1.heap.size + 1 := by omega
      have nP1 : w.heap.size < w1.heap.size + 1 + 1 := by omega
      have BQ1 : Blk w1 (w.heap.size + 1) 36 #[.int .i64 a', .int .i64 b', .int .i64 c'] := by
        refine Blk.kept ?_ hb1
        repeat (first | with_reducible exact Blk.new _ _ _ | (with_reducible refine Blk.newAt _ _ _ _ ?_; first | rfl | (simp; done)) | with_reducible apply Blk.alloc | with_reducible apply Blk.drewN | with_reducible apply Blk.drew | with_reducible apply Blk.set_to | (with_reducible apply Blk.far_; (simp only [ne_eq]; omega)) | rfl)
      have cQ0_1 : w1.cell? ⟨w.heap.size + 1, 0, none⟩ = some (.int .i64 a') := BQ1.cell 0
      have cQ1_1 : w1.cell? ⟨w.heap.size + 1, 1, none⟩ = some (.int .i64 b') := BQ1.cell 1
      have cQ2_1 : w1.cell? ⟨w.heap.size + 1, 2, none⟩ = some (.int .i64 c') := BQ1.cell 2
      have lQ1 : w.heap.size + 1 < w1.heap.size := BQ1.lt
      have mQ1 : w.heap.size + 1 < w1.heap.size + 1 := by omega
      have nQ1 : w.heap.size + 1 < w1.heap.size + 1 + 1 := by omega
      have hs1 : w.heap.size ≤ w1.heap.size := by have h := hb1.size; (try simp at h); omega
      go_wp2_with fail
      refine Calls.mono (q2 _ ?_) ?_
      · exact ht.kept (by repeat (first | exact Below.refl _ _ | refine below_drewN ?_ _ | refine Below.drew ?_ | refine below_alloc ?_ _ | (refine below_call ?_ (by assumption)) | (refine Below.setCell ?_ ?_ _; rotate_left; (simp; try omega))))
      rintro e w2 ⟨rfl, hb2⟩
      have BP2 : Blk w2 (w.heap.size) 36 #[.int .i64 a, .int .i64 b, .int .i64 c] := by
        refine Blk.kept ?_ hb2
        repeat (first | with_reducible exact BP1 | with_reducible exact Blk.new _ _ _ | (with_reducible refine Blk.newAt _ _ _ _ ?_; first | rfl | (simp; done)) | with_reducible apply Blk.alloc | with_reducible apply Blk.drewN | with_reducible apply Blk.drew | with_reducible apply Blk.set_to | (with_reducible apply Blk.far_; (simp only [ne_eq]; omega)) | rfl)
      have cP0_2 : w2.cell? ⟨w.heap.size, 0, none⟩ = some (.int .i64 a) := BP2.cell 0
      have cP1_2 : w2.cell? ⟨w.heap.size, 1, none⟩ = some (.int .i64 b) := BP2.cell 1
      have cP2_2 : w2.cell? ⟨w.heap.size, 2, none⟩ = some (.int .i64 c) := BP2.cell 2
      have lP2 : w.heap.size < w2.heap.size := BP2.lt
      have mP2 : w.heap.size < w2.heap.size + 1 := by omega
      have nP2 : w.heap.size < w2.heap.size + 1 + 1 := by omega
      have BQ2 : Blk w2 (w.heap.size + 1) 36 #[.int .i64 a', .int .i64 b', .int .i64 c'] := by
        refine Blk.kept ?_ hb2
        repeat (first | with_reducible exact BQ1 | with_reducible exact Blk.new _ _ _ | (with_reducible refine Blk.newAt _ _ _ _ ?_; first | rfl | (simp; done)) | with_reducible apply Blk.alloc | with_reducible apply Blk.drewN | with_reducible apply Blk.drew | with_reducible apply Blk.set_to | (with_reducible apply Blk.far_; (simp only [ne_eq]; omega)) | rfl)
      have cQ0_2 : w2.cell? ⟨w.heap.size + 1, 0, none⟩ = some (.int .i64 a') := BQ2.cell 0
      have cQ1_2 : w2.cell? ⟨w.heap.size + 1, 1, none⟩ = some (.int .i64 b') := BQ2.cell 1
      have cQ2_2 : w2.cell? ⟨w.heap.size + 1, 2, none⟩ = some (.int .i64 c') := BQ2.cell 2
      have lQ2 : w.heap.size + 1 < w2.heap.size := BQ2.lt
      have mQ2 : w.heap.size + 1 < w2.heap.size + 1 := by omega
      have nQ2 : w.heap.size + 1 < w2.heap.size + 1 + 1 := by omega
      have BX2 : Blk w2 (w1.heap.size) 38 #[.int .i64 u, .int .i64 v] := by
        refine Blk.kept ?_ hb2
        repeat (first | with_reducible exact Blk.new _ _ _ | (with_reducible refine Blk.newAt _ _ _ _ ?_; first | rfl | (simp; done)) | with_reducible apply Blk.alloc | with_reducible apply Blk.drewN | with_reducible apply Blk.drew | with_reducible apply Blk.set_to | (with_reducible apply Blk.far_; (simp only [ne_eq]; omega)) | rfl)
      have cX0_2 : w2.cell? ⟨w1.heap.size, 0, none⟩ = some (.int .i64 u) := BX2.cell 0
      have cX1_2 : w2.cell? ⟨w1.heap.size, 1, none⟩ = some (.int .i64 v) := BX2.cell 1
      have lX2 : w1.heap.size < w2.heap.size := BX2.lt
      have mX2 : w1.heap.size < w2.heap.size + 1 := by omega
      have nX2 : w1.heap.size < w2.heap.size + 1 + 1 := by omega
      clear BP1 lP1 mP1 nP1 cP0_1 cP1_1 cP2_1 BQ1 lQ1 mQ1 nQ1 cQ0_1 cQ1_1 cQ2_1
      have hs2 : w.heap.size ≤ w2.heap.size := by have h := hb2.size; (try simp at h); omega
      have kb : Below w.heap.size w w2 := by repeat (first | exact Below.refl _ _ | refine below_drewN ?_ _ | refine Below.drew ?_ | refine below_alloc ?_ _ | (refine below_call ?_ (by assumption)) | (refine Below.setCell ?_ ?_ _; rotate_left; (simp; try omega)))
      go_wp2
      go_ret2
      rw [E.out]
      exact ⟨rfl, by repeat (first | with_reducible exact Below.refl _ _ | with_reducible assumption | with_reducible refine below_drewN ?_ _ | with_reducible refine Below.drew ?_ | with_reducible refine below_alloc ?_ _ | (with_reducible refine Below.setCell ?_ ?_ _; rotate_left; ((try simp only); omega)))⟩
  · have E := Lib.hid (show nameE (a, b, c) (a', b', c') = (⟨#[]⟩, r) by rw [E.out, if_pos hr])
    have hbr : (r != 0) = true := by simpa using hr
    clear hr
    go_enter Tryd.func23, Tryd.ntmps23
    go_wp2_with fail
    refine Calls.mono (q1 _ ?_) ?_
    · exact ht.kept (by repeat (first | exact Below.refl _ _ | refine below_drewN ?_ _ | refine Below.drew ?_ | refine below_alloc ?_ _ | (refine below_call ?_ (by assumption)) | (refine Below.setCell ?_ ?_ _; rotate_left; (simp; try omega))))
    rintro e w1 ⟨rfl, hb1⟩
    have BP1 : Blk w1 (w.heap.size) 36 #[.int .i64 a, .int .i64 b, .int .i64 c] := by
      refine Blk.kept ?_ hb1
      repeat (first | with_reducible exact Blk.new _ _ _ | (with_reducible refine Blk.newAt _ _ _ _ ?_; first | rfl | (simp; done)) | with_reducible apply Blk.alloc | with_reducible apply Blk.drewN | with_reducible apply Blk.drew | with_reducible apply Blk.set_to | (with_reducible apply Blk.far_; (simp only [ne_eq]; omega)) | rfl)
    have cP0_1 : w1.cell? ⟨w.heap.size, 0, none⟩ = some (.int .i64 a) := BP1.cell 0
    have cP1_1 : w1.cell? ⟨w.heap.size, 1, none⟩ = some (.int .i64 b) := BP1.cell 1
    have cP2_1 : w1.cell? ⟨w.heap.size, 2, none⟩ = some (.int .i64 c) := BP1.cell 2
    have lP1 : w.heap.size < w1.heap.size := BP1.lt
    have mP1 : w.heap.size < w1.heap.size + 1 := by omega
    have nP1 : w.heap.size < w1.heap.size + 1 + 1 := by omega
    have BQ1 : Blk w1 (w.heap.size + 1) 36 #[.int .i64 a', .int .i64 b', .int .i64 c'] := by
      refine Blk.kept ?_ hb1
      repeat (first | with_reducible exact Blk.new _ _ _ | (with_reducible refine Blk.newAt _ _ _ _ ?_; first | rfl | (simp; done)) | with_reducible apply Blk.alloc | with_reducible apply Blk.drewN | with_reducible apply Blk.drew | with_reducible apply Blk.set_to | (with_reducible apply Blk.far_; (simp only [ne_eq]; omega)) | rfl)
    have cQ0_1 : w1.cell? ⟨w.heap.size + 1, 0, none⟩ = some (.int .i64 a') := BQ1.cell 0
    have cQ1_1 : w1.cell? ⟨w.heap.size + 1, 1, none⟩ = some (.int .i64 b') := BQ1.cell 1
    have cQ2_1 : w1.cell? ⟨w.heap.size + 1, 2, none⟩ = some (.int .i64 c') := BQ1.cell 2
    have lQ1 : w.heap.size + 1 < w1.heap.size := BQ1.lt
    have mQ1 : w.heap.size + 1 < w1.heap.size + 1 := by omega
    have nQ1 : w.heap.size + 1 < w1.heap.size + 1 + 1 := by omega
    have hs1 : w.heap.size ≤ w1.heap.size := by have h := hb1.size; (try simp at h); omega
    have kb : Below w.heap.size w w1 := by repeat (first | exact Below.refl _ _ | refine below_drewN ?_ _ | refine Below.drew ?_ | refine below_alloc ?_ _ | (refine below_call ?_ (by assumption)) | (refine Below.setCell ?_ ?_ _; rotate_left; (simp; try omega)))
    go_wp2
    go_ret2
    rw [E.out]
    exact ⟨rfl, by repeat (first | with_reducible exact Below.refl _ _ | with_reducible assumption | with_reducible refine below_drewN ?_ _ | with_reducible refine Below.drew ?_ | with_reducible refine below_alloc ?_ _ | (with_reducible refine Below.setCell ?_ ?_ _; rotate_left; ((try simp only); omega)))⟩
end Go.Proofs.YtmbnpblejhlefaaDoor
