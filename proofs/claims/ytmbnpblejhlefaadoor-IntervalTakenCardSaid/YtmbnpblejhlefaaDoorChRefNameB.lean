/- The walk through the reference's name of an interval, some steps of the simple interval. -/
import Derived.Test.YtmbnpblejhlefaaDoorChLetter
namespace Go.Proofs.YtmbnpblejhlefaaDoor
open Go.RowKit
theorem letter_4 (h : Int) : letterX (4, h) = if h = 7 then 80 else if h = 8 then 65 else if h = 6 then 100 else 0 := by
  rw [letter_more, show pureB 4 = true by decide, show halfS 4 = 7 by decide]
  simp
  try grind
set_option maxRecDepth 100000 in
set_option maxHeartbeats 4000000 in
theorem rnamed_4 (m : Nat) (v h : Int) (w : World) (hm : m ≤ 62) (h2 : -400 ≤ v) (h3 : v ≤ 400) (hs : simI ((m : Int), v) = (4, h)) :
    Calls Tryd.prog 51 #[.agg #[.int .i64 m, .int .i64 v]] w fun e w' => e = .returned (.string (nameX ((m : Int), v))) ∧ Below w.heap.size w w' := by
  have q1 := fun w => rsimple_any ((m : Int), v) w (by simp only; omega) (by simp only; omega) (by simp only; omega) (by simp only; omega)
  have hh : -1300 ≤ h ∧ h ≤ 1300 := by have := congrArg Prod.snd hs; unfold simI at this; simp only at this; omega
  rw [hs] at q1
  have qd : ∀ W, Calls Tryd.prog 65 #[.int .i64 ((m : Int) + 1)] W fun e w' => e = .returned (.string ⟨(Lib.itoa ((m : Int) + 1)).toArray⟩) ∧ Below W.heap.size W w' := fun W => rdigits_any (m + 1) W (by omega) (by omega)
  have hlen : (⟨(Lib.itoa ((m : Int) + 1)).toArray⟩ : ByteArray).size ≤ 21 := by have := Lib.itoa_length_le ((m : Int) + 1) (by omega) (by omega); simpa [ByteArray.size] using this
  have HX : nameX ((m : Int), v) = if noneX ((m : Int), v) = true ∨ letterX (4, h) = 0 then ⟨#[]⟩ else ⟨#[UInt8.ofNat (letterX (4, h))]⟩ ++ ⟨(Lib.itoa ((m : Int) + 1)).toArray⟩ := by unfold nameX; rw [hs]
  obtain ⟨tx, htx⟩ : ∃ t : ByteArray, t = ⟨(Lib.itoa ((m : Int) + 1)).toArray⟩ := ⟨_, rfl⟩
  rw [← htx] at qd hlen HX
  rw [letter_4] at HX
  clear htx hs
  by_cases hno : m = 0 ∧ v < 0
  · have E := Lib.hid (show nameX ((m : Int), v) = ⟨#[]⟩ by rw [HX, if_pos (Or.inl (by unfold noneX; simpa using hno))])
    have d0 : ((m : Int) == 0) = true := by simpa using hno.1
    have d1 : decide (v < 0) = true := by simpa using hno.2
    clear HX hno
    go_enter Tryd.func51, Tryd.ntmps51
    go_wp2_with fail
    refine (q1 _).mono ?_
    rintro e w1 ⟨rfl, hb1⟩
    have BP1 : Blk w1 (w.heap.size) 38 #[.int .i64 m, .int .i64 v] := by
      refine Blk.kept ?_ hb1
      repeat (first | with_reducible exact Blk.new _ _ _ | (with_reducible refine Blk.newAt _ _ _ _ ?_; first | rfl | (simp; done)) | with_reducible apply Blk.alloc | with_reducible apply Blk.drewN | with_reducible apply Blk.drew | with_reducible apply Blk.set_to | (with_reducible apply Blk.far_; (simp only [ne_eq]; omega)) | rfl)
    have cP0_1 : w1.cell? ⟨w.heap.size, 0, none⟩ = some (.int .i64 m) := BP1.cell 0
    have cP1_1 : w1.cell? ⟨w.heap.size, 1, none⟩ = some (.int .i64 v) := BP1.cell 1
    have lP1 : w.heap.size < w1.heap.size := BP1.lt
    have mP1 : w.heap.size < w1.heap.size + 1 := by omega
    have nP1 : w.heap.size < w1.heap.size + 1 + 1 := by omega
    have hs1 : w.heap.size ≤ w1.heap.size := by have h := hb1.size; (try simp at h); omega
    have kb : Below w.heap.size w w1 := by repeat (first | exact Below.refl _ _ | refine below_drewN ?_ _ | refine Below.drew ?_ | refine below_alloc ?_ _ | (refine below_call ?_ (by assumption)) | (refine Below.setCell ?_ ?_ _; rotate_left; (simp; try omega)))
    go_wp2_with fail
    go_region
    go_wp2
    go_ret
    rw [E.out]
    exact ⟨rfl, by repeat (first | with_reducible exact Below.refl _ _ | with_reducible assumption | with_reducible refine below_drewN ?_ _ | with_reducible refine Below.drew ?_ | with_reducible refine below_alloc ?_ _ | (with_reducible refine Below.setCell ?_ ?_ _; rotate_left; ((try simp only); omega)))⟩
  · have HN : Hid (nameX ((m : Int), v) = if (if h = 7 then 80 else if h = 8 then 65 else if h = 6 then 100 else 0) = 0 then ⟨#[]⟩ else ⟨#[UInt8.ofNat (if h = 7 then 80 else if h = 8 then 65 else if h = 6 then 100 else 0)]⟩ ++ tx) := Lib.hid (by
      rw [HX, show noneX ((m : Int), v) = false by unfold noneX; simpa using hno]
      simp)
    clear HX
    have hd : (((m : Int) == 0) = true ∧ decide (v < 0) = false) ∨ ((m : Int) == 0) = false := by
      by_cases hm0 : m = 0
      · exact Or.inl ⟨by simpa using hm0, by simp; omega⟩
      · exact Or.inr (by simpa using hm0)
    clear hno
    rcases hd with ⟨d0, d1⟩ | d0
    · go_enter Tryd.func51, Tryd.ntmps51
      go_wp2_with fail
      refine (q1 _).mono ?_
      rintro e w1 ⟨rfl, hb1⟩
      have BP1 : Blk w1 (w.heap.size) 38 #[.int .i64 m, .int .i64 v] := by
        refine Blk.kept ?_ hb1
        repeat (first | with_reducible exact Blk.new _ _ _ | (with_reducible refine Blk.newAt _ _ _ _ ?_; first | rfl | (simp; done)) | with_reducible apply Blk.alloc | with_reducible apply Blk.drewN | with_reducible apply Blk.drew | with_reducible apply Blk.set_to | (with_reducible apply Blk.far_; (simp only [ne_eq]; omega)) | rfl)
      have cP0_1 : w1.cell? ⟨w.heap.size, 0, none⟩ = some (.int .i64 m) := BP1.cell 0
      have cP1_1 : w1.cell? ⟨w.heap.size, 1, none⟩ = some (.int .i64 v) := BP1.cell 1
      have lP1 : w.heap.size < w1.heap.size := BP1.lt
      have mP1 : w.heap.size < w1.heap.size + 1 := by omega
      have nP1 : w.heap.size < w1.heap.size + 1 + 1 := by omega
      have hs1 : w.heap.size ≤ w1.heap.size := by have h := hb1.size; (try simp at h); omega
      have kb : Below w.heap.size w w1 := by repeat (first | exact Below.refl _ _ | refine below_drewN ?_ _ | refine Below.drew ?_ | refine below_alloc ?_ _ | (refine below_call ?_ (by assumption)) | (refine Below.setCell ?_ ?_ _; rotate_left; (simp; try omega)))
      go_wp2_with fail
      go_region
      go_wp2_with (refine (qd _).mono ?_; rintro e w2 ⟨rfl, hb2⟩; have kb2 := below_call (Below.drew (below_alloc (below_alloc kb _) _)) hb2)
      all_goals
        go_ret
        rw [HN.out]
        refine ⟨?_, by repeat (first | with_reducible exact Below.refl _ _ | with_reducible assumption | with_reducible refine below_drewN ?_ _ | with_reducible refine Below.drew ?_ | with_reducible refine below_alloc ?_ _ | (with_reducible refine Below.setCell ?_ ?_ _; rotate_left; ((try simp only); omega)))⟩
        (repeat' split)
        all_goals first | rfl | (rename_i hq; exact absurd rfl hq) | (exfalso; simp only [beq_iff_eq, beq_eq_false_iff_ne, ne_eq] at *; omega)
    · go_enter Tryd.func51, Tryd.ntmps51
      go_wp2_with fail
      refine (q1 _).mono ?_
      rintro e w1 ⟨rfl, hb1⟩
      have BP1 : Blk w1 (w.heap.size) 38 #[.int .i64 m, .int .i64 v] := by
        refine Blk.kept ?_ hb1
        repeat (first | with_reducible exact Blk.new _ _ _ | (with_reducible refine Blk.newAt _ _ _ _ ?_; first | rfl | (simp; done)) | with_reducible apply Blk.alloc | with_reducible apply Blk.drewN | with_reducible apply Blk.drew | with_reducible apply Blk.set_to | (with_reducible apply Blk.far_; (simp only [ne_eq]; omega)) | rfl)
      have cP0_1 : w1.cell? ⟨w.heap.size, 0, none⟩ = some (.int .i64 m) := BP1.cell 0
      have cP1_1 : w1.cell? ⟨w.heap.size, 1, none⟩ = some (.int .i64 v) := BP1.cell 1
      have lP1 : w.heap.size < w1.heap.size := BP1.lt
      have mP1 : w.heap.size < w1.heap.size + 1 := by omega
      have nP1 : w.heap.size < w1.heap.size + 1 + 1 := by omega
      have hs1 : w.heap.size ≤ w1.heap.size := by have h := hb1.size; (try simp at h); omega
      have kb : Below w.heap.size w w1 := by repeat (first | exact Below.refl _ _ | refine below_drewN ?_ _ | refine Below.drew ?_ | refine below_alloc ?_ _ | (refine below_call ?_ (by assumption)) | (refine Below.setCell ?_ ?_ _; rotate_left; (simp; try omega)))
      go_wp2_with fail
      go_region
      go_wp2_with (refine (qd _).mono ?_; rintro e w2 ⟨rfl, hb2⟩; have kb2 := below_call (Below.drew (below_alloc (below_alloc kb _) _)) hb2)
      all_goals
        go_ret
        rw [HN.out]
        refine ⟨?_, by repeat (first | with_reducible exact Below.refl _ _ | with_reducible assumption | with_reducible refine below_drewN ?_ _ | with_reducible refine Below.drew ?_ | with_reducible refine below_alloc ?_ _ | (with_reducible refine Below.setCell ?_ ?_ _; rotate_left; ((try simp only); omega)))⟩
        (repeat' split)
        all_goals first | rfl | (rename_i hq; exact absurd rfl hq) | (exfalso; simp only [beq_iff_eq, beq_eq_false_iff_ne, ne_eq] at *; omega)
theorem letter_5 (h : Int) : letterX (5, h) = if h = 9 then 77 else if h = 8 then 109 else if h = 10 then 65 else if h = 7 then 100 else 0 := by
  rw [letter_more, show pureB 5 = false by decide, show halfS 5 = 9 by decide]
  simp
  try grind
set_option maxRecDepth 100000 in
set_option maxHeartbeats 4000000 in
theorem rnamed_5 (m : Nat) (v h : Int) (w : World) (hm : m ≤ 62) (h2 : -400 ≤ v) (h3 : v ≤ 400) (hs : simI ((m : Int), v) = (5, h)) :
    Calls Tryd.prog 51 #[.agg #[.int .i64 m, .int .i64 v]] w fun e w' => e = .returned (.string (nameX ((m : Int), v))) ∧ Below w.heap.size w w' := by
  have q1 := fun w => rsimple_any ((m : Int), v) w (by simp only; omega) (by simp only; omega) (by simp only; omega) (by simp only; omega)
  have hh : -1300 ≤ h ∧ h ≤ 1300 := by have := congrArg Prod.snd hs; unfold simI at this; simp only at this; omega
  rw [hs] at q1
  have qd : ∀ W, Calls Tryd.prog 65 #[.int .i64 ((m : Int) + 1)] W fun e w' => e = .returned (.string ⟨(Lib.itoa ((m : Int) + 1)).toArray⟩) ∧ Below W.heap.size W w' := fun W => rdigits_any (m + 1) W (by omega) (by omega)
  have hlen : (⟨(Lib.itoa ((m : Int) + 1)).toArray⟩ : ByteArray).size ≤ 21 := by have := Lib.itoa_length_le ((m : Int) + 1) (by omega) (by omega); simpa [ByteArray.size] using this
  have HX : nameX ((m : Int), v) = if noneX ((m : Int), v) = true ∨ letterX (5, h) = 0 then ⟨#[]⟩ else ⟨#[UInt8.ofNat (letterX (5, h))]⟩ ++ ⟨(Lib.itoa ((m : Int) + 1)).toArray⟩ := by unfold nameX; rw [hs]
  obtain ⟨tx, htx⟩ : ∃ t : ByteArray, t = ⟨(Lib.itoa ((m : Int) + 1)).toArray⟩ := ⟨_, rfl⟩
  rw [← htx] at qd hlen HX
  rw [letter_5] at HX
  clear htx hs
  by_cases hno : m = 0 ∧ v < 0
  · have E := Lib.hid (show nameX ((m : Int), v) = ⟨#[]⟩ by rw [HX, if_pos (Or.inl (by unfold noneX; simpa using hno))])
    have d0 : ((m : Int) == 0) = true := by simpa using hno.1
    have d1 : decide (v < 0) = true := by simpa using hno.2
    clear HX hno
    go_enter Tryd.func51, Tryd.ntmps51
    go_wp2_with fail
    refine (q1 _).mono ?_
    rintro e w1 ⟨rfl, hb1⟩
    have BP1 : Blk w1 (w.heap.size) 38 #[.int .i64 m, .int .i64 v] := by
      refine Blk.kept ?_ hb1
      repeat (first | with_reducible exact Blk.new _ _ _ | (with_reducible refine Blk.newAt _ _ _ _ ?_; first | rfl | (simp; done)) | with_reducible apply Blk.alloc | with_reducible apply Blk.drewN | with_reducible apply Blk.drew | with_reducible apply Blk.set_to | (with_reducible apply Blk.far_; (simp only [ne_eq]; omega)) | rfl)
    have cP0_1 : w1.cell? ⟨w.heap.size, 0, none⟩ = some (.int .i64 m) := BP1.cell 0
    have cP1_1 : w1.cell? ⟨w.heap.size, 1, none⟩ = some (.int .i64 v) := BP1.cell 1
    have lP1 : w.heap.size < w1.heap.size := BP1.lt
    have mP1 : w.heap.size < w1.heap.size + 1 := by omega
    have nP1 : w.heap.size < w1.heap.size + 1 + 1 := by omega
    have hs1 : w.heap.size ≤ w1.heap.size := by have h := hb1.size; (try simp at h); omega
    have kb : Below w.heap.size w w1 := by repeat (first | exact Below.refl _ _ | refine below_drewN ?_ _ | refine Below.drew ?_ | refine below_alloc ?_ _ | (refine below_call ?_ (by assumption)) | (refine Below.setCell ?_ ?_ _; rotate_left; (simp; try omega)))
    go_wp2_with fail
    go_region
    go_wp2
    go_ret
    rw [E.out]
    exact ⟨rfl, by repeat (first | with_reducible exact Below.refl _ _ | with_reducible assumption | with_reducible refine below_drewN ?_ _ | with_reducible refine Below.drew ?_ | with_reducible refine below_alloc ?_ _ | (with_reducible refine Below.setCell ?_ ?_ _; rotate_left; ((try simp only); omega)))⟩
  · have HN : Hid (nameX ((m : Int), v) = if (if h = 9 then 77 else if h = 8 then 109 else if h = 10 then 65 else if h = 7 then 100 else 0) = 0 then ⟨#[]⟩ else ⟨#[UInt8.ofNat (if h = 9 then 77 else if h = 8 then 109 else if h = 10 then 65 else if h = 7 then 100 else 0)]⟩ ++ tx) := Lib.hid (by
      rw [HX, show noneX ((m : Int), v) = false by unfold noneX; simpa using hno]
      simp)
    clear HX
    have hd : (((m : Int) == 0) = true ∧ decide (v < 0) = false) ∨ ((m : Int) == 0) = false := by
      by_cases hm0 : m = 0
      · exact Or.inl ⟨by simpa using hm0, by simp; omega⟩
      · exact Or.inr (by simpa using hm0)
    clear hno
    rcases hd with ⟨d0, d1⟩ | d0
    · go_enter Tryd.func51, Tryd.ntmps51
      go_wp2_with fail
      refine (q1 _).mono ?_
      rintro e w1 ⟨rfl, hb1⟩
      have BP1 : Blk w1 (w.heap.size) 38 #[.int .i64 m, .int .i64 v] := by
        refine Blk.kept ?_ hb1
        repeat (first | with_reducible exact Blk.new _ _ _ | (with_reducible refine Blk.newAt _ _ _ _ ?_; first | rfl | (simp; done)) | with_reducible apply Blk.alloc | with_reducible apply Blk.drewN | with_reducible apply Blk.drew | with_reducible apply Blk.set_to | (with_reducible apply Blk.far_; (simp only [ne_eq]; omega)) | rfl)
      have cP0_1 : w1.cell? ⟨w.heap.size, 0, none⟩ = some (.int .i64 m) := BP1.cell 0
      have cP1_1 : w1.cell? ⟨w.heap.size, 1, none⟩ = some (.int .i64 v) := BP1.cell 1
      have lP1 : w.heap.size < w1.heap.size := BP1.lt
      have mP1 : w.heap.size < w1.heap.size + 1 := by omega
      have nP1 : w.heap.size < w1.heap.size + 1 + 1 := by omega
      have hs1 : w.heap.size ≤ w1.heap.size := by have h := hb1.size; (try simp at h); omega
      have kb : Below w.heap.size w w1 := by repeat (first | exact Below.refl _ _ | refine below_drewN ?_ _ | refine Below.drew ?_ | refine below_alloc ?_ _ | (refine below_call ?_ (by assumption)) | (refine Below.setCell ?_ ?_ _; rotate_left; (simp; try omega)))
      go_wp2_with fail
      go_region
      go_wp2_with (refine (qd _).mono ?_; rintro e w2 ⟨rfl, hb2⟩; have kb2 := below_call (Below.drew (below_alloc (below_alloc kb _) _)) hb2)
      all_goals
        go_ret
        rw [HN.out]
        refine ⟨?_, by repeat (first | with_reducible exact Below.refl _ _ | with_reducible assumption | with_reducible refine below_drewN ?_ _ | with_reducible refine Below.drew ?_ | with_reducible refine below_alloc ?_ _ | (with_reducible refine Below.setCell ?_ ?_ _; rotate_left; ((try simp only); omega)))⟩
        (repeat' split)
        all_goals first | rfl | (rename_i hq; exact absurd rfl hq) | (exfalso; simp only [beq_iff_eq, beq_eq_false_iff_ne, ne_eq] at *; omega)
    · go_enter Tryd.func51, Tryd.ntmps51
      go_wp2_with fail
      refine (q1 _).mono ?_
      rintro e w1 ⟨rfl, hb1⟩
      have BP1 : Blk w1 (w.heap.size) 38 #[.int .i64 m, .int .i64 v] := by
        refine Blk.kept ?_ hb1
        repeat (first | with_reducible exact Blk.new _ _ _ | (with_reducible refine Blk.newAt _ _ _ _ ?_; first | rfl | (simp; done)) | with_reducible apply Blk.alloc | with_reducible apply Blk.drewN | with_reducible apply Blk.drew | with_reducible apply Blk.set_to | (with_reducible apply Blk.far_; (simp only [ne_eq]; omega)) | rfl)
      have cP0_1 : w1.cell? ⟨w.heap.size, 0, none⟩ = some (.int .i64 m) := BP1.cell 0
      have cP1_1 : w1.cell? ⟨w.heap.size, 1, none⟩ = some (.int .i64 v) := BP1.cell 1
      have lP1 : w.heap.size < w1.heap.size := BP1.lt
      have mP1 : w.heap.size < w1.heap.size + 1 := by omega
      have nP1 : w.heap.size < w1.heap.size + 1 + 1 := by omega
      have hs1 : w.heap.size ≤ w1.heap.size := by have h := hb1.size; (try simp at h); omega
      have kb : Below w.heap.size w w1 := by repeat (first | exact Below.refl _ _ | refine below_drewN ?_ _ | refine Below.drew ?_ | refine below_alloc ?_ _ | (refine below_call ?_ (by assumption)) | (refine Below.setCell ?_ ?_ _; rotate_left; (simp; try omega)))
      go_wp2_with fail
      go_region
      go_wp2_with (refine (qd _).mono ?_; rintro e w2 ⟨rfl, hb2⟩; have kb2 := below_call (Below.drew (below_alloc (below_alloc kb _) _)) hb2)
      all_goals
        go_ret
        rw [HN.out]
        refine ⟨?_, by repeat (first | with_reducible exact Below.refl _ _ | with_reducible assumption | with_reducible refine below_drewN ?_ _ | with_reducible refine Below.drew ?_ | with_reducible refine below_alloc ?_ _ | (with_reducible refine Below.setCell ?_ ?_ _; rotate_left; ((try simp only); omega)))⟩
        (repeat' split)
        all_goals first | rfl | (rename_i hq; exact absurd rfl hq) | (exfalso; simp only [beq_iff_eq, beq_eq_false_iff_ne, ne_eq] at *; omega)
theorem letter_6 (h : Int) : letterX (6, h) = if h = 11 then 77 else if h = 10 then 109 else if h = 12 then 65 else if h = 9 then 100 else 0 := by
  rw [letter_more, show pureB 6 = false by decide, show halfS 6 = 11 by decide]
  simp
  try grind
set_option maxRecDepth 100000 in
set_option maxHeartbeats 4000000 in
theorem rnamed_6 (m : Nat) (v h : Int) (w : World) (hm : m ≤ 62) (h2 : -400 ≤ v) (h3 : v ≤ 400) (hs : simI ((m : Int), v) = (6, h)) :
    Calls Tryd.prog 51 #[.agg #[.int .i64 m, .int .i64 v]] w fun e w' => e = .returned (.string (nameX ((m : Int), v))) ∧ Below w.heap.size w w' := by
  have q1 := fun w => rsimple_any ((m : Int), v) w (by simp only; omega) (by simp only; omega) (by simp only; omega) (by simp only; omega)
  have hh : -1300 ≤ h ∧ h ≤ 1300 := by have := congrArg Prod.snd hs; unfold simI at this; simp only at this; omega
  rw [hs] at q1
  have qd : ∀ W, Calls Tryd.prog 65 #[.int .i64 ((m : Int) + 1)] W fun e w' => e = .returned (.string ⟨(Lib.itoa ((m : Int) + 1)).toArray⟩) ∧ Below W.heap.size W w' := fun W => rdigits_any (m + 1) W (by omega) (by omega)
  have hlen : (⟨(Lib.itoa ((m : Int) + 1)).toArray⟩ : ByteArray).size ≤ 21 := by have := Lib.itoa_length_le ((m : Int) + 1) (by omega) (by omega); simpa [ByteArray.size] using this
  have HX : nameX ((m : Int), v) = if noneX ((m : Int), v) = true ∨ letterX (6, h) = 0 then ⟨#[]⟩ else ⟨#[UInt8.ofNat (letterX (6, h))]⟩ ++ ⟨(Lib.itoa ((m : Int) + 1)).toArray⟩ := by unfold nameX; rw [hs]
  obtain ⟨tx, htx⟩ : ∃ t : ByteArray, t = ⟨(Lib.itoa ((m : Int) + 1)).toArray⟩ := ⟨_, rfl⟩
  rw [← htx] at qd hlen HX
  rw [letter_6] at HX
  clear htx hs
  by_cases hno : m = 0 ∧ v < 0
  · have E := Lib.hid (show nameX ((m : Int), v) = ⟨#[]⟩ by rw [HX, if_pos (Or.inl (by unfold noneX; simpa using hno))])
    have d0 : ((m : Int) == 0) = true := by simpa using hno.1
    have d1 : decide (v < 0) = true := by simpa using hno.2
    clear HX hno
    go_enter Tryd.func51, Tryd.ntmps51
    go_wp2_with fail
    refine (q1 _).mono ?_
    rintro e w1 ⟨rfl, hb1⟩
    have BP1 : Blk w1 (w.heap.size) 38 #[.int .i64 m, .int .i64 v] := by
      refine Blk.kept ?_ hb1
      repeat (first | with_reducible exact Blk.new _ _ _ | (with_reducible refine Blk.newAt _ _ _ _ ?_; first | rfl | (simp; done)) | with_reducible apply Blk.alloc | with_reducible apply Blk.drewN | with_reducible apply Blk.drew | with_reducible apply Blk.set_to | (with_reducible apply Blk.far_; (simp only [ne_eq]; omega)) | rfl)
    have cP0_1 : w1.cell? ⟨w.heap.size, 0, none⟩ = some (.int .i64 m) := BP1.cell 0
    have cP1_1 : w1.cell? ⟨w.heap.size, 1, none⟩ = some (.int .i64 v) := BP1.cell 1
    have lP1 : w.heap.size < w1.heap.size := BP1.lt
    have mP1 : w.heap.size < w1.heap.size + 1 := by omega
    have nP1 : w.heap.size < w1.heap.size + 1 + 1 := by omega
    have hs1 : w.heap.size ≤ w1.heap.size := by have h := hb1.size; (try simp at h); omega
    have kb : Below w.heap.size w w1 := by repeat (first | exact Below.refl _ _ | refine below_drewN ?_ _ | refine Below.drew ?_ | refine below_alloc ?_ _ | (refine below_call ?_ (by assumption)) | (refine Below.setCell ?_ ?_ _; rotate_left; (simp; try omega)))
    go_wp2_with fail
    go_region
    go_wp2
    go_ret
    rw [E.out]
    exact ⟨rfl, by repeat (first | with_reducible exact Below.refl _ _ | with_reducible assumption | with_reducible refine below_drewN ?_ _ | with_reducible refine Below.drew ?_ | with_reducible refine below_alloc ?_ _ | (with_reducible refine Below.setCell ?_ ?_ _; rotate_left; ((try simp only); omega)))⟩
  · have HN : Hid (nameX ((m : Int), v) = if (if h = 11 then 77 else if h = 10 then 109 else if h = 12 then 65 else if h = 9 then 100 else 0) = 0 then ⟨#[]⟩ else ⟨#[UInt8.ofNat (if h = 11 then 77 else if h = 10 then 109 else if h = 12 then 65 else if h = 9 then 100 else 0)]⟩ ++ tx) := Lib.hid (by
      rw [HX, show noneX ((m : Int), v) = false by unfold noneX; simpa using hno]
      simp)
    clear HX
    have hd : (((m : Int) == 0) = true ∧ decide (v < 0) = false) ∨ ((m : Int) == 0) = false := by
      by_cases hm0 : m = 0
      · exact Or.inl ⟨by simpa using hm0, by simp; omega⟩
      · exact Or.inr (by simpa using hm0)
    clear hno
    rcases hd with ⟨d0, d1⟩ | d0
    · go_enter Tryd.func51, Tryd.ntmps51
      go_wp2_with fail
      refine (q1 _).mono ?_
      rintro e w1 ⟨rfl, hb1⟩
      have BP1 : Blk w1 (w.heap.size) 38 #[.int .i64 m, .int .i64 v] := by
        refine Blk.kept ?_ hb1
        repeat (first | with_reducible exact Blk.new _ _ _ | (with_reducible refine Blk.newAt _ _ _ _ ?_; first | rfl | (simp; done)) | with_reducible apply Blk.alloc | with_reducible apply Blk.drewN | with_reducible apply Blk.drew | with_reducible apply Blk.set_to | (with_reducible apply Blk.far_; (simp only [ne_eq]; omega)) | rfl)
      have cP0_1 : w1.cell? ⟨w.heap.size, 0, none⟩ = some (.int .i64 m) := BP1.cell 0
      have cP1_1 : w1.cell? ⟨w.heap.size, 1, none⟩ = some (.int .i64 v) := BP1.cell 1
      have lP1 : w.heap.size < w1.heap.size := BP1.lt
      have mP1 : w.heap.size < w1.heap.size + 1 := by omega
      have nP1 : w.heap.size < w1.heap.size + 1 + 1 := by omega
      have hs1 : w.heap.size ≤ w1.heap.size := by have h := hb1.size; (try simp at h); omega
      have kb : Below w.heap.size w w1 := by repeat (first | exact Below.refl _ _ | refine below_drewN ?_ _ | refine Below.drew ?_ | refine below_alloc ?_ _ | (refine below_call ?_ (by assumption)) | (refine Below.setCell ?_ ?_ _; rotate_left; (simp; try omega)))
      go_wp2_with fail
      go_region
      go_wp2_with (refine (qd _).mono ?_; rintro e w2 ⟨rfl, hb2⟩; have kb2 := below_call (Below.drew (below_alloc (below_alloc kb _) _)) hb2)
      all_goals
        go_ret
        rw [HN.out]
        refine ⟨?_, by repeat (first | with_reducible exact Below.refl _ _ | with_reducible assumption | with_reducible refine below_drewN ?_ _ | with_reducible refine Below.drew ?_ | with_reducible refine below_alloc ?_ _ | (with_reducible refine Below.setCell ?_ ?_ _; rotate_left; ((try simp only); omega)))⟩
        (repeat' split)
        all_goals first | rfl | (rename_i hq; exact absurd rfl hq) | (exfalso; simp only [beq_iff_eq, beq_eq_false_iff_ne, ne_eq] at *; omega)
    · go_enter Tryd.func51, Tryd.ntmps51
      go_wp2_with fail
      refine (q1 _).mono ?_
      rintro e w1 ⟨rfl, hb1⟩
      have BP1 : Blk w1 (w.heap.size) 38 #[.int .i64 m, .int .i64 v] := by
        refine Blk.kept ?_ hb1
        repeat (first | with_reducible exact Blk.new _ _ _ | (with_reducible refine Blk.newAt _ _ _ _ ?_; first | rfl | (simp; done)) | with_reducible apply Blk.alloc | with_reducible apply Blk.drewN | with_reducible apply Blk.drew | with_reducible apply Blk.set_to | (with_reducible apply Blk.far_; (simp only [ne_eq]; omega)) | rfl)
      have cP0_1 : w1.cell? ⟨w.heap.size, 0, none⟩ = some (.int .i64 m) := BP1.cell 0
      have cP1_1 : w1.cell? ⟨w.heap.size, 1, none⟩ = some (.int .i64 v) := BP1.cell 1
      have lP1 : w.heap.size < w1.heap.size := BP1.lt
      have mP1 : w.heap.size < w1.heap.size + 1 := by omega
      have nP1 : w.heap.size < w1.heap.size + 1 + 1 := by omega
      have hs1 : w.heap.size ≤ w1.heap.size := by have h := hb1.size; (try simp at h); omega
      have kb : Below w.heap.size w w1 := by repeat (first | exact Below.refl _ _ | refine below_drewN ?_ _ | refine Below.drew ?_ | refine below_alloc ?_ _ | (refine below_call ?_ (by assumption)) | (refine Below.setCell ?_ ?_ _; rotate_left; (simp; try omega)))
      go_wp2_with fail
      go_region
      go_wp2_with (refine (qd _).mono ?_; rintro e w2 ⟨rfl, hb2⟩; have kb2 := below_call (Below.drew (below_alloc (below_alloc kb _) _)) hb2)
      all_goals
        go_ret
        rw [HN.out]
        refine ⟨?_, by repeat (first | with_reducible exact Below.refl _ _ | with_reducible assumption | with_reducible refine below_drewN ?_ _ | with_reducible refine Below.drew ?_ | with_reducible refine below_alloc ?_ _ | (with_reducible refine Below.setCell ?_ ?_ _; rotate_left; ((try simp only); omega)))⟩
        (repeat' split)
        all_goals first | rfl | (rename_i hq; exact absurd rfl hq) | (exfalso; simp only [beq_iff_eq, beq_eq_false_iff_ne, ne_eq] at *; omega)
end Go.Proofs.YtmbnpblejhlefaaDoor
