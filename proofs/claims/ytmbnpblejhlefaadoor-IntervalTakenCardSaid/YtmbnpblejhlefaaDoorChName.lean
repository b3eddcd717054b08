/- The walks through the name of an interval, the program's: letters, half-tones, numbers. -/
import Derived.Test.YtmbnpblejhlefaaDoorChKind
import Derived.Test.YtmbnpblejhlefaaDoorShelf
import Derived.Lib.ItoaLen
import Derived.Laws.Concat
namespace Go.Proofs.YtmbnpblejhlefaaDoor
open Go.RowKit
theorem itoa_small (m : Nat) (h1 : m < 100) (W : World) : Calls Tryd.prog 53 #[.int .i64 (m : Int)] W fun e w' => e = .returned (.string ⟨(Lib.itoa m).toArray⟩) ∧ Below W.heap.size W w' := by
  refine (Tryd.strconv_Itoa_small m h1 W).mono ?_
  rintro e w' ⟨he, rfl⟩
  rw [Lib.itoa_nonneg]
  exact ⟨he, Below.refl _ _⟩
/-- The interval with some steps is called pure. -/
def pureB (s : Int) : Bool := decide (s = 0 ∨ s = 3 ∨ s = 4)
/-- How many half-tones a letter lays on, and whether there is such an interval. -/
def offS (c : Nat) (s : Int) : Int × Bool :=
  if c = 80 then (0, pureB s) else if c = 77 then (0, !pureB s) else if c = 109 then (-1, !pureB s) else if c = 65 then (1, true)
  else if c = 100 then (if pureB s then (-1, true) else (-2, true)) else (0, false)
set_option maxHeartbeats 400000 in
theorem perfect_any (s : Int) (w : World) : Calls Tryd.prog 69 #[.int .i64 s] w fun e w' => e = .returned (.bool (pureB s)) ∧ Below w.heap.size w w' := by
  by_cases h0 : s = 0
  · subst h0
    go_enter Tryd.func69, Tryd.ntmps69
    go_wp2
    go_ret
    exact ⟨rfl, Below.refl _ _⟩
  · by_cases h3 : s = 3
    · subst h3
      go_enter Tryd.func69, Tryd.ntmps69
      go_wp2
      go_ret
      exact ⟨rfl, Below.refl _ _⟩
    · by_cases h4 : s = 4
      · subst h4
        go_enter Tryd.func69, Tryd.ntmps69
        go_wp2
        go_ret
        exact ⟨rfl, Below.refl _ _⟩
      · have E := Lib.hid (show pureB s = false by unfold pureB; simp [h0, h3, h4])
        have d0 : (s == 0) = false := by simpa using h0
        have d3 : (s == 3) = false := by simpa using h3
        have d4 : (s == 4) = false := by simpa using h4
        go_enter Tryd.func69, Tryd.ntmps69
        go_wp2
        go_ret
        rw [E.out]
        exact ⟨rfl, Below.refl _ _⟩
set_option maxHeartbeats 400000 in
theorem off_P (s : Int) (w : World) : Calls Tryd.prog 54 #[.string ⟨#[80]⟩, .int .i64 s] w fun e w' => e = .returned (.tuple #[.int .i64 (offS 80 s).1, .bool (offS 80 s).2]) ∧ Below w.heap.size w w' := by
  have q1 := perfect_any s
  have E := Lib.hid (show offS 80 s = (0, pureB s) by rfl)
  obtain ⟨pb, hp⟩ : ∃ pb, pb = pureB s := ⟨_, rfl⟩
  rw [← hp] at q1
  try rw [← hp] at E
  clear hp
  cases pb
  all_goals
    go_enter Tryd.func54, Tryd.ntmps54
    go_wp2_with (refine (q1 _).mono ?_; rintro e w1 ⟨rfl, hb1⟩)
    go_ret2
    rw [E.out]
    exact ⟨rfl, by repeat (first | exact Below.refl _ _ | refine below_drewN ?_ _ | refine Below.drew ?_ | refine below_alloc ?_ _ | (refine below_call ?_ (by assumption)) | (refine Below.setCell ?_ ?_ _; rotate_left; (simp; try omega)))⟩
set_option maxHeartbeats 400000 in
theorem off_M (s : Int) (w : World) : Calls Tryd.prog 54 #[.string ⟨#[77]⟩, .int .i64 s] w fun e w' => e = .returned (.tuple #[.int .i64 (offS 77 s).1, .bool (offS 77 s).2]) ∧ Below w.heap.size w w' := by
  have q1 := perfect_any s
  have E := Lib.hid (show offS 77 s = (0, !pureB s) by rfl)
  obtain ⟨pb, hp⟩ : ∃ pb, pb = pureB s := ⟨_, rfl⟩
  rw [← hp] at q1
  try rw [← hp] at E
  clear hp
  cases pb
  all_goals
    go_enter Tryd.func54, Tryd.ntmps54
    go_wp2_with (refine (q1 _).mono ?_; rintro e w1 ⟨rfl, hb1⟩)
    go_ret2
    rw [E.out]
    exact ⟨rfl, by repeat (first | exact Below.refl _ _ | refine below_drewN ?_ _ | refine Below.drew ?_ | refine below_alloc ?_ _ | (refine below_call ?_ (by assumption)) | (refine Below.setCell ?_ ?_ _; rotate_left; (simp; try omega)))⟩
set_option maxHeartbeats 400000 in
theorem off_m (s : Int) (w : World) : Calls Tryd.prog 54 #[.string ⟨#[109]⟩, .int .i64 s] w fun e w' => e = .returned (.tuple #[.int .i64 (offS 109 s).1, .bool (offS 109 s).2]) ∧ Below w.heap.size w w' := by
  have q1 := perfect_any s
  have E := Lib.hid (show offS 109 s = (-1, !pureB s) by rfl)
  obtain ⟨pb, hp⟩ : ∃ pb, pb = pureB s := ⟨_, rfl⟩
  rw [← hp] at q1
  try rw [← hp] at E
  clear hp
  cases pb
  all_goals
    go_enter Tryd.func54, Tryd.ntmps54
    go_wp2_with (refine (q1 _).mono ?_; rintro e w1 ⟨rfl, hb1⟩)
    go_ret2
    rw [E.out]
    exact ⟨rfl, by repeat (first | exact Below.refl _ _ | refine below_drewN ?_ _ | refine Below.drew ?_ | refine below_alloc ?_ _ | (refine below_call ?_ (by assumption)) | (refine Below.setCell ?_ ?_ _; rotate_left; (simp; try omega)))⟩
set_option maxHeartbeats 400000 in
theorem off_A (s : Int) (w : World) : Calls Tryd.prog 54 #[.string ⟨#[65]⟩, .int .i64 s] w fun e w' => e = .returned (.tuple #[.int .i64 (offS 65 s).1, .bool (offS 65 s).2]) ∧ Below w.heap.size w w' := by
  have q1 := perfect_any s
  have E := Lib.hid (show offS 65 s = (1, true) by rfl)
  obtain ⟨pb, hp⟩ : ∃ pb, pb = pureB s := ⟨_, rfl⟩
  rw [← hp] at q1
  try rw [← hp] at E
  clear hp
  cases pb
  all_goals
    go_enter Tryd.func54, Tryd.ntmps54
    go_wp2_with (refine (q1 _).mono ?_; rintro e w1 ⟨rfl, hb1⟩)
    go_ret2
    rw [E.out]
    exact ⟨rfl, by repeat (first | exact Below.refl _ _ | refine below_drewN ?_ _ | refine Below.drew ?_ | refine below_alloc ?_ _ | (refine below_call ?_ (by assumption)) | (refine Below.setCell ?_ ?_ _; rotate_left; (simp; try omega)))⟩
set_option maxHeartbeats 400000 in
theorem off_d (s : Int) (w : World) : Calls Tryd.prog 54 #[.string ⟨#[100]⟩, .int .i64 s] w fun e w' => e = .returned (.tuple #[.int .i64 (offS 100 s).1, .bool (offS 100 s).2]) ∧ Below w.heap.size w w' := by
  have q1 := perfect_any s
  have E := Lib.hid (show offS 100 s = (if pureB s then (-1, true) else (-2, true)) by rfl)
  obtain ⟨pb, hp⟩ : ∃ pb, pb = pureB s := ⟨_, rfl⟩
  rw [← hp] at q1
  try rw [← hp] at E
  clear hp
  cases pb
  all_goals
    go_enter Tryd.func54, Tryd.ntmps54
    go_wp2_with (refine (q1 _).mono ?_; rintro e w1 ⟨rfl, hb1⟩)
    go_ret2
    rw [E.out]
    exact ⟨rfl, by repeat (first | exact Below.refl _ _ | refine below_drewN ?_ _ | refine Below.drew ?_ | refine below_alloc ?_ _ | (refine below_call ?_ (by assumption)) | (refine Below.setCell ?_ ?_ _; rotate_left; (simp; try omega)))⟩
/-- The letters of names, in the program's order, and the name of an interval (empty if it has none). -/
def hasB (c : Nat) (x : Int × Int) : Bool := (offS c x.1).2 && (halfS x.1 + (offS c x.1).1 == x.2)
def letterX (x : Int × Int) : Nat := if hasB 80 x then 80 else if hasB 77 x then 77 else if hasB 109 x then 109 else if hasB 65 x then 65 else if hasB 100 x then 100 else 0
def noneX (x : Int × Int) : Bool := decide (x.1 = 0 ∧ x.2 < 0)
def nameX (x : Int × Int) : ByteArray := if noneX x ∨ letterX (simI x) = 0 then ⟨#[]⟩ else ⟨#[UInt8.ofNat (letterX (simI x))]⟩ ++ ⟨(Lib.itoa (x.1 + 1)).toArray⟩
theorem offS_bd (c : Nat) (s : Int) : -2 ≤ (offS c s).1 ∧ (offS c s).1 ≤ 1 := by
  unfold offS
  (repeat' split) <;> simp
theorem take_next {P : Nat → Bool} {l : List Nat} {j c : Nat} (h : ∀ c ∈ l.take j, P c = false) (hc : l[j]? = some c) (hp : P c = false) : ∀ c ∈ l.take (j + 1), P c = false := by
  intro d hd
  rw [take_get hc] at hd
  rcases List.mem_append.1 hd with hd | hd
  · exact h d hd
  · rw [List.mem_singleton.1 hd]; exact hp
set_option maxRecDepth 100000 in
set_option maxHeartbeats 4000000 in
theorem called_any (x : Int × Int) (w : World) (ht : Tabs w) (h0 : 0 ≤ x.1) (h1 : x.1 ≤ 62) (h2 : -400 ≤ x.2) (h3 : x.2 ≤ 400) :
    Calls Tryd.prog 50 #[.agg #[.int .i64 x.1, .int .i64 x.2]] w fun e w' => e = .returned (.string (nameX x)) ∧ Below w.heap.size w w' := by
  have q1 := simple_any x
  obtain ⟨u, v⟩ := x
  simp only at h0 h1 h2 h3
  have hs0 : 0 ≤ (simI (u, v)).1 := by unfold simI; simp only; omega
  have hs1 : (simI (u, v)).1 ≤ 6 := by unfold simI; simp only; omega
  have hs2 : -1200 ≤ (simI (u, v)).2 ∧ (simI (u, v)).2 ≤ 1200 := by unfold simI; simp only; omega
  by_cases hno : u = 0 ∧ v < 0
  · have E := Lib.hid (show nameX (u, v) = ⟨#[]⟩ by unfold nameX; rw [if_pos (Or.inl (by unfold noneX; simpa using hno))])
    obtain ⟨hu, hv⟩ := hno
    have q2 := fun w => q1 w h0 h1 h2 h3
    obtain ⟨⟨s, h⟩, hsi⟩ : ∃ t, t = simI (u, v) := ⟨_, rfl⟩
    rw [← hsi] at q2
    clear hsi hs0 hs1 hs2 q1
    have d0 : (u == 0) = true := by simpa using hu
    have d1 : decide (v < 0) = true := by simpa using hv
    clear hu hv
    go_enter Tryd.func50, Tryd.ntmps50
    go_wp2_with fail
    refine (q2 _).mono ?_
    rintro e w1 ⟨rfl, hb1⟩
    have BP1 : Blk w1 (w.heap.size) 38 #[.int .i64 u, .int .i64 v] := by
      refine Blk.kept ?_ hb1
      repeat (first | with_reducible exact Blk.new _ _ _ | (with_reducible refine Blk.newAt _ _ _ _ ?_; first | rfl | (simp; done)) | with_reducible apply Blk.alloc | with_reducible apply Blk.drewN | with_reducible apply Blk.drew | with_reducible apply Blk.set_to | (with_reducible apply Blk.far_; (simp only [ne_eq]; omega)) | rfl)
    have cP0_1 : w1.cell? ⟨w.heap.size, 0, none⟩ = some (.int .i64 u) := BP1.cell 0
    have cP1_1 : w1.cell? ⟨w.heap.size, 1, none⟩ = some (.int .i64 v) := BP1.cell 1
    have lP1 : w.heap.size < w1.heap.size := BP1.lt
    have mP1 : w.heap.size < w1.heap.size + 1 := by omega
    have nP1 : w.heap.size < w1.heap.size + 1 + 1 := by omega
    have hs1 : w.heap.size ≤ w1.heap.size := by have h := hb1.size; (try simp at h); omega
    go_wp2
    have kb : Below w.heap.size w w1 := by repeat (first | exact Below.refl _ _ | refine below_drewN ?_ _ | refine Below.drew ?_ | refine below_alloc ?_ _ | (refine below_call ?_ (by assumption)) | (refine Below.setCell ?_ ?_ _; rotate_left; (simp; try omega)))
    go_ret
    rw [E.out]
    exact ⟨rfl, by repeat (first | with_reducible exact Below.refl _ _ | with_reducible assumption | with_reducible refine below_drewN ?_ _ | with_reducible refine Below.drew ?_ | with_reducible refine below_alloc ?_ _ | (with_reducible refine Below.setCell ?_ ?_ _; rotate_left; ((try simp only); omega)))⟩
  · have HN : Hid (nameX (u, v) = if letterX (simI (u, v)) = 0 then ⟨#[]⟩ else ⟨#[UInt8.ofNat (letterX (simI (u, v)))]⟩ ++ ⟨(Lib.itoa (u + 1)).toArray⟩) := Lib.hid (by
      unfold nameX
      have hn : noneX (u, v) = false := by unfold noneX; simpa using hno
      rw [hn]
      simp)
    have q2 := fun w => q1 w h0 h1 h2 h3
    obtain ⟨⟨s, h⟩, hsi⟩ : ∃ t, t = simI (u, v) := ⟨_, rfl⟩
    rw [← hsi] at q2 HN hs0 hs1 hs2
    simp only at hs0 hs1 hs2
    clear hsi q1
    obtain ⟨k, rfl⟩ := Int.eq_ofNat_of_zero_le hs0
    obtain ⟨m, rfl⟩ := Int.eq_ofNat_of_zero_le h0
    have hk : k < 7 := by omega
    have qi : ∀ W, Calls Tryd.prog 53 #[.int .i64 ((m : Int) + 1)] W fun e w' => e = .returned (.string ⟨(Lib.itoa ((m : Int) + 1)).toArray⟩) ∧ Below W.heap.size W w' := fun W => itoa_small (m + 1) (by omega) W
    have hlen : (⟨(Lib.itoa ((m : Int) + 1)).toArray⟩ : ByteArray).size ≤ 21 := by have := Lib.itoa_length_le ((m : Int) + 1) (by omega) (by omega); simpa [ByteArray.size] using this
    obtain ⟨tx, htx⟩ : ∃ t : ByteArray, t = ⟨(Lib.itoa ((m : Int) + 1)).toArray⟩ := ⟨_, rfl⟩
    rw [← htx] at qi HN hlen
    clear htx
    have hno' : ¬ (m = 0 ∧ v < 0) := fun hh => hno ⟨by omega, hh.2⟩
    have hc := ht.size k hk
    have hg := ht.lt.2.1
    have hh := halfS_bd (k : Int)
    go_enter Tryd.func50, Tryd.ntmps50
    go_wp2_with fail
    refine (q2 _).mono ?_
    rintro e w1 ⟨rfl, hb1⟩
    have BP1 : Blk w1 (w.heap.size) 38 #[.int .i64 m, .int .i64 v] := by
      refine Blk.kept ?_ hb1
      repeat (first | with_reducible exact Blk.new _ _ _ | (with_reducible refine Blk.newAt _ _ _ _ ?_; first | rfl | (simp; done)) | with_reducible apply Blk.alloc | with_reducible apply Blk.drewN | with_reducible apply Blk.drew | with_reducible apply Blk.set_to | (with_reducible apply Blk.far_; (simp only [ne_eq]; omega)) | rfl)
    have cP0_1 : w1.cell? ⟨w.heap.size, 0, none⟩ = some (.int .i64 m) := BP1.cell 0
    have cP1_1 : w1.cell? ⟨w.heap.size, 1, none⟩ = some (.int .i64 v) := BP1.cell 1
    have lP1 : w.heap.size < w1.heap.size := BP1.lt
    have mP1 : w.heap.size < w1.heap.size + 1 := by omega
    have nP1 : w.heap.size < w1.heap.size + 1 + 1 := by omega
    have hs1 : w.heap.size ≤ w1.heap.size := by have h := hb1.size; (try simp at h); omega
    have kb : Below w.heap.size w w1 := by repeat (first | exact Below.refl _ _ | refine below_drewN ?_ _ | refine Below.drew ?_ | refine below_alloc ?_ _ | (refine below_call ?_ (by assumption)) | (refine Below.setCell ?_ ?_ _; rotate_left; (simp; try omega)))
    have hc1 : w1.cell? ⟨1, k, none⟩ = some (.int .i64 (halfS k)) := (kb.cell (p := ⟨_, _, none⟩) hg).trans hc
    have hg1 : 1 < w1.heap.size := Nat.lt_of_lt_of_le hg kb.size
    clear hc
    -- loop
    have hd : (((m : Int) == 0) = true ∧ decide (v < 0) = false) ∨ ((m : Int) == 0) = false := by
      by_cases hm0 : m = 0
      · exact Or.inl ⟨by simpa using hm0, by simp; omega⟩
      · exact Or.inr (by simpa using hm0)
    rcases hd with ⟨d0, d1⟩ | d0
    · go_wp2_with fail
      go_loopw [5, 6, 7, 20] (fun _ _ _ i wr => ∃ j : Nat, j ≤ 5 ∧ i = .int .i64 j ∧ Below w.heap.size w wr ∧ Blk wr w.heap.size 38 #[.int .i64 m, .int .i64 v] ∧ Blk wr w1.heap.size 38 #[.int .i64 k, .int .i64 h] ∧ Blk wr (w1.heap.size + 1) 74 #[.string ⟨#[80]⟩, .string ⟨#[77]⟩, .string ⟨#[109]⟩, .string ⟨#[65]⟩, .string ⟨#[100]⟩] ∧ Hid (∀ c ∈ [80, 77, 109, 65, 100].take j, hasB c ((k : Int), h) = false)) (fun _ _ _ i _ => 5 - (intOf i).toNat)
      case atStart => exact ⟨0, by omega, rfl, by repeat (first | with_reducible exact Below.refl _ _ | with_reducible assumption | with_reducible refine below_drewN ?_ _ | with_reducible refine Below.drew ?_ | with_reducible refine below_alloc ?_ _ | (with_reducible refine Below.setCell ?_ ?_ _; rotate_left; ((try simp only); omega))), by repeat (first | with_reducible exact BP1 | with_reducible exact Blk.new _ _ _ | (with_reducible refine Blk.newAt _ _ _ _ ?_; first | rfl | (simp; done)) | with_reducible apply Blk.alloc | with_reducible apply Blk.drewN | with_reducible apply Blk.drew | with_reducible apply Blk.set_to | (with_reducible apply Blk.far_; (simp only [ne_eq]; omega)) | rfl), by repeat (first | with_reducible exact BP1 | with_reducible exact Blk.new _ _ _ | (with_reducible refine Blk.newAt _ _ _ _ ?_; first | rfl | (simp; done)) | with_reducible apply Blk.alloc | with_reducible apply Blk.drewN | with_reducible apply Blk.drew | with_reducible apply Blk.set_to | (with_reducible apply Blk.far_; (simp only [ne_eq]; omega)) | rfl), by repeat (first | with_reducible exact BP1 | with_reducible exact Blk.new _ _ _ | (with_reducible refine Blk.newAt _ _ _ _ ?_; first | rfl | (simp; done)) | with_reducible apply Blk.alloc | with_reducible apply Blk.drewN | with_reducible apply Blk.drew | with_reducible apply Blk.set_to | (with_reducible apply Blk.far_; (simp only [ne_eq]; omega)) | rfl), Lib.hid (by simp)⟩
      case round =>
        obtain ⟨j, hj, rfl, k0, bP, bS, bL, hal⟩ := hrel
        have cP := bP.cell; have lP := bP.lt; have cS := bS.cell; have lS := bS.lt; have cL := bL.cell; have lL := bL.lt
        have c1 : wr.cell? ⟨w.heap.size, 0, none⟩ = some (.int .i64 m) := bP.cell 0
        have hc2 : wr.cell? ⟨1, k, none⟩ = some (.int .i64 (halfS k)) := (k0.cell (p := ⟨_, _, none⟩) hg).trans (ht.size k hk)
        have hg2 : 1 < wr.heap.size := Nat.lt_of_lt_of_le hg k0.size
        match j, hj with
        | 0, _ =>
          rw [show ((0 : Nat) : Int) = 0 by rfl]
          have q3 := off_P (k : Int)
          have hob := offS_bd 80 (k : Int)
          have HB := Lib.hid (show hasB 80 ((k : Int), h) = ((offS 80 (k : Int)).2 && (halfS k + (offS 80 (k : Int)).1 == h)) from rfl)
          obtain ⟨⟨of, ib⟩, hof⟩ : ∃ t, t = offS 80 (k : Int) := ⟨_, rfl⟩
          rw [← hof] at q3 HB hob
          clear hof
          simp only at hob
          cases ib
          · have HF : Hid (∀ c ∈ [80, 77, 109, 65, 100].take 1, hasB c ((k : Int), h) = false) := Lib.hid (take_next hal.out rfl (by rw [HB.out]; rfl))
            go_wp2_with fail
            refine (q3 _).mono ?_
            rintro e w3 ⟨rfl, hb3⟩
            have k3 := below_call k0 hb3
            have b1 := bP.kept hb3; have b2 := bS.kept hb3; have b3 := bL.kept hb3
            go_wp2_with fail
            go_region
            go_wp2
            go_roundw
            case rel => exact ⟨1, by omega, rfl, k3.drew, b1.drew, b2.drew, b3.drew, HF⟩
            case measure => simp [intOf]
          · have ew : IntKind.i64.wrap (halfS k + of) = halfS k + of := IntWalk.i64_in _ (by omega)
            by_cases he : halfS k + of = h
            · have de : (halfS k + of == h) = true := by simpa using he
              have HT : Hid (letterX ((k : Int), h) = 80) := Lib.hid (by unfold letterX; rw [HB.out, de]; rfl)
              go_wp2_with fail
              refine (q3 _).mono ?_
              rintro e w3 ⟨rfl, hb3⟩
              have k3 := below_call k0 hb3
              have b1 := bP.kept hb3; have b2 := bS.kept hb3
              have hc3 := (hb3.cell (p := ⟨_, _, none⟩) hg2).trans hc2
              have hg3 := Nat.lt_of_lt_of_le hg2 hb3.size
              have cA := b1.cell; have lA := b1.lt; have cB := b2.cell; have lB := b2.lt
              clear cP cS cL hc2 c1
              go_wp2_with fail
              go_region
              go_wp2_with fail
              refine (qi _).mono ?_
              rintro e w4 ⟨rfl, hb4⟩
              have k4 := below_call k3.drew hb4
              go_wp2
              go_ret
              rw [HN.out, HT.out]
              exact ⟨rfl, k4⟩
            · have de : (halfS k + of == h) = false := by simpa using he
              have HF : Hid (∀ c ∈ [80, 77, 109, 65, 100].take 1, hasB c ((k : Int), h) = false) := Lib.hid (take_next hal.out rfl (by rw [HB.out, de]; rfl))
              go_wp2_with fail
              refine (q3 _).mono ?_
              rintro e w3 ⟨rfl, hb3⟩
              have k3 := below_call k0 hb3
              have b1 := bP.kept hb3; have b2 := bS.kept hb3; have b3 := bL.kept hb3
              have hc3 := (hb3.cell (p := ⟨_, _, none⟩) hg2).trans hc2
              have hg3 := Nat.lt_of_lt_of_le hg2 hb3.size
              have cB := b2.cell; have lB := b2.lt
              clear cP cS cL hc2 c1
              go_wp2_with fail
              go_region
              go_wp2
              go_roundw
              case rel => exact ⟨1, by omega, rfl, k3.drew, b1.drew, b2.drew, b3.drew, HF⟩
              case measure => simp [intOf]
        | 1, _ =>
          rw [show ((1 : Nat) : Int) = 1 by rfl]
          have q3 := off_M (k : Int)
          have hob := offS_bd 77 (k : Int)
          have HB := Lib.hid (show hasB 77 ((k : Int), h) = ((offS 77 (k : Int)).2 && (halfS k + (offS 77 (k : Int)).1 == h)) from rfl)
          obtain ⟨⟨of, ib⟩, hof⟩ : ∃ t, t = offS 77 (k : Int) := ⟨_, rfl⟩
          rw [← hof] at q3 HB hob
          clear hof
          simp only at hob
          cases ib
          · have HF : Hid (∀ c ∈ [80, 77, 109, 65, 100].take 2, hasB c ((k : Int), h) = false) := Lib.hid (take_next hal.out rfl (by rw [HB.out]; rfl))
            go_wp2_with fail
            refine (q3 _).mono ?_
            rintro e w3 ⟨rfl, hb3⟩
            have k3 := below_call k0 hb3
            have b1 := bP.kept hb3; have b2 := bS.kept hb3; have b3 := bL.kept hb3
            go_wp2_with fail
            go_region
            go_wp2
            go_roundw
            case rel => exact ⟨2, by omega, rfl, k3.drew, b1.drew, b2.drew, b3.drew, HF⟩
            case measure => simp [intOf]
          · have ew : IntKind.i64.wrap (halfS k + of) = halfS k + of := IntWalk.i64_in _ (by omega)
            by_cases he : halfS k + of = h
            · have de : (halfS k + of == h) = true := by simpa using he
              have HT : Hid (letterX ((k : Int), h) = 77) := Lib.hid (by unfold letterX; rw [hal.out 80 (by simp), if_neg (by simp), HB.out, de]; rfl)
              go_wp2_with fail
              refine (q3 _).mono ?_
              rintro e w3 ⟨rfl, hb3⟩
              have k3 := below_call k0 hb3
              have b1 := bP.kept hb3; have b2 := bS.kept hb3
              have hc3 := (hb3.cell (p := ⟨_, _, none⟩) hg2).trans hc2
              have hg3 := Nat.lt_of_lt_of_le hg2 hb3.size
              have cA := b1.cell; have lA := b1.lt; have cB := b2.cell; have lB := b2.lt
              clear cP cS cL hc2 c1
              go_wp2_with fail
              go_region
              go_wp2_with fail
              refine (qi _).mono ?_
              rintro e w4 ⟨rfl, hb4⟩
              have k4 := below_call k3.drew hb4
              go_wp2
              go_ret
              rw [HN.out, HT.out]
              exact ⟨rfl, k4⟩
            · have de : (halfS k + of == h) = false := by simpa using he
              have HF : Hid (∀ c ∈ [80, 77, 109, 65, 100].take 2, hasB c ((k : Int), h) = false) := Lib.hid (take_next hal.out rfl (by rw [HB.out, de]; rfl))
              go_wp2_with fail
              refine (q3 _).mono ?_
              rintro e w3 ⟨rfl, hb3⟩
              have k3 := below_call k0 hb3
              have b1 := bP.kept hb3; have b2 := bS.kept hb3; have b3 := bL.kept hb3
              have hc3 := (hb3.cell (p := ⟨_, _, none⟩) hg2).trans hc2
              have hg3 := Nat.lt_of_lt_of_le hg2 hb3.size
              have cB := b2.cell; have lB := b2.lt
              clear cP cS cL hc2 c1
              go_wp2_with fail
              go_region
              go_wp2
              go_roundw
              case rel => exact ⟨2, by omega, rfl, k3.drew, b1.drew, b2.drew, b3.drew, HF⟩
              case measure => simp [intOf]
        | 2, _ =>
          rw [show ((2 : Nat) : Int) = 2 by rfl]
          have q3 := off_m (k : Int)
          have hob := offS_bd 109 (k : Int)
          have HB := Lib.hid (show hasB 109 ((k : Int), h) = ((offS 109 (k : Int)).2 && (halfS k + (offS 109 (k : Int)).1 == h)) from rfl)
          obtain ⟨⟨of, ib⟩, hof⟩ : ∃ t, t = offS 109 (k : Int) := ⟨_, rfl⟩
          rw [← hof] at q3 HB hob
          clear hof
          simp only at hob
          cases ib
          · have HF : Hid (∀ c ∈ [80, 77, 109, 65, 100].take 3, hasB c ((k : Int), h) = false) := Lib.hid (take_next hal.out rfl (by rw [HB.out]; rfl))
            go_wp2_with fail
            refine (q3 _).mono ?_
            rintro e w3 ⟨rfl, hb3⟩
            have k3 := below_call k0 hb3
            have b1 := bP.kept hb3; have b2 := bS.kept hb3; have b3 := bL.kept hb3
            go_wp2_with fail
            go_region
            go_wp2
            go_roundw
            case rel => exact ⟨3, by omega, rfl, k3.drew, b1.drew, b2.drew, b3.drew, HF⟩
            case measure => simp [intOf]
          · have ew : IntKind.i64.wrap (halfS k + of) = halfS k + of := IntWalk.i64_in _ (by omega)
            by_cases he : halfS k + of = h
            · have de : (halfS k + of == h) = true := by simpa using he
              have HT : Hid (letterX ((k : Int), h) = 109) := Lib.hid (by unfold letterX; rw [hal.out 80 (by simp), if_neg (by simp), hal.out 77 (by simp), if_neg (by simp), HB.out, de]; rfl)
              go_wp2_with fail
              refine (q3 _).mono ?_
              rintro e w3 ⟨rfl, hb3⟩
              have k3 := below_call k0 hb3
              have b1 := bP.kept hb3; have b2 := bS.kept hb3
              have hc3 := (hb3.cell (p := ⟨_, _, none⟩) hg2).trans hc2
              have hg3 := Nat.lt_of_lt_of_le hg2 hb3.size
              have cA := b1.cell; have lA := b1.lt; have cB := b2.cell; have lB := b2.lt
              clear cP cS cL hc2 c1
              go_wp2_with fail
              go_region
              go_wp2_with fail
              refine (qi _).mono ?_
              rintro e w4 ⟨rfl, hb4⟩
              have k4 := below_call k3.drew hb4
              go_wp2
              go_ret
              rw [HN.out, HT.out]
              exact ⟨rfl, k4⟩
            · have de : (halfS k + of == h) = false := by simpa using he
              have HF : Hid (∀ c ∈ [80, 77, 109, 65, 100].take 3, hasB c ((k : Int), h) = false) := Lib.hid (take_next hal.out rfl (by rw [HB.out, de]; rfl))
              go_wp2_with fail
              refine (q3 _).mono ?_
              rintro e w3 ⟨rfl, hb3⟩
              have k3 := below_call k0 hb3
              have b1 := bP.kept hb3; have b2 := bS.kept hb3; have b3 := bL.kept hb3
              have hc3 := (hb3.cell (p := ⟨_, _, none⟩) hg2).trans hc2
              have hg3 := Nat.lt_of_lt_of_le hg2 hb3.size
              have cB := b2.cell; have lB := b2.lt
              clear cP cS cL hc2 c1
              go_wp2_with fail
              go_region
              go_wp2
              go_roundw
              case rel => exact ⟨3, by omega, rfl, k3.drew, b1.drew, b2.drew, b3.drew, HF⟩
              case measure => simp [intOf]
        | 3, _ =>
          rw [show ((3 : Nat) : Int) = 3 by rfl]
          have q3 := off_A (k : Int)
          have hob := offS_bd 65 (k : Int)
          have HB := Lib.hid (show hasB 65 ((k : Int), h) = ((offS 65 (k : Int)).2 && (halfS k + (offS 65 (k : Int)).1 == h)) from rfl)
          obtain ⟨⟨of, ib⟩, hof⟩ : ∃ t, t = offS 65 (k : Int) := ⟨_, rfl⟩
          rw [← hof] at q3 HB hob
          clear hof
          simp only at hob
          cases ib
          · have HF : Hid (∀ c ∈ [80, 77, 109, 65, 100].take 4, hasB c ((k : Int), h) = false) := Lib.hid (take_next hal.out rfl (by rw [HB.out]; rfl))
            go_wp2_with fail
            refine (q3 _).mono ?_
            rintro e w3 ⟨rfl, hb3⟩
            have k3 := below_call k0 hb3
            have b1 := bP.kept hb3; have b2 := bS.kept hb3; have b3 := bL.kept hb3
            go_wp2_with fail
            go_region
            go_wp2
            go_roundw
            case rel => exact ⟨4, by omega, rfl, k3.drew, b1.drew, b2.drew, b3.drew, HF⟩
            case measure => simp [intOf]
          · have ew : IntKind.i64.wrap (halfS k + of) = halfS k + of := IntWalk.i64_in _ (by omega)
            by_cases he : halfS k + of = h
            · have de : (halfS k + of == h) = true := by simpa using he
              have HT : Hid (letterX ((k : Int), h) = 65) := Lib.hid (by unfold letterX; rw [hal.out 80 (by simp), if_neg (by simp), hal.out 77 (by simp), if_neg (by simp), hal.out 109 (by simp), if_neg (by simp), HB.out, de]; rfl)
              go_wp2_with fail
              refine (q3 _).mono ?_
              rintro e w3 ⟨rfl, hb3⟩
              have k3 := below_call k0 hb3
              have b1 := bP.kept hb3; have b2 := bS.kept hb3
              have hc3 := (hb3.cell (p := ⟨_, _, none⟩) hg2).trans hc2
              have hg3 := Nat.lt_of_lt_of_le hg2 hb3.size
              have cA := b1.cell; have lA := b1.lt; have cB := b2.cell; have lB := b2.lt
              clear cP cS cL hc2 c1
              go_wp2_with fail
              go_region
              go_wp2_with fail
              refine (qi _).mono ?_
              rintro e w4 ⟨rfl, hb4⟩
              have k4 := below_call k3.drew hb4
              go_wp2
              go_ret
              rw [HN.out, HT.out]
              exact ⟨rfl, k4⟩
            · have de : (halfS k + of == h) = false := by simpa using he
              have HF : Hid (∀ c ∈ [80, 77, 109, 65, 100].take 4, hasB c ((k : Int), h) = false) := Lib.hid (take_next hal.out rfl (by rw [HB.out, de]; rfl))
              go_wp2_with fail
              refine (q3 _).mono ?_
              rintro e w3 ⟨rfl, hb3⟩
              have k3 := below_call k0 hb3
              have b1 := bP.kept hb3; have b2 := bS.kept hb3; have b3 := bL.kept hb3
              have hc3 := (hb3.cell (p := ⟨_, _, none⟩) hg2).trans hc2
              have hg3 := Nat.lt_of_lt_of_le hg2 hb3.size
              have cB := b2.cell; have lB := b2.lt
              clear cP cS cL hc2 c1
              go_wp2_with fail
              go_region
              go_wp2
              go_roundw
              case rel => exact ⟨4, by omega, rfl, k3.drew, b1.drew, b2.drew, b3.drew, HF⟩
              case measure => simp [intOf]
        | 4, _ =>
          rw [show ((4 : Nat) : Int) = 4 by rfl]
          have q3 := off_d (k : Int)
          have hob := offS_bd 100 (k : Int)
          have HB := Lib.hid (show hasB 100 ((k : Int), h) = ((offS 100 (k : Int)).2 && (halfS k + (offS 100 (k : Int)).1 == h)) from rfl)
          obtain ⟨⟨of, ib⟩, hof⟩ : ∃ t, t = offS 100 (k : Int) := ⟨_, rfl⟩
          rw [← hof] at q3 HB hob
          clear hof
          simp only at hob
          cases ib
          · have HF : Hid (∀ c ∈ [80, 77, 109, 65, 100].take 5, hasB c ((k : Int), h) = false) := Lib.hid (take_next hal.out rfl (by rw [HB.out]; rfl))
            go_wp2_with fail
            refine (q3 _).mono ?_
            rintro e w3 ⟨rfl, hb3⟩
            have k3 := below_call k0 hb3
            have b1 := bP.kept hb3; have b2 := bS.kept hb3; have b3 := bL.kept hb3
            go_wp2_with fail
            go_region
            go_wp2
            go_roundw
            case rel => exact ⟨5, by omega, rfl, k3.drew, b1.drew, b2.drew, b3.drew, HF⟩
            case measure => simp [intOf]
          · have ew : IntKind.i64.wrap (halfS k + of) = halfS k + of := IntWalk.i64_in _ (by omega)
            by_cases he : halfS k + of = h
            · have de : (halfS k + of == h) = true := by simpa using he
              have HT : Hid (letterX ((k : Int), h) = 100) := Lib.hid (by unfold letterX; rw [hal.out 80 (by simp), if_neg (by simp), hal.out 77 (by simp), if_neg (by simp), hal.out 109 (by simp), if_neg (by simp), hal.out 65 (by simp), if_neg (by simp), HB.out, de]; rfl)
              go_wp2_with fail
              refine (q3 _).mono ?_
              rintro e w3 ⟨rfl, hb3⟩
              have k3 := below_call k0 hb3
              have b1 := bP.kept hb3; have b2 := bS.kept hb3
              have hc3 := (hb3.cell (p := ⟨_, _, none⟩) hg2).trans hc2
              have hg3 := Nat.lt_of_lt_of_le hg2 hb3.size
              have cA := b1.cell; have lA := b1.lt; have cB := b2.cell; have lB := b2.lt
              clear cP cS cL hc2 c1
              go_wp2_with fail
              go_region
              go_wp2_with fail
              refine (qi _).mono ?_
              rintro e w4 ⟨rfl, hb4⟩
              have k4 := below_call k3.drew hb4
              go_wp2
              go_ret
              rw [HN.out, HT.out]
              exact ⟨rfl, k4⟩
            · have de : (halfS k + of == h) = false := by simpa using he
              have HF : Hid (∀ c ∈ [80, 77, 109, 65, 100].take 5, hasB c ((k : Int), h) = false) := Lib.hid (take_next hal.out rfl (by rw [HB.out, de]; rfl))
              go_wp2_with fail
              refine (q3 _).mono ?_
              rintro e w3 ⟨rfl, hb3⟩
              have k3 := below_call k0 hb3
              have b1 := bP.kept hb3; have b2 := bS.kept hb3; have b3 := bL.kept hb3
              have hc3 := (hb3.cell (p := ⟨_, _, none⟩) hg2).trans hc2
              have hg3 := Nat.lt_of_lt_of_le hg2 hb3.size
              have cB := b2.cell; have lB := b2.lt
              clear cP cS cL hc2 c1
              go_wp2_with fail
              go_region
              go_wp2
              go_roundw
              case rel => exact ⟨5, by omega, rfl, k3.drew, b1.drew, b2.drew, b3.drew, HF⟩
              case measure => simp [intOf]
        | 5, _ =>
          rw [show ((5 : Nat) : Int) = 5 by rfl]
          have HT : Hid (letterX ((k : Int), h) = 0) := Lib.hid (by unfold letterX; rw [hal.out 80 (by simp), hal.out 77 (by simp), hal.out 109 (by simp), hal.out 65 (by simp), hal.out 100 (by simp)]; rfl)
          go_wp2
          go_ret
          rw [HN.out, HT.out]
          exact ⟨rfl, k0⟩
        | j + 6, hj => exact absurd hj (by omega)
    · go_wp2_with fail
      go_loopw [5, 6, 7, 20] (fun _ _ _ i wr => ∃ j : Nat, j ≤ 5 ∧ i = .int .i64 j ∧ Below w.heap.size w wr ∧ Blk wr w.heap.size 38 #[.int .i64 m, .int .i64 v] ∧ Blk wr w1.heap.size 38 #[.int .i64 k, .int .i64 h] ∧ Blk wr (w1.heap.size + 1) 74 #[.string ⟨#[80]⟩, .string ⟨#[77]⟩, .string ⟨#[109]⟩, .string ⟨#[65]⟩, .string ⟨#[100]⟩] ∧ Hid (∀ c ∈ [80, 77, 109, 65, 100].take j, hasB c ((k : Int), h) = false)) (fun _ _ _ i _ => 5 - (intOf i).toNat)
      case atStart => exact ⟨0, by omega, rfl, by repeat (first | with_reducible exact Below.refl _ _ | with_reducible assumption | with_reducible refine below_drewN ?_ _ | with_reducible refine Below.drew ?_ | with_reducible refine below_alloc ?_ _ | (with_reducible refine Below.setCell ?_ ?_ _; rotate_left; ((try simp only); omega))), by repeat (first | with_reducible exact BP1 | with_reducible exact Blk.new _ _ _ | (with_reducible refine Blk.newAt _ _ _ _ ?_; first | rfl | (simp; done)) | with_reducible apply Blk.alloc | with_reducible apply Blk.drewN | with_reducible apply Blk.drew | with_reducible apply Blk.set_to | (with_reducible apply Blk.far_; (simp only [ne_eq]; omega)) | rfl), by repeat (first | with_reducible exact BP1 | with_reducible exact Blk.new _ _ _ | (with_reducible refine Blk.newAt _ _ _ _ ?_; first | rfl | (simp; done)) | with_reducible apply Blk.alloc | with_reducible apply Blk.drewN | with_reducible apply Blk.drew | with_reducible apply Blk.set_to | (with_reducible apply Blk.far_; (simp only [ne_eq]; omega)) | rfl), by repeat (first | with_reducible exact BP1 | with_reducible exact Blk.new _ _ _ | (with_reducible refine Blk.newAt _ _ _ _ ?_; first | rfl | (simp; done)) | with_reducible apply Blk.alloc | with_reducible apply Blk.drewN | with_reducible apply Blk.drew | with_reducible apply Blk.set_to | (with_reducible apply Blk.far_; (simp only [ne_eq]; omega)) | rfl), Lib.hid (by simp)⟩
      case round =>
        obtain ⟨j, hj, rfl, k0, bP, bS, bL, hal⟩ := hrel
        have cP := bP.cell; have lP := bP.lt; have cS := bS.cell; have lS := bS.lt; have cL := bL.cell; have lL := bL.lt
        have c1 : wr.cell? ⟨w.heap.size, 0, none⟩ = some (.int .i64 m) := bP.cell 0
        have hc2 : wr.cell? ⟨1, k, none⟩ = some (.int .i64 (halfS k)) := (k0.cell (p := ⟨_, _, none⟩) hg).trans (ht.size k hk)
        have hg2 : 1 < wr.heap.size := Nat.lt_of_lt_of_le hg k0.size
        match j, hj with
        | 0, _ =>
          rw [show ((0 : Nat) : Int) = 0 by rfl]
          have q3 := off_P (k : Int)
          have hob := offS_bd 80 (k : Int)
          have HB := Lib.hid (show hasB 80 ((k : Int), h) = ((offS 80 (k : Int)).2 && (halfS k + (offS 80 (k : Int)).1 == h)) from rfl)
          obtain ⟨⟨of, ib⟩, hof⟩ : ∃ t, t = offS 80 (k : Int) := ⟨_, rfl⟩
          rw [← hof] at q3 HB hob
          clear hof
          simp only at hob
          cases ib
          · have HF : Hid (∀ c ∈ [80, 77, 109, 65, 100].take 1, hasB c ((k : Int), h) = false) := Lib.hid (take_next hal.out rfl (by rw [HB.out]; rfl))
            go_wp2_with fail
            refine (q3 _).mono ?_
            rintro e w3 ⟨rfl, hb3⟩
            have k3 := below_call k0 hb3
            have b1 := bP.kept hb3; have b2 := bS.kept hb3; have b3 := bL.kept hb3
            go_wp2_with fail
            go_region
            go_wp2
            go_roundw
            case rel => exact ⟨1, by omega, rfl, k3.drew, b1.drew, b2.drew, b3.drew, HF⟩
            case measure => simp [intOf]
          · have ew : IntKind.i64.wrap (halfS k + of) = halfS k + of := IntWalk.i64_in _ (by omega)
            by_cases he : halfS k + of = h
            · have de : (halfS k + of == h) = true := by simpa using he
              have HT : Hid (letterX ((k : Int), h) = 80) := Lib.hid (by unfold letterX; rw [HB.out, de]; rfl)
              go_wp2_with fail
              refine (q3 _).mono ?_
              rintro e w3 ⟨rfl, hb3⟩
              have k3 := below_call k0 hb3
              have b1 := bP.kept hb3; have b2 := bS.kept hb3
              have hc3 := (hb3.cell (p := ⟨_, _, none⟩) hg2).trans hc2
              have hg3 := Nat.lt_of_lt_of_le hg2 hb3.size
              have cA := b1.cell; have lA := b1.lt; have cB := b2.cell; have lB := b2.lt
              clear cP cS cL hc2 c1
              go_wp2_with fail
              go_region
              go_wp2_with fail
              refine (qi _).mono ?_
              rintro e w4 ⟨rfl, hb4⟩
              have k4 := below_call k3.drew hb4
              go_wp2
              go_ret
              rw [HN.out, HT.out]
              exact ⟨rfl, k4⟩
            · have de : (halfS k + of == h) = false := by simpa using he
              have HF : Hid (∀ c ∈ [80, 77, 109, 65, 100].take 1, hasB c ((k : Int), h) = false) := Lib.hid (take_next hal.out rfl (by rw [HB.out, de]; rfl))
              go_wp2_with fail
              refine (q3 _).mono ?_
              rintro e w3 ⟨rfl, hb3⟩
              have k3 := below_call k0 hb3
              have b1 := bP.kept hb3; have b2 := bS.kept hb3; have b3 := bL.kept hb3
              have hc3 := (hb3.cell (p := ⟨_, _, none⟩) hg2).trans hc2
              have hg3 := Nat.lt_of_lt_of_le hg2 hb3.size
              have cB := b2.cell; have lB := b2.lt
              clear cP cS cL hc2 c1
              go_wp2_with fail
              go_region
              go_wp2
              go_roundw
              case rel => exact ⟨1, by omega, rfl, k3.drew, b1.drew, b2.drew, b3.drew, HF⟩
              case measure => simp [intOf]
        | 1, _ =>
          rw [show ((1 : Nat) : Int) = 1 by rfl]
          have q3 := off_M (k : Int)
          have hob := offS_bd 77 (k : Int)
          have HB := Lib.hid (show hasB 77 ((k : Int), h) = ((offS 77 (k : Int)).2 && (halfS k + (offS 77 (k : Int)).1 == h)) from rfl)
          obtain ⟨⟨of, ib⟩, hof⟩ : ∃ t, t = offS 77 (k : Int) := ⟨_, rfl⟩
          rw [← hof] at q3 HB hob
          clear hof
          simp only at hob
          cases ib
          · have HF : Hid (∀ c ∈ [80, 77, 109, 65, 100].take 2, hasB c ((k : Int), h) = false) := Lib.hid (take_next hal.out rfl (by rw [HB.out]; rfl))
            go_wp2_with fail
            refine (q3 _).mono ?_
            rintro e w3 ⟨rfl, hb3⟩
            have k3 := below_call k0 hb3
            have b1 := bP.kept hb3; have b2 := bS.kept hb3; have b3 := bL.kept hb3
            go_wp2_with fail
            go_region
            go_wp2
            go_roundw
            case rel => exact ⟨2, by omega, rfl, k3.drew, b1.drew, b2.drew, b3.drew, HF⟩
            case measure => simp [intOf]
          · have ew : IntKind.i64.wrap (halfS k + of) = halfS k + of := IntWalk.i64_in _ (by omega)
            by_cases he : halfS k + of = h
            · have de : (halfS k + of == h) = true := by simpa using he
              have HT : Hid (letterX ((k : Int), h) = 77) := Lib.hid (by unfold letterX; rw [hal.out 80 (by simp), if_neg (by simp), HB.out, de]; rfl)
              go_wp2_with fail
              refine (q3 _).mono ?_
              rintro e w3 ⟨rfl, hb3⟩
              have k3 := below_call k0 hb3
              have b1 := bP.kept hb3; have b2 := bS.kept hb3
              have hc3 := (hb3.cell (p := ⟨_, _, none⟩) hg2).trans hc2
              have hg3 := Nat.lt_of_lt_of_le hg2 hb3.size
              have cA := b1.cell; have lA := b1.lt; have cB := b2.cell; have lB := b2.lt
              clear cP cS cL hc2 c1
              go_wp2_with fail
              go_region
              go_wp2_with fail
              refine (qi _).mono ?_
              rintro e w4 ⟨rfl, hb4⟩
              have k4 := below_call k3.drew hb4
              go_wp2
              go_ret
              rw [HN.out, HT.out]
              exact ⟨rfl, k4⟩
            · have de : (halfS k + of == h) = false := by simpa using he
              have HF : Hid (∀ c ∈ [80, 77, 109, 65, 100].take 2, hasB c ((k : Int), h) = false) := Lib.hid (take_next hal.out rfl (by rw [HB.out, de]; rfl))
              go_wp2_with fail
              refine (q3 _).mono ?_
              rintro e w3 ⟨rfl, hb3⟩
              have k3 := below_call k0 hb3
              have b1 := bP.kept hb3; have b2 := bS.kept hb3; have b3 := bL.kept hb3
              have hc3 := (hb3.cell (p := ⟨_, _, none⟩) hg2).trans hc2
              have hg3 := Nat.lt_of_lt_of_le hg2 hb3.size
              have cB := b2.cell; have lB := b2.lt
              clear cP cS cL hc2 c1
              go_wp2_with fail
              go_region
              go_wp2
              go_roundw
              case rel => exact ⟨2, by omega, rfl, k3.drew, b1.drew, b2.drew, b3.drew, HF⟩
              case measure => simp [intOf]
        | 2, _ =>
          rw [show ((2 : Nat) : Int) = 2 by rfl]
          have q3 := off_m (k : Int)
          have hob := offS_bd 109 (k : Int)
          have HB := Lib.hid (show hasB 109 ((k : Int), h) = ((offS 109 (k : Int)).2 && (halfS k + (offS 109 (k : Int)).1 == h)) from rfl)
          obtain ⟨⟨of, ib⟩, hof⟩ : ∃ t, t = offS 109 (k : Int) := ⟨_, rfl⟩
          rw [← hof] at q3 HB hob
          clear hof
          simp only at hob
          cases ib
          · have HF : Hid (∀ c ∈ [80, 77, 109, 65, 100].take 3, hasB c ((k : Int), h) = false) := Lib.hid (take_next hal.out rfl (by rw [HB.out]; rfl))
            go_wp2_with fail
            refine (q3 _).mono ?_
            rintro e w3 ⟨rfl, hb3⟩
            have k3 := below_call k0 hb3
            have b1 := bP.kept hb3; have b2 := bS.kept hb3; have b3 := bL.kept hb3
            go_wp2_with fail
            go_region
            go_wp2
            go_roundw
            case rel => exact ⟨3, by omega, rfl, k3.drew, b1.drew, b2.drew, b3.drew, HF⟩
            case measure => simp [intOf]
          · have ew : IntKind.i64.wrap (halfS k + of) = halfS k + of := IntWalk.i64_in _ (by omega)
            by_cases he : halfS k + of = h
            · have de : (halfS k + of == h) = true := by simpa using he
              have HT : Hid (letterX ((k : Int), h) = 109) := Lib.hid (by unfold letterX; rw [hal.out 80 (by simp), if_neg (by simp), hal.out 77 (by simp), if_neg (by simp), HB.out, de]; rfl)
              go_wp2_with fail
              refine (q3 _).mono ?_
              rintro e w3 ⟨rfl, hb3⟩
              have k3 := below_call k0 hb3
              have b1 := bP.kept hb3; have b2 := bS.kept hb3
              have hc3 := (hb3.cell (p := ⟨_, _, none⟩) hg2).trans hc2
              have hg3 := Nat.lt_of_lt_of_le hg2 hb3.size
              have cA := b1.cell; have lA := b1.lt; have cB := b2.cell; have lB := b2.lt
              clear cP cS cL hc2 c1
              go_wp2_with fail
              go_region
              go_wp2_with fail
              refine (qi _).mono ?_
              rintro e w4 ⟨rfl, hb4⟩
              have k4 := below_call k3.drew hb4
              go_wp2
              go_ret
              rw [HN.out, HT.out]
              exact ⟨rfl, k4⟩
            · have de : (halfS k + of == h) = false := by simpa using he
              have HF : Hid (∀ c ∈ [80, 77, 109, 65, 100].take 3, hasB c ((k : Int), h) = false) := Lib.hid (take_next hal.out rfl (by rw [HB.out, de]; rfl))
              go_wp2_with fail
              refine (q3 _).mono ?_
              rintro e w3 ⟨rfl, hb3⟩
              have k3 := below_call k0 hb3
              have b1 := bP.kept hb3; have b2 := bS.kept hb3; have b3 := bL.kept hb3
              have hc3 := (hb3.cell (p := ⟨_, _, none⟩) hg2).trans hc2
              have hg3 := Nat.lt_of_lt_of_le hg2 hb3.size
              have cB := b2.cell; have lB := b2.lt
              clear cP cS cL hc2 c1
              go_wp2_with fail
              go_region
              go_wp2
              go_roundw
              case rel => exact ⟨3, by omega, rfl, k3.drew, b1.drew, b2.drew, b3.drew, HF⟩
              case measure => simp [intOf]
        | 3, _ =>
          rw [show ((3 : Nat) : Int) = 3 by rfl]
          have q3 := off_A (k : Int)
          have hob := offS_bd 65 (k : Int)
          have HB := Lib.hid (show hasB 65 ((k : Int), h) = ((offS 65 (k : Int)).2 && (halfS k + (offS 65 (k : Int)).1 == h)) from rfl)
          obtain ⟨⟨of, ib⟩, hof⟩ : ∃ t, t = offS 65 (k : Int) := ⟨_, rfl⟩
          rw [← hof] at q3 HB hob
          clear hof
          simp only at hob
          cases ib
          · have HF : Hid (∀ c ∈ [80, 77, 109, 65, 100].take 4, hasB c ((k : Int), h) = false) := Lib.hid (take_next hal.out rfl (by rw [HB.out]; rfl))
            go_wp2_with fail
            refine (q3 _).mono ?_
            rintro e w3 ⟨rfl, hb3⟩
            have k3 := below_call k0 hb3
            have b1 := bP.kept hb3; have b2 := bS.kept hb3; have b3 := bL.kept hb3
            go_wp2_with fail
            go_region
            go_wp2
            go_roundw
            case rel => exact ⟨4, by omega, rfl, k3.drew, b1.drew, b2.drew, b3.drew, HF⟩
            case measure => simp [intOf]
          · have ew : IntKind.i64.wrap (halfS k + of) = halfS k + of := IntWalk.i64_in _ (by omega)
            by_cases he : halfS k + of = h
            · have de : (halfS k + of == h) = true := by simpa using he
              have HT : Hid (letterX ((k : Int), h) = 65) := Lib.hid (by unfold letterX; rw [hal.out 80 (by simp), if_neg (by simp), hal.out 77 (by simp), if_neg (by simp), hal.out 109 (by simp), if_neg (by simp), HB.out, de]; rfl)
              go_wp2_with fail
              refine (q3 _).mono ?_
              rintro e w3 ⟨rfl, hb3⟩
              have k3 := below_call k0 hb3
              have b1 := bP.kept hb3; have b2 := bS.kept hb3
              have hc3 := (hb3.cell (p := ⟨_, _, none⟩) hg2).trans hc2
              have hg3 := Nat.lt_of_lt_of_le hg2 hb3.size
              have cA := b1.cell; have lA := b1.lt; have cB := b2.cell; have lB := b2.lt
              clear cP cS cL hc2 c1
              go_wp2_with fail
              go_region
              go_wp2_with fail
              refine (qi _).mono ?_
              rintro e w4 ⟨rfl, hb4⟩
              have k4 := below_call k3.drew hb4
              go_wp2
              go_ret
              rw [HN.out, HT.out]
              exact ⟨rfl, k4⟩
            · have de : (halfS k + of == h) = false := by simpa using he
              have HF : Hid (∀ c ∈ [80, 77, 109, 65, 100].take 4, hasB c ((k : Int), h) = false) := Lib.hid (take_next hal.out rfl (by rw [HB.out, de]; rfl))
              go_wp2_with fail
              refine (q3 _).mono ?_
              rintro e w3 ⟨rfl, hb3⟩
              have k3 := below_call k0 hb3
              have b1 := bP.kept hb3; have b2 := bS.kept hb3; have b3 := bL.kept hb3
              have hc3 := (hb3.cell (p := ⟨_, _, none⟩) hg2).trans hc2
              have hg3 := Nat.lt_of_lt_of_le hg2 hb3.size
              have cB := b2.cell; have lB := b2.lt
              clear cP cS cL hc2 c1
              go_wp2_with fail
              go_region
              go_wp2
              go_roundw
              case rel => exact ⟨4, by omega, rfl, k3.drew, b1.drew, b2.drew, b3.drew, HF⟩
              case measure => simp [intOf]
        | 4, _ =>
          rw [show ((4 : Nat) : Int) = 4 by rfl]
          have q3 := off_d (k : Int)
          have hob := offS_bd 100 (k : Int)
          have HB := Lib.hid (show hasB 100 ((k : Int), h) = ((offS 100 (k : Int)).2 && (halfS k + (offS 100 (k : Int)).1 == h)) from rfl)
          obtain ⟨⟨of, ib⟩, hof⟩ : ∃ t, t = offS 100 (k : Int) := ⟨_, rfl⟩
          rw [← hof] at q3 HB hob
          clear hof
          simp only at hob
          cases ib
          · have HF : Hid (∀ c ∈ [80, 77, 109, 65, 100].take 5, hasB c ((k : Int), h) = false) := Lib.hid (take_next hal.out rfl (by rw [HB.out]; rfl))
            go_wp2_with fail
            refine (q3 _).mono ?_
            rintro e w3 ⟨rfl, hb3⟩
            have k3 := below_call k0 hb3
            have b1 := bP.kept hb3; have b2 := bS.kept hb3; have b3 := bL.kept hb3
            go_wp2_with fail
            go_region
            go_wp2
            go_roundw
            case rel => exact ⟨5, by omega, rfl, k3.drew, b1.drew, b2.drew, b3.drew, HF⟩
            case measure => simp [intOf]
          · have ew : IntKind.i64.wrap (halfS k + of) = halfS k + of := IntWalk.i64_in _ (by omega)
            by_cases he : halfS k + of = h
            · have de : (halfS k + of == h) = true := by simpa using he
              have HT : Hid (letterX ((k : Int), h) = 100) := Lib.hid (by unfold letterX; rw [hal.out 80 (by simp), if_neg (by simp), hal.out 77 (by simp), if_neg (by simp), hal.out 109 (by simp), if_neg (by simp), hal.out 65 (by simp), if_neg (by simp), HB.out, de]; rfl)
              go_wp2_with fail
              refine (q3 _).mono ?_
              rintro e w3 ⟨rfl, hb3⟩
              have k3 := below_call k0 hb3
              have b1 := bP.kept hb3; have b2 := bS.kept hb3
              have hc3 := (hb3.cell (p := ⟨_, _, none⟩) hg2).trans hc2
              have hg3 := Nat.lt_of_lt_of_le hg2 hb3.size
              have cA := b1.cell; have lA := b1.lt; have cB := b2.cell; have lB := b2.lt
              clear cP cS cL hc2 c1
              go_wp2_with fail
              go_region
              go_wp2_with fail
              refine (qi _).mono ?_
              rintro e w4 ⟨rfl, hb4⟩
              have k4 := below_call k3.drew hb4
              go_wp2
              go_ret
              rw [HN.out, HT.out]
              exact ⟨rfl, k4⟩
            · have de : (halfS k + of == h) = false := by simpa using he
              have HF : Hid (∀ c ∈ [80, 77, 109, 65, 100].take 5, hasB c ((k : Int), h) = false) := Lib.hid (take_next hal.out rfl (by rw [HB.out, de]; rfl))
              go_wp2_with fail
              refine (q3 _).mono ?_
              rintro e w3 ⟨rfl, hb3⟩
              have k3 := below_call k0 hb3
              have b1 := bP.kept hb3; have b2 := bS.kept hb3; have b3 := bL.kept hb3
              have hc3 := (hb3.cell (p := ⟨_, _, none⟩) hg2).trans hc2
              have hg3 := Nat.lt_of_lt_of_le hg2 hb3.size
              have cB := b2.cell; have lB := b2.lt
              clear cP cS cL hc2 c1
              go_wp2_with fail
              go_region
              go_wp2
              go_roundw
              case rel => exact ⟨5, by omega, rfl, k3.drew, b1.drew, b2.drew, b3.drew, HF⟩
              case measure => simp [intOf]
        | 5, _ =>
          rw [show ((5 : Nat) : Int) = 5 by rfl]
          have HT : Hid (letterX ((k : Int), h) = 0) := Lib.hid (by unfold letterX; rw [hal.out 80 (by simp), hal.out 77 (by simp), hal.out 109 (by simp), hal.out 65 (by simp), hal.out 100 (by simp)]; rfl)
          go_wp2
          go_ret
          rw [HN.out, HT.out]
          exact ⟨rfl, k0⟩
        | j + 6, hj => exact absurd hj (by omega)
end Go.Proofs.YtmbnpblejhlefaaDoor
