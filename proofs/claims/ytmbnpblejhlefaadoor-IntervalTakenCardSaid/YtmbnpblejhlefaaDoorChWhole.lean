/- The walks through Bass and Clashes, the program's and the reference's, and through the tests of equal lists. -/
import Derived.Test.YtmbnpblejhlefaaDoorChClash
namespace Go.Proofs.YtmbnpblejhlefaaDoor
open Go.RowKit
set_option maxRecDepth 100000 in
set_option maxHeartbeats 1000000 in
theorem Bass_any (A : Option Addr) (n c : Nat) (l : List (Int × Int × Int)) (B : Nat) (w : World) (h : Reads w B 3 A n (csP l)) (hB : B ≤ w.heap.size) (hn : n ≤ 9223372036854775807) (ht : Tabs w) :
    Calls Tryd.prog 11 #[.slice A n c] w fun e w' => e = .returned (.tuple #[.int .i64 (bassE l).1, .int .i64 (bassE l).2]) ∧ Below w.heap.size w w' := by
  have HL : Hid (l.length = n) := Lib.hid h.ptlen
  have q1 := check_any A n c l B w h hB hn
  by_cases hz : chordE l = 0
  · rw [hz] at q1
    have hok := chordE_ok hz
    by_cases h0 : n = 0
    · have E := Lib.hid (show bassE l = (0, 18) by unfold bassE; rw [hz, if_neg (fun h => h rfl), if_pos (by rw [HL.out]; exact h0)])
      subst h0
      clear hz hok
      go_enter Tryd.func11, Tryd.ntmps11
      go_wp2_with fail
      refine (q1).mono ?_
      rintro e w1 ⟨rfl, hb1⟩
      have hs1 : w.heap.size ≤ w1.heap.size := by have h := hb1.size; (try simp at h); omega
      go_wp2
      go_ret2
      rw [E.out]
      exact ⟨rfl, by repeat (first | exact Below.refl _ _ | refine below_drewN ?_ _ | refine Below.drew ?_ | refine below_alloc ?_ _ | (refine below_call ?_ (by assumption)) | (refine Below.setCell ?_ ?_ _; rotate_left; (simp; try omega)))⟩
    · have E := Lib.hid (show bassE l = ((bassL l : Int), 0) by unfold bassE; rw [hz, if_neg (fun h => h rfl), if_neg (by rw [HL.out]; exact h0)])
      have d0 : ((n : Int) == 0) = false := by simp; omega
      have q2 := fun W (hW : Below w.heap.size w W) => bass_ok A n c l B W (h.below hB hW) (Nat.le_trans hB hW.size) hn hok.2 (ht.kept hW)
      clear hz
      go_enter Tryd.func11, Tryd.ntmps11
      go_wp2_with fail
      refine q1.mono ?_
      rintro e w1 ⟨rfl, hb1⟩
      go_wp2_with fail
      refine Calls.mono (q2 _ hb1) ?_
      rintro e w2 ⟨rfl, hb2⟩
      go_wp2
      go_ret2
      rw [E.out]
      exact ⟨rfl, by repeat (first | exact Below.refl _ _ | refine below_drewN ?_ _ | refine Below.drew ?_ | refine below_alloc ?_ _ | (refine below_call ?_ (by assumption)) | (refine Below.setCell ?_ ?_ _; rotate_left; (simp; try omega)))⟩
  · have E := Lib.hid (show bassE l = (0, chordE l) by unfold bassE; rw [if_pos hz])
    have hb : (chordE l != 0) = true := by simpa using hz
    clear hz
    go_enter Tryd.func11, Tryd.ntmps11
    go_wp2_with fail
    refine (q1).mono ?_
    rintro e w1 ⟨rfl, hb1⟩
    have hs1 : w.heap.size ≤ w1.heap.size := by have h := hb1.size; (try simp at h); omega
    go_wp2
    go_ret2
    rw [E.out]
    exact ⟨rfl, by repeat (first | exact Below.refl _ _ | refine below_drewN ?_ _ | refine Below.drew ?_ | refine below_alloc ?_ _ | (refine below_call ?_ (by assumption)) | (refine Below.setCell ?_ ?_ _; rotate_left; (simp; try omega)))⟩
set_option maxRecDepth 100000 in
set_option maxHeartbeats 1000000 in
theorem rBass_any (A : Option Addr) (n c : Nat) (l : List (Int × Int × Int)) (B : Nat) (w : World) (h : Reads w B 3 A n (csP l)) (hB : B ≤ w.heap.size) (hn : n ≤ 9223372036854775807) :
    Calls Tryd.prog 12 #[.slice A n c] w fun e w' => e = .returned (.tuple #[.int .i64 (bassE l).1, .int .i64 (bassE l).2]) ∧ Below w.heap.size w w' := by
  have HL : Hid (l.length = n) := Lib.hid h.ptlen
  have q1 := chord_any A n c l B w h hB hn
  by_cases hz : chordE l = 0
  · rw [hz] at q1
    have hok := chordE_ok hz
    by_cases h0 : n = 0
    · have E := Lib.hid (show bassE l = (0, 18) by unfold bassE; rw [hz, if_neg (fun h => h rfl), if_pos (by rw [HL.out]; exact h0)])
      subst h0
      clear hz hok
      go_enter Tryd.func12, Tryd.ntmps12
      go_wp2_with fail
      refine (q1).mono ?_
      rintro e w1 ⟨rfl, hb1⟩
      have hs1 : w.heap.size ≤ w1.heap.size := by have h := hb1.size; (try simp at h); omega
      go_wp2
      go_ret2
      rw [E.out]
      exact ⟨rfl, by repeat (first | exact Below.refl _ _ | refine below_drewN ?_ _ | refine Below.drew ?_ | refine below_alloc ?_ _ | (refine below_call ?_ (by assumption)) | (refine Below.setCell ?_ ?_ _; rotate_left; (simp; try omega)))⟩
    · have E := Lib.hid (show bassE l = ((bassL l : Int), 0) by unfold bassE; rw [hz, if_neg (fun h => h rfl), if_neg (by rw [HL.out]; exact h0)])
      have d0 : ((n : Int) == 0) = false := by simp; omega
      have q2 := fun W (hW : Below w.heap.size w W) => rbass_ok A n c l B W (h.below hB hW) (Nat.le_trans hB hW.size) hn hok.2 (by omega)
      clear hz
      go_enter Tryd.func12, Tryd.ntmps12
      go_wp2_with fail
      refine q1.mono ?_
      rintro e w1 ⟨rfl, hb1⟩
      go_wp2_with fail
      refine Calls.mono (q2 _ hb1) ?_
      rintro e w2 ⟨rfl, hb2⟩
      go_wp2
      go_ret2
      rw [E.out]
      exact ⟨rfl, by repeat (first | exact Below.refl _ _ | refine below_drewN ?_ _ | refine Below.drew ?_ | refine below_alloc ?_ _ | (refine below_call ?_ (by assumption)) | (refine Below.setCell ?_ ?_ _; rotate_left; (simp; try omega)))⟩
  · have E := Lib.hid (show bassE l = (0, chordE l) by unfold bassE; rw [if_pos hz])
    have hb : (chordE l != 0) = true := by simpa using hz
    have hb' : (chordE l == 0) = false := by simpa using hz
    clear hz
    go_enter Tryd.func12, Tryd.ntmps12
    go_wp2_with fail
    refine (q1).mono ?_
    rintro e w1 ⟨rfl, hb1⟩
    have hs1 : w.heap.size ≤ w1.heap.size := by have h := hb1.size; (try simp at h); omega
    go_wp2
    go_ret2
    rw [E.out]
    exact ⟨rfl, by repeat (first | exact Below.refl _ _ | refine below_drewN ?_ _ | refine Below.drew ?_ | refine below_alloc ?_ _ | (refine below_call ?_ (by assumption)) | (refine Below.setCell ?_ ?_ _; rotate_left; (simp; try omega)))⟩
set_option maxRecDepth 100000 in
set_option maxHeartbeats 1000000 in
theorem Clashes_any (A : Option Addr) (n c : Nat) (l : List (Int × Int × Int)) (B : Nat) (w : World) (h : Reads w B 3 A n (csP l)) (hB : B ≤ w.heap.size) (hn : n ≤ 9223372036854775807) (ht : Tabs w) :
    Calls Tryd.prog 13 #[.slice A n c] w fun e w' => ∃ A' c', e = .returned (.tuple #[.slice A' (clashE l).1.length c', .int .i64 (clashE l).2]) ∧ Reads w' w'.heap.size 3 A' (clashE l).1.length (csP (clashE l).1) ∧ Below w.heap.size w w' := by
  have HL : Hid (l.length = n) := Lib.hid h.ptlen
  have q1 := check_any A n c l B w h hB hn
  by_cases hz : chordE l = 0
  · rw [hz] at q1
    have hok := chordE_ok hz
    have E := Lib.hid (show clashE l = (fullC l, 0) by unfold clashE; rw [hz, if_neg (fun h => h rfl)])
    have q2 := fun W (hW : Below w.heap.size w W) => clashes_ok A n c l (-1) B W (h.below hB hW) (Nat.le_trans hB hW.size) (by have := HL.out; omega) hok.2 (ht.kept hW) (Or.inl rfl)
    clear hz
    go_enter Tryd.func13, Tryd.ntmps13
    go_wp2_with fail
    refine q1.mono ?_
    rintro e w1 ⟨rfl, hb1⟩
    go_wp2_with fail
    refine Calls.mono (q2 _ hb1) ?_
    rintro e w2 ⟨r, A', c', rfl, ho, hb2, hf⟩
    go_wp2
    go_ret2
    obtain rfl := hf.1 rfl
    rw [E.out]
    exact ⟨A', c', rfl, ho.2.1, below_call hb1 hb2⟩
  · have E := Lib.hid (show clashE l = ([], chordE l) by unfold clashE; rw [if_pos hz])
    have hb : (chordE l != 0) = true := by simpa using hz
    clear hz
    go_enter Tryd.func13, Tryd.ntmps13
    go_wp2_with fail
    refine (q1).mono ?_
    rintro e w1 ⟨rfl, hb1⟩
    have hs1 : w.heap.size ≤ w1.heap.size := by have h := hb1.size; (try simp at h); omega
    go_wp2
    go_ret2
    rw [E.out]
    exact ⟨none, 0, rfl, Reads.none_, by repeat (first | exact Below.refl _ _ | refine below_drewN ?_ _ | refine Below.drew ?_ | refine below_alloc ?_ _ | (refine below_call ?_ (by assumption)) | (refine Below.setCell ?_ ?_ _; rotate_left; (simp; try omega)))⟩
set_option maxRecDepth 100000 in
set_option maxHeartbeats 1000000 in
theorem rClashes_any (A : Option Addr) (n c : Nat) (l : List (Int × Int × Int)) (B : Nat) (w : World) (h : Reads w B 3 A n (csP l)) (hB : B ≤ w.heap.size) (hn : n ≤ 9223372036854775807) :
    Calls Tryd.prog 14 #[.slice A n c] w fun e w' => ∃ A' c', e = .returned (.tuple #[.slice A' (clashE l).1.length c', .int .i64 (clashE l).2]) ∧ Reads w' w'.heap.size 3 A' (clashE l).1.length (csP (clashE l).1) ∧ Below w.heap.size w w' := by
  have HL : Hid (l.length = n) := Lib.hid h.ptlen
  have q1 := chord_any A n c l B w h hB hn
  by_cases hz : chordE l = 0
  · rw [hz] at q1
    have hok := chordE_ok hz
    have E := Lib.hid (show clashE l = (fullC l, 0) by unfold clashE; rw [hz, if_neg (fun h => h rfl)])
    have q2 := fun W (hW : Below w.heap.size w W) => made_ok A n c l B W (h.below hB hW) (Nat.le_trans hB hW.size) (by have := HL.out; omega) hok.2
    clear hz
    go_enter Tryd.func14, Tryd.ntmps14
    go_wp2_with fail
    refine q1.mono ?_
    rintro e w1 ⟨rfl, hb1⟩
    go_wp2_with fail
    refine Calls.mono (q2 _ hb1) ?_
    rintro e w2 ⟨A', c', rfl, ho, hb2⟩
    go_wp2
    go_ret2
    rw [E.out]
    exact ⟨A', c', rfl, ho.2.1, below_call hb1 hb2⟩
  · have E := Lib.hid (show clashE l = ([], chordE l) by unfold clashE; rw [if_pos hz])
    have hb : (chordE l != 0) = true := by simpa using hz
    clear hz
    go_enter Tryd.func14, Tryd.ntmps14
    go_wp2_with fail
    refine (q1).mono ?_
    rintro e w1 ⟨rfl, hb1⟩
    have hs1 : w.heap.size ≤ w1.heap.size := by have h := hb1.size; (try simp at h); omega
    go_wp2
    go_ret2
    rw [E.out]
    exact ⟨none, 0, rfl, Reads.none_, by repeat (first | exact Below.refl _ _ | refine below_drewN ?_ _ | refine Below.drew ?_ | refine below_alloc ?_ _ | (refine below_call ?_ (by assumption)) | (refine Below.setCell ?_ ?_ _; rotate_left; (simp; try omega)))⟩
set_option maxRecDepth 100000 in
set_option maxHeartbeats 1000000 in
theorem same_any (A A' : Option Addr) (n c c' : Nat) (l : List (Int × Int × Int)) (B B' : Nat) (w : World) (h : Reads w B 3 A n (csP l)) (hB : B ≤ w.heap.size) (h' : Reads w B' 3 A' n (csP l)) (hB' : B' ≤ w.heap.size) (hn : n ≤ 9223372036854775807) :
    Calls Tryd.prog 17 #[.slice A n c, .slice A' n c'] w fun e w' => e = .returned (.bool true) ∧ Below w.heap.size w w' := by
  have HL : Hid (l.length = n) := Lib.hid h.ptlen
  go_enter Tryd.func17, Tryd.ntmps17
  go_wp2
  go_loopw [5] (fun i wr => ∃ k : Nat, k ≤ n ∧ i = .int .i64 k ∧ Below w.heap.size w wr) (fun i _ => n - (intOf i).toNat)
  case atStart => exact ⟨0, by omega, rfl, Below.refl _ _⟩
  case round =>
    obtain ⟨k, hk, rfl, k0⟩ := hrel
    by_cases hlt : k < n
    · have hlt' : (k : Int) < (n : Int) := by omega
      obtain ⟨x, hx⟩ := get_some (l := l) (k := k) (by have := HL.out; omega)
      obtain ⟨b, off, rfl, hab, c0, c1, c2⟩ := h.pt hB k0 hlt hx
      obtain ⟨b', off', rfl, hab', d0, d1, d2⟩ := h'.pt hB' k0 hlt hx
      obtain ⟨p, q, r⟩ := x
      clear hx
      simp only at c0 c1 c2 d0 d1 d2
      go_wp2
      go_quiet (fail)
      go_wp2
      go_roundw
      case rel => exact ⟨k + 1, by omega, by go_num, below_drewN k0 _⟩
      case measure => simp [intOf]; omega
    · go_wp2
      go_ret
      exact ⟨rfl, k0⟩
set_option maxRecDepth 100000 in
set_option maxHeartbeats 1000000 in
theorem samePitches_any (A A' : Option Addr) (n c c' : Nat) (l : List (Int × Int × Int)) (B B' : Nat) (w : World) (h : Reads w B 3 A n (csP l)) (hB : B ≤ w.heap.size) (h' : Reads w B' 3 A' n (csP l)) (hB' : B' ≤ w.heap.size) (hn : n ≤ 9223372036854775807) :
    Calls Tryd.prog 18 #[.slice A n c, .slice A' n c'] w fun e w' => e = .returned (.bool true) ∧ Below w.heap.size w w' := by
  have HL : Hid (l.length = n) := Lib.hid h.ptlen
  go_enter Tryd.func18, Tryd.ntmps18
  go_wp2
  go_loopw [5] (fun i wr => ∃ k : Nat, k ≤ n ∧ i = .int .i64 k ∧ Below w.heap.size w wr) (fun i _ => n - (intOf i).toNat)
  case atStart => exact ⟨0, by omega, rfl, Below.refl _ _⟩
  case round =>
    obtain ⟨k, hk, rfl, k0⟩ := hrel
    by_cases hlt : k < n
    · have hlt' : (k : Int) < (n : Int) := by omega
      obtain ⟨x, hx⟩ := get_some (l := l) (k := k) (by have := HL.out; omega)
      obtain ⟨b, off, rfl, hab, c0, c1, c2⟩ := h.pt hB k0 hlt hx
      obtain ⟨b', off', rfl, hab', d0, d1, d2⟩ := h'.pt hB' k0 hlt hx
      obtain ⟨p, q, r⟩ := x
      clear hx
      simp only at c0 c1 c2 d0 d1 d2
      go_wp2
      go_quiet (fail)
      go_wp2
      go_roundw
      case rel => exact ⟨k + 1, by omega, by go_num, below_drewN k0 _⟩
      case measure => simp [intOf]; omega
    · go_wp2
      go_ret
      exact ⟨rfl, k0⟩
end Go.Proofs.YtmbnpblejhlefaaDoor
