/- Voices upside down, moved and stretched: the program's walks. -/
import Derived.Test.YtiphacmmglohaaaAll
namespace Go.Proofs.Ytiphacmmglohaaa
open Go.RowKit
theorem pitched_efun (k gc : Nat) (_ : k = 61 ∨ k = 65) (f : Int × Int × Int → (Int × Int × Int) × Int) (w0 w : World) (hw0 : Below w0.heap.size w0 w) (hf : PFun w0 (.func (.func k) #[] #[.pointer (some ⟨gc, 0, none⟩)]) f) :
    EFun (w.alloc (.cells #[.func (.func k) #[] #[.pointer (some ⟨gc, 0, none⟩)]] 73)) (.func (.func 80) #[] #[.pointer (some ⟨w.heap.size, 0, none⟩)]) (pitchedS f) :=
  ⟨_, w.heap.size, .inl rfl, rfl, fun x w' hb => pitchedf_any x _ f w0 hf w.heap.size w' (below_call (below_alloc hw0 _) hb) ((Blk.new w _ _).kept hb)⟩

set_option maxHeartbeats 400000 in
theorem above_any (t : Int × Int) (w : World) :
    Calls Try.prog 38 #[vTm t] w fun e w' => e = .returned (.int .i64 (aboveS t)) ∧ Below w.heap.size w w' := by
  obtain ⟨t, t'⟩ := t
  have r0 : Blk (w.alloc (.cells #[.int .i64 t, .int .i64 t'] 24)) w.heap.size 24 #[.int .i64 t, .int .i64 t'] := Blk.new _ _ _
  have k0 : Below w.heap.size w (w.alloc (.cells #[.int .i64 t, .int .i64 t'] 24)) := by repeat (first | exact Below.refl _ _ | refine below_drewN ?_ _ | refine Below.drew ?_ | refine below_alloc ?_ _ | (refine below_call ?_ (by assumption)) | (refine Below.setCell ?_ ?_ _; rotate_left; (simp; try omega)))
  go_enter Try.func38, Try.ntmps38
  go_wp2_with (first | (go_at_call 46; refine (check_any _ _ _).mono ?_; rintro e wn ⟨rfl, hbn⟩; replace rn := Blk.kept (by with_reducible first | exact rn | exact r0 | exact rn.alloc _ | exact r0.alloc _ | exact (rn.alloc _).alloc _ | exact (r0.alloc _).alloc _) hbn; replace en := rn.cell; replace gn := rn.frozen; replace zn := rn.lt; replace kn := below_call (by with_reducible first | exact kn | exact k0 | exact below_alloc kn _ | exact below_alloc k0 _ | exact below_alloc (below_alloc kn _) _ | exact below_alloc (below_alloc k0 _) _) hbn; clear hbn))
  all_goals
    go_ret
    refine ⟨ret_int ?_, by repeat (first | with_reducible exact Below.refl _ _ | with_reducible assumption | with_reducible refine below_drewN ?_ _ | with_reducible refine Below.drew ?_ | with_reducible refine below_alloc ?_ _ | (with_reducible refine Below.setCell ?_ ?_ _; rotate_left; ((try simp only); omega)))⟩
    clear r0 k0 rn en gn zn kn
    unfold aboveS
    grind
set_option maxRecDepth 100000 in
set_option maxHeartbeats 1000000 in
theorem mirror_any (A : Option Addr) (n c : Nat) (l : List Ev) (axis : Int × Int × Int) (B : Nat) (w : World) (h : Reads w B 10 A n (csE l)) (hB : B ≤ w.heap.size) (hn : n ≤ 5000) :
    Calls Try.prog 23 #[.slice A n c, vP axis] w fun e w' => ∃ A' c', e = .returned (.tuple #[.slice A' (mirrorS l axis).1.length c', .int .i64 (mirrorS l axis).2]) ∧ OwnE w' w.heap.size (mirrorS l axis).1.length A' c' (mirrorS l axis).1 ∧ Below w.heap.size w w' := by
  obtain ⟨a, b, cc⟩ := axis
  have hmf : ∀ (fn : Fn) (first cap : Array Value) (w : World), (Instr.makeFunc fn first cap).run Try.prog w = .ok (.func fn first cap) w := fun _ _ _ _ => rfl
  have r0 : Blk (w.alloc (.cells #[.int .i64 a, .int .i64 b, .int .i64 cc] 35)) w.heap.size 35 #[.int .i64 a, .int .i64 b, .int .i64 cc] := Blk.new _ _ _
  have k0 : Below w.heap.size w (w.alloc (.cells #[.int .i64 a, .int .i64 b, .int .i64 cc] 35)) := by repeat (first | exact Below.refl _ _ | refine below_drewN ?_ _ | refine Below.drew ?_ | refine below_alloc ?_ _ | (refine below_call ?_ (by assumption)) | (refine Below.setCell ?_ ?_ _; rotate_left; (simp; try omega)))
  have hc := valid_any A n c l B _ (h.below hB k0) (by simp; omega) (by omega)
  obtain ⟨y, hy⟩ : ∃ y, y = (checkS l).1 := ⟨_, rfl⟩
  rw [← hy] at hc
  by_cases hz : y = 0
  · subst hz
    obtain ⟨z, hz⟩ : ∃ z, z = pchk (a, b, cc) := ⟨_, rfl⟩
    have hp := pcheck_any (a, b, cc)
    rw [← hz] at hp
    by_cases h0 : z = 0
    · subst h0
      have E := Lib.hid (show mirrorS l (a, b, cc) = allS (pitchedS fun p => mirrorP p (a, b, cc)) l by unfold mirrorS; rw [← hy, if_neg (fun h => h rfl), ← hz, if_neg (fun h => h rfl)])
      clear hy hz
      go_enter Try.func23, Try.ntmps23
      go_wp2_with fail
      refine hc.mono ?_
      rintro e w1 ⟨rfl, hb1⟩
      have r1 := r0.kept hb1
      have e1 := r1.cell; have z1 := r1.lt; have f1 := r1.frozen
      have k1 := below_call k0 hb1
      go_wp2_with fail
      refine (hp _).mono ?_
      rintro e w2 ⟨rfl, hb2⟩
      have r2 := r1.kept hb2
      have k2 := below_call k1 hb2
      go_wp2_with fail
      refine (pitched_any _ _ _).mono ?_
      rintro e w3 ⟨rfl, rfl⟩
      have k3 := below_alloc k2 (.cells #[.func (.func 61) #[] #[.pointer (some ⟨w.heap.size, 0, none⟩)]] 73)
      have hE := pitched_efun 61 w.heap.size (.inl rfl) (fun p => mirrorP p (a, b, cc)) w2 w2 (Below.refl _ _) ⟨_, _, .inl rfl, rfl, fun p w' hb => mirrorf_any p (a, b, cc) _ w' (r2.kept hb)⟩
      go_wp2_with fail
      refine (all_any _ _ A n c l w.heap.size _ hE ((h.below hB k3).more hB) (by have := k2.size; simp; omega) hn).mono ?_
      rintro e w4 ⟨A4, c4, rfl, ho4, hb4⟩
      go_wp2_with fail
      go_ret2
      rw [E.out]
      exact ⟨A4, c4, rfl, ho4.lower k3.size, below_call k3 hb4⟩
    · have hz' : (z != 0) = true := by simpa using h0
      have E := Lib.hid (show mirrorS l (a, b, cc) = ([], z) by unfold mirrorS; rw [← hy, if_neg (fun h => h rfl), ← hz, if_pos h0])
      clear hy hz
      go_enter Try.func23, Try.ntmps23
      go_wp2_with fail
      refine hc.mono ?_
      rintro e w1 ⟨rfl, hb1⟩
      have r1 := r0.kept hb1
      have e1 := r1.cell; have z1 := r1.lt; have f1 := r1.frozen
      have k1 := below_call k0 hb1
      go_wp2_with fail
      refine (hp _).mono ?_
      rintro e w2 ⟨rfl, hb2⟩
      have k2 := below_call k1 hb2
      go_wp2_with fail
      go_ret2
      rw [E.out]
      exact ⟨none, 0, rfl, OwnE.nil_ _ _, by repeat (first | with_reducible exact Below.refl _ _ | with_reducible assumption | with_reducible refine below_drewN ?_ _ | with_reducible refine Below.drew ?_ | with_reducible refine below_alloc ?_ _ | (with_reducible refine Below.setCell ?_ ?_ _; rotate_left; ((try simp only); omega)))⟩
  · have hz' : (y != 0) = true := by simpa using hz
    have E := Lib.hid (show mirrorS l (a, b, cc) = ([], y) by unfold mirrorS; rw [← hy, if_pos hz])
    clear hy
    go_enter Try.func23, Try.ntmps23
    go_wp2_with fail
    refine hc.mono ?_
    rintro e w1 ⟨rfl, hb1⟩
    have r1 := r0.kept hb1
    have e1 := r1.cell; have z1 := r1.lt; have f1 := r1.frozen
    have k1 := below_call k0 hb1
    go_wp2_with fail
    go_ret2
    rw [E.out]
    exact ⟨none, 0, rfl, OwnE.nil_ _ _, by repeat (first | with_reducible exact Below.refl _ _ | with_reducible assumption | with_reducible refine below_drewN ?_ _ | with_reducible refine Below.drew ?_ | with_reducible refine below_alloc ?_ _ | (with_reducible refine Below.setCell ?_ ?_ _; rotate_left; ((try simp only); omega)))⟩
set_option maxRecDepth 100000 in
set_option maxHeartbeats 1000000 in
theorem move_any (A : Option Addr) (n c : Nat) (l : List Ev) (steps : Int) (B : Nat) (w : World) (h : Reads w B 10 A n (csE l)) (hB : B ≤ w.heap.size) (hn : n ≤ 5000) :
    Calls Try.prog 25 #[.slice A n c, .int .i64 steps] w fun e w' => ∃ A' c', e = .returned (.tuple #[.slice A' (moveS l steps).1.length c', .int .i64 (moveS l steps).2]) ∧ OwnE w' w.heap.size (moveS l steps).1.length A' c' (moveS l steps).1 ∧ Below w.heap.size w w' := by
  have hmf : ∀ (fn : Fn) (first cap : Array Value) (w : World), (Instr.makeFunc fn first cap).run Try.prog w = .ok (.func fn first cap) w := fun _ _ _ _ => rfl
  have r0 : Blk (w.alloc (.cells #[.int .i64 steps] 3)) w.heap.size 3 #[.int .i64 steps] := Blk.new _ _ _
  have k0 : Below w.heap.size w (w.alloc (.cells #[.int .i64 steps] 3)) := by repeat (first | exact Below.refl _ _ | refine below_drewN ?_ _ | refine Below.drew ?_ | refine below_alloc ?_ _ | (refine below_call ?_ (by assumption)) | (refine Below.setCell ?_ ?_ _; rotate_left; (simp; try omega)))
  have hc := valid_any A n c l B _ (h.below hB k0) (by simp; omega) (by omega)
  obtain ⟨y, hy⟩ : ∃ y, y = (checkS l).1 := ⟨_, rfl⟩
  rw [← hy] at hc
  by_cases hz : y = 0
  · subst hz
    have E := Lib.hid (show moveS l steps = allS (pitchedS fun p => moveP p steps) l by unfold moveS; rw [← hy, if_neg (fun h => h rfl)])
    clear hy
    go_enter Try.func25, Try.ntmps25
    go_wp2_with fail
    refine hc.mono ?_
    rintro e w1 ⟨rfl, hb1⟩
    have r1 := r0.kept hb1
    have e1 := r1.cell; have z1 := r1.lt; have f1 := r1.frozen
    have k1 := below_call k0 hb1
    go_wp2_with fail
    refine (pitched_any _ _ _).mono ?_
    rintro e w3 ⟨rfl, rfl⟩
    have k3 := below_alloc k1 (.cells #[.func (.func 65) #[] #[.pointer (some ⟨w.heap.size, 0, none⟩)]] 73)
    have hE := pitched_efun 65 w.heap.size (.inr rfl) (fun p => moveP p steps) w1 w1 (Below.refl _ _) ⟨_, _, .inr rfl, rfl, fun p w' hb => movef_any p steps _ w' (r1.kept hb)⟩
    go_wp2_with fail
    refine (all_any _ _ A n c l w.heap.size _ hE ((h.below hB k3).more hB) (by have := k1.size; simp; omega) hn).mono ?_
    rintro e w4 ⟨A4, c4, rfl, ho4, hb4⟩
    go_wp2_with fail
    go_ret2
    rw [E.out]
    exact ⟨A4, c4, rfl, ho4.lower k3.size, below_call k3 hb4⟩
  · have hz' : (y != 0) = true := by simpa using hz
    have E := Lib.hid (show moveS l steps = ([], y) by unfold moveS; rw [← hy, if_pos hz])
    clear hy
    go_enter Try.func25, Try.ntmps25
    go_wp2_with fail
    refine hc.mono ?_
    rintro e w1 ⟨rfl, hb1⟩
    have r1 := r0.kept hb1
    have e1 := r1.cell; have z1 := r1.lt; have f1 := r1.frozen
    have k1 := below_call k0 hb1
    go_wp2_with fail
    go_ret2
    rw [E.out]
    exact ⟨none, 0, rfl, OwnE.nil_ _ _, by repeat (first | with_reducible exact Below.refl _ _ | with_reducible assumption | with_reducible refine below_drewN ?_ _ | with_reducible refine Below.drew ?_ | with_reducible refine below_alloc ?_ _ | (with_reducible refine Below.setCell ?_ ?_ _; rotate_left; ((try simp only); omega)))⟩
set_option maxRecDepth 100000 in
set_option maxHeartbeats 1000000 in
theorem stretch_any (A : Option Addr) (n c : Nat) (l : List Ev) (t : Int × Int) (B : Nat) (w : World) (h : Reads w B 10 A n (csE l)) (hB : B ≤ w.heap.size) (hn : n ≤ 5000) :
    Calls Try.prog 12 #[.slice A n c, vTm t] w fun e w' => ∃ A' c', e = .returned (.tuple #[.slice A' (stretchS l t).1.length c', .int .i64 (stretchS l t).2]) ∧ OwnE w' w.heap.size (stretchS l t).1.length A' c' (stretchS l t).1 ∧ Below w.heap.size w w' := by
  obtain ⟨a, b⟩ := t
  have hmf : ∀ (fn : Fn) (first cap : Array Value) (w : World), (Instr.makeFunc fn first cap).run Try.prog w = .ok (.func fn first cap) w := fun _ _ _ _ => rfl
  have r0 : Blk (w.alloc (.cells #[.int .i64 a, .int .i64 b] 24)) w.heap.size 24 #[.int .i64 a, .int .i64 b] := Blk.new _ _ _
  have k0 : Below w.heap.size w (w.alloc (.cells #[.int .i64 a, .int .i64 b] 24)) := by repeat (first | exact Below.refl _ _ | refine below_drewN ?_ _ | refine Below.drew ?_ | refine below_alloc ?_ _ | (refine below_call ?_ (by assumption)) | (refine Below.setCell ?_ ?_ _; rotate_left; (simp; try omega)))
  have hc := valid_any A n c l B _ (h.below hB k0) (by simp; omega) (by omega)
  obtain ⟨y, hy⟩ : ∃ y, y = (checkS l).1 := ⟨_, rfl⟩
  rw [← hy] at hc
  by_cases hz : y = 0
  · subst hz
    obtain ⟨z, hz⟩ : ∃ z, z = aboveS (a, b) := ⟨_, rfl⟩
    have hp := above_any (a, b)
    rw [← hz] at hp
    by_cases h0 : z = 0
    · subst h0
      have E := Lib.hid (show stretchS l (a, b) = allS (stretchedS (a, b)) l by unfold stretchS; rw [← hy, if_neg (fun h => h rfl), ← hz, if_neg (fun h => h rfl)])
      clear hy hz
      go_enter Try.func12, Try.ntmps12
      go_wp2_with fail
      refine hc.mono ?_
      rintro e w1 ⟨rfl, hb1⟩
      have r1 := r0.kept hb1
      have e1 := r1.cell; have z1 := r1.lt; have f1 := r1.frozen
      have k1 := below_call k0 hb1
      go_wp2_with fail
      refine (hp _).mono ?_
      rintro e w2 ⟨rfl, hb2⟩
      have r2 := r1.kept hb2
      have k2 := below_call k1 hb2
      have hE : EFun w2 (.func (.func 39) #[] #[.pointer (some ⟨w.heap.size, 0, none⟩)]) (stretchedS (a, b)) := ⟨_, _, .inr rfl, rfl, fun x w' hb => stretchf_any x (a, b) _ w' (r2.kept hb)⟩
      go_wp2_with fail
      refine (all_any _ _ A n c l w.heap.size _ hE ((h.below hB k2).more hB) (by have := k2.size; omega) hn).mono ?_
      rintro e w4 ⟨A4, c4, rfl, ho4, hb4⟩
      go_wp2_with fail
      go_ret2
      rw [E.out]
      exact ⟨A4, c4, rfl, ho4.lower k2.size, below_call k2 hb4⟩
    · have hz' : (z != 0) = true := by simpa using h0
      have E := Lib.hid (show stretchS l (a, b) = ([], z) by unfold stretchS; rw [← hy, if_neg (fun h => h rfl), ← hz, if_pos h0])
      clear hy hz
      go_enter Try.func12, Try.ntmps12
      go_wp2_with fail
      refine hc.mono ?_
      rintro e w1 ⟨rfl, hb1⟩
      have r1 := r0.kept hb1
      have e1 := r1.cell; have z1 := r1.lt; have f1 := r1.frozen
      have k1 := below_call k0 hb1
      go_wp2_with fail
      refine (hp _).mono ?_
      rintro e w2 ⟨rfl, hb2⟩
      have k2 := below_call k1 hb2
      go_wp2_with fail
      go_ret2
      rw [E.out]
      exact ⟨none, 0, rfl, OwnE.nil_ _ _, by repeat (first | with_reducible exact Below.refl _ _ | with_reducible assumption | with_reducible refine below_drewN ?_ _ | with_reducible refine Below.drew ?_ | with_reducible refine below_alloc ?_ _ | (with_reducible refine Below.setCell ?_ ?_ _; rotate_left; ((try simp only); omega)))⟩
  · have hz' : (y != 0) = true := by simpa using hz
    have E := Lib.hid (show stretchS l (a, b) = ([], y) by unfold stretchS; rw [← hy, if_pos hz])
    clear hy
    go_enter Try.func12, Try.ntmps12
    go_wp2_with fail
    refine hc.mono ?_
    rintro e w1 ⟨rfl, hb1⟩
    have r1 := r0.kept hb1
    have e1 := r1.cell; have z1 := r1.lt; have f1 := r1.frozen
    have k1 := below_call k0 hb1
    go_wp2_with fail
    go_ret2
    rw [E.out]
    exact ⟨none, 0, rfl, OwnE.nil_ _ _, by repeat (first | with_reducible exact Below.refl _ _ | with_reducible assumption | with_reducible refine below_drewN ?_ _ | with_reducible refine Below.drew ?_ | with_reducible refine below_alloc ?_ _ | (with_reducible refine Below.setCell ?_ ?_ _; rotate_left; ((try simp only); omega)))⟩
end Go.Proofs.Ytiphacmmglohaaa
