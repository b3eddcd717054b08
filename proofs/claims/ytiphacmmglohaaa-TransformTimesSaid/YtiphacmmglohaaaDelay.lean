/- Delayed and joined voices: the walks of the program and of the reference. -/
import Derived.Test.YtiphacmmglohaaaRefStretch
import Derived.ArgAppend
namespace Go.Proofs.Ytiphacmmglohaaa
open Go.RowKit
theorem rest_row (w : World) (t t' : Int) (B : Nat) (hB : B ≤ w.heap.size) : (w.alloc (.cells #[.int .i64 0, .int .i64 0, .int .i64 t, .int .i64 t', .int .i64 0, .int .i64 0, .int .i64 0, .bool true, .int .i64 0, .int .i64 0] 59)).ownsRow B 59 10 (.slice (some ⟨w.heap.size, 0, none⟩) 1 1) 1 (csE [restEv (t, t')]) := World.ownsRow_lit w #[.int .i64 0, .int .i64 0, .int .i64 t, .int .i64 t', .int .i64 0, .int .i64 0, .int .i64 0, .bool true, .int .i64 0, .int .i64 0] 1 hB (by simp [maxLen]) rfl
set_option maxRecDepth 100000 in
set_option maxHeartbeats 1000000 in
theorem delay_any (A : Option Addr) (n c : Nat) (l : List Ev) (tt : Int × Int) (B : Nat) (w : World) (h : Reads w B 10 A n (csE l)) (hB : B ≤ w.heap.size) (hn : n ≤ 4000) :
    Calls Try.prog 15 #[.slice A n c, vTm tt] w fun e w' => ∃ A' c', e = .returned (.tuple #[.slice A' (delayS l tt).1.length c', .int .i64 (delayS l tt).2]) ∧ OwnE w' w.heap.size (delayS l tt).1.length A' c' (delayS l tt).1 ∧ Below w.heap.size w w' := by
  obtain ⟨t, t'⟩ := tt
  have hl := h.evlen
  obtain ⟨i0, hi0, hz0, hz1, hz2⟩ := info_parts event_info
  have r0 : Blk (w.alloc (.cells #[.int .i64 t, .int .i64 t'] 24)) w.heap.size 24 #[.int .i64 t, .int .i64 t'] := Blk.new _ _ _
  have k0 : Below w.heap.size w (w.alloc (.cells #[.int .i64 t, .int .i64 t'] 24)) := by repeat (first | exact Below.refl _ _ | refine below_drewN ?_ _ | refine Below.drew ?_ | refine below_alloc ?_ _ | (refine below_call ?_ (by assumption)) | (refine Below.setCell ?_ ?_ _; rotate_left; (simp; try omega)))
  have hc := valid_any A n c l B _ (h.below hB k0) (by simp; omega) (by omega)
  obtain ⟨y, hy⟩ : ∃ y, y = (checkS l).1 := ⟨_, rfl⟩
  rw [← hy] at hc
  by_cases hz : y = 0
  · subst hz
    obtain ⟨z, hz⟩ : ∃ z, z = aboveS (t, t') := ⟨_, rfl⟩
    have hp := above_any (t, t')
    rw [← hz] at hp
    by_cases h0 : z = 0
    · subst h0
      by_cases hbig : 2000 ≤ n
      · have hbig' : (2000 : Int) ≤ (n : Int) := by omega
        have E := Lib.hid (show delayS l (t, t') = ([], 11) by unfold delayS; rw [← hy, if_neg (fun h => h rfl), ← hz, if_neg (fun h => h rfl), if_pos (by omega)])
        clear hy hz hl
        go_enter Try.func15, Try.ntmps15
        go_wp2_with (first | (go_at_call 37; refine (hc).mono ?_; rintro e wn ⟨rfl, hbn⟩; replace rn := Blk.kept (by with_reducible first | exact rn | exact r0 | exact rn.alloc _ | exact r0.alloc _ | exact (rn.alloc _).alloc _ | exact (r0.alloc _).alloc _) hbn; replace en := rn.cell; replace gn := rn.frozen; replace zn := rn.lt; replace kn := below_call (by with_reducible first | exact kn | exact k0 | exact below_alloc kn _ | exact below_alloc k0 _ | exact below_alloc (below_alloc kn _) _ | exact below_alloc (below_alloc k0 _) _) hbn; clear hbn) | (go_at_call 38; refine (hp _).mono ?_; rintro e wn ⟨rfl, hbn⟩; replace rn := Blk.kept (by with_reducible first | exact rn | exact r0 | exact rn.alloc _ | exact r0.alloc _ | exact (rn.alloc _).alloc _ | exact (r0.alloc _).alloc _) hbn; replace en := rn.cell; replace gn := rn.frozen; replace zn := rn.lt; replace kn := below_call (by with_reducible first | exact kn | exact k0 | exact below_alloc kn _ | exact below_alloc k0 _ | exact below_alloc (below_alloc kn _) _ | exact below_alloc (below_alloc k0 _) _) hbn; clear hbn))
        go_ret2
        rw [E.out]
        exact ⟨none, 0, rfl, OwnE.nil_ _ _, by repeat (first | with_reducible exact Below.refl _ _ | with_reducible assumption | with_reducible refine below_drewN ?_ _ | with_reducible refine Below.drew ?_ | with_reducible refine below_alloc ?_ _ | (with_reducible refine Below.setCell ?_ ?_ _; rotate_left; ((try simp only); omega)))⟩
      · have hbig' : (n : Int) < 2000 := by omega
        have E := Lib.hid (show delayS l (t, t') = chainS (restEv (t, t') :: l) by unfold delayS; rw [← hy, if_neg (fun h => h rfl), ← hz, if_neg (fun h => h rfl), if_neg (by omega)])
        clear hy hz hl
        have hsl : ∀ (g : Nat) (W : World), (Instr.slice 22 (.slice (some ⟨g, 0, none⟩) 1 1) none (some (.int .i64 1)) (some (.int .i64 1))).run Try.prog W = .ok (.slice (some ⟨g, 0, none⟩) 1 1) W := fun g W => by kernel_rfl
        go_enter Try.func15, Try.ntmps15
        go_wp2_with fail
        refine hc.mono ?_
        rintro e w1 ⟨rfl, hb1⟩
        have r1 := r0.kept hb1
        have e1 := r1.cell; have z1 := r1.lt
        have k1 := below_call k0 hb1
        go_wp2_with fail
        refine (hp _).mono ?_
        rintro e w2 ⟨rfl, hb2⟩
        have r2 := r1.kept hb2
        have e2 := r2.cell; have z2 := r2.lt
        have k2 := below_call k1 hb2
        have hrr := rest_row w2 t t' w.heap.size k2.size
        go_wp2_with (at_builtin; (refine wpList_append_any _ rfl (.tmp 26) (.tmp 27) _ rfl w.heap.size 59 i0 _ 10 80 Try.underlying22 hi0 hz0 hz1 hz2 rfl (by omega) (.slice (some ⟨w2.heap.size, 0, none⟩) 1 1) 1 (csE [restEv (t, t')]) rfl hrr w.heap.size A n c (csE l) rfl ((h.below hB (below_alloc k2 _)).more hB) (one_csE l) (by simp only [maxLen]; omega) (by omega) (by have := k2.size; simp; omega) ?_); intro v1 w3 hown1 hg1 hat1)
        have k3 : Below w.heap.size w w3 := (below_alloc k2 _).grown hg1 (by have := k2.size; simp; omega) (fun k hk => by simp [Value.ownBlock] at hk; have := k2.size; omega)
        rw [← csE_append] at hown1
        refine (chained_any v1 _ (restEv (t, t') :: l) w.heap.size _ hown1 (by omega) k3.size).mono ?_
        rintro e w4 ⟨A4, c4, rfl, ho4, hb4⟩
        have k4 : Below w.heap.size w w4 := k3.trans hb4
        go_wp2_with fail
        go_ret2
        rw [E.out]
        exact ⟨A4, c4, rfl, ho4, k4⟩
    · have hz' : (z != 0) = true := by simpa using h0
      have E := Lib.hid (show delayS l (t, t') = ([], z) by unfold delayS; rw [← hy, if_neg (fun h => h rfl), ← hz, if_pos h0])
      clear hy hz hl
      go_enter Try.func15, Try.ntmps15
      go_wp2_with (first | (go_at_call 37; refine (hc).mono ?_; rintro e wn ⟨rfl, hbn⟩; replace rn := Blk.kept (by with_reducible first | exact rn | exact r0 | exact rn.alloc _ | exact r0.alloc _ | exact (rn.alloc _).alloc _ | exact (r0.alloc _).alloc _) hbn; replace en := rn.cell; replace gn := rn.frozen; replace zn := rn.lt; replace kn := below_call (by with_reducible first | exact kn | exact k0 | exact below_alloc kn _ | exact below_alloc k0 _ | exact below_alloc (below_alloc kn _) _ | exact below_alloc (below_alloc k0 _) _) hbn; clear hbn) | (go_at_call 38; refine (hp _).mono ?_; rintro e wn ⟨rfl, hbn⟩; replace rn := Blk.kept (by with_reducible first | exact rn | exact r0 | exact rn.alloc _ | exact r0.alloc _ | exact (rn.alloc _).alloc _ | exact (r0.alloc _).alloc _) hbn; replace en := rn.cell; replace gn := rn.frozen; replace zn := rn.lt; replace kn := below_call (by with_reducible first | exact kn | exact k0 | exact below_alloc kn _ | exact below_alloc k0 _ | exact below_alloc (below_alloc kn _) _ | exact below_alloc (below_alloc k0 _) _) hbn; clear hbn))
      go_ret2
      rw [E.out]
      exact ⟨none, 0, rfl, OwnE.nil_ _ _, by repeat (first | with_reducible exact Below.refl _ _ | with_reducible assumption | with_reducible refine below_drewN ?_ _ | with_reducible refine Below.drew ?_ | with_reducible refine below_alloc ?_ _ | (with_reducible refine Below.setCell ?_ ?_ _; rotate_left; ((try simp only); omega)))⟩
  · have hz' : (y != 0) = true := by simpa using hz
    have E := Lib.hid (show delayS l (t, t') = ([], y) by unfold delayS; rw [← hy, if_pos hz])
    clear hy hl
    go_enter Try.func15, Try.ntmps15
    go_wp2_with (first | (go_at_call 37; refine (hc).mono ?_; rintro e wn ⟨rfl, hbn⟩; replace rn := Blk.kept (by with_reducible first | exact rn | exact r0 | exact rn.alloc _ | exact r0.alloc _ | exact (rn.alloc _).alloc _ | exact (r0.alloc _).alloc _) hbn; replace en := rn.cell; replace gn := rn.frozen; replace zn := rn.lt; replace kn := below_call (by with_reducible first | exact kn | exact k0 | exact below_alloc kn _ | exact below_alloc k0 _ | exact below_alloc (below_alloc kn _) _ | exact below_alloc (below_alloc k0 _) _) hbn; clear hbn))
    go_ret2
    rw [E.out]
    exact ⟨none, 0, rfl, OwnE.nil_ _ _, by repeat (first | with_reducible exact Below.refl _ _ | with_reducible assumption | with_reducible refine below_drewN ?_ _ | with_reducible refine Below.drew ?_ | with_reducible refine below_alloc ?_ _ | (with_reducible refine Below.setCell ?_ ?_ _; rotate_left; ((try simp only); omega)))⟩
theorem check_big {l : List Ev} (h : 2000 < l.length) : (checkS l).1 = 11 := by unfold checkS; rw [if_pos h]
set_option maxRecDepth 100000 in
set_option maxHeartbeats 1000000 in
theorem refDelay_any (A : Option Addr) (n c : Nat) (l : List Ev) (tt : Int × Int) (B : Nat) (w : World) (h : Reads w B 10 A n (csE l)) (hB : B ≤ w.heap.size) (hn : n ≤ 4000) :
    Calls Try.prog 16 #[.slice A n c, vTm tt] w fun e w' => ∃ A' c', e = .returned (.tuple #[.slice A' (delayS l tt).1.length c', .int .i64 (delayS l tt).2]) ∧ OwnE w' w.heap.size (delayS l tt).1.length A' c' (delayS l tt).1 ∧ Below w.heap.size w w' := by
  obtain ⟨t, t'⟩ := tt
  have hl := h.evlen
  obtain ⟨i0, hi0, hz0, hz1, hz2⟩ := info_parts event_info
  have r0 : Blk (w.alloc (.cells #[.int .i64 t, .int .i64 t'] 24)) w.heap.size 24 #[.int .i64 t, .int .i64 t'] := Blk.new _ _ _
  have k0 : Below w.heap.size w (w.alloc (.cells #[.int .i64 t, .int .i64 t'] 24)) := by repeat (first | exact Below.refl _ _ | refine below_drewN ?_ _ | refine Below.drew ?_ | refine below_alloc ?_ _ | (refine below_call ?_ (by assumption)) | (refine Below.setCell ?_ ?_ _; rotate_left; (simp; try omega)))
  have hc := refAbove_any A n c l (t, t') B _ (h.below hB k0) (by simp; omega) (by omega)
  obtain ⟨y, hy⟩ : ∃ y, y = vabove l (t, t') := ⟨_, rfl⟩
  rw [← hy] at hc
  by_cases hz : y = 0
  · subst hz
    have hle : n ≤ 2000 := by
      rcases Nat.lt_or_ge 2000 n with h1 | h1
      · unfold vabove at hy
        rw [check_big (by omega)] at hy
        cases hy
      · exact h1
    by_cases hbig : n = 2000
    · have E := Lib.hid (show delayS l (t, t') = ([], 11) by rw [delay_v, ← hy, if_neg (fun h => h rfl), if_pos (by omega)])
      clear hy hl
      subst hbig
      go_enter Try.func16, Try.ntmps16
      go_wp2_with (first | (go_at_call 42; refine (hc).mono ?_; rintro e wn ⟨rfl, hbn⟩; replace rn := Blk.kept (by with_reducible first | exact rn | exact r0 | exact rn.alloc _ | exact r0.alloc _ | exact (rn.alloc _).alloc _ | exact (r0.alloc _).alloc _) hbn; replace en := rn.cell; replace gn := rn.frozen; replace zn := rn.lt; replace kn := below_call (by with_reducible first | exact kn | exact k0 | exact below_alloc kn _ | exact below_alloc k0 _ | exact below_alloc (below_alloc kn _) _ | exact below_alloc (below_alloc k0 _) _) hbn; clear hbn))
      go_ret2
      rw [E.out]
      exact ⟨none, 0, rfl, OwnE.nil_ _ _, by repeat (first | with_reducible exact Below.refl _ _ | with_reducible assumption | with_reducible refine below_drewN ?_ _ | with_reducible refine Below.drew ?_ | with_reducible refine below_alloc ?_ _ | (with_reducible refine Below.setCell ?_ ?_ _; rotate_left; ((try simp only); omega)))⟩
    · have hbig' : ((n : Int) == 2000) = false := by simp; omega
      have E := Lib.hid (show delayS l (t, t') = chainS (restEv (t, t') :: l) by rw [delay_v, ← hy, if_neg (fun h => h rfl), if_neg (by omega)])
      clear hy hl
      go_enter Try.func16, Try.ntmps16
      go_wp2_with fail
      refine hc.mono ?_
      rintro e w2 ⟨rfl, hb2⟩
      have r2 := r0.kept hb2
      have e2 := r2.cell; have z2 := r2.lt
      have k2 := below_call k0 hb2
      have hrr := rest_row w2 t t' w.heap.size k2.size
      go_wp2_with (at_builtin; (refine wpList_append_any _ rfl (.tmp 18) (.tmp 19) _ rfl w.heap.size 59 i0 _ 10 80 Try.underlying22 hi0 hz0 hz1 hz2 rfl (by omega) (.slice (some ⟨w2.heap.size, 0, none⟩) 1 1) 1 (csE [restEv (t, t')]) rfl hrr w.heap.size A n c (csE l) rfl ((h.below hB (below_alloc k2 _)).more hB) (one_csE l) (by simp only [maxLen]; omega) (by omega) (by have := k2.size; simp; omega) ?_); intro v1 w3 hown1 hg1 hat1)
      have k3 : Below w.heap.size w w3 := (below_alloc k2 _).grown hg1 (by have := k2.size; simp; omega) (fun k hk => by simp [Value.ownBlock] at hk; have := k2.size; omega)
      rw [← csE_append] at hown1
      obtain ⟨A1, c1, hv, ho1⟩ := ownE_form hown1
      subst hv
      refine (chain_any A1 _ c1 (restEv (t, t') :: l) _ _ ho1.2.1 (Nat.le_refl _) (by omega)).mono ?_
      rintro e w4 ⟨A4, c4, rfl, ho4, hb4⟩
      have k4 : Below w.heap.size w w4 := below_call k3 hb4
      go_wp2_with fail
      go_ret2
      rw [E.out]
      exact ⟨A4, c4, rfl, ho4.lower k3.size, k4⟩
  · have hz' : (y != 0) = true := by simpa using hz
    have E := Lib.hid (show delayS l (t, t') = ([], y) by rw [delay_v, ← hy, if_pos hz])
    clear hy hl
    go_enter Try.func16, Try.ntmps16
    go_wp2_with (first | (go_at_call 42; refine (hc).mono ?_; rintro e wn ⟨rfl, hbn⟩; replace rn := Blk.kept (by with_reducible first | exact rn | exact r0 | exact rn.alloc _ | exact r0.alloc _ | exact (rn.alloc _).alloc _ | exact (r0.alloc _).alloc _) hbn; replace en := rn.cell; replace gn := rn.frozen; replace zn := rn.lt; replace kn := below_call (by with_reducible first | exact kn | exact k0 | exact below_alloc kn _ | exact below_alloc k0 _ | exact below_alloc (below_alloc kn _) _ | exact below_alloc (below_alloc k0 _) _) hbn; clear hbn))
    go_ret2
    rw [E.out]
    exact ⟨none, 0, rfl, OwnE.nil_ _ _, by repeat (first | with_reducible exact Below.refl _ _ | with_reducible assumption | with_reducible refine below_drewN ?_ _ | with_reducible refine Below.drew ?_ | with_reducible refine below_alloc ?_ _ | (with_reducible refine Below.setCell ?_ ?_ _; rotate_left; ((try simp only); omega)))⟩
/-! ### Join -/
theorem own_cells {w : World} {B n : Nat} {A : Option Addr} {xs : List Value} (h : Reads w B 10 A n xs) (b : Addr) (hA : A = some b) (j : Nat) (u : Value) (hu : xs[j]? = some u) : w.cell? (b.add j) = some u := by
  rcases Nat.eq_zero_or_pos n with h0 | h0
  · have := h.1
    rw [h0, Nat.zero_mul] at this
    rw [List.eq_nil_of_length_eq_zero this] at hu
    simp at hu
  · obtain ⟨b', off, e, _, hc⟩ := h.2 h0
    rw [hA] at e
    cases e
    rw [addr_add]
    exact hc j u hu
/-- The error of two voices. -/
def vboth (l m : List Ev) : Int := if (checkS l).1 ≠ 0 then (checkS l).1 else (checkS m).1
theorem join_v (l m : List Ev) : joinS l m = if vboth l m ≠ 0 then ([], vboth l m) else if 2000 < l.length + m.length then ([], 11) else chainS (l ++ m) := by
  unfold joinS vboth
  by_cases h : (checkS l).1 = 0
  · rw [h]; rfl
  · simp [h]
section
variable {P : Program} (w : World)
theorem run_append_zero (t ty e : TypeId) (i : TypeInfo) (ht : P.underlying t = some (.slice e)) (hi : P.info? e = some i)
    (A A' : Option Addr) (n c : Nat) (hA : A = none → n = 0) : (Builtin.append_ #[t, t] ty #[.slice A n n, .slice A' 0 c]).run P w = .ok (.slice A n n) w := by
  cases A with
  | none =>
    obtain rfl := hA rfl
    cases A' <;> simp [Builtin.append_, run_underlying ht, sizeOf, typeInfo, hi, Builtin.lenOf, Builtin.firstCells, loadCells, loadCellsFrom]
  | some a => cases A' <;> simp [Builtin.append_, run_underlying ht, sizeOf, typeInfo, hi, Builtin.lenOf, Builtin.firstCells, storeCells, loadCells, loadCellsFrom]
end
theorem slice_hm (a : Option Addr) (len cap n : Nat) (h : n ≤ cap) (W : World) : (Instr.slice 22 (.slice a len cap) none (some (.int .i64 n)) (some (.int .i64 n))).run Try.prog W = .ok (.slice a n n) W := by
  have ht := Try.underlying22
  have hs : (Try.prog.info? 59).map (·.size) = some 10 := by kernel_rfl
  obtain ⟨i, hi, hs⟩ : ∃ i, Try.prog.info? 59 = some i ∧ i.size = 10 := by
    cases hh : Try.prog.info? 59 with
    | none => rw [hh] at hs; cases hs
    | some i => rw [hh] at hs; exact ⟨i, rfl, by simpa using hs⟩
  simp [Instr.slice, run_underlying ht, Instr.sliceBounds, run_sliceBound, sizeOf, typeInfo, hi, h, go_sem]
theorem wpList_append_zero {P : Program} (w : World) {ops : Array Oper} {rest : List Oper} {o : Oper} {a : Act} {Q : Exit → Act → World → Prop} (hgd : o.guard = none) (s x : Operand) (t : TypeId)
    (ho : o.op = .call { callee := .builtin .append, args := #[s, x], argTypes := #[t, t] }) (e : TypeId) (i : TypeInfo) (ht : P.underlying t = some (.slice e)) (hi : P.info? e = some i)
    (A A' : Option Addr) (n c : Nat) (hA : A = none → n = 0) (hs : a.eval s = .slice A n n) (hx : a.eval x = .slice A' 0 c) (h : wpList P ops Q rest (a.put o.dst (.slice A n n)) w) : wpList P ops Q (o :: rest) a w :=
  wpList_plain hgd fun _ hK => by
    have hrun := run_append_zero (P := P) w t o.type e i ht hi A A' n c hA
    unfold Oper.wp execOp
    simp only [ho, resolve, invoke, builtin, Sem.run_bind, Sem.run_pure, Result.andThen_ok, List.map_toArray, List.map_cons, List.map_nil, hs, hx, hrun]
    exact hK _ _ h
set_option maxRecDepth 100000 in
set_option maxHeartbeats 1000000 in
theorem join_any (A A' : Option Addr) (n c n' c' : Nat) (l m : List Ev) (B B' : Nat) (w : World) (h : Reads w B 10 A n (csE l)) (hB : B ≤ w.heap.size) (hn : n ≤ 2500) (h' : Reads w B' 10 A' n' (csE m)) (hB' : B' ≤ w.heap.size) (hn' : n' ≤ 2500) :
    Calls Try.prog 19 #[.slice A n c, .slice A' n' c'] w fun e w' => ∃ A' c', e = .returned (.tuple #[.slice A' (joinS l m).1.length c', .int .i64 (joinS l m).2]) ∧ Reads w' w'.heap.size 10 A' (joinS l m).1.length (csE (joinS l m).1) ∧ Below w.heap.size w w' := by
  have hl := h.evlen
  have hm := h'.evlen
  obtain ⟨i0, hi0, hz0, hz1, hz2⟩ := info_parts event_info
  have hc := valid_any A n c l B w h hB (by omega)
  obtain ⟨y, hy⟩ : ∃ y, y = (checkS l).1 := ⟨_, rfl⟩
  rw [← hy] at hc
  by_cases hz : y = 0
  · subst hz
    have hd := fun (W : World) (hw : Below w.heap.size w W) => valid_any A' n' c' m B' W (h'.below hB' hw) (by have := hw.size; omega) (by omega)
    obtain ⟨z, hz⟩ : ∃ z, z = (checkS m).1 := ⟨_, rfl⟩
    rw [← hz] at hd
    by_cases h0 : z = 0
    · subst h0
      by_cases hbig : 2000 < n + n'
      · have hbig' : (2000 : Int) < (n : Int) + (n' : Int) := by omega
        have E := Lib.hid (show joinS l m = ([], 11) by unfold joinS; rw [← hy, if_neg (fun h => h rfl), ← hz, if_neg (fun h => h rfl), if_pos (by omega)])
        have HD := Lib.hid hd
        clear hy hz hl hm hd
        go_enter Try.func19, Try.ntmps19
        go_wp2_with fail
        refine hc.mono ?_
        rintro e w1 ⟨rfl, hb1⟩
        go_wp2_with fail
        refine (HD.out _ hb1).mono ?_
        rintro e w2 ⟨rfl, hb2⟩
        go_wp2_with fail
        go_ret2
        rw [E.out]
        exact ⟨none, 0, rfl, Reads.none_, below_call hb1 hb2⟩
      · have hbig' : (n : Int) + (n' : Int) ≤ 2000 := by omega
        have E := Lib.hid (show joinS l m = chainS (l ++ m) by unfold joinS; rw [← hy, if_neg (fun h => h rfl), ← hz, if_neg (fun h => h rfl), if_neg (by omega)])
        have HD := Lib.hid hd
        have HLM := Lib.hid (And.intro hl hm)
        clear hy hz hl hm hd
        by_cases hm0 : n' = 0
        · subst hm0
          have hmn : m = [] := List.eq_nil_of_length_eq_zero HLM.out.2
          subst hmn
          rw [List.append_nil] at E
          go_enter Try.func19, Try.ntmps19
          go_wp2_with fail
          refine hc.mono ?_
          rintro e w1 ⟨rfl, hb1⟩
          go_wp2_with fail
          refine (HD.out _ hb1).mono ?_
          rintro e w2 ⟨rfl, hb2⟩
          have k2 := below_call hb1 hb2
          go_wp2_with fail
          refine (cloneE_any A n c l B _ (h.below hB k2) (by have := k2.size; omega) (by omega)).mono ?_
          rintro e w3 ⟨A3, c3, rfl, ho3, hb3⟩
          have k3 := below_call k2 hb3
          have hhm := slice_hm A3 n c3 n ho3.2.2
          go_wp2_with (at_builtin; refine wpList_append_zero _ rfl (.tmp 32) (.tmp 33) _ rfl 59 i0 Try.underlying22 hi0 A3 A' n c' (fun e => ho3.2.1.none_len e) rfl rfl ?_)
          have hfin : Calls Try.prog 45 #[.slice A3 n n] w3 fun e w' => ∃ A' c', e = .returned (.tuple #[.slice A' (chainS l).1.length c', .int .i64 (chainS l).2]) ∧ Reads w' w'.heap.size 10 A' (chainS l).1.length (csE (chainS l).1) ∧ Below w.heap.size w3 w' := by
            rcases ho3.1.2 with ⟨e1, e2⟩ | ⟨g, cap, cur, e1, _⟩
            · cases e1
              exact (chained_any (.slice none 0 0) 0 l w.heap.size w3 (by have h3 := ho3.1; exact ⟨h3.1, .inl ⟨rfl, rfl⟩⟩) (by omega) k3.size).mono fun e w' ⟨a1, a2, a3, a4, a5⟩ => ⟨a1, a2, a3, a4.2.1, a5⟩
            · cases e1
              exact (chained_cap g n c3 n l w2.heap.size w3 ho3.1 (by omega)).mono fun e w' ⟨a1, a2, a3, a4, a5⟩ => ⟨a1, a2, a3, a4, a5.mono k2.size⟩
          refine hfin.mono ?_
          rintro e w4 ⟨A4, c4, rfl, ho4, hb4⟩
          go_wp2_with fail
          go_ret2
          rw [E.out]
          exact ⟨A4, c4, rfl, ho4, k3.trans hb4⟩
        · obtain ⟨b', off', hA', hb', hc'⟩ := h'.2 (by omega)
          subst hA'
          go_enter Try.func19, Try.ntmps19
          go_wp2_with fail
          refine hc.mono ?_
          rintro e w1 ⟨rfl, hb1⟩
          go_wp2_with fail
          refine (HD.out _ hb1).mono ?_
          rintro e w2 ⟨rfl, hb2⟩
          have k2 := below_call hb1 hb2
          go_wp2_with fail
          refine (cloneE_any A n c l B _ (h.below hB k2) (by have := k2.size; omega) (by omega)).mono ?_
          rintro e w3 ⟨A3, c3, rfl, ho3, hb3⟩
          have k3 := below_call k2 hb3
          have hhm := slice_hm A3 n c3 n ho3.2.2
          have hnews : ∀ j u, (csE m)[j]? = some u → w3.cell? ((⟨b', off', none⟩ : Addr).add j) = some u := by
            intro j u hu
            rw [addr_add, k3.cell (by simp only; omega)]
            exact hc' j u hu
          go_wp2_with (at_builtin; (refine wpList_append_grows w3 rfl (.tmp 32) (.tmp 33) _ rfl 59 i0 _ 10 80 Try.underlying22 hi0 hz0 hz1 hz2 rfl (by omega) A3 n n (csE l) rfl (fun e => ⟨ho3.2.1.none_len e, ho3.2.1.none_len e⟩) ho3.2.1.1 (fun b hb j u hj => own_cells ho3.2.1 b hb j u hj) ⟨b', off', none⟩ n' c' (csE m) rfl h'.1 hnews (one_csE m) (by omega) (by simp only [maxLen]; omega) (by omega) ?_); intro v5 w5 hown5 hg5)
          have k5 : Below w.heap.size w w5 := k3.grown hg5 k3.size (fun k hk => by cases hk)
          rw [← csE_append] at hown5
          refine (chained_any v5 _ (l ++ m) w3.heap.size _ hown5 (by omega) (by have := hg5.size; omega)).mono ?_
          rintro e w6 ⟨A6, c6, rfl, ho6, hb6⟩
          go_wp2_with fail
          go_ret2
          rw [E.out]
          exact ⟨A6, c6, rfl, ho6.2.1, k5.trans (hb6.mono k3.size)⟩
    · have hz' : (z != 0) = true := by simpa using h0
      have E := Lib.hid (show joinS l m = ([], z) by unfold joinS; rw [← hy, if_neg (fun h => h rfl), ← hz, if_pos h0])
      have HD := Lib.hid hd
      clear hy hz hl hm hd
      go_enter Try.func19, Try.ntmps19
      go_wp2_with fail
      refine hc.mono ?_
      rintro e w1 ⟨rfl, hb1⟩
      go_wp2_with fail
      refine (HD.out _ hb1).mono ?_
      rintro e w2 ⟨rfl, hb2⟩
      go_wp2_with fail
      go_ret2
      rw [E.out]
      exact ⟨none, 0, rfl, Reads.none_, below_call hb1 hb2⟩
  · have hz' : (y != 0) = true := by simpa using hz
    have E := Lib.hid (show joinS l m = ([], y) by unfold joinS; rw [← hy, if_pos hz])
    clear hy hl hm
    go_enter Try.func19, Try.ntmps19
    go_wp2_with fail
    refine hc.mono ?_
    rintro e w1 ⟨rfl, hb1⟩
    go_wp2_with fail
    go_ret2
    rw [E.out]
    exact ⟨none, 0, rfl, Reads.none_, hb1⟩
set_option maxRecDepth 100000 in
set_option maxHeartbeats 1000000 in
theorem refJoin_any (A A' : Option Addr) (n c n' c' : Nat) (l m : List Ev) (B B' : Nat) (w : World) (h : Reads w B 10 A n (csE l)) (hB : B ≤ w.heap.size) (hn : n ≤ 2500) (h' : Reads w B' 10 A' n' (csE m)) (hB' : B' ≤ w.heap.size) (hn' : n' ≤ 2500) :
    Calls Try.prog 20 #[.slice A n c, .slice A' n' c'] w fun e w' => ∃ A' c', e = .returned (.tuple #[.slice A' (joinS l m).1.length c', .int .i64 (joinS l m).2]) ∧ Reads w' w'.heap.size 10 A' (joinS l m).1.length (csE (joinS l m).1) ∧ Below w.heap.size w w' := by
  have hl := h.evlen
  have hm := h'.evlen
  obtain ⟨i0, hi0, hz0, hz1, hz2⟩ := info_parts event_info
  have hc := refEvCheck_any A n c l B w h hB (by omega)
  obtain ⟨⟨y, yy⟩, hy⟩ : ∃ y, y = checkS l := ⟨_, rfl⟩
  rw [← hy] at hc
  by_cases hz : y = 0
  · subst hz
    have hd := fun (W : World) (hw : Below w.heap.size w W) => refEvCheck_any A' n' c' m B' W (h'.below hB' hw) (by have := hw.size; omega) (by omega)
    obtain ⟨⟨z, zz⟩, hz⟩ : ∃ z, z = checkS m := ⟨_, rfl⟩
    rw [← hz] at hd
    by_cases h0 : z = 0
    · subst h0
      by_cases hbig : 2000 < n + n'
      · have hbig' : (2000 : Int) < (n : Int) + (n' : Int) := by omega
        have E := Lib.hid (show joinS l m = ([], 11) by unfold joinS; rw [← hy, if_neg (fun h => h rfl), ← hz, if_neg (fun h => h rfl), if_pos (by omega)])
        have HD := Lib.hid hd
        clear hy hz hl hm hd
        go_enter Try.func20, Try.ntmps20
        go_wp2_with fail
        refine hc.mono ?_
        rintro e w1 ⟨rfl, hb1⟩
        go_wp2_with fail
        refine (HD.out _ hb1).mono ?_
        rintro e w2 ⟨rfl, hb2⟩
        go_wp2_with fail
        go_ret2
        rw [E.out]
        exact ⟨none, 0, rfl, Reads.none_, below_call hb1 hb2⟩
      · have hbig' : (n : Int) + (n' : Int) ≤ 2000 := by omega
        have E := Lib.hid (show joinS l m = chainS (l ++ m) by unfold joinS; rw [← hy, if_neg (fun h => h rfl), ← hz, if_neg (fun h => h rfl), if_neg (by omega)])
        have HD := Lib.hid hd
        clear hy hz hl hm hd
        go_enter Try.func20, Try.ntmps20
        go_wp2_with fail
        refine hc.mono ?_
        rintro e w1 ⟨rfl, hb1⟩
        go_wp2_with fail
        refine (HD.out _ hb1).mono ?_
        rintro e w2 ⟨rfl, hb2⟩
        have k2 := below_call hb1 hb2
        have tok : True := trivial
        go_wp2_with (first | (at_builtin; have _t := tok; (refine wpList_append_any _ rfl (.tmp 29) (.tmp 30) _ rfl w2.heap.size 59 i0 _ 10 80 Try.underlying22 hi0 hz0 hz1 hz2 rfl (by omega) (.slice (some ⟨w2.heap.size, 0, none⟩) 0 0) 0 [] rfl (lit_row w2) w.heap.size A n c (csE l) rfl ((h.below hB (below_alloc k2 _)).more hB) (one_csE l) (by simp only [maxLen]; omega) (by omega) (by simp) ?_); intro v3 w3 hown3 hg3 hat3; clear tok _t; have k3 : Below w.heap.size w w3 := grown_lit k2 k2.size hg3; simp only [Nat.zero_add, List.nil_append] at hown3) | (at_builtin; (refine wpList_append_any _ rfl (.tmp 31) (.tmp 32) _ rfl w2.heap.size 59 i0 _ 10 80 Try.underlying22 hi0 hz0 hz1 hz2 rfl (by omega) v3 n (csE l) rfl hown3 w.heap.size A' n' c' (csE m) rfl ((h'.below hB' k3).more hB') (one_csE m) (by simp only [maxLen]; omega) (by omega) (by have := hg3.size; simp at this; omega) ?_); intro v5 w5 hown5 hg5 hat5))
        rw [← csE_append] at hown5
        have k5 : Below w.heap.size w w5 := k3.grown hg5 k3.size (fun k hk => by have := (hown3.lt k hk).1; have := k2.size; omega)
        obtain ⟨A5, c5, hv, ho5⟩ := ownE_form hown5
        subst hv
        refine (chain_any A5 _ c5 (l ++ m) _ _ ho5.2.1 (Nat.le_refl _) (by omega)).mono ?_
        rintro e w6 ⟨A6, c6, rfl, ho6, hb6⟩
        go_wp2_with fail
        go_ret2
        rw [E.out]
        exact ⟨A6, c6, rfl, ho6.2.1, below_call k5 hb6⟩
    · have hz' : (z != 0) = true := by simpa using h0
      have E := Lib.hid (show joinS l m = ([], z) by unfold joinS; rw [← hy, if_neg (fun h => h rfl), ← hz, if_pos h0])
      have HD := Lib.hid hd
      clear hy hz hl hm hd
      go_enter Try.func20, Try.ntmps20
      go_wp2_with fail
      refine hc.mono ?_
      rintro e w1 ⟨rfl, hb1⟩
      go_wp2_with fail
      refine (HD.out _ hb1).mono ?_
      rintro e w2 ⟨rfl, hb2⟩
      go_wp2_with fail
      go_ret2
      rw [E.out]
      exact ⟨none, 0, rfl, Reads.none_, below_call hb1 hb2⟩
  · have hz' : (y != 0) = true := by simpa using hz
    have hz'' : (y == 0) = false := by simpa using hz
    have E := Lib.hid (show joinS l m = ([], y) by unfold joinS; rw [← hy, if_pos hz])
    clear hy hl hm
    go_enter Try.func20, Try.ntmps20
    go_wp2_with fail
    refine hc.mono ?_
    rintro e w1 ⟨rfl, hb1⟩
    go_wp2_with fail
    go_ret2
    rw [E.out]
    exact ⟨none, 0, rfl, Reads.none_, hb1⟩
end Go.Proofs.Ytiphacmmglohaaa
