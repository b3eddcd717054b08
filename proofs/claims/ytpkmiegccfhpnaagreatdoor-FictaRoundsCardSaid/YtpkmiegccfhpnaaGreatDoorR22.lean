/- Parts of the proof of LawRounds31: FiRSup, FiRRound, FiROrd. -/
import Derived.Test.YtpkmiegccfhpnaaGreatDoorR21
set_option maxRecDepth 100000
set_option maxHeartbeats 16000000
namespace Go.Proofs.YtpkmiegccfhpnaaGreatDoor
open Go.RowKit
theorem rsup_ok {w : World} {base g n c m c2 : Nat} {A A2 : Option Addr} {l : List (List Ev)} {T O : List Fic} (h : FSt w base g A n c A2 m c2 l T O) (hm : m ≤ 1000000) (hl : SetV l) :
  Calls Tryz.prog 69 #[.pointer (some ⟨g, 0, none⟩)] w fun e w' => AddRet base g A n c A2 m c2 l T (addsL l T (-1) 3 O (supL l)) w e w' := by
 have hLN := h.rV.len
 have hn8 : n ≤ 8 := by have := hl.len; omega
 have HE := Lib.hid (show supS l n = supL l by rw [← hLN]; rfl)
 have HLN := Lib.hid hLN
 have HSL := Lib.hid hl
 have inv0 : RI base g A n c A2 m c2 l T (addsL l T (-1) 3 O (supS l 0)) w w := ⟨h, .refl _, Below.refl _ _⟩
 clear h hl hLN
 go_enter Tryz.func69, Tryz.ntmps69
 go_wp2_with fail
 go_loopg [2, 3, 4, 5, 6, 7, 8, 9, 10] n (fun gh i _ _ _ _ _ _ _ _ wr => ∃ k : Nat, k + gh = n ∧ i = .int .i64 (k : Int) ∧ RI base g A n c A2 m c2 l T (addsL l T (-1) 3 O (supS l k)) w wr)
 case atStart => exact ⟨0, by omega, by simp, inv0⟩
 case round =>
  clear inv0
  obtain ⟨k, hkg, rfl, inv⟩ := hrel
  obtain ⟨g0, lg⟩ := inv.st.cells_
  have wk : IntKind.i64.wrap ((k : Int) + 1) = (k : Int) + 1 := IntWalk.i64_in _ (by omega)
  cases gk with
  | zero =>
   have hk : k = n := by omega
   have d0 : ¬ ((k : Int) < (n : Int)) := by omega
   have HX := Lib.hid ((inv.ret (.tuple #[])).as_ (show addsL l T (-1) 3 O (supL l) = addsL l T (-1) 3 O (supS l k) by rw [hk, HE.out]))
   clear inv hk hkg
   go_wp2
   refine bodyPost_end (results_none rfl _ _ _) rfl ?_
   exact HX.out
  | succ gh =>
   have hkn : k < n := by omega
   have d0 : (k : Int) < (n : Int) := by omega
   obtain ⟨v, hv⟩ := get_some (l := l) (k := k) (by have := HLN.out; omega)
   have hmm := List.mem_of_getElem? hv
   have hv2 := HSL.out.few v hmm
   have HVL := Lib.hid hv
   have HS1 := Lib.hid (show supS l (k + 1) = supS l k ++ supV l k v.length by rw [supS_next, getD_at hv])
   have HP := Lib.hid (HSL.out.pits v hmm)
   obtain ⟨lv, hlv⟩ : ∃ z, z = v.length := ⟨_, rfl⟩
   have HLV := Lib.hid hlv
   have HI := Lib.hid (inv.as_ (show addsL l T (-1) 3 O (supS l k ++ supV l k 1) = _ by rw [supV_start HVL.out, List.append_nil]))
   clear hv hmm hlv inv
   obtain ⟨wo, hwo⟩ : ∃ z, z = wr := ⟨_, rfl⟩
   subst hwo
   go_wp2_with fail
   go_loopg [3, 4, 5, 6, 7, 8, 9, 10] lv (fun g2 x _ _ _ _ _ _ _ wr => ∃ e : Nat, e + g2 = lv + 1 ∧ 1 ≤ e ∧ (e = 1 ∨ e < lv) ∧ x = .int .i64 (e : Int) ∧ RI base g A n c A2 m c2 l T (addsL l T (-1) 3 O (supS l k ++ supV l k e)) w wr)
   case atStart => exact ⟨1, by omega, by omega, .inl rfl, by simp, HI.out⟩
   case round =>
    clear HI g0 lg
    obtain ⟨e, heg, he1, hee, rfl, inv⟩ := hrel
    obtain ⟨g0, lg⟩ := inv.st.cells_
    obtain ⟨bv, ov, A', n', c', hAA, hbv, cv, rv, hn', hvn⟩ := inv.st.rV.voice inv.st.hb (Below.refl _ _) hkn HVL.out
    obtain rfl : n' = lv := by rw [HLV.out]; exact hvn.symm
    have hBr := inv.st.hb
    have we : IntKind.i64.wrap ((e : Int) + 1) = (e : Int) + 1 := IntWalk.i64_in _ (by omega)
    rw [hAA] at g0
    clear hAA
    by_cases hlt : e + 1 < n'
    ·have d1 : (e : Int) + 1 < (n' : Int) := by omega
     obtain ⟨j, hj⟩ : ∃ j, e = j + 1 := ⟨e - 1, by omega⟩
     obtain ⟨x, hx⟩ := get_some (l := v) (k := j) (by omega)
     obtain ⟨y, hy⟩ := get_some (l := v) (k := j + 1) (by omega)
     obtain ⟨z, hz⟩ := get_some (l := v) (k := j + 1 + 1) (by omega)
     obtain ⟨bx, ox, hA', hbx, hcx⟩ := rv.ev hBr (Below.refl _ _) (show j < n' by omega) hx
     obtain ⟨bx', ox', hA'', -, hcy⟩ := rv.ev hBr (Below.refl _ _) (show j + 1 < n' by omega) hy
     rw [hA'] at hA''
     cases hA''
     obtain ⟨bx', ox', hA'', -, hcz⟩ := rv.ev hBr (Below.refl _ _) (show j + 1 + 1 < n' by omega) hz
     rw [hA'] at hA''
     cases hA''
     obtain ⟨mm, hmm⟩ : ∃ m, m = j + 1 + 1 := ⟨_, rfl⟩
     rw [← hmm] at hcz
     rw [← hj] at hcy
     have a1 : (e : Int) - 1 = (j : Int) := by omega
     have a2 : (e : Int) + 1 = (mm : Int) := by omega
     have a3 : IntKind.i64.wrap (j : Int) = (j : Int) := IntWalk.i64_in _ (by omega)
     have a4 : IntKind.i64.wrap (mm : Int) = (mm : Int) := IntWalk.i64_in _ (by omega)
     have l1 : (j : Int) < (n' : Int) := by omega
     have l2 : (e : Int) < (n' : Int) := by omega
     have l3 : (mm : Int) < (n' : Int) := by omega
     have n1 : j < n' := by omega
     have n2 : e < n' := by omega
     have n3 : mm < n' := by omega
     subst hA'
     have E := Lib.hid (supP_some HVL.out hx hy hz)
     have hpx := HP.out x (List.mem_of_getElem? hx)
     have hpy := HP.out y (List.mem_of_getElem? hy)
     have hye := Lib.hid (evA_nat HVL.out hy)
     rw [← hj] at E hye
     have HN := Lib.hid (show supV l k (e + 1) = supV l k e ++ supP l k e from supV_next l k e)
     obtain ⟨X0, X1, X2, X3, X4, X5, X6, X7, X8, X9⟩ := ten hcx
     obtain ⟨Y0, Y1, Y2, Y3, Y4, Y5, Y6, Y7, Y8, Y9⟩ := ten hcy
     obtain ⟨Z0, Z1, Z2, Z3, Z4, Z5, Z6, Z7, Z8, Z9⟩ := ten hcz
     obtain ⟨⟨x0, x1⟩, ⟨x2, x3⟩, ⟨x4, x5, x6⟩, rx, x8, x9⟩ := x
     obtain ⟨⟨y0, y1⟩, ⟨y2, y3⟩, ⟨y4, y5, y6⟩, ry, y8, y9⟩ := y
     obtain ⟨⟨z0, z1⟩, ⟨z2, z3⟩, ⟨z4, z5, z6⟩, rz, z8, z9⟩ := z
     simp only at X0 X1 X2 X3 X4 X5 X6 X7 X8 X9 Y0 Y1 Y2 Y3 Y4 Y5 Y6 Y7 Y8 Y9 Z0 Z1 Z2 Z3 Z4 Z5 Z6 Z7 Z8 Z9 hpx hpy
     have HJ := Lib.hid (And.intro hj hmm)
     clear hx hy hz hcx hcy hcz hj hmm rv hvn hn' hee he1
     go_wp2_with fail
     apply share
     ·intro main
      refine wp_region_held (S := fun w' => Below wr.heap.size wr w') (by kernel_rfl) ?_
      have hHeld : Below wr.heap.size wr wr.drew := (Below.refl _ _).drew
      show wpAnyH _ _ _ _ _ _ _ _ wr.drew
      refine wpAnyH_take (i := 0) (oi := _) (v := ?_) rfl (by kernel_rfl) (by kernel_rfl) (by kernel_rfl) (fun _ _ _ h => h) (Or.inl ⟨by rfl, ?_⟩) hHeld ?_
      rotate_left 1
      ·(intro w s; (try dsimp only at s); have r1 := fun o => s.cell (p := ⟨bx, o, none⟩) hbx; have r2 := s.cell (p := ⟨bv, ov + k, none⟩) hbv; have r3 := s.cell (p := ⟨g, 0, none⟩) lg; have r4 : bx < w.heap.size := Nat.lt_of_lt_of_le hbx s.size; have r5 : bv < w.heap.size := Nat.lt_of_lt_of_le hbv s.size; have r6 : g < w.heap.size := Nat.lt_of_lt_of_le lg s.size; go_simp; try with_reducible rfl)
      simp only [Act.put]
      refine wpAnyH_take (i := 1) (oi := _) (v := ?_) rfl (by kernel_rfl) (by kernel_rfl) (by kernel_rfl) (fun _ _ _ h => h) (Or.inl ⟨by rfl, ?_⟩) hHeld ?_
      rotate_left 1
      ·(intro w s; (try dsimp only at s); have r1 := fun o => s.cell (p := ⟨bx, o, none⟩) hbx; have r2 := s.cell (p := ⟨bv, ov + k, none⟩) hbv; have r3 := s.cell (p := ⟨g, 0, none⟩) lg; have r4 : bx < w.heap.size := Nat.lt_of_lt_of_le hbx s.size; have r5 : bv < w.heap.size := Nat.lt_of_lt_of_le hbv s.size; have r6 : g < w.heap.size := Nat.lt_of_lt_of_le lg s.size; go_simp; try with_reducible rfl)
      simp only [Act.put]
      refine wpAnyH_take (i := 2) (oi := _) (v := ?_) rfl (by kernel_rfl) (by kernel_rfl) (by kernel_rfl) (fun _ _ _ h => h) (Or.inl ⟨by rfl, ?_⟩) hHeld ?_
      rotate_left 1
      ·(intro w s; (try dsimp only at s); have r1 := fun o => s.cell (p := ⟨bx, o, none⟩) hbx; have r2 := s.cell (p := ⟨bv, ov + k, none⟩) hbv; have r3 := s.cell (p := ⟨g, 0, none⟩) lg; have r4 : bx < w.heap.size := Nat.lt_of_lt_of_le hbx s.size; have r5 : bv < w.heap.size := Nat.lt_of_lt_of_le hbv s.size; have r6 : g < w.heap.size := Nat.lt_of_lt_of_le lg s.size; go_simp; try with_reducible rfl)
      simp only [Act.put]
      refine wpAnyH_take (i := 3) (oi := _) (v := ?_) rfl (by kernel_rfl) (by kernel_rfl) (by kernel_rfl) (fun _ _ _ h => h) (Or.inl ⟨by rfl, ?_⟩) hHeld ?_
      rotate_left 1
      ·(intro w s; (try dsimp only at s); have r1 := fun o => s.cell (p := ⟨bx, o, none⟩) hbx; have r2 := s.cell (p := ⟨bv, ov + k, none⟩) hbv; have r3 := s.cell (p := ⟨g, 0, none⟩) lg; have r4 : bx < w.heap.size := Nat.lt_of_lt_of_le hbx s.size; have r5 : bv < w.heap.size := Nat.lt_of_lt_of_le hbv s.size; have r6 : g < w.heap.size := Nat.lt_of_lt_of_le lg s.size; go_simp; try with_reducible rfl)
      simp only [Act.put]
      refine wpAnyH_take (i := 4) (oi := _) (v := ?_) rfl (by kernel_rfl) (by kernel_rfl) (by kernel_rfl) (fun _ _ _ h => h) (Or.inl ⟨by rfl, ?_⟩) hHeld ?_
      rotate_left 1
      ·(intro w s; (try dsimp only at s); have r1 := fun o => s.cell (p := ⟨bx, o, none⟩) hbx; have r2 := s.cell (p := ⟨bv, ov + k, none⟩) hbv; have r3 := s.cell (p := ⟨g, 0, none⟩) lg; have r4 : bx < w.heap.size := Nat.lt_of_lt_of_le hbx s.size; have r5 : bv < w.heap.size := Nat.lt_of_lt_of_le hbv s.size; have r6 : g < w.heap.size := Nat.lt_of_lt_of_le lg s.size; go_simp; try with_reducible rfl)
      simp only [Act.put]
      refine wpAnyH_take (i := 5) (oi := _) (v := ?_) rfl (by kernel_rfl) (by kernel_rfl) (by kernel_rfl) (fun _ _ _ h => h) (Or.inl ⟨by rfl, ?_⟩) hHeld ?_
      rotate_left 1
      ·(intro w s; (try dsimp only at s); have r1 := fun o => s.cell (p := ⟨bx, o, none⟩) hbx; have r2 := s.cell (p := ⟨bv, ov + k, none⟩) hbv; have r3 := s.cell (p := ⟨g, 0, none⟩) lg; have r4 : bx < w.heap.size := Nat.lt_of_lt_of_le hbx s.size; have r5 : bv < w.heap.size := Nat.lt_of_lt_of_le hbv s.size; have r6 : g < w.heap.size := Nat.lt_of_lt_of_le lg s.size; go_simp; try with_reducible rfl)
      simp only [Act.put]
      refine wpAnyH_take (i := 6) (oi := _) (v := ?_) rfl (by kernel_rfl) (by kernel_rfl) (by kernel_rfl) (fun _ _ _ h => h) (Or.inl ⟨by rfl, ?_⟩) hHeld ?_
      rotate_left 1
      ·(intro w s; (try dsimp only at s); have r1 := fun o => s.cell (p := ⟨bx, o, none⟩) hbx; have r2 := s.cell (p := ⟨bv, ov + k, none⟩) hbv; have r3 := s.cell (p := ⟨g, 0, none⟩) lg; have r4 : bx < w.heap.size := Nat.lt_of_lt_of_le hbx s.size; have r5 : bv < w.heap.size := Nat.lt_of_lt_of_le hbv s.size; have r6 : g < w.heap.size := Nat.lt_of_lt_of_le lg s.size; go_simp; try with_reducible rfl)
      simp only [Act.put]
      refine wpAnyH_take (i := 7) (oi := _) (v := ?_) rfl (by kernel_rfl) (by kernel_rfl) (by kernel_rfl) (fun _ _ _ h => h) (Or.inl ⟨by rfl, ?_⟩) hHeld ?_
      rotate_left 1
      ·(intro w s; (try dsimp only at s); have r1 := fun o => s.cell (p := ⟨bx, o, none⟩) hbx; have r2 := s.cell (p := ⟨bv, ov + k, none⟩) hbv; have r3 := s.cell (p := ⟨g, 0, none⟩) lg; have r4 : bx < w.heap.size := Nat.lt_of_lt_of_le hbx s.size; have r5 : bv < w.heap.size := Nat.lt_of_lt_of_le hbv s.size; have r6 : g < w.heap.size := Nat.lt_of_lt_of_le lg s.size; go_simp; try with_reducible rfl)
      simp only [Act.put]
      refine wpAnyH_take (i := 8) (oi := _) (v := ?_) rfl (by kernel_rfl) (by kernel_rfl) (by kernel_rfl) (fun _ _ _ h => h) (Or.inl ⟨by rfl, ?_⟩) hHeld ?_
      rotate_left 1
      ·(intro w s; (try dsimp only at s); have r1 := fun o => s.cell (p := ⟨bx, o, none⟩) hbx; have r2 := s.cell (p := ⟨bv, ov + k, none⟩) hbv; have r3 := s.cell (p := ⟨g, 0, none⟩) lg; have r4 : bx < w.heap.size := Nat.lt_of_lt_of_le hbx s.size; have r5 : bv < w.heap.size := Nat.lt_of_lt_of_le hbv s.size; have r6 : g < w.heap.size := Nat.lt_of_lt_of_le lg s.size; go_simp; try with_reducible rfl)
      simp only [Act.put]
      refine wpAnyH_take (i := 9) (oi := _) (v := ?_) rfl (by kernel_rfl) (by kernel_rfl) (by kernel_rfl) (fun _ _ _ h => h) (Or.inl ⟨by rfl, ?_⟩) hHeld ?_
      rotate_left 1
      ·(intro w s; (try dsimp only at s); have r1 := fun o => s.cell (p := ⟨bx, o, none⟩) hbx; have r2 := s.cell (p := ⟨bv, ov + k, none⟩) hbv; have r3 := s.cell (p := ⟨g, 0, none⟩) lg; have r4 : bx < w.heap.size := Nat.lt_of_lt_of_le hbx s.size; have r5 : bv < w.heap.size := Nat.lt_of_lt_of_le hbv s.size; have r6 : g < w.heap.size := Nat.lt_of_lt_of_le lg s.size; go_simp; try with_reducible rfl)
      simp only [Act.put]
      refine wpAnyH_take (i := 10) (oi := _) (v := ?_) rfl (by kernel_rfl) (by kernel_rfl) (by kernel_rfl) (fun _ _ _ h => h) (Or.inl ⟨by rfl, ?_⟩) hHeld ?_
      rotate_left 1
      ·(intro w s; (try dsimp only at s); have r1 := fun o => s.cell (p := ⟨bx, o, none⟩) hbx; have r2 := s.cell (p := ⟨bv, ov + k, none⟩) hbv; have r3 := s.cell (p := ⟨g, 0, none⟩) lg; have r4 : bx < w.heap.size := Nat.lt_of_lt_of_le hbx s.size; have r5 : bv < w.heap.size := Nat.lt_of_lt_of_le hbv s.size; have r6 : g < w.heap.size := Nat.lt_of_lt_of_le lg s.size; go_simp; try with_reducible rfl)
      simp only [Act.put]
      refine wpAnyH_take (i := 11) (oi := _) (v := ?_) rfl (by kernel_rfl) (by kernel_rfl) (by kernel_rfl) (fun _ _ _ h => h) (Or.inl ⟨by rfl, ?_⟩) hHeld ?_
      rotate_left 1
      ·(intro w s; (try dsimp only at s); have r1 := fun o => s.cell (p := ⟨bx, o, none⟩) hbx; have r2 := s.cell (p := ⟨bv, ov + k, none⟩) hbv; have r3 := s.cell (p := ⟨g, 0, none⟩) lg; have r4 : bx < w.heap.size := Nat.lt_of_lt_of_le hbx s.size; have r5 : bv < w.heap.size := Nat.lt_of_lt_of_le hbv s.size; have r6 : g < w.heap.size := Nat.lt_of_lt_of_le lg s.size; go_simp; try with_reducible rfl)
      simp only [Act.put]
      refine wpAnyH_take (i := 12) (oi := _) (v := ?_) rfl (by kernel_rfl) (by kernel_rfl) (by kernel_rfl) (fun _ _ _ h => h) (Or.inl ⟨by rfl, ?_⟩) hHeld ?_
      rotate_left 1
      ·(intro w s; (try dsimp only at s); have r1 := fun o => s.cell (p := ⟨bx, o, none⟩) hbx; have r2 := s.cell (p := ⟨bv, ov + k, none⟩) hbv; have r3 := s.cell (p := ⟨g, 0, none⟩) lg; have r4 : bx < w.heap.size := Nat.lt_of_lt_of_le hbx s.size; have r5 : bv < w.heap.size := Nat.lt_of_lt_of_le hbv s.size; have r6 : g < w.heap.size := Nat.lt_of_lt_of_le lg s.size; go_simp; try with_reducible rfl)
      simp only [Act.put]
      refine wpAnyH_take (i := 13) (oi := _) (v := ?_) rfl (by kernel_rfl) (by kernel_rfl) (by kernel_rfl) (fun _ _ _ h => h) (Or.inl ⟨by rfl, ?_⟩) hHeld ?_
      rotate_left 1
      ·(intro w s; (try dsimp only at s); have r1 := fun o => s.cell (p := ⟨bx, o, none⟩) hbx; have r2 := s.cell (p := ⟨bv, ov + k, none⟩) hbv; have r3 := s.cell (p := ⟨g, 0, none⟩) lg; have r4 : bx < w.heap.size := Nat.lt_of_lt_of_le hbx s.size; have r5 : bv < w.heap.size := Nat.lt_of_lt_of_le hbv s.size; have r6 : g < w.heap.size := Nat.lt_of_lt_of_le lg s.size; go_simp; try with_reducible rfl)
      simp only [Act.put]
      refine wpAnyH_take (i := 14) (oi := _) (v := ?_) rfl (by kernel_rfl) (by kernel_rfl) (by kernel_rfl) (fun _ _ _ h => h) (Or.inl ⟨by rfl, ?_⟩) hHeld ?_
      rotate_left 1
      ·(intro w s; (try dsimp only at s); have r1 := fun o => s.cell (p := ⟨bx, o, none⟩) hbx; have r2 := s.cell (p := ⟨bv, ov + k, none⟩) hbv; have r3 := s.cell (p := ⟨g, 0, none⟩) lg; have r4 : bx < w.heap.size := Nat.lt_of_lt_of_le hbx s.size; have r5 : bv < w.heap.size := Nat.lt_of_lt_of_le hbv s.size; have r6 : g < w.heap.size := Nat.lt_of_lt_of_le lg s.size; go_simp; try with_reducible rfl)
      simp only [Act.put]
      refine wpAnyH_take (i := 15) (oi := _) (v := ?_) rfl (by kernel_rfl) (by kernel_rfl) (by kernel_rfl) (fun _ _ _ h => h) (Or.inl ⟨by rfl, ?_⟩) hHeld ?_
      rotate_left 1
      ·(intro w s; (try dsimp only at s); have r1 := fun o => s.cell (p := ⟨bx, o, none⟩) hbx; have r2 := s.cell (p := ⟨bv, ov + k, none⟩) hbv; have r3 := s.cell (p := ⟨g, 0, none⟩) lg; have r4 : bx < w.heap.size := Nat.lt_of_lt_of_le hbx s.size; have r5 : bv < w.heap.size := Nat.lt_of_lt_of_le hbv s.size; have r6 : g < w.heap.size := Nat.lt_of_lt_of_le lg s.size; go_simp; try with_reducible rfl)
      simp only [Act.put]
      refine wpAnyH_take (i := 16) (oi := _) (v := ?_) rfl (by kernel_rfl) (by kernel_rfl) (by kernel_rfl) (fun _ _ _ h => h) (Or.inl ⟨by rfl, ?_⟩) hHeld ?_
      rotate_left 1
      ·(intro w s; (try dsimp only at s); have r1 := fun o => s.cell (p := ⟨bx, o, none⟩) hbx; have r2 := s.cell (p := ⟨bv, ov + k, none⟩) hbv; have r3 := s.cell (p := ⟨g, 0, none⟩) lg; have r4 : bx < w.heap.size := Nat.lt_of_lt_of_le hbx s.size; have r5 : bv < w.heap.size := Nat.lt_of_lt_of_le hbv s.size; have r6 : g < w.heap.size := Nat.lt_of_lt_of_le lg s.size; go_simp; try with_reducible rfl)
      simp only [Act.put]
      refine wpAnyH_take (i := 17) (oi := _) (v := ?_) rfl (by kernel_rfl) (by kernel_rfl) (by kernel_rfl) (fun _ _ _ h => h) (Or.inl ⟨by rfl, ?_⟩) hHeld ?_
      rotate_left 1
      ·(intro w s; (try dsimp only at s); have r1 := fun o => s.cell (p := ⟨bx, o, none⟩) hbx; have r2 := s.cell (p := ⟨bv, ov + k, none⟩) hbv; have r3 := s.cell (p := ⟨g, 0, none⟩) lg; have r4 : bx < w.heap.size := Nat.lt_of_lt_of_le hbx s.size; have r5 : bv < w.heap.size := Nat.lt_of_lt_of_le hbv s.size; have r6 : g < w.heap.size := Nat.lt_of_lt_of_le lg s.size; go_simp; try with_reducible rfl)
      simp only [Act.put]
      refine wpAnyH_take (i := 18) (oi := _) (v := ?_) rfl (by kernel_rfl) (by kernel_rfl) (by kernel_rfl) (fun _ _ _ h => h) (Or.inl ⟨by rfl, ?_⟩) hHeld ?_
      rotate_left 1
      ·(intro w s; (try dsimp only at s); have r1 := fun o => s.cell (p := ⟨bx, o, none⟩) hbx; have r2 := s.cell (p := ⟨bv, ov + k, none⟩) hbv; have r3 := s.cell (p := ⟨g, 0, none⟩) lg; have r4 : bx < w.heap.size := Nat.lt_of_lt_of_le hbx s.size; have r5 : bv < w.heap.size := Nat.lt_of_lt_of_le hbv s.size; have r6 : g < w.heap.size := Nat.lt_of_lt_of_le lg s.size; go_simp; try with_reducible rfl)
      simp only [Act.put]
      refine wpAnyH_take (i := 19) (oi := _) (v := ?_) rfl (by kernel_rfl) (by kernel_rfl) (by kernel_rfl) (fun _ _ _ h => h) (Or.inl ⟨by rfl, ?_⟩) hHeld ?_
      rotate_left 1
      ·(intro w s; (try dsimp only at s); have r1 := fun o => s.cell (p := ⟨bx, o, none⟩) hbx; have r2 := s.cell (p := ⟨bv, ov + k, none⟩) hbv; have r3 := s.cell (p := ⟨g, 0, none⟩) lg; have r4 : bx < w.heap.size := Nat.lt_of_lt_of_le hbx s.size; have r5 : bv < w.heap.size := Nat.lt_of_lt_of_le hbv s.size; have r6 : g < w.heap.size := Nat.lt_of_lt_of_le lg s.size; go_simp; try with_reducible rfl)
      simp only [Act.put]
      refine wpAnyH_take (i := 20) (oi := _) (v := ?_) rfl (by kernel_rfl) (by kernel_rfl) (by kernel_rfl) (fun _ _ _ h => h) (Or.inl ⟨by rfl, ?_⟩) hHeld ?_
      rotate_left 1
      ·(intro w s; (try dsimp only at s); have r1 := fun o => s.cell (p := ⟨bx, o, none⟩) hbx; have r2 := s.cell (p := ⟨bv, ov + k, none⟩) hbv; have r3 := s.cell (p := ⟨g, 0, none⟩) lg; have r4 : bx < w.heap.size := Nat.lt_of_lt_of_le hbx s.size; have r5 : bv < w.heap.size := Nat.lt_of_lt_of_le hbv s.size; have r6 : g < w.heap.size := Nat.lt_of_lt_of_le lg s.size; go_simp; try with_reducible rfl)
      simp only [Act.put]
      refine wpAnyH_take (i := 21) (oi := _) (v := ?_) rfl (by kernel_rfl) (by kernel_rfl) (by kernel_rfl) (fun _ _ _ h => h) (Or.inl ⟨by rfl, ?_⟩) hHeld ?_
      rotate_left 1
      ·(intro w s; (try dsimp only at s); have r1 := fun o => s.cell (p := ⟨bx, o, none⟩) hbx; have r2 := s.cell (p := ⟨bv, ov + k, none⟩) hbv; have r3 := s.cell (p := ⟨g, 0, none⟩) lg; have r4 : bx < w.heap.size := Nat.lt_of_lt_of_le hbx s.size; have r5 : bv < w.heap.size := Nat.lt_of_lt_of_le hbv s.size; have r6 : g < w.heap.size := Nat.lt_of_lt_of_le lg s.size; go_simp; try with_reducible rfl)
      simp only [Act.put]
      refine wpAnyH_take (i := 22) (oi := _) (v := ?_) rfl (by kernel_rfl) (by kernel_rfl) (by kernel_rfl) (fun _ _ _ h => h) (Or.inl ⟨by rfl, ?_⟩) hHeld ?_
      rotate_left 1
      ·(intro w s; (try dsimp only at s); have r1 := fun o => s.cell (p := ⟨bx, o, none⟩) hbx; have r2 := s.cell (p := ⟨bv, ov + k, none⟩) hbv; have r3 := s.cell (p := ⟨g, 0, none⟩) lg; have r4 : bx < w.heap.size := Nat.lt_of_lt_of_le hbx s.size; have r5 : bv < w.heap.size := Nat.lt_of_lt_of_le hbv s.size; have r6 : g < w.heap.size := Nat.lt_of_lt_of_le lg s.size; go_simp; try with_reducible rfl)
      simp only [Act.put]
      refine wpAnyH_take (i := 23) (oi := _) (v := ?_) rfl (by kernel_rfl) (by kernel_rfl) (by kernel_rfl) (fun _ _ _ h => h) (Or.inl ⟨by rfl, ?_⟩) hHeld ?_
      rotate_left 1
      ·(intro w s; (try dsimp only at s); have r1 := fun o => s.cell (p := ⟨bx, o, none⟩) hbx; have r2 := s.cell (p := ⟨bv, ov + k, none⟩) hbv; have r3 := s.cell (p := ⟨g, 0, none⟩) lg; have r4 : bx < w.heap.size := Nat.lt_of_lt_of_le hbx s.size; have r5 : bv < w.heap.size := Nat.lt_of_lt_of_le hbv s.size; have r6 : g < w.heap.size := Nat.lt_of_lt_of_le lg s.size; go_simp; try with_reducible rfl)
      simp only [Act.put]
      refine wpAnyH_take (i := 24) (oi := _) (v := ?_) rfl (by kernel_rfl) (by kernel_rfl) (by kernel_rfl) (fun _ _ _ h => h) (Or.inl ⟨by rfl, ?_⟩) hHeld ?_
      rotate_left 1
      ·(intro w s; (try dsimp only at s); have r1 := fun o => s.cell (p := ⟨bx, o, none⟩) hbx; have r2 := s.cell (p := ⟨bv, ov + k, none⟩) hbv; have r3 := s.cell (p := ⟨g, 0, none⟩) lg; have r4 : bx < w.heap.size := Nat.lt_of_lt_of_le hbx s.size; have r5 : bv < w.heap.size := Nat.lt_of_lt_of_le hbv s.size; have r6 : g < w.heap.size := Nat.lt_of_lt_of_le lg s.size; go_simp; try with_reducible rfl)
      simp only [Act.put]
      refine wpAnyH_take (i := 25) (oi := _) (v := ?_) rfl (by kernel_rfl) (by kernel_rfl) (by kernel_rfl) (fun _ _ _ h => h) (Or.inl ⟨by rfl, ?_⟩) hHeld ?_
      rotate_left 1
      ·(intro w s; (try dsimp only at s); have r1 := fun o => s.cell (p := ⟨bx, o, none⟩) hbx; have r2 := s.cell (p := ⟨bv, ov + k, none⟩) hbv; have r3 := s.cell (p := ⟨g, 0, none⟩) lg; have r4 : bx < w.heap.size := Nat.lt_of_lt_of_le hbx s.size; have r5 : bv < w.heap.size := Nat.lt_of_lt_of_le hbv s.size; have r6 : g < w.heap.size := Nat.lt_of_lt_of_le lg s.size; go_simp; try with_reducible rfl)
      simp only [Act.put]
      refine wpAnyH_take (i := 26) (oi := _) (v := ?_) rfl (by kernel_rfl) (by kernel_rfl) (by kernel_rfl) (fun _ _ _ h => h) (Or.inl ⟨by rfl, ?_⟩) hHeld ?_
      rotate_left 1
      ·(intro w s; (try dsimp only at s); have r1 := fun o => s.cell (p := ⟨bx, o, none⟩) hbx; have r2 := s.cell (p := ⟨bv, ov + k, none⟩) hbv; have r3 := s.cell (p := ⟨g, 0, none⟩) lg; have r4 : bx < w.heap.size := Nat.lt_of_lt_of_le hbx s.size; have r5 : bv < w.heap.size := Nat.lt_of_lt_of_le hbv s.size; have r6 : g < w.heap.size := Nat.lt_of_lt_of_le lg s.size; go_simp; try with_reducible rfl)
      simp only [Act.put]
      refine wpAnyH_take (i := 27) (oi := _) (v := ?_) rfl (by kernel_rfl) (by kernel_rfl) (by kernel_rfl) (fun _ _ _ h => h) (Or.inl ⟨by rfl, ?_⟩) hHeld ?_
      rotate_left 1
      ·(intro w s; (try dsimp only at s); have r1 := fun o => s.cell (p := ⟨bx, o, none⟩) hbx; have r2 := s.cell (p := ⟨bv, ov + k, none⟩) hbv; have r3 := s.cell (p := ⟨g, 0, none⟩) lg; have r4 : bx < w.heap.size := Nat.lt_of_lt_of_le hbx s.size; have r5 : bv < w.heap.size := Nat.lt_of_lt_of_le hbv s.size; have r6 : g < w.heap.size := Nat.lt_of_lt_of_le lg s.size; go_simp; try with_reducible rfl)
      simp only [Act.put]
      refine wpAnyH_take (i := 28) (oi := _) (v := ?_) rfl (by kernel_rfl) (by kernel_rfl) (by kernel_rfl) (fun _ _ _ h => h) (Or.inl ⟨by rfl, ?_⟩) hHeld ?_
      rotate_left 1
      ·(intro w s; (try dsimp only at s); have r1 := fun o => s.cell (p := ⟨bx, o, none⟩) hbx; have r2 := s.cell (p := ⟨bv, ov + k, none⟩) hbv; have r3 := s.cell (p := ⟨g, 0, none⟩) lg; have r4 : bx < w.heap.size := Nat.lt_of_lt_of_le hbx s.size; have r5 : bv < w.heap.size := Nat.lt_of_lt_of_le hbv s.size; have r6 : g < w.heap.size := Nat.lt_of_lt_of_le lg s.size; go_simp; try with_reducible rfl)
      simp only [Act.put]
      refine wpAnyH_take (i := 29) (oi := _) (v := ?_) rfl (by kernel_rfl) (by kernel_rfl) (by kernel_rfl) (fun _ _ _ h => h) (Or.inl ⟨by rfl, ?_⟩) hHeld ?_
      rotate_left 1
      ·(intro w s; (try dsimp only at s); have r1 := fun o => s.cell (p := ⟨bx, o, none⟩) hbx; have r2 := s.cell (p := ⟨bv, ov + k, none⟩) hbv; have r3 := s.cell (p := ⟨g, 0, none⟩) lg; have r4 : bx < w.heap.size := Nat.lt_of_lt_of_le hbx s.size; have r5 : bv < w.heap.size := Nat.lt_of_lt_of_le hbv s.size; have r6 : g < w.heap.size := Nat.lt_of_lt_of_le lg s.size; go_simp; try with_reducible rfl)
      simp only [Act.put]
      refine wpAnyH_take (i := 30) (oi := _) (v := ?_) rfl (by kernel_rfl) (by kernel_rfl) (by kernel_rfl) (fun _ _ _ h => h) (Or.inl ⟨by rfl, ?_⟩) hHeld ?_
      rotate_left 1
      ·(intro w s; (try dsimp only at s); have r1 := fun o => s.cell (p := ⟨bx, o, none⟩) hbx; have r2 := s.cell (p := ⟨bv, ov + k, none⟩) hbv; have r3 := s.cell (p := ⟨g, 0, none⟩) lg; have r4 : bx < w.heap.size := Nat.lt_of_lt_of_le hbx s.size; have r5 : bv < w.heap.size := Nat.lt_of_lt_of_le hbv s.size; have r6 : g < w.heap.size := Nat.lt_of_lt_of_le lg s.size; go_simp; try with_reducible rfl)
      simp only [Act.put]
      refine wpAnyH_take (i := 31) (oi := _) (v := ?_) rfl (by kernel_rfl) (by kernel_rfl) (by kernel_rfl) (fun _ _ _ h => h) (Or.inl ⟨by rfl, ?_⟩) hHeld ?_
      rotate_left 1
      ·(intro w s; (try dsimp only at s); have r1 := fun o => s.cell (p := ⟨bx, o, none⟩) hbx; have r2 := s.cell (p := ⟨bv, ov + k, none⟩) hbv; have r3 := s.cell (p := ⟨g, 0, none⟩) lg; have r4 : bx < w.heap.size := Nat.lt_of_lt_of_le hbx s.size; have r5 : bv < w.heap.size := Nat.lt_of_lt_of_le hbv s.size; have r6 : g < w.heap.size := Nat.lt_of_lt_of_le lg s.size; go_simp; try with_reducible rfl)
      simp only [Act.put]
      refine wpAnyH_ready (rs := [32,33,34]) (by kernel_rfl) (by simp) ?_
      refine AllReadyH.cons (o := _) rfl (fun K hK => ?_) (AllReadyH.cons (o := _) rfl (fun K hK => ?_) (AllReadyH.cons (o := _) rfl (fun K hK => ?_) (AllReadyH.nil)))
      ·rw [if_pos (by rfl)]
       go_simp
       refine hK.out _ _ (below_alloc (Below.refl _ _).drew _) (fun _ => ?_)
       clear hK
       refine wpAnyH_ready (rs := [33,34]) (by kernel_rfl) (by simp) ?_
       refine AllReadyH.cons (o := _) rfl (fun K hK => ?_) (AllReadyH.cons (o := _) rfl (fun K hK => ?_) (AllReadyH.nil))
       ·rw [if_pos (by rfl)]
        go_simp
        refine hK.out _ _ (below_alloc (below_alloc (Below.refl _ _).drew _) _) (fun _ => ?_)
        clear hK
        refine wpAnyH_ready (rs := [34]) (by kernel_rfl) (by simp) ?_
        refine AllReadyH.cons (o := _) rfl (fun K hK => ?_) (AllReadyH.nil)
        ·rw [if_pos (by rfl)]
         go_simp
         refine hK.out _ _ (below_alloc (below_alloc (below_alloc (Below.refl _ _).drew _) _) _) (fun _ => ?_)
         clear hK
         refine wpAnyH_ready (rs := [35]) (by kernel_rfl) (by simp) ?_
         refine AllReadyH.cons (o := _) rfl (fun K hK => ?_) AllReadyH.nil
         rw [if_pos (by rfl)]
         go_simp
         refine hK.out _ _ (below_alloc (below_alloc (below_alloc (Below.refl _ _).drew _) _) _) (fun _ => ?_)
         clear hK
         refine wpAnyH_ready (rs := [36]) (by kernel_rfl) (by simp) ?_
         refine AllReadyH.cons (o := _) rfl (fun K hK => ?_) AllReadyH.nil
         rw [if_pos (by rfl)]
         go_simp
         refine hK.out _ _ (below_alloc (below_alloc (below_alloc (Below.refl _ _).drew _) _) _) (fun _ => ?_)
         clear hK
         refine wpAnyH_ready (rs := [37]) (by kernel_rfl) (by simp) ?_
         refine AllReadyH.cons (o := _) rfl (fun K hK => ?_) AllReadyH.nil
         rw [if_pos (by rfl)]
         go_simp
         refine hK.out _ _ (below_alloc (below_alloc (below_alloc (Below.refl _ _).drew _) _) _) (fun _ => ?_)
         clear hK
         refine wpAnyH_done (by kernel_rfl) ?_ _
         have e1 : wr.drew.heap.size = wr.heap.size := rfl
         obtain ⟨w6, hw6⟩ : ∃ z, z = (((wr.alloc (.cells #[.int .i64 x0, .int .i64 x1, .int .i64 x2, .int .i64 x3, .int .i64 x4, .int .i64 x5, .int .i64 x6, .bool rx, .int .i64 x8, .int .i64 x9] 49)).alloc (.cells #[.int .i64 y0, .int .i64 y1, .int .i64 y2, .int .i64 y3, .int .i64 y4, .int .i64 y5, .int .i64 y6, .bool ry, .int .i64 y8, .int .i64 y9] 49)).alloc (.cells #[.int .i64 z0, .int .i64 z1, .int .i64 z2, .int .i64 z3, .int .i64 z4, .int .i64 z5, .int .i64 z6, .bool rz, .int .i64 z8, .int .i64 z9] 49)).drew := ⟨_, rfl⟩
         rw [← hw6]
         obtain ⟨BX, BY, BZ, hB6⟩ := trip_blk hw6
         obtain ⟨gZ, hgZ⟩ : ∃ z, z = wr.heap.size + 1 + 1 := ⟨_, rfl⟩
         have lZ : wr.heap.size ≤ gZ := by omega
         rw [← hgZ] at BZ ⊢
         obtain ⟨gY, hgY⟩ : ∃ z, z = wr.heap.size + 1 := ⟨_, rfl⟩
         have lY : wr.heap.size ≤ gY := by omega
         rw [← hgY] at BY ⊢
         obtain ⟨gX, hgX⟩ : ∃ z, z = wr.heap.size := ⟨_, rfl⟩
         have lX : wr.heap.size ≤ gX := by omega
         rw [← hgX] at BX ⊢
         clear hw6 hgX hgY hgZ e1
         revert lZ
         revert BZ
         revert lY
         revert BY
         revert lX
         revert BX
         revert gZ
         revert gY
         revert gX
         revert hB6
         revert w6
         exact main.out
       ·rw [if_pos (by rfl)]
        go_simp
        refine hK.out _ _ (below_alloc (below_alloc (Below.refl _ _).drew _) _) (fun _ => ?_)
        clear hK
        refine wpAnyH_ready (rs := [33]) (by kernel_rfl) (by simp) ?_
        refine AllReadyH.cons (o := _) rfl (fun K hK => ?_) (AllReadyH.nil)
        ·rw [if_pos (by rfl)]
         go_simp
         refine hK.out _ _ (below_alloc (below_alloc (below_alloc (Below.refl _ _).drew _) _) _) (fun _ => ?_)
         clear hK
         refine wpAnyH_ready (rs := [35]) (by kernel_rfl) (by simp) ?_
         refine AllReadyH.cons (o := _) rfl (fun K hK => ?_) AllReadyH.nil
         rw [if_pos (by rfl)]
         go_simp
         refine hK.out _ _ (below_alloc (below_alloc (below_alloc (Below.refl _ _).drew _) _) _) (fun _ => ?_)
         clear hK
         refine wpAnyH_ready (rs := [36]) (by kernel_rfl) (by simp) ?_
         refine AllReadyH.cons (o := _) rfl (fun K hK => ?_) AllReadyH.nil
         rw [if_pos (by rfl)]
         go_simp
         refine hK.out _ _ (below_alloc (below_alloc (below_alloc (Below.refl _ _).drew _) _) _) (fun _ => ?_)
         clear hK
         refine wpAnyH_ready (rs := [37]) (by kernel_rfl) (by simp) ?_
         refine AllReadyH.cons (o := _) rfl (fun K hK => ?_) AllReadyH.nil
         rw [if_pos (by rfl)]
         go_simp
         refine hK.out _ _ (below_alloc (below_alloc (below_alloc (Below.refl _ _).drew _) _) _) (fun _ => ?_)
         clear hK
         refine wpAnyH_done (by kernel_rfl) ?_ _
         have e1 : wr.drew.heap.size = wr.heap.size := rfl
         obtain ⟨w6, hw6⟩ : ∃ z, z = (((wr.alloc (.cells #[.int .i64 x0, .int .i64 x1, .int .i64 x2, .int .i64 x3, .int .i64 x4, .int .i64 x5, .int .i64 x6, .bool rx, .int .i64 x8, .int .i64 x9] 49)).alloc (.cells #[.int .i64 z0, .int .i64 z1, .int .i64 z2, .int .i64 z3, .int .i64 z4, .int .i64 z5, .int .i64 z6, .bool rz, .int .i64 z8, .int .i64 z9] 49)).alloc (.cells #[.int .i64 y0, .int .i64 y1, .int .i64 y2, .int .i64 y3, .int .i64 y4, .int .i64 y5, .int .i64 y6, .bool ry, .int .i64 y8, .int .i64 y9] 49)).drew := ⟨_, rfl⟩
         rw [← hw6]
         obtain ⟨BX, BZ, BY, hB6⟩ := trip_blk hw6
         exact main.out w6 hB6 (wr.heap.size) (wr.heap.size + 1 + 1) (wr.heap.size + 1) BX (by omega) BY (by omega) BZ (by omega)
      ·rw [if_pos (by rfl)]
       go_simp
       refine hK.out _ _ (below_alloc (Below.refl _ _).drew _) (fun _ => ?_)
       clear hK
       refine wpAnyH_ready (rs := [32,34]) (by kernel_rfl) (by simp) ?_
       refine AllReadyH.cons (o := _) rfl (fun K hK => ?_) (AllReadyH.cons (o := _) rfl (fun K hK => ?_) (AllReadyH.nil))
       ·rw [if_pos (by rfl)]
        go_simp
        refine hK.out _ _ (below_alloc (below_alloc (Below.refl _ _).drew _) _) (fun _ => ?_)
        clear hK
        refine wpAnyH_ready (rs := [34]) (by kernel_rfl) (by simp) ?_
        refine AllReadyH.cons (o := _) rfl (fun K hK => ?_) (AllReadyH.nil)
        ·rw [if_pos (by rfl)]
         go_simp
         refine hK.out _ _ (below_alloc (below_alloc (below_alloc (Below.refl _ _).drew _) _) _) (fun _ => ?_)
         clear hK
         refine wpAnyH_ready (rs := [35]) (by kernel_rfl) (by simp) ?_
         refine AllReadyH.cons (o := _) rfl (fun K hK => ?_) AllReadyH.nil
         rw [if_pos (by rfl)]
         go_simp
         refine hK.out _ _ (below_alloc (below_alloc (below_alloc (Below.refl _ _).drew _) _) _) (fun _ => ?_)
         clear hK
         refine wpAnyH_ready (rs := [36]) (by kernel_rfl) (by simp) ?_
         refine AllReadyH.cons (o := _) rfl (fun K hK => ?_) AllReadyH.nil
         rw [if_pos (by rfl)]
         go_simp
         refine hK.out _ _ (below_alloc (below_alloc (below_alloc (Below.refl _ _).drew _) _) _) (fun _ => ?_)
         clear hK
         refine wpAnyH_ready (rs := [37]) (by kernel_rfl) (by simp) ?_
         refine AllReadyH.cons (o := _) rfl (fun K hK => ?_) AllReadyH.nil
         rw [if_pos (by rfl)]
         go_simp
         refine hK.out _ _ (below_alloc (below_alloc (below_alloc (Below.refl _ _).drew _) _) _) (fun _ => ?_)
         clear hK
         refine wpAnyH_done (by kernel_rfl) ?_ _
         have e1 : wr.drew.heap.size = wr.heap.size := rfl
         obtain ⟨w6, hw6⟩ : ∃ z, z = (((wr.alloc (.cells #[.int .i64 y0, .int .i64 y1, .int .i64 y2, .int .i64 y3, .int .i64 y4, .int .i64 y5, .int .i64 y6, .bool ry, .int .i64 y8, .int .i64 y9] 49)).alloc (.cells #[.int .i64 x0, .int .i64 x1, .int .i64 x2, .int .i64 x3, .int .i64 x4, .int .i64 x5, .int .i64 x6, .bool rx, .int .i64 x8, .int .i64 x9] 49)).alloc (.cells #[.int .i64 z0, .int .i64 z1, .int .i64 z2, .int .i64 z3, .int .i64 z4, .int .i64 z5, .int .i64 z6, .bool rz, .int .i64 z8, .int .i64 z9] 49)).drew := ⟨_, rfl⟩
         rw [← hw6]
         obtain ⟨BY, BX, BZ, hB6⟩ := trip_blk hw6
         exact main.out w6 hB6 (wr.heap.size + 1) (wr.heap.size) (wr.heap.size + 1 + 1) BX (by omega) BY (by omega) BZ (by omega)
       ·rw [if_pos (by rfl)]
        go_simp
        refine hK.out _ _ (below_alloc (below_alloc (Below.refl _ _).drew _) _) (fun _ => ?_)
        clear hK
        refine wpAnyH_ready (rs := [32]) (by kernel_rfl) (by simp) ?_
        refine AllReadyH.cons (o := _) rfl (fun K hK => ?_) (AllReadyH.nil)
        ·rw [if_pos (by rfl)]
         go_simp
         refine hK.out _ _ (below_alloc (below_alloc (below_alloc (Below.refl _ _).drew _) _) _) (fun _ => ?_)
         clear hK
         refine wpAnyH_ready (rs := [35]) (by kernel_rfl) (by simp) ?_
         refine AllReadyH.cons (o := _) rfl (fun K hK => ?_) AllReadyH.nil
         rw [if_pos (by rfl)]
         go_simp
         refine hK.out _ _ (below_alloc (below_alloc (below_alloc (Below.refl _ _).drew _) _) _) (fun _ => ?_)
         clear hK
         refine wpAnyH_ready (rs := [36]) (by kernel_rfl) (by simp) ?_
         refine AllReadyH.cons (o := _) rfl (fun K hK => ?_) AllReadyH.nil
         rw [if_pos (by rfl)]
         go_simp
         refine hK.out _ _ (below_alloc (below_alloc (below_alloc (Below.refl _ _).drew _) _) _) (fun _ => ?_)
         clear hK
         refine wpAnyH_ready (rs := [37]) (by kernel_rfl) (by simp) ?_
         refine AllReadyH.cons (o := _) rfl (fun K hK => ?_) AllReadyH.nil
         rw [if_pos (by rfl)]
         go_simp
         refine hK.out _ _ (below_alloc (below_alloc (below_alloc (Below.refl _ _).drew _) _) _) (fun _ => ?_)
         clear hK
         refine wpAnyH_done (by kernel_rfl) ?_ _
         have e1 : wr.drew.heap.size = wr.heap.size := rfl
         obtain ⟨w6, hw6⟩ : ∃ z, z = (((wr.alloc (.cells #[.int .i64 y0, .int .i64 y1, .int .i64 y2, .int .i64 y3, .int .i64 y4, .int .i64 y5, .int .i64 y6, .bool ry, .int .i64 y8, .int .i64 y9] 49)).alloc (.cells #[.int .i64 z0, .int .i64 z1, .int .i64 z2, .int .i64 z3, .int .i64 z4, .int .i64 z5, .int .i64 z6, .bool rz, .int .i64 z8, .int .i64 z9] 49)).alloc (.cells #[.int .i64 x0, .int .i64 x1, .int .i64 x2, .int .i64 x3, .int .i64 x4, .int .i64 x5, .int .i64 x6, .bool rx, .int .i64 x8, .int .i64 x9] 49)).drew := ⟨_, rfl⟩
         rw [← hw6]
         obtain ⟨BY, BZ, BX, hB6⟩ := trip_blk hw6
         exact main.out w6 hB6 (wr.heap.size + 1 + 1) (wr.heap.size) (wr.heap.size + 1) BX (by omega) BY (by omega) BZ (by omega)
      ·rw [if_pos (by rfl)]
       go_simp
       refine hK.out _ _ (below_alloc (Below.refl _ _).drew _) (fun _ => ?_)
       clear hK
       refine wpAnyH_ready (rs := [32,33]) (by kernel_rfl) (by simp) ?_
       refine AllReadyH.cons (o := _) rfl (fun K hK => ?_) (AllReadyH.cons (o := _) rfl (fun K hK => ?_) (AllReadyH.nil))
       ·rw [if_pos (by rfl)]
        go_simp
        refine hK.out _ _ (below_alloc (below_alloc (Below.refl _ _).drew _) _) (fun _ => ?_)
        clear hK
        refine wpAnyH_ready (rs := [33]) (by kernel_rfl) (by simp) ?_
        refine AllReadyH.cons (o := _) rfl (fun K hK => ?_) (AllReadyH.nil)
        ·rw [if_pos (by rfl)]
         go_simp
         refine hK.out _ _ (below_alloc (below_alloc (below_alloc (Below.refl _ _).drew _) _) _) (fun _ => ?_)
         clear hK
         refine wpAnyH_ready (rs := [35]) (by kernel_rfl) (by simp) ?_
         refine AllReadyH.cons (o := _) rfl (fun K hK => ?_) AllReadyH.nil
         rw [if_pos (by rfl)]
         go_simp
         refine hK.out _ _ (below_alloc (below_alloc (below_alloc (Below.refl _ _).drew _) _) _) (fun _ => ?_)
         clear hK
         refine wpAnyH_ready (rs := [36]) (by kernel_rfl) (by simp) ?_
         refine AllReadyH.cons (o := _) rfl (fun K hK => ?_) AllReadyH.nil
         rw [if_pos (by rfl)]
         go_simp
         refine hK.out _ _ (below_alloc (below_alloc (below_alloc (Below.refl _ _).drew _) _) _) (fun _ => ?_)
         clear hK
         refine wpAnyH_ready (rs := [37]) (by kernel_rfl) (by simp) ?_
         refine AllReadyH.cons (o := _) rfl (fun K hK => ?_) AllReadyH.nil
         rw [if_pos (by rfl)]
         go_simp
         refine hK.out _ _ (below_alloc (below_alloc (below_alloc (Below.refl _ _).drew _) _) _) (fun _ => ?_)
         clear hK
         refine wpAnyH_done (by kernel_rfl) ?_ _
         have e1 : wr.drew.heap.size = wr.heap.size := rfl
         obtain ⟨w6, hw6⟩ : ∃ z, z = (((wr.alloc (.cells #[.int .i64 z0, .int .i64 z1, .int .i64 z2, .int .i64 z3, .int .i64 z4, .int .i64 z5, .int .i64 z6, .bool rz, .int .i64 z8, .int .i64 z9] 49)).alloc (.cells #[.int .i64 x0, .int .i64 x1, .int .i64 x2, .int .i64 x3, .int .i64 x4, .int .i64 x5, .int .i64 x6, .bool rx, .int .i64 x8, .int .i64 x9] 49)).alloc (.cells #[.int .i64 y0, .int .i64 y1, .int .i64 y2, .int .i64 y3, .int .i64 y4, .int .i64 y5, .int .i64 y6, .bool ry, .int .i64 y8, .int .i64 y9] 49)).drew := ⟨_, rfl⟩
         rw [← hw6]
         obtain ⟨BZ, BX, BY, hB6⟩ := trip_blk hw6
         exact main.out w6 hB6 (wr.heap.size + 1) (wr.heap.size + 1 + 1) (wr.heap.size) BX (by omega) BY (by omega) BZ (by omega)
       ·rw [if_pos (by rfl)]
        go_simp
        refine hK.out _ _ (below_alloc (below_alloc (Below.refl _ _).drew _) _) (fun _ => ?_)
        clear hK
        refine wpAnyH_ready (rs := [32]) (by kernel_rfl) (by simp) ?_
        refine AllReadyH.cons (o := _) rfl (fun K hK => ?_) (AllReadyH.nil)
        ·rw [if_pos (by rfl)]
         go_simp
         refine hK.out _ _ (below_alloc (below_alloc (below_alloc (Below.refl _ _).drew _) _) _) (fun _ => ?_)
         clear hK
         refine wpAnyH_ready (rs := [35]) (by kernel_rfl) (by simp) ?_
         refine AllReadyH.cons (o := _) rfl (fun K hK => ?_) AllReadyH.nil
         rw [if_pos (by rfl)]
         go_simp
         refine hK.out _ _ (below_alloc (below_alloc (below_alloc (Below.refl _ _).drew _) _) _) (fun _ => ?_)
         clear hK
         refine wpAnyH_ready (rs := [36]) (by kernel_rfl) (by simp) ?_
         refine AllReadyH.cons (o := _) rfl (fun K hK => ?_) AllReadyH.nil
         rw [if_pos (by rfl)]
         go_simp
         refine hK.out _ _ (below_alloc (below_alloc (below_alloc (Below.refl _ _).drew _) _) _) (fun _ => ?_)
         clear hK
         refine wpAnyH_ready (rs := [37]) (by kernel_rfl) (by simp) ?_
         refine AllReadyH.cons (o := _) rfl (fun K hK => ?_) AllReadyH.nil
         rw [if_pos (by rfl)]
         go_simp
         refine hK.out _ _ (below_alloc (below_alloc (below_alloc (Below.refl _ _).drew _) _) _) (fun _ => ?_)
         clear hK
         refine wpAnyH_done (by kernel_rfl) ?_ _
         have e1 : wr.drew.heap.size = wr.heap.size := rfl
         obtain ⟨w6, hw6⟩ : ∃ z, z = (((wr.alloc (.cells #[.int .i64 z0, .int .i64 z1, .int .i64 z2, .int .i64 z3, .int .i64 z4, .int .i64 z5, .int .i64 z6, .bool rz, .int .i64 z8, .int .i64 z9] 49)).alloc (.cells #[.int .i64 y0, .int .i64 y1, .int .i64 y2, .int .i64 y3, .int .i64 y4, .int .i64 y5, .int .i64 y6, .bool ry, .int .i64 y8, .int .i64 y9] 49)).alloc (.cells #[.int .i64 x0, .int .i64 x1, .int .i64 x2, .int .i64 x3, .int .i64 x4, .int .i64 x5, .int .i64 x6, .bool rx, .int .i64 x8, .int .i64 x9] 49)).drew := ⟨_, rfl⟩
         rw [← hw6]
         obtain ⟨BZ, BY, BX, hB6⟩ := trip_blk hw6
         exact main.out w6 hB6 (wr.heap.size + 1 + 1) (wr.heap.size + 1) (wr.heap.size) BX (by omega) BY (by omega) BZ (by omega)
     ·intro w6 hB6 gX gY gZ BX lX BY lY BZ lZ
      clear X0 X1 X2 X3 X4 X5 X6 X7 X8 X9 Y0 Y1 Y2 Y3 Y4 Y5 Y6 Y7 Y8 Y9 Z0 Z1 Z2 Z3 Z4 Z5 Z6 Z7 Z8 Z9 cv hbv hbx n1 n2 n3 l1 l2 l3 g0 lg
      have inv6 := inv.call hB6
      have cX := BX.cell
      have zX := BX.lt
      have cY := BY.cell
      have zY := BY.lt
      have cZ := BZ.cell
      have zZ := BZ.lt
      have HNO := Lib.hid (fun (w9 : World) (hb9 : Below w6.heap.size w6 w9) (h0 : supP l k e = []) => show RI base g A n c A2 m c2 l T (addsL l T (-1) 3 O (supS l k ++ supV l k (e + 1))) w w9 by rw [HN.out, h0, List.append_nil]; exact inv6.call hb9)
      have HI6 := Lib.hid inv6
      clear inv inv6
      cases rx with
      | true =>
       have h0 := E.out.trans (if_neg (by simp))
       have R := Lib.hid (fun w9 (hb9 : Below w6.heap.size w6 w9) => HNO.out w9 hb9 h0)
       clear h0 E HNO hpx hpy hye
       go_wp2
       go_roundg (gk - 1)
       case measure => omega
       case rel => exact ⟨e + 1, by omega, by omega, by omega, by go_num, R.out _ (by repeat (first | with_reducible (first | exact Below.refl _ _ | assumption | refine below_drewN ?_ _ | refine Below.drew ?_ | refine below_alloc ?_ _) | (with_reducible refine Below.setCell ?_ ?_ _; rotate_left; ((try simp only); omega))))⟩
      | false =>
      cases ry with
      | true =>
       have h0 := E.out.trans (if_neg (by simp))
       have R := Lib.hid (fun w9 (hb9 : Below w6.heap.size w6 w9) => HNO.out w9 hb9 h0)
       clear h0 E HNO hpx hpy hye
       go_wp2
       go_roundg (gk - 1)
       case measure => omega
       case rel => exact ⟨e + 1, by omega, by omega, by omega, by go_num, R.out _ (by repeat (first | with_reducible (first | exact Below.refl _ _ | assumption | refine below_drewN ?_ _ | refine Below.drew ?_ | refine below_alloc ?_ _) | (with_reducible refine Below.setCell ?_ ?_ _; rotate_left; ((try simp only); omega))))⟩
      | false =>
      cases rz with
      | true =>
       have h0 := E.out.trans (if_neg (by simp))
       have R := Lib.hid (fun w9 (hb9 : Below w6.heap.size w6 w9) => HNO.out w9 hb9 h0)
       clear h0 E HNO hpx hpy hye
       go_wp2
       go_roundg (gk - 1)
       case measure => omega
       case rel => exact ⟨e + 1, by omega, by omega, by omega, by go_num, R.out _ (by repeat (first | with_reducible (first | exact Below.refl _ _ | assumption | refine below_drewN ?_ _ | refine Below.drew ?_ | refine below_alloc ?_ _) | (with_reducible refine Below.setCell ?_ ?_ _; rotate_left; ((try simp only); omega))))⟩
      | false =>
      have hpx : pchk (x4, x5, x6) = 0 := hpx rfl
      have hpy : pchk (y4, y5, y6) = 0 := hpy rfl
      by_cases hq : x4 = z4
      rotate_left
      ·have hqb : (x4 == z4) = false := by simpa using hq
       have h0 := E.out.trans (if_neg (by rintro ⟨_, h, _⟩; simp only [Prod.mk.injEq] at h; first | exact hq h.1 | exact hq h.2.1 | exact hq h.2.2))
       have R := Lib.hid (fun w9 (hb9 : Below w6.heap.size w6 w9) => HNO.out w9 hb9 h0)
       clear h0 E HNO hpx hpy hye
       go_wp2
       go_roundg (gk - 1)
       case measure => omega
       case rel => exact ⟨e + 1, by omega, by omega, by omega, by go_num, R.out _ (by repeat (first | with_reducible (first | exact Below.refl _ _ | assumption | refine below_drewN ?_ _ | refine Below.drew ?_ | refine below_alloc ?_ _) | (with_reducible refine Below.setCell ?_ ?_ _; rotate_left; ((try simp only); omega))))⟩
      subst hq
      by_cases hq : x5 = z5
      rotate_left
      ·have hqb : (x5 == z5) = false := by simpa using hq
       have h0 := E.out.trans (if_neg (by rintro ⟨_, h, _⟩; simp only [Prod.mk.injEq] at h; first | exact hq h.1 | exact hq h.2.1 | exact hq h.2.2))
       have R := Lib.hid (fun w9 (hb9 : Below w6.heap.size w6 w9) => HNO.out w9 hb9 h0)
       clear h0 E HNO hpx hpy hye
       go_wp2
       go_roundg (gk - 1)
       case measure => omega
       case rel => exact ⟨e + 1, by omega, by omega, by omega, by go_num, R.out _ (by repeat (first | with_reducible (first | exact Below.refl _ _ | assumption | refine below_drewN ?_ _ | refine Below.drew ?_ | refine below_alloc ?_ _) | (with_reducible refine Below.setCell ?_ ?_ _; rotate_left; ((try simp only); omega))))⟩
      subst hq
      by_cases hq : x6 = z6
      rotate_left
      ·have hqb : (x6 == z6) = false := by simpa using hq
       have h0 := E.out.trans (if_neg (by rintro ⟨_, h, _⟩; simp only [Prod.mk.injEq] at h; first | exact hq h.1 | exact hq h.2.1 | exact hq h.2.2))
       have R := Lib.hid (fun w9 (hb9 : Below w6.heap.size w6 w9) => HNO.out w9 hb9 h0)
       clear h0 E HNO hpx hpy hye
       go_wp2
       go_roundg (gk - 1)
       case measure => omega
       case rel => exact ⟨e + 1, by omega, by omega, by omega, by go_num, R.out _ (by repeat (first | with_reducible (first | exact Below.refl _ _ | assumption | refine below_drewN ?_ _ | refine Below.drew ?_ | refine below_alloc ?_ _) | (with_reducible refine Below.setCell ?_ ?_ _; rotate_left; ((try simp only); omega))))⟩
      subst hq
      by_cases h5 : x4 = 5
      rotate_left
      ·have h5b : (x4 != 5) = true := by simpa using h5
       have h0 := E.out.trans (if_neg (by rintro ⟨_, _, h, _⟩; exact h5 h))
       have R := Lib.hid (fun w9 (hb9 : Below w6.heap.size w6 w9) => HNO.out w9 hb9 h0)
       clear h0 E HNO hpx hpy hye
       go_wp2
       go_roundg (gk - 1)
       case measure => omega
       case rel => exact ⟨e + 1, by omega, by omega, by omega, by go_num, R.out _ (by repeat (first | with_reducible (first | exact Below.refl _ _ | assumption | refine below_drewN ?_ _ | refine Below.drew ?_ | refine below_alloc ?_ _) | (with_reducible refine Below.setCell ?_ ?_ _; rotate_left; ((try simp only); omega))))⟩
      have h5b : (x4 != 5) = false := by simp [h5]
      have hfb : freeB l ((k : Int), (e : Int)) = decide (y6 = 0) := by rw [free_ev hye.out]; rfl
      have E2 := Lib.hid (show supP l k e = if y6 = 0 ∧ numP (y4, y5, y6) = numP (x4, x5, x6) + 1 then [((k : Int), (e : Int))] else [] from E.out.trans (by simp [h5]))
      have HFB := Lib.hid hfb
      clear E
      have q1 := fun W => refNumber_any (x4, x5, x6) W
      have q2 := fun W => refNumber_any (y4, y5, y6) W
      rw [numE_ok hpx] at q1
      rw [numE_ok hpy] at q2
      have b1 := numP_bd hpx
      obtain ⟨P1, hP1⟩ : ∃ z, z = numP (x4, x5, x6) := ⟨_, rfl⟩
      obtain ⟨P2, hP2⟩ : ∃ z, z = numP (y4, y5, y6) := ⟨_, rfl⟩
      simp only [← hP1] at q1 E2 b1
      simp only [← hP2] at q2 E2
      have wP : IntKind.i64.wrap (P1 + 1) = P1 + 1 := IntWalk.i64_in _ (by omega)
      clear hfb hP1 hP2 h5 hpx hpy
      go_wp2_with fail
      refine (q1 _).mono ?_
      rintro e1 w8 ⟨rfl, hb8⟩
      have by8 := BY.kept hb8
      clear cX zX cY zY cZ zZ q1
      have cY := by8.cell
      have zY := by8.lt
      go_wp2_with fail
      refine (q2 _).mono ?_
      rintro e2 w9 ⟨rfl, hb9⟩
      have k9 := below_call hb8 hb9
      clear cY zY q2
      by_cases hP : P2 = P1 + 1
      ·have hPb : (P2 == P1 + 1) = true := by simpa using hP
       have I9 := HI6.out.call k9
       have qa := radd_ok I9.st hm (I9.st.few HSL.out) hye.out (-1) 3
       have HQ := Lib.hid (show addsL l T (-1) 3 O (supS l k ++ supV l k (e + 1)) = addL l T (addsL l T (-1) 3 O (supS l k ++ supV l k e)) ((k : Int), (e : Int)) (-1) 3 by
        rw [HN.out, ← List.append_assoc, addsL_append, E2.out]
        by_cases h6 : y6 = 0
        ·rw [if_pos ⟨h6, hP⟩]; rfl
        ·rw [if_neg (fun h => h6 h.1), addL_off (by rw [HFB.out, decide_eq_false h6])]; rfl)
       have HI9 := Lib.hid I9
       clear hP E2 HNO hye I9 hb8 hb9 k9
       go_wp2_with fail
       refine qa.mono ?_
       rintro e3 w10 hret
       have R := Lib.hid ((HI9.out.next hret).as_ HQ.out)
       obtain ⟨⟨z, rfl⟩, -⟩ := hret
       clear qa HI9
       go_wp2
       go_roundg (gk - 1)
       case measure => omega
       case rel => exact ⟨e + 1, by omega, by omega, by omega, by go_num, R.out⟩
      ·have hPb : (P2 == P1 + 1) = false := by simpa using hP
       have h0 := E2.out.trans (if_neg (fun h => hP h.2))
       have R := Lib.hid (HNO.out _ k9 h0)
       clear h0 E2 HNO hye hP hb8 hb9 k9
       go_wp2
       go_roundg (gk - 1)
       case measure => omega
       case rel => exact ⟨e + 1, by omega, by omega, by omega, by go_num, R.out⟩
    ·have d1 : ¬ ((e : Int) + 1 < (n' : Int)) := by omega
     have HX := Lib.hid (inv.as_ (show addsL l T (-1) 3 O (supS l (k + 1)) = _ by rw [HS1.out, supV_end HVL.out (by rw [← HLV.out]; exact hee) (by rw [← HLV.out]; omega)]))
     clear inv rv
     go_wp2
     go_roundg gh
     case measure => omega
     case rel => exact ⟨k + 1, by omega, by go_num, HX.out⟩
def RndRet (l : List (List Ev)) (T : List Fic) (w : World) (e : Ending) (w' : World) : Prop :=
 ∃ u O, e = .returned u ∧ w'.ownsRow w.heap.size 39 4 u O.length (csFic O) ∧ RndL l T O ∧ Below w.heap.size w w'
theorem rround_ok {w : World} (A : Option Addr) (n c : Nat) (l : List (List Ev)) (B : Nat) (hV : ReadsV w B A n l) (hB : B ≤ w.heap.size) (hl : SetV l) (hs : (slicesE l).2 = 0) (A2 : Option Addr) (m c2 : Nat) (T : List Fic) (B2 : Nat) (h2 : Reads w B2 4 A2 m (csFic T)) (hB2 : B2 ≤ w.heap.size) (hm : m ≤ 1000000) :
  Calls Tryz.prog 45 #[.slice A n c, .slice A2 m c2] w fun e w' => RndRet l T w e w' := by
 have HV := Lib.hid (hV.more hB)
 have HT := Lib.hid (h2.more hB2)
 have HSL := Lib.hid hl
 have HSS := Lib.hid hs
 clear hV h2 hl hs
 go_enter Tryz.func45, Tryz.ntmps45
 go_wp2_with fail
 obtain ⟨w1, hw1⟩ : ∃ z, z = w.alloc (.cells #[.slice A n c, .slice A2 m c2, .slice none 0 0] 108) := ⟨_, rfl⟩
 have k1 : Below w.heap.size w w1 := by rw [hw1]; exact below_alloc (Below.refl _ _) _
 have S1 : FSt w1 w.heap.size w.heap.size A n c A2 m c2 l T [] := ⟨⟨_, by rw [hw1]; exact Blk.new _ _ _, ⟨rfl, .inl ⟨rfl, rfl⟩⟩⟩, Nat.le_refl _, k1.size, HV.out.below (Nat.le_refl _) k1, HT.out.below (Nat.le_refl _) k1, ProL.nil_ l T⟩
 rw [← hw1]
 obtain ⟨g, hg⟩ : ∃ z, z = w.heap.size := ⟨_, rfl⟩
 have q1 := rlead_ok S1 hm HSL.out
 rw [← hg] at q1 ⊢
 have HG := Lib.hid hg
 have k1' : Below g w w1 := by rw [hg]; exact k1
 clear hw1 hg S1 k1
 refine q1.mono ?_
 rintro e w2 ⟨L, hL, ⟨z, rfl⟩, S2, -, k2⟩
 have q2 := rtris_ok S2 hm HSL.out HSS.out
 clear q1 S2
 go_wp2_with fail
 refine q2.mono ?_
 rintro e w3 ⟨⟨z3, rfl⟩, S3, -, k3⟩
 have q3 := rsup_ok S3 hm HSL.out
 clear q2 S3
 go_wp2_with fail
 refine q3.mono ?_
 rintro e w4 ⟨⟨z4, rfl⟩, S4, -, k4⟩
 obtain ⟨u, hBu, how⟩ := S4.blk
 have HX := Lib.hid (show RndRet l T w (.returned u) w4 from ⟨u, _, rfl, by rw [← HG.out]; exact how, ⟨S4.pro, outL_fun hL⟩, by rw [← HG.out]; exact ((k1'.trans k2).trans k3).trans k4⟩)
 have c2' := hBu.cell 2
 have lg := hBu.lt
 simp only [List.getElem?_toArray, List.getElem?_cons_zero, List.getElem?_cons_succ] at c2'
 obtain ⟨A9, c9, rfl, -, -, -⟩ := own_reads how
 clear q3 S4 hBu how
 go_wp2
 refine ret_of (by simp [results, Tryz.results45, go_sem, *]; repeat' (first | rfl | apply And.intro)) rfl HX.out
theorem csFic_take (l : List Fic) (k : Nat) : csFic (l.take k) = (csFic l).take (k * 4) := flat_take cFic 4 (fun _ => rfl) l k
theorem csFic_drop (l : List Fic) (k : Nat) : csFic (l.drop k) = (csFic l).drop (k * 4) := flat_drop cFic 4 (fun _ => rfl) l k
theorem one_x4 {x1 x2 x3 x4 : Int} : ∀ u ∈ ([.int .i64 x1, .int .i64 x2, .int .i64 x3, .int .i64 x4] : List Value), u.oneCell' = true := by
 intro u hu
 simp at hu
 rcases hu with rfl | rfl | rfl | rfl <;> rfl
theorem reads_one4 {w : World} {g size : Nat} {t : TypeId} {cs : Array Value} {xs : List Value} (h : Blk w g t cs) (e : cs.toList = xs) (hs : xs.length = size) : Reads w w.heap.size size (some ⟨g, 0, none⟩) 1 xs := by
 subst e
 refine ⟨by rw [hs, Nat.one_mul], fun _ => ⟨g, 0, rfl, h.lt, fun j u hu => ?_⟩⟩
 rw [Nat.zero_add, h.cell]
 simpa using hu
theorem own_rd {w : World} {base size n n' c : Nat} {e : TypeId} {A : Option Addr} {xs : List Value} (h : w.ownsRow base e size (.slice A n' c) n xs) : Reads w w.heap.size size A n xs := by
 obtain ⟨A', c', e1, h1, -, -⟩ := own_reads h
 cases e1
 exact h1
theorem own_apart {w wz : World} {base size n n2 : Nat} {e e2 : TypeId} {v v2 : Value} {xs xs2 : List Value} (h : w.ownsRow base e size v n xs) (h2 : wz.ownsRow w.heap.size e2 size v2 n2 xs2) : v2.ownBlock = none ∨ v2.ownBlock ≠ v.ownBlock := by
 cases hv : v2.ownBlock with
 | none => exact .inl rfl
 | some g =>
  refine .inr fun hh => ?_
  have h3 := (h2.lt g hv).1
  have h4 := (h.lt g hh.symm).2
  omega
theorem ord_step {O M : List Fic} {i q N : Nat} {x1 x2 x3 x4 : Int} {w w' : World} {v : Value} (hp : M.Perm (O.take i)) (ho : OrdF M) (hx : O[i]? = some (x1, x2, x3, x4)) (hN : N = M.length) (hq : q ≤ N) (h1 : ∀ y ∈ M.take q, lessF y (x1, x2, x3, x4)) (h2 : ∀ y, M[q]? = some y → ¬ lessF y (x1, x2, x3, x4))
  (hown : w'.ownsRow w.heap.size 39 4 v (q + 1 + (N - q)) (csFic (M.take q) ++ [.int .i64 x1, .int .i64 x2, .int .i64 x3, .int .i64 x4] ++ csFic (M.drop q))) :
  (M.take q ++ [(x1, x2, x3, x4)] ++ M.drop q).Perm (O.take (i + 1)) ∧ OrdF (M.take q ++ [(x1, x2, x3, x4)] ++ M.drop q) ∧ w'.ownsRow w.heap.size 39 4 v (M.take q ++ [(x1, x2, x3, x4)] ++ M.drop q).length (csFic (M.take q ++ [(x1, x2, x3, x4)] ++ M.drop q)) := by
 refine ⟨?_, ord_insert ho h1 h2, ?_⟩
 ·rw [take_get hx]; exact perm_insert hp
 ·have e1 : (M.take q ++ [((x1, x2, x3, x4) : Fic)] ++ M.drop q).length = q + 1 + (N - q) := by simp; omega
  rw [e1, csFic_append, csFic_append]
  exact hown
theorem fic_four {w : World} {b o : Nat} {x : Fic} (h : ∀ j u, (cFic x)[j]? = some u → w.cell? ⟨b, o + j, none⟩ = some u) : w.cell? ⟨b, o, none⟩ = some (.int .i64 x.1) ∧ w.cell? ⟨b, o + 1, none⟩ = some (.int .i64 x.2.1) ∧ w.cell? ⟨b, o + 2, none⟩ = some (.int .i64 x.2.2.1) ∧ w.cell? ⟨b, o + 3, none⟩ = some (.int .i64 x.2.2.2) :=
 ⟨h 0 _ rfl, h 1 _ rfl, h 2 _ rfl, h 3 _ rfl⟩
def OrdRet (O : List Fic) (w : World) (e : Ending) (w' : World) : Prop := ∃ u M, e = .returned u ∧ w'.ownsRow w.heap.size 39 4 u M.length (csFic M) ∧ M.Perm O ∧ OrdF M ∧ Below w.heap.size w w'
theorem rord_ok {w : World} (A : Option Addr) (m c : Nat) (O : List Fic) (B : Nat) (hR : Reads w B 4 A m (csFic O)) (hB : B ≤ w.heap.size) (hm : m ≤ 1000000) :
  Calls Tryz.prog 44 #[.slice A m c] w fun e w' => OrdRet O w e w' := by
 obtain ⟨i0, hi0, hz0, hz1, hz2⟩ := info_parts fic_info
 have HR := Lib.hid (hR.more hB)
 have HOL := Lib.hid (show O.length = m from hR.len (size := 4) (l := O) (f := cFic) (fun _ => rfl) (by decide))
 clear hR
 go_enter Tryz.func44, Tryz.ntmps44
 go_wp2_with fail
 go_loopg [3, 4, 5, 6] m (fun gh u ii _ _ wr => ∃ (i : Nat) (M : List Fic), i + gh = m ∧ ii = .int .i64 (i : Int) ∧ M.Perm (O.take i) ∧ OrdF M ∧ wr.ownsRow w.heap.size 39 4 u M.length (csFic M) ∧ Below w.heap.size w wr)
 case atStart => exact ⟨0, [], by omega, by simp, List.Perm.refl _, List.Pairwise.nil, ⟨rfl, .inl ⟨rfl, rfl⟩⟩, Below.refl _ _⟩
 case round =>
  obtain ⟨i, M, hig, rfl, hpm, hom, how, kr⟩ := hrel
  have wi : IntKind.i64.wrap ((i : Int) + 1) = (i : Int) + 1 := IntWalk.i64_in _ (by omega)
  obtain ⟨A3, c3, rfl, -, hnc, -⟩ := own_reads how
  have hMi : M.length = i := by have := hpm.length_eq; rw [List.length_take, HOL.out] at this; omega
  obtain ⟨N, hN⟩ : ∃ z, z = M.length := ⟨_, rfl⟩
  rw [← hN] at how hnc ⊢
  have HN := Lib.hid hN
  have hNi : N = i := hN.trans hMi
  clear hN hMi
  cases gk with
  | zero =>
   have d0 : ¬ ((i : Int) < (m : Int)) := by omega
   have HX := Lib.hid (show OrdRet O w (.returned (.slice A3 N c3)) wr from ⟨_, M, rfl, by rw [← HN.out]; exact how, by rwa [List.take_of_length_le (by rw [HOL.out]; omega)] at hpm, hom, kr⟩)
   clear hpm hom how kr hNi
   go_wp2
   refine ret_of (by simp [results, Tryz.results44, go_sem, *]; repeat' (first | rfl | apply And.intro)) rfl HX.out
  | succ gh =>
   have him : i < m := by omega
   have d0 : (i : Int) < (m : Int) := by omega
   obtain ⟨x, hx⟩ := get_some (l := O) (k := i) (by have := HOL.out; omega)
   obtain ⟨bx, ox, hA, hbx, hcx⟩ := HR.out.elem (f := cFic) (fun _ => rfl) him hx
   subst hA
   simp only [← Nat.add_assoc] at hcx
   obtain ⟨e1, e2, e3, e4⟩ := fic_four hcx
   obtain ⟨x1, x2, x3, x4⟩ := x
   simp only at e1 e2 e3 e4
   have HXI := Lib.hid hx
   have HPM := Lib.hid hpm
   have HOM := Lib.hid hom
   have HNC := Lib.hid hnc
   have HOW := Lib.hid how
   have HKX := Lib.hid kr
   have HE1 := Lib.hid e1
   have HE2 := Lib.hid e2
   have HE3 := Lib.hid e3
   have HE4 := Lib.hid e4
   have HNI := Lib.hid hNi
   have hN6 : N ≤ 1000000 := by omega
   clear hx hpm hom hnc how kr e1 e2 e3 e4 hcx hNi
   obtain ⟨wx, hwx⟩ : ∃ z, z = wr := ⟨_, rfl⟩
   subst hwx
   go_wp2_with fail
   go_loopg [5] N (fun gh2 a wr => ∃ q : Nat, q + gh2 = N ∧ a = .int .i64 (q : Int) ∧ Below wx.heap.size wx wr ∧ ∀ y ∈ M.take q, lessF y (x1, x2, x3, x4))
   case atStart => exact ⟨0, by omega, by simp, Below.refl _ _, by simp⟩
   case round =>
    obtain ⟨q, hqg, rfl, kq, hlq⟩ := hrel
    have wq : IntKind.i64.wrap ((q : Int) + 1) = (q : Int) + 1 := IntWalk.i64_in _ (by omega)
    have HL1 := Lib.hid hlq
    have kyw := below_call HKX.out kq
    clear hlq
    cases gk with
    | zero =>
     have d4 : ¬ ((q : Int) < (N : Int)) := by omega
     have d4' : decide (q < N) = false := decide_eq_false (by omega)
     have d4b : decide ((q : Int) < (N : Int)) = false := decide_eq_false (by omega)
     have HL2 := Lib.hid (show ∀ y, M[q]? = some y → ¬ lessF y (x1, x2, x3, x4) from fun y hy => by have := (List.getElem?_eq_some_iff.1 hy).1; have := HN.out; omega)
     go_wp2_with fail
     refine wp_region_calm (by kernel_rfl) (by kernel_rfl) ?_
     repeat (go_big_quiet_step (fail))
     refine wpQuiet_nil ?_
     intro w6 g6
     have kyx := below_call kq g6
     have ky := below_call HKX.out (below_call kq g6)
     clear g6 kq
     have how := own_call HOW.out (show Below wx.heap.size wx w6 from kyx)
     obtain ⟨wy, hwy⟩ : ∃ z, z = w6 := ⟨_, rfl⟩
     subst hwy
     have hRO := own_rd how
     have hRT : Reads wy wy.heap.size 4 (pa A3 q c3 4) (N - q) (csFic (M.drop q)) := by rw [csFic_drop]; exact hRO.tail_part q c3 (by omega) HNC.out
     have hRT2 := hRT.below (Nat.le_refl _) (below_alloc (Below.refl wy.heap.size wy) (.cells #[] 39))
     have hOHy : wy.ownsRow w.heap.size 39 4 (.slice A3 q c3) q (csFic (M.take q)) := by rw [csFic_take]; exact own_head how q (by omega)
     have s1 := fun W => run_part_h Tryz.underlying23 hi0 hz1 A3 N c3 q (by have := HNC.out; omega) W
     have s2 := fun W => run_part_l Tryz.underlying23 hi0 hz1 A3 N c3 q (by omega) W
     clear hRO hRT how
     go_wp2_with (at_builtin; (refine wpList_append_any _ rfl (.tmp 30) (.tmp 33) 23 rfl wy.heap.size 39 i0 _ 4 32 Tryz.underlying23 hi0 hz0 hz1 hz2 rfl (by omega) (.slice (some ⟨wy.heap.size, 0, none⟩) 0 0) 0 [] rfl (World.ownsRow_lit wy #[] 0 (Nat.le_refl _) (by simp [maxLen]) rfl) wy.heap.size (pa A3 q c3 4) (N - q) (c3 - q) (csFic (M.drop q)) rfl hRT2 (one_csFic _) (by simp only [maxLen]; omega) (by omega) (by simp) ?_); intro v0 wz hown0 hg0 hat0; simp only [Nat.zero_add, List.nil_append] at hown0; have bz : Below wy.heap.size wy wz := (below_alloc (Below.refl _ _) _).grown hg0 (by simp) (fun k hk => by simp [Value.ownBlock] at hk; omega); obtain ⟨A5, c5, hv0, -, -, -⟩ := own_reads hown0; subst hv0)
     have hR : wz.ownsRow wy.heap.size 39 4 (.slice A5 (N - q) c5) (N - q) (csFic (M.drop q)) := hown0
     have hOH := own_call hOHy bz
     have hNE := own_apart hOHy hR
     have kw := below_call ky bz
     clear hown0 hg0 hat0 hOHy hRT2 ky
     obtain ⟨e1, e2, e3, e4⟩ : wz.cell? ⟨bx, ox + i * 4, none⟩ = some (.int .i64 x1) ∧ wz.cell? ⟨bx, ox + i * 4 + 1, none⟩ = some (.int .i64 x2) ∧ wz.cell? ⟨bx, ox + i * 4 + 2, none⟩ = some (.int .i64 x3) ∧ wz.cell? ⟨bx, ox + i * 4 + 3, none⟩ = some (.int .i64 x4) := ⟨(kw.cell (p := ⟨_, _, none⟩) hbx).trans HE1.out, (kw.cell (p := ⟨_, _, none⟩) hbx).trans HE2.out, (kw.cell (p := ⟨_, _, none⟩) hbx).trans HE3.out, (kw.cell (p := ⟨_, _, none⟩) hbx).trans HE4.out⟩
     replace e1 := HE1.out
     replace e2 := HE2.out
     replace e3 := HE3.out
     replace e4 := HE4.out
     have lbz : bx < wz.heap.size := by have := kw.size; omega
     clear bz
     go_wp2_with fail
     go_region_held3 (fun w' => w'.cell? ⟨bx, ox + i * 4, none⟩ = some (.int .i64 x1) ∧ w'.cell? ⟨bx, ox + i * 4 + 1, none⟩ = some (.int .i64 x2) ∧ w'.cell? ⟨bx, ox + i * 4 + 2, none⟩ = some (.int .i64 x3) ∧ w'.cell? ⟨bx, ox + i * 4 + 3, none⟩ = some (.int .i64 x4) ∧ Below w.heap.size w w') ((refine (fun hb => ⟨(hb.cell (p := ⟨_, _, none⟩) hbx).trans e1, (hb.cell (p := ⟨_, _, none⟩) hbx).trans e2, (hb.cell (p := ⟨_, _, none⟩) hbx).trans e3, (hb.cell (p := ⟨_, _, none⟩) hbx).trans e4, hb⟩) ?_; repeat (first | with_reducible (first | exact kw | exact hB3 | exact hB4 | exact (show _ ∧ _ ∧ _ ∧ _ ∧ Below w.heap.size w _ by assumption).2.2.2.2 | refine Below.drew ?_ | refine below_drewN ?_ _ | refine below_alloc ?_ _)))) ((first | ((refine step_guard (.tmp 37) (.tmp 42) 23 (.slice A3 q c3) ?_ ?_ ?_); (focus rfl); (focus rfl); (refine step_append_any _ (by rfl) (.tmp 37) (.tmp 42) 23 (by rfl) w.heap.size 39 i0 _ 4 32 Tryz.underlying23 hi0 hz0 hz1 hz2 rfl (by omega) (.slice A3 q c3) q (csFic (M.take q)) (by rfl) (own_call hOH (by (repeat (first | with_reducible (first | exact Below.refl _ _ | refine Below.drew ?_ | refine below_drewN ?_ _ | refine below_alloc ?_ _))); done)) _ _ 1 1 [.int .i64 x1, .int .i64 x2, .int .i64 x3, .int .i64 x4] (by rfl) (reads_one4 (by (repeat (first | with_reducible exact Blk.new _ _ _ | (with_reducible refine Blk.newAt _ _ _ _ ?_; first | rfl | (simp; done)) | with_reducible (first | apply Blk.alloc | apply Blk.drewN | apply Blk.drew | assumption))); done) rfl rfl) one_x4 (by simp only [maxLen]; omega) (by omega) ((show _ ∧ _ ∧ _ ∧ _ ∧ Below w.heap.size w _ by assumption).2.2.2.2).size ?_); intro v1 w3 hown3 hg3 hat3; have hB3 : Below w.heap.size w w3 := Below.grown (B := w.heap.size) (a := w) (show _ ∧ _ ∧ _ ∧ _ ∧ Below w.heap.size w _ by assumption).2.2.2.2 hg3 ((show _ ∧ _ ∧ _ ∧ _ ∧ Below w.heap.size w _ by assumption).2.2.2.2).size (fun z hz => (hOH.lt z hz).1); have hR3 := World.ownsRow.kept (own_call hR (show Below wz.heap.size wz _ from (by (repeat (first | with_reducible (first | exact Below.refl _ _ | refine Below.drew ?_ | refine below_drewN ?_ _ | refine below_alloc ?_ _))); done))) hg3 hNE) | ((refine step_guard (.tmp 43) (.tmp 44) 23 v1 ?_ ?_ ?_); (focus rfl); (focus rfl); (refine step_append_any _ (by rfl) (.tmp 43) (.tmp 44) 23 (by rfl) w.heap.size 39 i0 _ 4 32 Tryz.underlying23 hi0 hz0 hz1 hz2 rfl (by omega) v1 (q + 1) (csFic (M.take q) ++ [.int .i64 x1, .int .i64 x2, .int .i64 x3, .int .i64 x4]) (by rfl) hown3 _ A5 (N - q) c5 (csFic (M.drop q)) (by rfl) (own_rd hR3) (one_csFic _) (by simp only [maxLen]; omega) (by omega) ((show _ ∧ _ ∧ _ ∧ _ ∧ Below w.heap.size w _ by assumption).2.2.2.2).size ?_); intro v2 w4 hown4 hg4 hat4; have hB4 : Below w.heap.size w w4 := Below.grown (B := w.heap.size) (a := w) (show _ ∧ _ ∧ _ ∧ _ ∧ Below w.heap.size w _ by assumption).2.2.2.2 hg4 ((show _ ∧ _ ∧ _ ∧ _ ∧ Below w.heap.size w _ by assumption).2.2.2.2).size (fun z hz => (hown3.lt z hz).1))))
     all_goals
      have hX := Lib.hid (ord_step HPM.out HOM.out HXI.out HN.out (by omega) HL1.out HL2.out hown4)
      have hB := Lib.hid (show Below w.heap.size w w4 from hB4)
      clear hOH hNE s1 s2 e1 e2 e3 e4 hown4 hown3 hg3 hg4 hat3 hat4 hB3 hB4 hR hR3 kw
      go_wp2_with fail
      go_roundg gh
      case measure => omega
      case rel => exact ⟨i + 1, _, by omega, by go_num, hX.out.1, hX.out.2.1, hX.out.2.2, hB.out⟩
    | succ gk5 =>
     have hqN : q < N := by omega
     have d4 : (q : Int) < (N : Int) := by omega
     obtain ⟨y, hy⟩ := get_some (l := M) (k := q) (by have := HN.out; omega)
     have HYI := Lib.hid hy
     obtain ⟨by_, oy, hA3, hby, hcy⟩ := (own_rd (own_call HOW.out kq)).elem (f := cFic) (fun _ => rfl) hqN hy
     subst hA3
     simp only [← Nat.add_assoc] at hcy
     obtain ⟨y1c, y2c, y3c, y4c⟩ := fic_four hcy
     have z1 := (kyw.cell (p := ⟨bx, _, none⟩) hbx).trans HE1.out
     have z2 := (kyw.cell (p := ⟨bx, _, none⟩) hbx).trans HE2.out
     have z3 := (kyw.cell (p := ⟨bx, _, none⟩) hbx).trans HE3.out
     have z4 := (kyw.cell (p := ⟨bx, _, none⟩) hbx).trans HE4.out
     have lbx : bx < wr.heap.size := by have := kyw.size; omega
     have qb := fun W => rafter_ok (x1, x2, x3, x4) y W
     obtain ⟨y1, y2, y3, y4⟩ := y
     simp only [vF] at qb y1c y2c y3c y4c
     obtain ⟨bb, hbb⟩ : ∃ z, z = decide (lessF (y1, y2, y3, y4) (x1, x2, x3, x4)) := ⟨_, rfl⟩
     simp only [← hbb] at qb
     have HBQ := Lib.hid hbb
     clear hy hcy hbb
     cases bb with
     | true =>
      have HL3 := Lib.hid (show ∀ y ∈ M.take (q + 1), lessF y (x1, x2, x3, x4) from fun y hy => by
       rw [take_get HYI.out] at hy
       rcases List.mem_append.1 hy with hy | hy
       ·exact HL1.out y hy
       ·rw [List.mem_singleton.1 hy]; exact of_decide_eq_true HBQ.out.symm)
      go_wp2_with fail
      refine wp_region_calm (by kernel_rfl) (by kernel_rfl) ?_
      repeat (go_big_quiet_step ((go_at_call 35; with_reducible exact calm_call (qb _))))
      refine wpQuiet_nil ?_
      intro w6 g6
      have k6 := below_call kq g6
      clear y1c y2c y3c y4c z1 z2 z3 z4 g6 kq kyw
      go_wp2
      go_roundg gk5
      case measure => omega
      case rel => exact ⟨q + 1, by omega, by go_num, k6, HL3.out⟩
     | false =>
      have HL2 := Lib.hid (show ∀ y, M[q]? = some y → ¬ lessF y (x1, x2, x3, x4) from fun y hy => by
       rw [HYI.out] at hy
       cases hy
       exact of_decide_eq_false HBQ.out.symm)
      go_wp2_with fail
      refine wp_region_calm (by kernel_rfl) (by kernel_rfl) ?_
      repeat (go_big_quiet_step ((go_at_call 35; with_reducible exact calm_call (qb _))))
      refine wpQuiet_nil ?_
      intro w6 g6
      have kyx := below_call kq g6
      clear y1c y2c y3c y4c z1 z2 z3 z4 kyw lbx
      have ky := below_call HKX.out (below_call kq g6)
      clear g6 kq
      have how := own_call HOW.out (show Below wx.heap.size wx w6 from kyx)
      obtain ⟨wy, hwy⟩ : ∃ z, z = w6 := ⟨_, rfl⟩
      subst hwy
      have hRO := own_rd how
      have hRT : Reads wy wy.heap.size 4 (pa (some ⟨by_, oy, none⟩) q c3 4) (N - q) (csFic (M.drop q)) := by rw [csFic_drop]; exact hRO.tail_part q c3 (by omega) HNC.out
      have hRT2 := hRT.below (Nat.le_refl _) (below_alloc (Below.refl wy.heap.size wy) (.cells #[] 39))
      have hOHy : wy.ownsRow w.heap.size 39 4 (.slice (some ⟨by_, oy, none⟩) q c3) q (csFic (M.take q)) := by rw [csFic_take]; exact own_head how q (by omega)
      have s1 := fun W => run_part_h Tryz.underlying23 hi0 hz1 (some ⟨by_, oy, none⟩) N c3 q (by have := HNC.out; omega) W
      have s2 := fun W => run_part_l Tryz.underlying23 hi0 hz1 (some ⟨by_, oy, none⟩) N c3 q (by omega) W
      clear hRO hRT how
      go_wp2_with (at_builtin; (refine wpList_append_any _ rfl (.tmp 30) (.tmp 33) 23 rfl wy.heap.size 39 i0 _ 4 32 Tryz.underlying23 hi0 hz0 hz1 hz2 rfl (by omega) (.slice (some ⟨wy.heap.size, 0, none⟩) 0 0) 0 [] rfl (World.ownsRow_lit wy #[] 0 (Nat.le_refl _) (by simp [maxLen]) rfl) wy.heap.size (pa (some ⟨by_, oy, none⟩) q c3 4) (N - q) (c3 - q) (csFic (M.drop q)) rfl hRT2 (one_csFic _) (by simp only [maxLen]; omega) (by omega) (by simp) ?_); intro v0 wz hown0 hg0 hat0; simp only [Nat.zero_add, List.nil_append] at hown0; have bz : Below wy.heap.size wy wz := (below_alloc (Below.refl _ _) _).grown hg0 (by simp) (fun k hk => by simp [Value.ownBlock] at hk; omega); obtain ⟨A5, c5, hv0, -, -, -⟩ := own_reads hown0; subst hv0)
      have hR : wz.ownsRow wy.heap.size 39 4 (.slice A5 (N - q) c5) (N - q) (csFic (M.drop q)) := hown0
      have hOH := own_call hOHy bz
      have hNE := own_apart hOHy hR
      have kw := below_call ky bz
      clear hown0 hg0 hat0 hOHy hRT2 ky
      obtain ⟨e1, e2, e3, e4⟩ : wz.cell? ⟨bx, ox + i * 4, none⟩ = some (.int .i64 x1) ∧ wz.cell? ⟨bx, ox + i * 4 + 1, none⟩ = some (.int .i64 x2) ∧ wz.cell? ⟨bx, ox + i * 4 + 2, none⟩ = some (.int .i64 x3) ∧ wz.cell? ⟨bx, ox + i * 4 + 3, none⟩ = some (.int .i64 x4) := ⟨(kw.cell (p := ⟨_, _, none⟩) hbx).trans HE1.out, (kw.cell (p := ⟨_, _, none⟩) hbx).trans HE2.out, (kw.cell (p := ⟨_, _, none⟩) hbx).trans HE3.out, (kw.cell (p := ⟨_, _, none⟩) hbx).trans HE4.out⟩
      replace e1 := HE1.out
      replace e2 := HE2.out
      replace e3 := HE3.out
      replace e4 := HE4.out
      have lbz : bx < wz.heap.size := by have := kw.size; omega
      clear bz
      go_wp2_with fail
      go_region_held3 (fun w' => w'.cell? ⟨bx, ox + i * 4, none⟩ = some (.int .i64 x1) ∧ w'.cell? ⟨bx, ox + i * 4 + 1, none⟩ = some (.int .i64 x2) ∧ w'.cell? ⟨bx, ox + i * 4 + 2, none⟩ = some (.int .i64 x3) ∧ w'.cell? ⟨bx, ox + i * 4 + 3, none⟩ = some (.int .i64 x4) ∧ Below w.heap.size w w') ((refine (fun hb => ⟨(hb.cell (p := ⟨_, _, none⟩) hbx).trans e1, (hb.cell (p := ⟨_, _, none⟩) hbx).trans e2, (hb.cell (p := ⟨_, _, none⟩) hbx).trans e3, (hb.cell (p := ⟨_, _, none⟩) hbx).trans e4, hb⟩) ?_; repeat (first | with_reducible (first | exact kw | exact hB3 | exact hB4 | exact (show _ ∧ _ ∧ _ ∧ _ ∧ Below w.heap.size w _ by assumption).2.2.2.2 | refine Below.drew ?_ | refine below_drewN ?_ _ | refine below_alloc ?_ _)))) ((first | ((refine step_guard (.tmp 37) (.tmp 42) 23 (.slice (some ⟨by_, oy, none⟩) q c3) ?_ ?_ ?_); (focus rfl); (focus rfl); (refine step_append_any _ (by rfl) (.tmp 37) (.tmp 42) 23 (by rfl) w.heap.size 39 i0 _ 4 32 Tryz.underlying23 hi0 hz0 hz1 hz2 rfl (by omega) (.slice (some ⟨by_, oy, none⟩) q c3) q (csFic (M.take q)) (by rfl) (own_call hOH (by (repeat (first | with_reducible (first | exact Below.refl _ _ | refine Below.drew ?_ | refine below_drewN ?_ _ | refine below_alloc ?_ _))); done)) _ _ 1 1 [.int .i64 x1, .int .i64 x2, .int .i64 x3, .int .i64 x4] (by rfl) (reads_one4 (by (repeat (first | with_reducible exact Blk.new _ _ _ | (with_reducible refine Blk.newAt _ _ _ _ ?_; first | rfl | (simp; done)) | with_reducible (first | apply Blk.alloc | apply Blk.drewN | apply Blk.drew | assumption))); done) rfl rfl) one_x4 (by simp only [maxLen]; omega) (by omega) ((show _ ∧ _ ∧ _ ∧ _ ∧ Below w.heap.size w _ by assumption).2.2.2.2).size ?_); intro v1 w3 hown3 hg3 hat3; have hB3 : Below w.heap.size w w3 := Below.grown (B := w.heap.size) (a := w) (show _ ∧ _ ∧ _ ∧ _ ∧ Below w.heap.size w _ by assumption).2.2.2.2 hg3 ((show _ ∧ _ ∧ _ ∧ _ ∧ Below w.heap.size w _ by assumption).2.2.2.2).size (fun z hz => (hOH.lt z hz).1); have hR3 := World.ownsRow.kept (own_call hR (show Below wz.heap.size wz _ from (by (repeat (first | with_reducible (first | exact Below.refl _ _ | refine Below.drew ?_ | refine below_drewN ?_ _ | refine below_alloc ?_ _))); done))) hg3 hNE) | ((refine step_guard (.tmp 43) (.tmp 44) 23 v1 ?_ ?_ ?_); (focus rfl); (focus rfl); (refine step_append_any _ (by rfl) (.tmp 43) (.tmp 44) 23 (by rfl) w.heap.size 39 i0 _ 4 32 Tryz.underlying23 hi0 hz0 hz1 hz2 rfl (by omega) v1 (q + 1) (csFic (M.take q) ++ [.int .i64 x1, .int .i64 x2, .int .i64 x3, .int .i64 x4]) (by rfl) hown3 _ A5 (N - q) c5 (csFic (M.drop q)) (by rfl) (own_rd hR3) (one_csFic _) (by simp only [maxLen]; omega) (by omega) ((show _ ∧ _ ∧ _ ∧ _ ∧ Below w.heap.size w _ by assumption).2.2.2.2).size ?_); intro v2 w4 hown4 hg4 hat4; have hB4 : Below w.heap.size w w4 := Below.grown (B := w.heap.size) (a := w) (show _ ∧ _ ∧ _ ∧ _ ∧ Below w.heap.size w _ by assumption).2.2.2.2 hg4 ((show _ ∧ _ ∧ _ ∧ _ ∧ Below w.heap.size w _ by assumption).2.2.2.2).size (fun z hz => (hown3.lt z hz).1))))
      all_goals
       have hX := Lib.hid (ord_step HPM.out HOM.out HXI.out HN.out (by omega) HL1.out HL2.out hown4)
       have hB := Lib.hid (show Below w.heap.size w w4 from hB4)
       clear hOH hNE s1 s2 e1 e2 e3 e4 hown4 hown3 hg3 hg4 hat3 hat4 hB3 hB4 hR hR3 kw
       go_wp2_with fail
       go_roundg gh
       case measure => omega
       case rel => exact ⟨i + 1, _, by omega, by go_num, hX.out.1, hX.out.2.1, hX.out.2.2, hB.out⟩
end Go.Proofs.YtpkmiegccfhpnaaGreatDoor
