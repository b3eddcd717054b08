/- Parts of the proofs of layer 31: FiSup. -/
import Derived.Test.YtpkmiegccfhpnaaGreatDoorK15
import Derived.Test.YtpkmiegccfhpnaaGreatDoorK05
namespace Go.Proofs.YtpkmiegccfhpnaaGreatDoor
open Go.RowKit Go.Maps
theorem supP_none {l : List (List Ev)} {k e : Nat} {v : List Ev} (hv : l[k]? = some v) (h : e = 0 ∨ v.length ≤ e + 1) : supP l k e = [] := by
  unfold supP
  rw [getD_at hv]
  split
  · rename_i x y z _ _ hz
    rw [if_neg]
    rintro ⟨h1, _⟩
    rcases h with h | h
    · omega
    · have := (List.getElem?_eq_some_iff.1 hz).1; omega
  · rfl
theorem supP_some {l : List (List Ev)} {k j : Nat} {v : List Ev} {x y z : Ev} (hv : l[k]? = some v) (hx : v[j]? = some x) (hy : v[j + 1]? = some y) (hz : v[j + 1 + 1]? = some z) :
    supP l k (j + 1) = if (x.rest = false ∧ y.rest = false ∧ z.rest = false) ∧ x.pit = z.pit ∧ x.pit.1 = 5 ∧ y.pit.2.2 = 0 ∧ numP y.pit = numP x.pit + 1 then [((k : Int), ((j + 1 : Nat) : Int))] else [] := by
  unfold supP
  rw [getD_at hv, show j + 1 - 1 = j by omega, hx, hy, hz]
  simp
theorem supV_next (l : List (List Ev)) (v k : Nat) : supV l v (k + 1) = supV l v k ++ supP l v k := by unfold supV; rw [flat_succ]
theorem supS_next (l : List (List Ev)) (k : Nat) : supS l (k + 1) = supS l k ++ supV l k (l.getD k []).length := by unfold supS; rw [flat_succ]
theorem supV_start {l : List (List Ev)} {k : Nat} {v : List Ev} (hv : l[k]? = some v) : supV l k 1 = [] := by
  rw [supV_next, supP_none hv (.inl rfl)]; rfl
theorem supV_end {l : List (List Ev)} {k e : Nat} {v : List Ev} (hv : l[k]? = some v) (h1 : e = 1 ∨ e < v.length) (he : v.length ≤ e + 1) : supV l k v.length = supV l k e := by
  rcases Nat.lt_or_ge e v.length with h | h
  · have : v.length = e + 1 := by omega
    rw [this, supV_next, supP_none hv (.inr he), List.append_nil]
  · obtain rfl : e = 1 := by omega
    rcases Nat.eq_or_lt_of_le h with h | h
    · rw [h]
    · have : v.length = 0 := by omega
      rw [this, supV_start hv]; rfl
set_option maxRecDepth 100000 in
set_option maxHeartbeats 8000000 in
theorem superLa_ok {w : World} {db ob ib mo no : Nat} {pd : Option Nat} {dn f : Plc → Option Fic} (h : YS w db ob ib pd dn mo no f 3) (hno : no ≤ 10000000) (A : Option Addr) (n c : Nat) (l : List (List Ev)) (B : Nat) (hV : ReadsV w B A n l) (hB : B ≤ mo) (hl : SetV l) :
    Calls Tryz.prog 65 #[.slice A n c, .func (.func 66) #[] #[.pointer (some ⟨db, 0, none⟩), .pointer (some ⟨ob, 0, none⟩), .pointer (some ⟨ib, 0, none⟩)]] w
      fun e w' => e = .returned (.tuple #[]) ∧ ∃ no', no' ≤ no + 100000 ∧ RInv w w' db ob ib pd dn mo no' (ylds dn 3 (-1) f (supL l)) 3 := by
  have hmo := h.out.lt
  have hLN := hV.len
  have hn8 : n ≤ 8 := by have := hl.len; omega
  have HE := Lib.hid (show supS l n = supL l by rw [← hLN]; rfl)
  have HLN := Lib.hid hLN
  have HV := Lib.hid hV
  have HY := Lib.hid h
  have HSL := Lib.hid hl
  have inv0 : RInv w w db ob ib pd dn mo no f 3 := ⟨h, Gb.refl _ _⟩
  clear h hV hl hLN
  go_enter Tryz.func65, Tryz.ntmps65
  go_wp2_with fail
  go_loopg [4, 5, 6, 7, 8, 9, 10, 11, 12, 15] n (fun gh _ _ _ _ _ _ _ _ _ i wr => ∃ (k no' : Nat), k + gh = n ∧ i = .int .i64 (k : Int) ∧ no' ≤ no + k * 2000 ∧ RInv w wr db ob ib pd dn mo no' (ylds dn 3 (-1) f (supS l k)) 3)
  case atStart => exact ⟨0, no, by omega, by simp, by omega, inv0⟩
  case round =>
    clear inv0
    obtain ⟨k, no', hkg, rfl, hno', inv⟩ := hrel
    have wk : IntKind.i64.wrap ((k : Int) + 1) = (k : Int) + 1 := IntWalk.i64_in _ (by omega)
    cases gk with
    | zero =>
      have hk : k = n := by omega
      subst hk
      have d0 : ¬ ((k : Int) < (k : Int)) := by omega
      go_wp2
      refine bodyPost_end (results_none rfl _ _ _) rfl ?_
      rw [← HE.out]
      exact ⟨rfl, no', by omega, inv⟩
    | succ gh =>
      have hkn : k < n := by omega
      have d0 : (k : Int) < (n : Int) := by omega
      obtain ⟨v, hv⟩ := get_some (l := l) (k := k) (by have := HLN.out; omega)
      have hm := List.mem_of_getElem? hv
      have hv2 := HSL.out.few v hm
      have HVL := Lib.hid hv
      have HS1 := Lib.hid (show supS l (k + 1) = supS l k ++ supV l k v.length by rw [supS_next, getD_at hv])
      have HP := Lib.hid (HSL.out.pits v hm)
      obtain ⟨lv, hlv⟩ : ∃ z, z = v.length := ⟨_, rfl⟩
      have HLV := Lib.hid hlv
      clear hv hm hlv
      go_wp2_with fail
      go_loopg [5, 6, 7, 8, 9, 10, 11, 12] lv (fun g2 x _ _ _ _ _ _ _ wy => ∃ (e no' : Nat), e + g2 = lv + 1 ∧ 1 ≤ e ∧ (e = 1 ∨ e < lv) ∧ x = .int .i64 (e : Int) ∧ no' ≤ no + k * 2000 + e ∧ RInv w wy db ob ib pd dn mo no' (ylds dn 3 (-1) f (supS l k ++ supV l k e)) 3)
      case atStart => exact ⟨1, no', by omega, by omega, .inl rfl, by simp, by omega, by rw [supV_start HVL.out, List.append_nil]; exact inv⟩
      case round =>
        clear inv
        obtain ⟨e, no', heg, he1, hee, rfl, hno', inv⟩ := hrel
        obtain ⟨bv, ov, A', n', c', rfl, hbv, cv, rv, hn', hvn⟩ := (HV.out.under (inv.low hB hmo)).voice (by have := inv.gb.size; omega) (Below.refl _ _) hkn HVL.out
        obtain rfl : n' = lv := by rw [HLV.out]; exact hvn.symm
        have hBr : B ≤ wr.heap.size := by have := inv.gb.size; omega
        have we : IntKind.i64.wrap ((e : Int) + 1) = (e : Int) + 1 := IntWalk.i64_in _ (by omega)
        by_cases hlt : e + 1 < n'
        · have d1 : (e : Int) + 1 < (n' : Int) := by omega
          obtain ⟨j, hj⟩ : ∃ j, e = j + 1 := ⟨e - 1, by omega⟩
          obtain ⟨x, hx⟩ := get_some (l := v) (k := j) (by omega)
          obtain ⟨y, hy⟩ := get_some (l := v) (k := j + 1) (by omega)
          obtain ⟨z, hz⟩ := get_some (l := v) (k := j + 1 + 1) (by omega)
          obtain ⟨bx, ox, hA', hbx, hcx⟩ := rv.ev hBr (Below.refl _ _) (show j < n' by omega) hx
          obtain ⟨bx', ox', hA'', -, hcy⟩ := rv.ev hBr (Below.refl _ _) (show j + 1 < n' by omega) hy
          rw [hA'] at hA''
          cases hA''
          obtain ⟨bx', ox', hA'', -, hcz⟩ := rv.ev hBr (Below.refl _ _) (show j + 1 + 1 < n' by omega) hz
          rw [hA'] at hA''
          cases hA''
          obtain ⟨m, hm⟩ : ∃ m, m = j + 1 + 1 := ⟨_, rfl⟩
          rw [← hm] at hcz
          rw [← hj] at hcy
          have a1 : (e : Int) - 1 = (j : Int) := by omega
          have a2 : (e : Int) + 1 = (m : Int) := by omega
          have a3 : IntKind.i64.wrap (j : Int) = (j : Int) := IntWalk.i64_in _ (by omega)
          have a4 : IntKind.i64.wrap (m : Int) = (m : Int) := IntWalk.i64_in _ (by omega)
          have l1 : (j : Int) < (n' : Int) := by omega
          have l2 : (e : Int) < (n' : Int) := by omega
          have l3 : (m : Int) < (n' : Int) := by omega
          have n1 : j < n' := by omega
          have n2 : e < n' := by omega
          have n3 : m < n' := by omega
          subst hA'
          have E := Lib.hid (supP_some HVL.out hx hy hz)
          have hpx := HP.out x (List.mem_of_getElem? hx)
          have hpy := HP.out y (List.mem_of_getElem? hy)
          have hye := Lib.hid (evA_nat HVL.out hy)
          rw [← hj] at E hye
          have HN := Lib.hid (show supV l k (e + 1) = supV l k e ++ supP l k e from supV_next l k e)
          obtain ⟨X0, X1, X2, X3, X4, X5, X6, X7, X8, X9⟩ := ten hcx
          obtain ⟨Y0, Y1, Y2, Y3, Y4, Y5, Y6, Y7, Y8, Y9⟩ := ten hcy
          obtain ⟨Z0, Z1, Z2, Z3, Z4, Z5, Z6, Z7, Z8, Z9⟩ := ten hcz
          obtain ⟨⟨x0, x1⟩, ⟨x2, x3⟩, ⟨x4, x5, x6⟩, rx, x8, x9⟩ := x
          obtain ⟨⟨y0, y1⟩, ⟨y2, y3⟩, ⟨y4, y5, y6⟩, ry, y8, y9⟩ := y
          obtain ⟨⟨z0, z1⟩, ⟨z2, z3⟩, ⟨z4, z5, z6⟩, rz, z8, z9⟩ := z
          simp only at X0 X1 X2 X3 X4 X5 X6 X7 X8 X9 Y0 Y1 Y2 Y3 Y4 Y5 Y6 Y7 Y8 Y9 Z0 Z1 Z2 Z3 Z4 Z5 Z6 Z7 Z8 Z9
          have HJ := Lib.hid (And.intro hj hm)
          clear hx hy hz hcx hcy hcz hj hm rv hvn hn' hee he1
          go_wp2_with fail
          apply share
          · intro main
            refine wp_region_held (S := fun w' => Below wr.heap.size wr w') (by kernel_rfl) ?_
            have hHeld : Below wr.heap.size wr wr.drew := (Below.refl _ _).drew
            show wpAnyH _ _ _ _ _ _ _ _ wr.drew
            refine wpAnyH_take (i := 0) (oi := _) (v := ?_) rfl (by kernel_rfl) (by kernel_rfl) (by kernel_rfl) (fun _ _ _ h => h) (Or.inl ⟨by rfl, ?_⟩) hHeld ?_
            rotate_left 1
            · (intro w hSw; (try dsimp only at hSw); have hcb := fun o => hSw.cell (p := ⟨bx, o, none⟩) hbx; have hcv := hSw.cell (p := ⟨bv, ov + k, none⟩) hbv; have hlb : bx < w.heap.size := Nat.lt_of_lt_of_le hbx hSw.size; have hlv : bv < w.heap.size := Nat.lt_of_lt_of_le hbv hSw.size; go_simp; try with_reducible rfl)
            simp only [Act.put]
            refine wpAnyH_take (i := 1) (oi := _) (v := ?_) rfl (by kernel_rfl) (by kernel_rfl) (by kernel_rfl) (fun _ _ _ h => h) (Or.inl ⟨by rfl, ?_⟩) hHeld ?_
            rotate_left 1
            · (intro w hSw; (try dsimp only at hSw); have hcb := fun o => hSw.cell (p := ⟨bx, o, none⟩) hbx; have hcv := hSw.cell (p := ⟨bv, ov + k, none⟩) hbv; have hlb : bx < w.heap.size := Nat.lt_of_lt_of_le hbx hSw.size; have hlv : bv < w.heap.size := Nat.lt_of_lt_of_le hbv hSw.size; go_simp; try with_reducible rfl)
            simp only [Act.put]
            refine wpAnyH_take (i := 2) (oi := _) (v := ?_) rfl (by kernel_rfl) (by kernel_rfl) (by kernel_rfl) (fun _ _ _ h => h) (Or.inl ⟨by rfl, ?_⟩) hHeld ?_
            rotate_left 1
            · (intro w hSw; (try dsimp only at hSw); have hcb := fun o => hSw.cell (p := ⟨bx, o, none⟩) hbx; have hcv := hSw.cell (p := ⟨bv, ov + k, none⟩) hbv; have hlb : bx < w.heap.size := Nat.lt_of_lt_of_le hbx hSw.size; have hlv : bv < w.heap.size := Nat.lt_of_lt_of_le hbv hSw.size; go_simp; try with_reducible rfl)
            simp only [Act.put]
            refine wpAnyH_take (i := 3) (oi := _) (v := ?_) rfl (by kernel_rfl) (by kernel_rfl) (by kernel_rfl) (fun _ _ _ h => h) (Or.inl ⟨by rfl, ?_⟩) hHeld ?_
            rotate_left 1
            · (intro w hSw; (try dsimp only at hSw); have hcb := fun o => hSw.cell (p := ⟨bx, o, none⟩) hbx; have hcv := hSw.cell (p := ⟨bv, ov + k, none⟩) hbv; have hlb : bx < w.heap.size := Nat.lt_of_lt_of_le hbx hSw.size; have hlv : bv < w.heap.size := Nat.lt_of_lt_of_le hbv hSw.size; go_simp; try with_reducible rfl)
            simp only [Act.put]
            refine wpAnyH_take (i := 4) (oi := _) (v := ?_) rfl (by kernel_rfl) (by kernel_rfl) (by kernel_rfl) (fun _ _ _ h => h) (Or.inl ⟨by rfl, ?_⟩) hHeld ?_
            rotate_left 1
            · (intro w hSw; (try dsimp only at hSw); have hcb := fun o => hSw.cell (p := ⟨bx, o, none⟩) hbx; have hcv := hSw.cell (p := ⟨bv, ov + k, none⟩) hbv; have hlb : bx < w.heap.size := Nat.lt_of_lt_of_le hbx hSw.size; have hlv : bv < w.heap.size := Nat.lt_of_lt_of_le hbv hSw.size; go_simp; try with_reducible rfl)
            simp only [Act.put]
            refine wpAnyH_take (i := 5) (oi := _) (v := ?_) rfl (by kernel_rfl) (by kernel_rfl) (by kernel_rfl) (fun _ _ _ h => h) (Or.inl ⟨by rfl, ?_⟩) hHeld ?_
            rotate_left 1
            · (intro w hSw; (try dsimp only at hSw); have hcb := fun o => hSw.cell (p := ⟨bx, o, none⟩) hbx; have hcv := hSw.cell (p := ⟨bv, ov + k, none⟩) hbv; have hlb : bx < w.heap.size := Nat.lt_of_lt_of_le hbx hSw.size; have hlv : bv < w.heap.size := Nat.lt_of_lt_of_le hbv hSw.size; go_simp; try with_reducible rfl)
            simp only [Act.put]
            refine wpAnyH_take (i := 6) (oi := _) (v := ?_) rfl (by kernel_rfl) (by kernel_rfl) (by kernel_rfl) (fun _ _ _ h => h) (Or.inl ⟨by rfl, ?_⟩) hHeld ?_
            rotate_left 1
            · (intro w hSw; (try dsimp only at hSw); have hcb := fun o => hSw.cell (p := ⟨bx, o, none⟩) hbx; have hcv := hSw.cell (p := ⟨bv, ov + k, none⟩) hbv; have hlb : bx < w.heap.size := Nat.lt_of_lt_of_le hbx hSw.size; have hlv : bv < w.heap.size := Nat.lt_of_lt_of_le hbv hSw.size; go_simp; try with_reducible rfl)
            simp only [Act.put]
            refine wpAnyH_take (i := 7) (oi := _) (v := ?_) rfl (by kernel_rfl) (by kernel_rfl) (by kernel_rfl) (fun _ _ _ h => h) (Or.inl ⟨by rfl, ?_⟩) hHeld ?_
            rotate_left 1
            · (intro w hSw; (try dsimp only at hSw); have hcb := fun o => hSw.cell (p := ⟨bx, o, none⟩) hbx; have hcv := hSw.cell (p := ⟨bv, ov + k, none⟩) hbv; have hlb : bx < w.heap.size := Nat.lt_of_lt_of_le hbx hSw.size; have hlv : bv < w.heap.size := Nat.lt_of_lt_of_le hbv hSw.size; go_simp; try with_reducible rfl)
            simp only [Act.put]
            refine wpAnyH_take (i := 8) (oi := _) (v := ?_) rfl (by kernel_rfl) (by kernel_rfl) (by kernel_rfl) (fun _ _ _ h => h) (Or.inl ⟨by rfl, ?_⟩) hHeld ?_
            rotate_left 1
            · (intro w hSw; (try dsimp only at hSw); have hcb := fun o => hSw.cell (p := ⟨bx, o, none⟩) hbx; have hcv := hSw.cell (p := ⟨bv, ov + k, none⟩) hbv; have hlb : bx < w.heap.size := Nat.lt_of_lt_of_le hbx hSw.size; have hlv : bv < w.heap.size := Nat.lt_of_lt_of_le hbv hSw.size; go_simp; try with_reducible rfl)
            simp only [Act.put]
            refine wpAnyH_take (i := 9) (oi := _) (v := ?_) rfl (by kernel_rfl) (by kernel_rfl) (by kernel_rfl) (fun _ _ _ h => h) (Or.inl ⟨by rfl, ?_⟩) hHeld ?_
            rotate_left 1
            · (intro w hSw; (try dsimp only at hSw); have hcb := fun o => hSw.cell (p := ⟨bx, o, none⟩) hbx; have hcv := hSw.cell (p := ⟨bv, ov + k, none⟩) hbv; have hlb : bx < w.heap.size := Nat.lt_of_lt_of_le hbx hSw.size; have hlv : bv < w.heap.size := Nat.lt_of_lt_of_le hbv hSw.size; go_simp; try with_reducible rfl)
            simp only [Act.put]
            refine wpAnyH_take (i := 10) (oi := _) (v := ?_) rfl (by kernel_rfl) (by kernel_rfl) (by kernel_rfl) (fun _ _ _ h => h) (Or.inl ⟨by rfl, ?_⟩) hHeld ?_
            rotate_left 1
            · (intro w hSw; (try dsimp only at hSw); have hcb := fun o => hSw.cell (p := ⟨bx, o, none⟩) hbx; have hcv := hSw.cell (p := ⟨bv, ov + k, none⟩) hbv; have hlb : bx < w.heap.size := Nat.lt_of_lt_of_le hbx hSw.size; have hlv : bv < w.heap.size := Nat.lt_of_lt_of_le hbv hSw.size; go_simp; try with_reducible rfl)
            simp only [Act.put]
            refine wpAnyH_take (i := 11) (oi := _) (v := ?_) rfl (by kernel_rfl) (by kernel_rfl) (by kernel_rfl) (fun _ _ _ h => h) (Or.inl ⟨by rfl, ?_⟩) hHeld ?_
            rotate_left 1
            · (intro w hSw; (try dsimp only at hSw); have hcb := fun o => hSw.cell (p := ⟨bx, o, none⟩) hbx; have hcv := hSw.cell (p := ⟨bv, ov + k, none⟩) hbv; have hlb : bx < w.heap.size := Nat.lt_of_lt_of_le hbx hSw.size; have hlv : bv < w.heap.size := Nat.lt_of_lt_of_le hbv hSw.size; go_simp; try with_reducible rfl)
            simp only [Act.put]
            refine wpAnyH_take (i := 12) (oi := _) (v := ?_) rfl (by kernel_rfl) (by kernel_rfl) (by kernel_rfl) (fun _ _ _ h => h) (Or.inl ⟨by rfl, ?_⟩) hHeld ?_
            rotate_left 1
            · (intro w hSw; (try dsimp only at hSw); have hcb := fun o => hSw.cell (p := ⟨bx, o, none⟩) hbx; have hcv := hSw.cell (p := ⟨bv, ov + k, none⟩) hbv; have hlb : bx < w.heap.size := Nat.lt_of_lt_of_le hbx hSw.size; have hlv : bv < w.heap.size := Nat.lt_of_lt_of_le hbv hSw.size; go_simp; try with_reducible rfl)
            simp only [Act.put]
            refine wpAnyH_take (i := 13) (oi := _) (v := ?_) rfl (by kernel_rfl) (by kernel_rfl) (by kernel_rfl) (fun _ _ _ h => h) (Or.inl ⟨by rfl, ?_⟩) hHeld ?_
            rotate_left 1
            · (intro w hSw; (try dsimp only at hSw); have hcb := fun o => hSw.cell (p := ⟨bx, o, none⟩) hbx; have hcv := hSw.cell (p := ⟨bv, ov + k, none⟩) hbv; have hlb : bx < w.heap.size := Nat.lt_of_lt_of_le hbx hSw.size; have hlv : bv < w.heap.size := Nat.lt_of_lt_of_le hbv hSw.size; go_simp; try with_reducible rfl)
            simp only [Act.put]
            refine wpAnyH_take (i := 14) (oi := _) (v := ?_) rfl (by kernel_rfl) (by kernel_rfl) (by kernel_rfl) (fun _ _ _ h => h) (Or.inl ⟨by rfl, ?_⟩) hHeld ?_
            rotate_left 1
            · (intro w hSw; (try dsimp only at hSw); have hcb := fun o => hSw.cell (p := ⟨bx, o, none⟩) hbx; have hcv := hSw.cell (p := ⟨bv, ov + k, none⟩) hbv; have hlb : bx < w.heap.size := Nat.lt_of_lt_of_le hbx hSw.size; have hlv : bv < w.heap.size := Nat.lt_of_lt_of_le hbv hSw.size; go_simp; try with_reducible rfl)
            simp only [Act.put]
            refine wpAnyH_take (i := 15) (oi := _) (v := ?_) rfl (by kernel_rfl) (by kernel_rfl) (by kernel_rfl) (fun _ _ _ h => h) (Or.inl ⟨by rfl, ?_⟩) hHeld ?_
            rotate_left 1
            · (intro w hSw; (try dsimp only at hSw); have hcb := fun o => hSw.cell (p := ⟨bx, o, none⟩) hbx; have hcv := hSw.cell (p := ⟨bv, ov + k, none⟩) hbv; have hlb : bx < w.heap.size := Nat.lt_of_lt_of_le hbx hSw.size; have hlv : bv < w.heap.size := Nat.lt_of_lt_of_le hbv hSw.size; go_simp; try with_reducible rfl)
            simp only [Act.put]
            refine wpAnyH_take (i := 16) (oi := _) (v := ?_) rfl (by kernel_rfl) (by kernel_rfl) (by kernel_rfl) (fun _ _ _ h => h) (Or.inl ⟨by rfl, ?_⟩) hHeld ?_
            rotate_left 1
            · (intro w hSw; (try dsimp only at hSw); have hcb := fun o => hSw.cell (p := ⟨bx, o, none⟩) hbx; have hcv := hSw.cell (p := ⟨bv, ov + k, none⟩) hbv; have hlb : bx < w.heap.size := Nat.lt_of_lt_of_le hbx hSw.size; have hlv : bv < w.heap.size := Nat.lt_of_lt_of_le hbv hSw.size; go_simp; try with_reducible rfl)
            simp only [Act.put]
            refine wpAnyH_take (i := 17) (oi := _) (v := ?_) rfl (by kernel_rfl) (by kernel_rfl) (by kernel_rfl) (fun _ _ _ h => h) (Or.inl ⟨by rfl, ?_⟩) hHeld ?_
            rotate_left 1
            · (intro w hSw; (try dsimp only at hSw); have hcb := fun o => hSw.cell (p := ⟨bx, o, none⟩) hbx; have hcv := hSw.cell (p := ⟨bv, ov + k, none⟩) hbv; have hlb : bx < w.heap.size := Nat.lt_of_lt_of_le hbx hSw.size; have hlv : bv < w.heap.size := Nat.lt_of_lt_of_le hbv hSw.size; go_simp; try with_reducible rfl)
            simp only [Act.put]
            refine wpAnyH_take (i := 18) (oi := _) (v := ?_) rfl (by kernel_rfl) (by kernel_rfl) (by kernel_rfl) (fun _ _ _ h => h) (Or.inl ⟨by rfl, ?_⟩) hHeld ?_
            rotate_left 1
            · (intro w hSw; (try dsimp only at hSw); have hcb := fun o => hSw.cell (p := ⟨bx, o, none⟩) hbx; have hcv := hSw.cell (p := ⟨bv, ov + k, none⟩) hbv; have hlb : bx < w.heap.size := Nat.lt_of_lt_of_le hbx hSw.size; have hlv : bv < w.heap.size := Nat.lt_of_lt_of_le hbv hSw.size; go_simp; try with_reducible rfl)
            simp only [Act.put]
            refine wpAnyH_take (i := 19) (oi := _) (v := ?_) rfl (by kernel_rfl) (by kernel_rfl) (by kernel_rfl) (fun _ _ _ h => h) (Or.inl ⟨by rfl, ?_⟩) hHeld ?_
            rotate_left 1
            · (intro w hSw; (try dsimp only at hSw); have hcb := fun o => hSw.cell (p := ⟨bx, o, none⟩) hbx; have hcv := hSw.cell (p := ⟨bv, ov + k, none⟩) hbv; have hlb : bx < w.heap.size := Nat.lt_of_lt_of_le hbx hSw.size; have hlv : bv < w.heap.size := Nat.lt_of_lt_of_le hbv hSw.size; go_simp; try with_reducible rfl)
            simp only [Act.put]
            refine wpAnyH_take (i := 20) (oi := _) (v := ?_) rfl (by kernel_rfl) (by kernel_rfl) (by kernel_rfl) (fun _ _ _ h => h) (Or.inl ⟨by rfl, ?_⟩) hHeld ?_
            rotate_left 1
            · (intro w hSw; (try dsimp only at hSw); have hcb := fun o => hSw.cell (p := ⟨bx, o, none⟩) hbx; have hcv := hSw.cell (p := ⟨bv, ov + k, none⟩) hbv; have hlb : bx < w.heap.size := Nat.lt_of_lt_of_le hbx hSw.size; have hlv : bv < w.heap.size := Nat.lt_of_lt_of_le hbv hSw.size; go_simp; try with_reducible rfl)
            simp only [Act.put]
            refine wpAnyH_take (i := 21) (oi := _) (v := ?_) rfl (by kernel_rfl) (by kernel_rfl) (by kernel_rfl) (fun _ _ _ h => h) (Or.inl ⟨by rfl, ?_⟩) hHeld ?_
            rotate_left 1
            · (intro w hSw; (try dsimp only at hSw); have hcb := fun o => hSw.cell (p := ⟨bx, o, none⟩) hbx; have hcv := hSw.cell (p := ⟨bv, ov + k, none⟩) hbv; have hlb : bx < w.heap.size := Nat.lt_of_lt_of_le hbx hSw.size; have hlv : bv < w.heap.size := Nat.lt_of_lt_of_le hbv hSw.size; go_simp; try with_reducible rfl)
            simp only [Act.put]
            refine wpAnyH_take (i := 22) (oi := _) (v := ?_) rfl (by kernel_rfl) (by kernel_rfl) (by kernel_rfl) (fun _ _ _ h => h) (Or.inl ⟨by rfl, ?_⟩) hHeld ?_
            rotate_left 1
            · (intro w hSw; (try dsimp only at hSw); have hcb := fun o => hSw.cell (p := ⟨bx, o, none⟩) hbx; have hcv := hSw.cell (p := ⟨bv, ov + k, none⟩) hbv; have hlb : bx < w.heap.size := Nat.lt_of_lt_of_le hbx hSw.size; have hlv : bv < w.heap.size := Nat.lt_of_lt_of_le hbv hSw.size; go_simp; try with_reducible rfl)
            simp only [Act.put]
            refine wpAnyH_ready (rs := [23,24,25]) (by kernel_rfl) (by simp) ?_
            refine AllReadyH.cons (o := _) rfl (fun K hK => ?_) (AllReadyH.cons (o := _) rfl (fun K hK => ?_) (AllReadyH.cons (o := _) rfl (fun K hK => ?_) (AllReadyH.nil)))
            · rw [if_pos (by rfl)]
              go_simp
              refine hK.out _ _ (below_alloc (Below.refl wr.heap.size wr).drew (.cells #[.int .i64 0, .int .i64 0, .int .i64 0, .int .i64 0, .int .i64 0, .int .i64 0, .int .i64 0, .bool false, .int .i64 0, .int .i64 0] 49)) (fun _ => ?_)
              clear hK
              refine wpAnyH_ready (rs := [24,25]) (by kernel_rfl) (by simp) ?_
              refine AllReadyH.cons (o := _) rfl (fun K hK => ?_) (AllReadyH.cons (o := _) rfl (fun K hK => ?_) (AllReadyH.nil))
              · rw [if_pos (by rfl)]
                go_simp
                refine hK.out _ _ (below_alloc (below_alloc (Below.refl wr.heap.size wr).drew (.cells #[.int .i64 0, .int .i64 0, .int .i64 0, .int .i64 0, .int .i64 0, .int .i64 0, .int .i64 0, .bool false, .int .i64 0, .int .i64 0] 49)) (.cells #[.int .i64 0, .int .i64 0, .int .i64 0, .int .i64 0, .int .i64 0, .int .i64 0, .int .i64 0, .bool false, .int .i64 0, .int .i64 0] 49)) (fun _ => ?_)
                clear hK
                refine wpAnyH_ready (rs := [25]) (by kernel_rfl) (by simp) ?_
                refine AllReadyH.cons (o := _) rfl (fun K hK => ?_) (AllReadyH.nil)
                · rw [if_pos (by rfl)]
                  go_simp
                  refine hK.out _ _ (below_alloc (below_alloc (below_alloc (Below.refl wr.heap.size wr).drew (.cells #[.int .i64 0, .int .i64 0, .int .i64 0, .int .i64 0, .int .i64 0, .int .i64 0, .int .i64 0, .bool false, .int .i64 0, .int .i64 0] 49)) (.cells #[.int .i64 0, .int .i64 0, .int .i64 0, .int .i64 0, .int .i64 0, .int .i64 0, .int .i64 0, .bool false, .int .i64 0, .int .i64 0] 49)) (.cells #[.int .i64 0, .int .i64 0, .int .i64 0, .int .i64 0, .int .i64 0, .int .i64 0, .int .i64 0, .bool false, .int .i64 0, .int .i64 0] 49)) (fun _ => ?_)
                  clear hK
                  refine wpAnyH_ready (rs := [26]) (by kernel_rfl) (by simp) ?_
                  refine AllReadyH.cons (o := _) rfl (fun K hK => ?_) AllReadyH.nil
                  rw [if_pos (by rfl)]
                  go_simp
                  refine hK.out _ _ (below_alloc (below_alloc (below_alloc (Below.refl wr.heap.size wr).drew (.cells #[.int .i64 x0, .int .i64 x1, .int .i64 x2, .int .i64 x3, .int .i64 x4, .int .i64 x5, .int .i64 x6, .bool rx, .int .i64 x8, .int .i64 x9] 49)) (.cells #[.int .i64 0, .int .i64 0, .int .i64 0, .int .i64 0, .int .i64 0, .int .i64 0, .int .i64 0, .bool false, .int .i64 0, .int .i64 0] 49)) (.cells #[.int .i64 0, .int .i64 0, .int .i64 0, .int .i64 0, .int .i64 0, .int .i64 0, .int .i64 0, .bool false, .int .i64 0, .int .i64 0] 49)) (fun _ => ?_)
                  clear hK
                  refine wpAnyH_ready (rs := [27]) (by kernel_rfl) (by simp) ?_
                  refine AllReadyH.cons (o := _) rfl (fun K hK => ?_) AllReadyH.nil
                  rw [if_pos (by rfl)]
                  go_simp
                  refine hK.out _ _ (below_alloc (below_alloc (below_alloc (Below.refl wr.heap.size wr).drew (.cells #[.int .i64 x0, .int .i64 x1, .int .i64 x2, .int .i64 x3, .int .i64 x4, .int .i64 x5, .int .i64 x6, .bool rx, .int .i64 x8, .int .i64 x9] 49)) (.cells #[.int .i64 y0, .int .i64 y1, .int .i64 y2, .int .i64 y3, .int .i64 y4, .int .i64 y5, .int .i64 y6, .bool ry, .int .i64 y8, .int .i64 y9] 49)) (.cells #[.int .i64 0, .int .i64 0, .int .i64 0, .int .i64 0, .int .i64 0, .int .i64 0, .int .i64 0, .bool false, .int .i64 0, .int .i64 0] 49)) (fun _ => ?_)
                  clear hK
                  refine wpAnyH_ready (rs := [28]) (by kernel_rfl) (by simp) ?_
                  refine AllReadyH.cons (o := _) rfl (fun K hK => ?_) AllReadyH.nil
                  rw [if_pos (by rfl)]
                  go_simp
                  refine hK.out _ _ (below_alloc (below_alloc (below_alloc (Below.refl wr.heap.size wr).drew (.cells #[.int .i64 x0, .int .i64 x1, .int .i64 x2, .int .i64 x3, .int .i64 x4, .int .i64 x5, .int .i64 x6, .bool rx, .int .i64 x8, .int .i64 x9] 49)) (.cells #[.int .i64 y0, .int .i64 y1, .int .i64 y2, .int .i64 y3, .int .i64 y4, .int .i64 y5, .int .i64 y6, .bool ry, .int .i64 y8, .int .i64 y9] 49)) (.cells #[.int .i64 z0, .int .i64 z1, .int .i64 z2, .int .i64 z3, .int .i64 z4, .int .i64 z5, .int .i64 z6, .bool rz, .int .i64 z8, .int .i64 z9] 49)) (fun _ => ?_)
                  clear hK
                  refine wpAnyH_done (by kernel_rfl) ?_ _
                  have hB6 : Below wr.heap.size wr (((wr.alloc (.cells #[.int .i64 x0, .int .i64 x1, .int .i64 x2, .int .i64 x3, .int .i64 x4, .int .i64 x5, .int .i64 x6, .bool rx, .int .i64 x8, .int .i64 x9] 49)).alloc (.cells #[.int .i64 y0, .int .i64 y1, .int .i64 y2, .int .i64 y3, .int .i64 y4, .int .i64 y5, .int .i64 y6, .bool ry, .int .i64 y8, .int .i64 y9] 49)).alloc (.cells #[.int .i64 z0, .int .i64 z1, .int .i64 z2, .int .i64 z3, .int .i64 z4, .int .i64 z5, .int .i64 z6, .bool rz, .int .i64 z8, .int .i64 z9] 49)).drew := (Below.drew (below_alloc (below_alloc (below_alloc (Below.refl wr.heap.size wr) (.cells #[.int .i64 x0, .int .i64 x1, .int .i64 x2, .int .i64 x3, .int .i64 x4, .int .i64 x5, .int .i64 x6, .bool rx, .int .i64 x8, .int .i64 x9] 49)) (.cells #[.int .i64 y0, .int .i64 y1, .int .i64 y2, .int .i64 y3, .int .i64 y4, .int .i64 y5, .int .i64 y6, .bool ry, .int .i64 y8, .int .i64 y9] 49)) (.cells #[.int .i64 z0, .int .i64 z1, .int .i64 z2, .int .i64 z3, .int .i64 z4, .int .i64 z5, .int .i64 z6, .bool rz, .int .i64 z8, .int .i64 z9] 49)))
                  have e1 : wr.drew.heap.size = wr.heap.size := rfl
                  have BX : Blk (((wr.alloc (.cells #[.int .i64 x0, .int .i64 x1, .int .i64 x2, .int .i64 x3, .int .i64 x4, .int .i64 x5, .int .i64 x6, .bool rx, .int .i64 x8, .int .i64 x9] 49)).alloc (.cells #[.int .i64 y0, .int .i64 y1, .int .i64 y2, .int .i64 y3, .int .i64 y4, .int .i64 y5, .int .i64 y6, .bool ry, .int .i64 y8, .int .i64 y9] 49)).alloc (.cells #[.int .i64 z0, .int .i64 z1, .int .i64 z2, .int .i64 z3, .int .i64 z4, .int .i64 z5, .int .i64 z6, .bool rz, .int .i64 z8, .int .i64 z9] 49)).drew (wr.heap.size) 49 #[.int .i64 x0, .int .i64 x1, .int .i64 x2, .int .i64 x3, .int .i64 x4, .int .i64 x5, .int .i64 x6, .bool rx, .int .i64 x8, .int .i64 x9] := Blk.drew (Blk.alloc (Blk.alloc (Blk.new _ _ _) _) _)
                  have BY : Blk (((wr.alloc (.cells #[.int .i64 x0, .int .i64 x1, .int .i64 x2, .int .i64 x3, .int .i64 x4, .int .i64 x5, .int .i64 x6, .bool rx, .int .i64 x8, .int .i64 x9] 49)).alloc (.cells #[.int .i64 y0, .int .i64 y1, .int .i64 y2, .int .i64 y3, .int .i64 y4, .int .i64 y5, .int .i64 y6, .bool ry, .int .i64 y8, .int .i64 y9] 49)).alloc (.cells #[.int .i64 z0, .int .i64 z1, .int .i64 z2, .int .i64 z3, .int .i64 z4, .int .i64 z5, .int .i64 z6, .bool rz, .int .i64 z8, .int .i64 z9] 49)).drew (wr.heap.size + 1) 49 #[.int .i64 y0, .int .i64 y1, .int .i64 y2, .int .i64 y3, .int .i64 y4, .int .i64 y5, .int .i64 y6, .bool ry, .int .i64 y8, .int .i64 y9] := Blk.drew (Blk.alloc (Blk.newAt _ _ _ _ (by simp)) _)
                  have BZ : Blk (((wr.alloc (.cells #[.int .i64 x0, .int .i64 x1, .int .i64 x2, .int .i64 x3, .int .i64 x4, .int .i64 x5, .int .i64 x6, .bool rx, .int .i64 x8, .int .i64 x9] 49)).alloc (.cells #[.int .i64 y0, .int .i64 y1, .int .i64 y2, .int .i64 y3, .int .i64 y4, .int .i64 y5, .int .i64 y6, .bool ry, .int .i64 y8, .int .i64 y9] 49)).alloc (.cells #[.int .i64 z0, .int .i64 z1, .int .i64 z2, .int .i64 z3, .int .i64 z4, .int .i64 z5, .int .i64 z6, .bool rz, .int .i64 z8, .int .i64 z9] 49)).drew (wr.heap.size + 1 + 1) 49 #[.int .i64 z0, .int .i64 z1, .int .i64 z2, .int .i64 z3, .int .i64 z4, .int .i64 z5, .int .i64 z6, .bool rz, .int .i64 z8, .int .i64 z9] := Blk.drew (Blk.newAt _ _ _ _ (by simp))
                  obtain ⟨w6, hw6⟩ := name_world hB6
                  rw [← hw6] at hB6 BX BY BZ ⊢
                  obtain ⟨gZ, hgZ⟩ : ∃ z, z = wr.heap.size + 1 + 1 := ⟨_, rfl⟩
                  have lZ : wr.heap.size ≤ gZ := by omega
                  rw [← hgZ] at BZ ⊢
                  obtain ⟨gY, hgY⟩ : ∃ z, z = wr.heap.size + 1 := ⟨_, rfl⟩
                  have lY : wr.heap.size ≤ gY := by omega
                  rw [← hgY] at BY ⊢
                  obtain ⟨gX, hgX⟩ : ∃ z, z = wr.heap.size := ⟨_, rfl⟩
                  have lX : wr.heap.size ≤ gX := by omega
                  rw [← hgX] at BX ⊢
                  clear hw6 hgX hgY hgZ e1
                  revert lZ
                  revert BZ
                  revert lY
                  revert BY
                  revert lX
                  revert BX
                  revert gZ
                  revert gY
                  revert gX
                  revert hB6
                  revert w6
                  exact main.out
              · rw [if_pos (by rfl)]
                go_simp
                refine hK.out _ _ (below_alloc (below_alloc (Below.refl wr.heap.size wr).drew (.cells #[.int .i64 0, .int .i64 0, .int .i64 0, .int .i64 0, .int .i64 0, .int .i64 0, .int .i64 0, .bool false, .int .i64 0, .int .i64 0] 49)) (.cells #[.int .i64 0, .int .i64 0, .int .i64 0, .int .i64 0, .int .i64 0, .int .i64 0, .int .i64 0, .bool false, .int .i64 0, .int .i64 0] 49)) (fun _ => ?_)
                clear hK
                refine wpAnyH_ready (rs := [24]) (by kernel_rfl) (by simp) ?_
                refine AllReadyH.cons (o := _) rfl (fun K hK => ?_) (AllReadyH.nil)
                · rw [if_pos (by rfl)]
                  go_simp
                  refine hK.out _ _ (below_alloc (below_alloc (below_alloc (Below.refl wr.heap.size wr).drew (.cells #[.int .i64 0, .int .i64 0, .int .i64 0, .int .i64 0, .int .i64 0, .int .i64 0, .int .i64 0, .bool false, .int .i64 0, .int .i64 0] 49)) (.cells #[.int .i64 0, .int .i64 0, .int .i64 0, .int .i64 0, .int .i64 0, .int .i64 0, .int .i64 0, .bool false, .int .i64 0, .int .i64 0] 49)) (.cells #[.int .i64 0, .int .i64 0, .int .i64 0, .int .i64 0, .int .i64 0, .int .i64 0, .int .i64 0, .bool false, .int .i64 0, .int .i64 0] 49)) (fun _ => ?_)
                  clear hK
                  refine wpAnyH_ready (rs := [26]) (by kernel_rfl) (by simp) ?_
                  refine AllReadyH.cons (o := _) rfl (fun K hK => ?_) AllReadyH.nil
                  rw [if_pos (by rfl)]
                  go_simp
                  refine hK.out _ _ (below_alloc (below_alloc (below_alloc (Below.refl wr.heap.size wr).drew (.cells #[.int .i64 x0, .int .i64 x1, .int .i64 x2, .int .i64 x3, .int .i64 x4, .int .i64 x5, .int .i64 x6, .bool rx, .int .i64 x8, .int .i64 x9] 49)) (.cells #[.int .i64 0, .int .i64 0, .int .i64 0, .int .i64 0, .int .i64 0, .int .i64 0, .int .i64 0, .bool false, .int .i64 0, .int .i64 0] 49)) (.cells #[.int .i64 0, .int .i64 0, .int .i64 0, .int .i64 0, .int .i64 0, .int .i64 0, .int .i64 0, .bool false, .int .i64 0, .int .i64 0] 49)) (fun _ => ?_)
                  clear hK
                  refine wpAnyH_ready (rs := [27]) (by kernel_rfl) (by simp) ?_
                  refine AllReadyH.cons (o := _) rfl (fun K hK => ?_) AllReadyH.nil
                  rw [if_pos (by rfl)]
                  go_simp
                  refine hK.out _ _ (below_alloc (below_alloc (below_alloc (Below.refl wr.heap.size wr).drew (.cells #[.int .i64 x0, .int .i64 x1, .int .i64 x2, .int .i64 x3, .int .i64 x4, .int .i64 x5, .int .i64 x6, .bool rx, .int .i64 x8, .int .i64 x9] 49)) (.cells #[.int .i64 0, .int .i64 0, .int .i64 0, .int .i64 0, .int .i64 0, .int .i64 0, .int .i64 0, .bool false, .int .i64 0, .int .i64 0] 49)) (.cells #[.int .i64 y0, .int .i64 y1, .int .i64 y2, .int .i64 y3, .int .i64 y4, .int .i64 y5, .int .i64 y6, .bool ry, .int .i64 y8, .int .i64 y9] 49)) (fun _ => ?_)
                  clear hK
                  refine wpAnyH_ready (rs := [28]) (by kernel_rfl) (by simp) ?_
                  refine AllReadyH.cons (o := _) rfl (fun K hK => ?_) AllReadyH.nil
                  rw [if_pos (by rfl)]
                  go_simp
                  refine hK.out _ _ (below_alloc (below_alloc (below_alloc (Below.refl wr.heap.size wr).drew (.cells #[.int .i64 x0, .int .i64 x1, .int .i64 x2, .int .i64 x3, .int .i64 x4, .int .i64 x5, .int .i64 x6, .bool rx, .int .i64 x8, .int .i64 x9] 49)) (.cells #[.int .i64 z0, .int .i64 z1, .int .i64 z2, .int .i64 z3, .int .i64 z4, .int .i64 z5, .int .i64 z6, .bool rz, .int .i64 z8, .int .i64 z9] 49)) (.cells #[.int .i64 y0, .int .i64 y1, .int .i64 y2, .int .i64 y3, .int .i64 y4, .int .i64 y5, .int .i64 y6, .bool ry, .int .i64 y8, .int .i64 y9] 49)) (fun _ => ?_)
                  clear hK
                  refine wpAnyH_done (by kernel_rfl) ?_ _
                  have hB6 : Below wr.heap.size wr (((wr.alloc (.cells #[.int .i64 x0, .int .i64 x1, .int .i64 x2, .int .i64 x3, .int .i64 x4, .int .i64 x5, .int .i64 x6, .bool rx, .int .i64 x8, .int .i64 x9] 49)).alloc (.cells #[.int .i64 z0, .int .i64 z1, .int .i64 z2, .int .i64 z3, .int .i64 z4, .int .i64 z5, .int .i64 z6, .bool rz, .int .i64 z8, .int .i64 z9] 49)).alloc (.cells #[.int .i64 y0, .int .i64 y1, .int .i64 y2, .int .i64 y3, .int .i64 y4, .int .i64 y5, .int .i64 y6, .bool ry, .int .i64 y8, .int .i64 y9] 49)).drew := (Below.drew (below_alloc (below_alloc (below_alloc (Below.refl wr.heap.size wr) (.cells #[.int .i64 x0, .int .i64 x1, .int .i64 x2, .int .i64 x3, .int .i64 x4, .int .i64 x5, .int .i64 x6, .bool rx, .int .i64 x8, .int .i64 x9] 49)) (.cells #[.int .i64 z0, .int .i64 z1, .int .i64 z2, .int .i64 z3, .int .i64 z4, .int .i64 z5, .int .i64 z6, .bool rz, .int .i64 z8, .int .i64 z9] 49)) (.cells #[.int .i64 y0, .int .i64 y1, .int .i64 y2, .int .i64 y3, .int .i64 y4, .int .i64 y5, .int .i64 y6, .bool ry, .int .i64 y8, .int .i64 y9] 49)))
                  have e1 : wr.drew.heap.size = wr.heap.size := rfl
                  have BX : Blk (((wr.alloc (.cells #[.int .i64 x0, .int .i64 x1, .int .i64 x2, .int .i64 x3, .int .i64 x4, .int .i64 x5, .int .i64 x6, .bool rx, .int .i64 x8, .int .i64 x9] 49)).alloc (.cells #[.int .i64 z0, .int .i64 z1, .int .i64 z2, .int .i64 z3, .int .i64 z4, .int .i64 z5, .int .i64 z6, .bool rz, .int .i64 z8, .int .i64 z9] 49)).alloc (.cells #[.int .i64 y0, .int .i64 y1, .int .i64 y2, .int .i64 y3, .int .i64 y4, .int .i64 y5, .int .i64 y6, .bool ry, .int .i64 y8, .int .i64 y9] 49)).drew (wr.heap.size) 49 #[.int .i64 x0, .int .i64 x1, .int .i64 x2, .int .i64 x3, .int .i64 x4, .int .i64 x5, .int .i64 x6, .bool rx, .int .i64 x8, .int .i64 x9] := Blk.drew (Blk.alloc (Blk.alloc (Blk.new _ _ _) _) _)
                  have BY : Blk (((wr.alloc (.cells #[.int .i64 x0, .int .i64 x1, .int .i64 x2, .int .i64 x3, .int .i64 x4, .int .i64 x5, .int .i64 x6, .bool rx, .int .i64 x8, .int .i64 x9] 49)).alloc (.cells #[.int .i64 z0, .int .i64 z1, .int .i64 z2, .int .i64 z3, .int .i64 z4, .int .i64 z5, .int .i64 z6, .bool rz, .int .i64 z8, .int .i64 z9] 49)).alloc (.cells #[.int .i64 y0, .int .i64 y1, .int .i64 y2, .int .i64 y3, .int .i64 y4, .int .i64 y5, .int .i64 y6, .bool ry, .int .i64 y8, .int .i64 y9] 49)).drew (wr.heap.size + 1 + 1) 49 #[.int .i64 y0, .int .i64 y1, .int .i64 y2, .int .i64 y3, .int .i64 y4, .int .i64 y5, .int .i64 y6, .bool ry, .int .i64 y8, .int .i64 y9] := Blk.drew (Blk.newAt _ _ _ _ (by simp))
                  have BZ : Blk (((wr.alloc (.cells #[.int .i64 x0, .int .i64 x1, .int .i64 x2, .int .i64 x3, .int .i64 x4, .int .i64 x5, .int .i64 x6, .bool rx, .int .i64 x8, .int .i64 x9] 49)).alloc (.cells #[.int .i64 z0, .int .i64 z1, .int .i64 z2, .int .i64 z3, .int .i64 z4, .int .i64 z5, .int .i64 z6, .bool rz, .int .i64 z8, .int .i64 z9] 49)).alloc (.cells #[.int .i64 y0, .int .i64 y1, .int .i64 y2, .int .i64 y3, .int .i64 y4, .int .i64 y5, .int .i64 y6, .bool ry, .int .i64 y8, .int .i64 y9] 49)).drew (wr.heap.size + 1) 49 #[.int .i64 z0, .int .i64 z1, .int .i64 z2, .int .i64 z3, .int .i64 z4, .int .i64 z5, .int .i64 z6, .bool rz, .int .i64 z8, .int .i64 z9] := Blk.drew (Blk.alloc (Blk.newAt _ _ _ _ (by simp)) _)
                  obtain ⟨w6, hw6⟩ := name_world hB6
                  rw [← hw6] at hB6 BX BY BZ ⊢
                  obtain ⟨gY, hgY⟩ : ∃ z, z = wr.heap.size + 1 + 1 := ⟨_, rfl⟩
                  have lY : wr.heap.size ≤ gY := by omega
                  rw [← hgY] at BY ⊢
                  obtain ⟨gZ, hgZ⟩ : ∃ z, z = wr.heap.size + 1 := ⟨_, rfl⟩
                  have lZ : wr.heap.size ≤ gZ := by omega
                  rw [← hgZ] at BZ ⊢
                  obtain ⟨gX, hgX⟩ : ∃ z, z = wr.heap.size := ⟨_, rfl⟩
                  have lX : wr.heap.size ≤ gX := by omega
                  rw [← hgX] at BX ⊢
                  clear hw6 hgX hgY hgZ e1
                  revert lZ
                  revert BZ
                  revert lY
                  revert BY
                  revert lX
                  revert BX
                  revert gZ
                  revert gY
                  revert gX
                  revert hB6
                  revert w6
                  exact main.out
            · rw [if_pos (by rfl)]
              go_simp
              refine hK.out _ _ (below_alloc (Below.refl wr.heap.size wr).drew (.cells #[.int .i64 0, .int .i64 0, .int .i64 0, .int .i64 0, .int .i64 0, .int .i64 0, .int .i64 0, .bool false, .int .i64 0, .int .i64 0] 49)) (fun _ => ?_)
              clear hK
              refine wpAnyH_ready (rs := [23,25]) (by kernel_rfl) (by simp) ?_
              refine AllReadyH.cons (o := _) rfl (fun K hK => ?_) (AllReadyH.cons (o := _) rfl (fun K hK => ?_) (AllReadyH.nil))
              · rw [if_pos (by rfl)]
                go_simp
                refine hK.out _ _ (below_alloc (below_alloc (Below.refl wr.heap.size wr).drew (.cells #[.int .i64 0, .int .i64 0, .int .i64 0, .int .i64 0, .int .i64 0, .int .i64 0, .int .i64 0, .bool false, .int .i64 0, .int .i64 0] 49)) (.cells #[.int .i64 0, .int .i64 0, .int .i64 0, .int .i64 0, .int .i64 0, .int .i64 0, .int .i64 0, .bool false, .int .i64 0, .int .i64 0] 49)) (fun _ => ?_)
                clear hK
                refine wpAnyH_ready (rs := [25]) (by kernel_rfl) (by simp) ?_
                refine AllReadyH.cons (o := _) rfl (fun K hK => ?_) (AllReadyH.nil)
                · rw [if_pos (by rfl)]
                  go_simp
                  refine hK.out _ _ (below_alloc (below_alloc (below_alloc (Below.refl wr.heap.size wr).drew (.cells #[.int .i64 0, .int .i64 0, .int .i64 0, .int .i64 0, .int .i64 0, .int .i64 0, .int .i64 0, .bool false, .int .i64 0, .int .i64 0] 49)) (.cells #[.int .i64 0, .int .i64 0, .int .i64 0, .int .i64 0, .int .i64 0, .int .i64 0, .int .i64 0, .bool false, .int .i64 0, .int .i64 0] 49)) (.cells #[.int .i64 0, .int .i64 0, .int .i64 0, .int .i64 0, .int .i64 0, .int .i64 0, .int .i64 0, .bool false, .int .i64 0, .int .i64 0] 49)) (fun _ => ?_)
                  clear hK
                  refine wpAnyH_ready (rs := [26]) (by kernel_rfl) (by simp) ?_
                  refine AllReadyH.cons (o := _) rfl (fun K hK => ?_) AllReadyH.nil
                  rw [if_pos (by rfl)]
                  go_simp
                  refine hK.out _ _ (below_alloc (below_alloc (below_alloc (Below.refl wr.heap.size wr).drew (.cells #[.int .i64 0, .int .i64 0, .int .i64 0, .int .i64 0, .int .i64 0, .int .i64 0, .int .i64 0, .bool false, .int .i64 0, .int .i64 0] 49)) (.cells #[.int .i64 x0, .int .i64 x1, .int .i64 x2, .int .i64 x3, .int .i64 x4, .int .i64 x5, .int .i64 x6, .bool rx, .int .i64 x8, .int .i64 x9] 49)) (.cells #[.int .i64 0, .int .i64 0, .int .i64 0, .int .i64 0, .int .i64 0, .int .i64 0, .int .i64 0, .bool false, .int .i64 0, .int .i64 0] 49)) (fun _ => ?_)
                  clear hK
                  refine wpAnyH_ready (rs := [27]) (by kernel_rfl) (by simp) ?_
                  refine AllReadyH.cons (o := _) rfl (fun K hK => ?_) AllReadyH.nil
                  rw [if_pos (by rfl)]
                  go_simp
                  refine hK.out _ _ (below_alloc (below_alloc (below_alloc (Below.refl wr.heap.size wr).drew (.cells #[.int .i64 y0, .int .i64 y1, .int .i64 y2, .int .i64 y3, .int .i64 y4, .int .i64 y5, .int .i64 y6, .bool ry, .int .i64 y8, .int .i64 y9] 49)) (.cells #[.int .i64 x0, .int .i64 x1, .int .i64 x2, .int .i64 x3, .int .i64 x4, .int .i64 x5, .int .i64 x6, .bool rx, .int .i64 x8, .int .i64 x9] 49)) (.cells #[.int .i64 0, .int .i64 0, .int .i64 0, .int .i64 0, .int .i64 0, .int .i64 0, .int .i64 0, .bool false, .int .i64 0, .int .i64 0] 49)) (fun _ => ?_)
                  clear hK
                  refine wpAnyH_ready (rs := [28]) (by kernel_rfl) (by simp) ?_
                  refine AllReadyH.cons (o := _) rfl (fun K hK => ?_) AllReadyH.nil
                  rw [if_pos (by rfl)]
                  go_simp
                  refine hK.out _ _ (below_alloc (below_alloc (below_alloc (Below.refl wr.heap.size wr).drew (.cells #[.int .i64 y0, .int .i64 y1, .int .i64 y2, .int .i64 y3, .int .i64 y4, .int .i64 y5, .int .i64 y6, .bool ry, .int .i64 y8, .int .i64 y9] 49)) (.cells #[.int .i64 x0, .int .i64 x1, .int .i64 x2, .int .i64 x3, .int .i64 x4, .int .i64 x5, .int .i64 x6, .bool rx, .int .i64 x8, .int .i64 x9] 49)) (.cells #[.int .i64 z0, .int .i64 z1, .int .i64 z2, .int .i64 z3, .int .i64 z4, .int .i64 z5, .int .i64 z6, .bool rz, .int .i64 z8, .int .i64 z9] 49)) (fun _ => ?_)
                  clear hK
                  refine wpAnyH_done (by kernel_rfl) ?_ _
                  have hB6 : Below wr.heap.size wr (((wr.alloc (.cells #[.int .i64 y0, .int .i64 y1, .int .i64 y2, .int .i64 y3, .int .i64 y4, .int .i64 y5, .int .i64 y6, .bool ry, .int .i64 y8, .int .i64 y9] 49)).alloc (.cells #[.int .i64 x0, .int .i64 x1, .int .i64 x2, .int .i64 x3, .int .i64 x4, .int .i64 x5, .int .i64 x6, .bool rx, .int .i64 x8, .int .i64 x9] 49)).alloc (.cells #[.int .i64 z0, .int .i64 z1, .int .i64 z2, .int .i64 z3, .int .i64 z4, .int .i64 z5, .int .i64 z6, .bool rz, .int .i64 z8, .int .i64 z9] 49)).drew := (Below.drew (below_alloc (below_alloc (below_alloc (Below.refl wr.heap.size wr) (.cells #[.int .i64 y0, .int .i64 y1, .int .i64 y2, .int .i64 y3, .int .i64 y4, .int .i64 y5, .int .i64 y6, .bool ry, .int .i64 y8, .int .i64 y9] 49)) (.cells #[.int .i64 x0, .int .i64 x1, .int .i64 x2, .int .i64 x3, .int .i64 x4, .int .i64 x5, .int .i64 x6, .bool rx, .int .i64 x8, .int .i64 x9] 49)) (.cells #[.int .i64 z0, .int .i64 z1, .int .i64 z2, .int .i64 z3, .int .i64 z4, .int .i64 z5, .int .i64 z6, .bool rz, .int .i64 z8, .int .i64 z9] 49)))
                  have e1 : wr.drew.heap.size = wr.heap.size := rfl
                  have BX : Blk (((wr.alloc (.cells #[.int .i64 y0, .int .i64 y1, .int .i64 y2, .int .i64 y3, .int .i64 y4, .int .i64 y5, .int .i64 y6, .bool ry, .int .i64 y8, .int .i64 y9] 49)).alloc (.cells #[.int .i64 x0, .int .i64 x1, .int .i64 x2, .int .i64 x3, .int .i64 x4, .int .i64 x5, .int .i64 x6, .bool rx, .int .i64 x8, .int .i64 x9] 49)).alloc (.cells #[.int .i64 z0, .int .i64 z1, .int .i64 z2, .int .i64 z3, .int .i64 z4, .int .i64 z5, .int .i64 z6, .bool rz, .int .i64 z8, .int .i64 z9] 49)).drew (wr.heap.size + 1) 49 #[.int .i64 x0, .int .i64 x1, .int .i64 x2, .int .i64 x3, .int .i64 x4, .int .i64 x5, .int .i64 x6, .bool rx, .int .i64 x8, .int .i64 x9] := Blk.drew (Blk.alloc (Blk.newAt _ _ _ _ (by simp)) _)
                  have BY : Blk (((wr.alloc (.cells #[.int .i64 y0, .int .i64 y1, .int .i64 y2, .int .i64 y3, .int .i64 y4, .int .i64 y5, .int .i64 y6, .bool ry, .int .i64 y8, .int .i64 y9] 49)).alloc (.cells #[.int .i64 x0, .int .i64 x1, .int .i64 x2, .int .i64 x3, .int .i64 x4, .int .i64 x5, .int .i64 x6, .bool rx, .int .i64 x8, .int .i64 x9] 49)).alloc (.cells #[.int .i64 z0, .int .i64 z1, .int .i64 z2, .int .i64 z3, .int .i64 z4, .int .i64 z5, .int .i64 z6, .bool rz, .int .i64 z8, .int .i64 z9] 49)).drew (wr.heap.size) 49 #[.int .i64 y0, .int .i64 y1, .int .i64 y2, .int .i64 y3, .int .i64 y4, .int .i64 y5, .int .i64 y6, .bool ry, .int .i64 y8, .int .i64 y9] := Blk.drew (Blk.alloc (Blk.alloc (Blk.new _ _ _) _) _)
                  have BZ : Blk (((wr.alloc (.cells #[.int .i64 y0, .int .i64 y1, .int .i64 y2, .int .i64 y3, .int .i64 y4, .int .i64 y5, .int .i64 y6, .bool ry, .int .i64 y8, .int .i64 y9] 49)).alloc (.cells #[.int .i64 x0, .int .i64 x1, .int .i64 x2, .int .i64 x3, .int .i64 x4, .int .i64 x5, .int .i64 x6, .bool rx, .int .i64 x8, .int .i64 x9] 49)).alloc (.cells #[.int .i64 z0, .int .i64 z1, .int .i64 z2, .int .i64 z3, .int .i64 z4, .int .i64 z5, .int .i64 z6, .bool rz, .int .i64 z8, .int .i64 z9] 49)).drew (wr.heap.size + 1 + 1) 49 #[.int .i64 z0, .int .i64 z1, .int .i64 z2, .int .i64 z3, .int .i64 z4, .int .i64 z5, .int .i64 z6, .bool rz, .int .i64 z8, .int .i64 z9] := Blk.drew (Blk.newAt _ _ _ _ (by simp))
                  obtain ⟨w6, hw6⟩ := name_world hB6
                  rw [← hw6] at hB6 BX BY BZ ⊢
                  obtain ⟨gZ, hgZ⟩ : ∃ z, z = wr.heap.size + 1 + 1 := ⟨_, rfl⟩
                  have lZ : wr.heap.size ≤ gZ := by omega
                  rw [← hgZ] at BZ ⊢
                  obtain ⟨gX, hgX⟩ : ∃ z, z = wr.heap.size + 1 := ⟨_, rfl⟩
                  have lX : wr.heap.size ≤ gX := by omega
                  rw [← hgX] at BX ⊢
                  obtain ⟨gY, hgY⟩ : ∃ z, z = wr.heap.size := ⟨_, rfl⟩
                  have lY : wr.heap.size ≤ gY := by omega
                  rw [← hgY] at BY ⊢
                  clear hw6 hgX hgY hgZ e1
                  revert lZ
                  revert BZ
                  revert lY
                  revert BY
                  revert lX
                  revert BX
                  revert gZ
                  revert gY
                  revert gX
                  revert hB6
                  revert w6
                  exact main.out
              · rw [if_pos (by rfl)]
                go_simp
                refine hK.out _ _ (below_alloc (below_alloc (Below.refl wr.heap.size wr).drew (.cells #[.int .i64 0, .int .i64 0, .int .i64 0, .int .i64 0, .int .i64 0, .int .i64 0, .int .i64 0, .bool false, .int .i64 0, .int .i64 0] 49)) (.cells #[.int .i64 0, .int .i64 0, .int .i64 0, .int .i64 0, .int .i64 0, .int .i64 0, .int .i64 0, .bool false, .int .i64 0, .int .i64 0] 49)) (fun _ => ?_)
                clear hK
                refine wpAnyH_ready (rs := [23]) (by kernel_rfl) (by simp) ?_
                refine AllReadyH.cons (o := _) rfl (fun K hK => ?_) (AllReadyH.nil)
                · rw [if_pos (by rfl)]
                  go_simp
                  refine hK.out _ _ (below_alloc (below_alloc (below_alloc (Below.refl wr.heap.size wr).drew (.cells #[.int .i64 0, .int .i64 0, .int .i64 0, .int .i64 0, .int .i64 0, .int .i64 0, .int .i64 0, .bool false, .int .i64 0, .int .i64 0] 49)) (.cells #[.int .i64 0, .int .i64 0, .int .i64 0, .int .i64 0, .int .i64 0, .int .i64 0, .int .i64 0, .bool false, .int .i64 0, .int .i64 0] 49)) (.cells #[.int .i64 0, .int .i64 0, .int .i64 0, .int .i64 0, .int .i64 0, .int .i64 0, .int .i64 0, .bool false, .int .i64 0, .int .i64 0] 49)) (fun _ => ?_)
                  clear hK
                  refine wpAnyH_ready (rs := [26]) (by kernel_rfl) (by simp) ?_
                  refine AllReadyH.cons (o := _) rfl (fun K hK => ?_) AllReadyH.nil
                  rw [if_pos (by rfl)]
                  go_simp
                  refine hK.out _ _ (below_alloc (below_alloc (below_alloc (Below.refl wr.heap.size wr).drew (.cells #[.int .i64 0, .int .i64 0, .int .i64 0, .int .i64 0, .int .i64 0, .int .i64 0, .int .i64 0, .bool false, .int .i64 0, .int .i64 0] 49)) (.cells #[.int .i64 0, .int .i64 0, .int .i64 0, .int .i64 0, .int .i64 0, .int .i64 0, .int .i64 0, .bool false, .int .i64 0, .int .i64 0] 49)) (.cells #[.int .i64 x0, .int .i64 x1, .int .i64 x2, .int .i64 x3, .int .i64 x4, .int .i64 x5, .int .i64 x6, .bool rx, .int .i64 x8, .int .i64 x9] 49)) (fun _ => ?_)
                  clear hK
                  refine wpAnyH_ready (rs := [27]) (by kernel_rfl) (by simp) ?_
                  refine AllReadyH.cons (o := _) rfl (fun K hK => ?_) AllReadyH.nil
                  rw [if_pos (by rfl)]
                  go_simp
                  refine hK.out _ _ (below_alloc (below_alloc (below_alloc (Below.refl wr.heap.size wr).drew (.cells #[.int .i64 y0, .int .i64 y1, .int .i64 y2, .int .i64 y3, .int .i64 y4, .int .i64 y5, .int .i64 y6, .bool ry, .int .i64 y8, .int .i64 y9] 49)) (.cells #[.int .i64 0, .int .i64 0, .int .i64 0, .int .i64 0, .int .i64 0, .int .i64 0, .int .i64 0, .bool false, .int .i64 0, .int .i64 0] 49)) (.cells #[.int .i64 x0, .int .i64 x1, .int .i64 x2, .int .i64 x3, .int .i64 x4, .int .i64 x5, .int .i64 x6, .bool rx, .int .i64 x8, .int .i64 x9] 49)) (fun _ => ?_)
                  clear hK
                  refine wpAnyH_ready (rs := [28]) (by kernel_rfl) (by simp) ?_
                  refine AllReadyH.cons (o := _) rfl (fun K hK => ?_) AllReadyH.nil
                  rw [if_pos (by rfl)]
                  go_simp
                  refine hK.out _ _ (below_alloc (below_alloc (below_alloc (Below.refl wr.heap.size wr).drew (.cells #[.int .i64 y0, .int .i64 y1, .int .i64 y2, .int .i64 y3, .int .i64 y4, .int .i64 y5, .int .i64 y6, .bool ry, .int .i64 y8, .int .i64 y9] 49)) (.cells #[.int .i64 z0, .int .i64 z1, .int .i64 z2, .int .i64 z3, .int .i64 z4, .int .i64 z5, .int .i64 z6, .bool rz, .int .i64 z8, .int .i64 z9] 49)) (.cells #[.int .i64 x0, .int .i64 x1, .int .i64 x2, .int .i64 x3, .int .i64 x4, .int .i64 x5, .int .i64 x6, .bool rx, .int .i64 x8, .int .i64 x9] 49)) (fun _ => ?_)
                  clear hK
                  refine wpAnyH_done (by kernel_rfl) ?_ _
                  have hB6 : Below wr.heap.size wr (((wr.alloc (.cells #[.int .i64 y0, .int .i64 y1, .int .i64 y2, .int .i64 y3, .int .i64 y4, .int .i64 y5, .int .i64 y6, .bool ry, .int .i64 y8, .int .i64 y9] 49)).alloc (.cells #[.int .i64 z0, .int .i64 z1, .int .i64 z2, .int .i64 z3, .int .i64 z4, .int .i64 z5, .int .i64 z6, .bool rz, .int .i64 z8, .int .i64 z9] 49)).alloc (.cells #[.int .i64 x0, .int .i64 x1, .int .i64 x2, .int .i64 x3, .int .i64 x4, .int .i64 x5, .int .i64 x6, .bool rx, .int .i64 x8, .int .i64 x9] 49)).drew := (Below.drew (below_alloc (below_alloc (below_alloc (Below.refl wr.heap.size wr) (.cells #[.int .i64 y0, .int .i64 y1, .int .i64 y2, .int .i64 y3, .int .i64 y4, .int .i64 y5, .int .i64 y6, .bool ry, .int .i64 y8, .int .i64 y9] 49)) (.cells #[.int .i64 z0, .int .i64 z1, .int .i64 z2, .int .i64 z3, .int .i64 z4, .int .i64 z5, .int .i64 z6, .bool rz, .int .i64 z8, .int .i64 z9] 49)) (.cells #[.int .i64 x0, .int .i64 x1, .int .i64 x2, .int .i64 x3, .int .i64 x4, .int .i64 x5, .int .i64 x6, .bool rx, .int .i64 x8, .int .i64 x9] 49)))
                  have e1 : wr.drew.heap.size = wr.heap.size := rfl
                  have BX : Blk (((wr.alloc (.cells #[.int .i64 y0, .int .i64 y1, .int .i64 y2, .int .i64 y3, .int .i64 y4, .int .i64 y5, .int .i64 y6, .bool ry, .int .i64 y8, .int .i64 y9] 49)).alloc (.cells #[.int .i64 z0, .int .i64 z1, .int .i64 z2, .int .i64 z3, .int .i64 z4, .int .i64 z5, .int .i64 z6, .bool rz, .int .i64 z8, .int .i64 z9] 49)).alloc (.cells #[.int .i64 x0, .int .i64 x1, .int .i64 x2, .int .i64 x3, .int .i64 x4, .int .i64 x5, .int .i64 x6, .bool rx, .int .i64 x8, .int .i64 x9] 49)).drew (wr.heap.size + 1 + 1) 49 #[.int .i64 x0, .int .i64 x1, .int .i64 x2, .int .i64 x3, .int .i64 x4, .int .i64 x5, .int .i64 x6, .bool rx, .int .i64 x8, .int .i64 x9] := Blk.drew (Blk.newAt _ _ _ _ (by simp))
                  have BY : Blk (((wr.alloc (.cells #[.int .i64 y0, .int .i64 y1, .int .i64 y2, .int .i64 y3, .int .i64 y4, .int .i64 y5, .int .i64 y6, .bool ry, .int .i64 y8, .int .i64 y9] 49)).alloc (.cells #[.int .i64 z0, .int .i64 z1, .int .i64 z2, .int .i64 z3, .int .i64 z4, .int .i64 z5, .int .i64 z6, .bool rz, .int .i64 z8, .int .i64 z9] 49)).alloc (.cells #[.int .i64 x0, .int .i64 x1, .int .i64 x2, .int .i64 x3, .int .i64 x4, .int .i64 x5, .int .i64 x6, .bool rx, .int .i64 x8, .int .i64 x9] 49)).drew (wr.heap.size) 49 #[.int .i64 y0, .int .i64 y1, .int .i64 y2, .int .i64 y3, .int .i64 y4, .int .i64 y5, .int .i64 y6, .bool ry, .int .i64 y8, .int .i64 y9] := Blk.drew (Blk.alloc (Blk.alloc (Blk.new _ _ _) _) _)
                  have BZ : Blk (((wr.alloc (.cells #[.int .i64 y0, .int .i64 y1, .int .i64 y2, .int .i64 y3, .int .i64 y4, .int .i64 y5, .int .i64 y6, .bool ry, .int .i64 y8, .int .i64 y9] 49)).alloc (.cells #[.int .i64 z0, .int .i64 z1, .int .i64 z2, .int .i64 z3, .int .i64 z4, .int .i64 z5, .int .i64 z6, .bool rz, .int .i64 z8, .int .i64 z9] 49)).alloc (.cells #[.int .i64 x0, .int .i64 x1, .int .i64 x2, .int .i64 x3, .int .i64 x4, .int .i64 x5, .int .i64 x6, .bool rx, .int .i64 x8, .int .i64 x9] 49)).drew (wr.heap.size + 1) 49 #[.int .i64 z0, .int .i64 z1, .int .i64 z2, .int .i64 z3, .int .i64 z4, .int .i64 z5, .int .i64 z6, .bool rz, .int .i64 z8, .int .i64 z9] := Blk.drew (Blk.alloc (Blk.newAt _ _ _ _ (by simp)) _)
                  obtain ⟨w6, hw6⟩ := name_world hB6
                  rw [← hw6] at hB6 BX BY BZ ⊢
                  obtain ⟨gX, hgX⟩ : ∃ z, z = wr.heap.size + 1 + 1 := ⟨_, rfl⟩
                  have lX : wr.heap.size ≤ gX := by omega
                  rw [← hgX] at BX ⊢
                  obtain ⟨gZ, hgZ⟩ : ∃ z, z = wr.heap.size + 1 := ⟨_, rfl⟩
                  have lZ : wr.heap.size ≤ gZ := by omega
                  rw [← hgZ] at BZ ⊢
                  obtain ⟨gY, hgY⟩ : ∃ z, z = wr.heap.size := ⟨_, rfl⟩
                  have lY : wr.heap.size ≤ gY := by omega
                  rw [← hgY] at BY ⊢
                  clear hw6 hgX hgY hgZ e1
                  revert lZ
                  revert BZ
                  revert lY
                  revert BY
                  revert lX
                  revert BX
                  revert gZ
                  revert gY
                  revert gX
                  revert hB6
                  revert w6
                  exact main.out
            · rw [if_pos (by rfl)]
              go_simp
              refine hK.out _ _ (below_alloc (Below.refl wr.heap.size wr).drew (.cells #[.int .i64 0, .int .i64 0, .int .i64 0, .int .i64 0, .int .i64 0, .int .i64 0, .int .i64 0, .bool false, .int .i64 0, .int .i64 0] 49)) (fun _ => ?_)
              clear hK
              refine wpAnyH_ready (rs := [23,24]) (by kernel_rfl) (by simp) ?_
              refine AllReadyH.cons (o := _) rfl (fun K hK => ?_) (AllReadyH.cons (o := _) rfl (fun K hK => ?_) (AllReadyH.nil))
              · rw [if_pos (by rfl)]
                go_simp
                refine hK.out _ _ (below_alloc (below_alloc (Below.refl wr.heap.size wr).drew (.cells #[.int .i64 0, .int .i64 0, .int .i64 0, .int .i64 0, .int .i64 0, .int .i64 0, .int .i64 0, .bool false, .int .i64 0, .int .i64 0] 49)) (.cells #[.int .i64 0, .int .i64 0, .int .i64 0, .int .i64 0, .int .i64 0, .int .i64 0, .int .i64 0, .bool false, .int .i64 0, .int .i64 0] 49)) (fun _ => ?_)
                clear hK
                refine wpAnyH_ready (rs := [24]) (by kernel_rfl) (by simp) ?_
                refine AllReadyH.cons (o := _) rfl (fun K hK => ?_) (AllReadyH.nil)
                · rw [if_pos (by rfl)]
                  go_simp
                  refine hK.out _ _ (below_alloc (below_alloc (below_alloc (Below.refl wr.heap.size wr).drew (.cells #[.int .i64 0, .int .i64 0, .int .i64 0, .int .i64 0, .int .i64 0, .int .i64 0, .int .i64 0, .bool false, .int .i64 0, .int .i64 0] 49)) (.cells #[.int .i64 0, .int .i64 0, .int .i64 0, .int .i64 0, .int .i64 0, .int .i64 0, .int .i64 0, .bool false, .int .i64 0, .int .i64 0] 49)) (.cells #[.int .i64 0, .int .i64 0, .int .i64 0, .int .i64 0, .int .i64 0, .int .i64 0, .int .i64 0, .bool false, .int .i64 0, .int .i64 0] 49)) (fun _ => ?_)
                  clear hK
                  refine wpAnyH_ready (rs := [26]) (by kernel_rfl) (by simp) ?_
                  refine AllReadyH.cons (o := _) rfl (fun K hK => ?_) AllReadyH.nil
                  rw [if_pos (by rfl)]
                  go_simp
                  refine hK.out _ _ (below_alloc (below_alloc (below_alloc (Below.refl wr.heap.size wr).drew (.cells #[.int .i64 0, .int .i64 0, .int .i64 0, .int .i64 0, .int .i64 0, .int .i64 0, .int .i64 0, .bool false, .int .i64 0, .int .i64 0] 49)) (.cells #[.int .i64 x0, .int .i64 x1, .int .i64 x2, .int .i64 x3, .int .i64 x4, .int .i64 x5, .int .i64 x6, .bool rx, .int .i64 x8, .int .i64 x9] 49)) (.cells #[.int .i64 0, .int .i64 0, .int .i64 0, .int .i64 0, .int .i64 0, .int .i64 0, .int .i64 0, .bool false, .int .i64 0, .int .i64 0] 49)) (fun _ => ?_)
                  clear hK
                  refine wpAnyH_ready (rs := [27]) (by kernel_rfl) (by simp) ?_
                  refine AllReadyH.cons (o := _) rfl (fun K hK => ?_) AllReadyH.nil
                  rw [if_pos (by rfl)]
                  go_simp
                  refine hK.out _ _ (below_alloc (below_alloc (below_alloc (Below.refl wr.heap.size wr).drew (.cells #[.int .i64 0, .int .i64 0, .int .i64 0, .int .i64 0, .int .i64 0, .int .i64 0, .int .i64 0, .bool false, .int .i64 0, .int .i64 0] 49)) (.cells #[.int .i64 x0, .int .i64 x1, .int .i64 x2, .int .i64 x3, .int .i64 x4, .int .i64 x5, .int .i64 x6, .bool rx, .int .i64 x8, .int .i64 x9] 49)) (.cells #[.int .i64 y0, .int .i64 y1, .int .i64 y2, .int .i64 y3, .int .i64 y4, .int .i64 y5, .int .i64 y6, .bool ry, .int .i64 y8, .int .i64 y9] 49)) (fun _ => ?_)
                  clear hK
                  refine wpAnyH_ready (rs := [28]) (by kernel_rfl) (by simp) ?_
                  refine AllReadyH.cons (o := _) rfl (fun K hK => ?_) AllReadyH.nil
                  rw [if_pos (by rfl)]
                  go_simp
                  refine hK.out _ _ (below_alloc (below_alloc (below_alloc (Below.refl wr.heap.size wr).drew (.cells #[.int .i64 z0, .int .i64 z1, .int .i64 z2, .int .i64 z3, .int .i64 z4, .int .i64 z5, .int .i64 z6, .bool rz, .int .i64 z8, .int .i64 z9] 49)) (.cells #[.int .i64 x0, .int .i64 x1, .int .i64 x2, .int .i64 x3, .int .i64 x4, .int .i64 x5, .int .i64 x6, .bool rx, .int .i64 x8, .int .i64 x9] 49)) (.cells #[.int .i64 y0, .int .i64 y1, .int .i64 y2, .int .i64 y3, .int .i64 y4, .int .i64 y5, .int .i64 y6, .bool ry, .int .i64 y8, .int .i64 y9] 49)) (fun _ => ?_)
                  clear hK
                  refine wpAnyH_done (by kernel_rfl) ?_ _
                  have hB6 : Below wr.heap.size wr (((wr.alloc (.cells #[.int .i64 z0, .int .i64 z1, .int .i64 z2, .int .i64 z3, .int .i64 z4, .int .i64 z5, .int .i64 z6, .bool rz, .int .i64 z8, .int .i64 z9] 49)).alloc (.cells #[.int .i64 x0, .int .i64 x1, .int .i64 x2, .int .i64 x3, .int .i64 x4, .int .i64 x5, .int .i64 x6, .bool rx, .int .i64 x8, .int .i64 x9] 49)).alloc (.cells #[.int .i64 y0, .int .i64 y1, .int .i64 y2, .int .i64 y3, .int .i64 y4, .int .i64 y5, .int .i64 y6, .bool ry, .int .i64 y8, .int .i64 y9] 49)).drew := (Below.drew (below_alloc (below_alloc (below_alloc (Below.refl wr.heap.size wr) (.cells #[.int .i64 z0, .int .i64 z1, .int .i64 z2, .int .i64 z3, .int .i64 z4, .int .i64 z5, .int .i64 z6, .bool rz, .int .i64 z8, .int .i64 z9] 49)) (.cells #[.int .i64 x0, .int .i64 x1, .int .i64 x2, .int .i64 x3, .int .i64 x4, .int .i64 x5, .int .i64 x6, .bool rx, .int .i64 x8, .int .i64 x9] 49)) (.cells #[.int .i64 y0, .int .i64 y1, .int .i64 y2, .int .i64 y3, .int .i64 y4, .int .i64 y5, .int .i64 y6, .bool ry, .int .i64 y8, .int .i64 y9] 49)))
                  have e1 : wr.drew.heap.size = wr.heap.size := rfl
                  have BX : Blk (((wr.alloc (.cells #[.int .i64 z0, .int .i64 z1, .int .i64 z2, .int .i64 z3, .int .i64 z4, .int .i64 z5, .int .i64 z6, .bool rz, .int .i64 z8, .int .i64 z9] 49)).alloc (.cells #[.int .i64 x0, .int .i64 x1, .int .i64 x2, .int .i64 x3, .int .i64 x4, .int .i64 x5, .int .i64 x6, .bool rx, .int .i64 x8, .int .i64 x9] 49)).alloc (.cells #[.int .i64 y0, .int .i64 y1, .int .i64 y2, .int .i64 y3, .int .i64 y4, .int .i64 y5, .int .i64 y6, .bool ry, .int .i64 y8, .int .i64 y9] 49)).drew (wr.heap.size + 1) 49 #[.int .i64 x0, .int .i64 x1, .int .i64 x2, .int .i64 x3, .int .i64 x4, .int .i64 x5, .int .i64 x6, .bool rx, .int .i64 x8, .int .i64 x9] := Blk.drew (Blk.alloc (Blk.newAt _ _ _ _ (by simp)) _)
                  have BY : Blk (((wr.alloc (.cells #[.int .i64 z0, .int .i64 z1, .int .i64 z2, .int .i64 z3, .int .i64 z4, .int .i64 z5, .int .i64 z6, .bool rz, .int .i64 z8, .int .i64 z9] 49)).alloc (.cells #[.int .i64 x0, .int .i64 x1, .int .i64 x2, .int .i64 x3, .int .i64 x4, .int .i64 x5, .int .i64 x6, .bool rx, .int .i64 x8, .int .i64 x9] 49)).alloc (.cells #[.int .i64 y0, .int .i64 y1, .int .i64 y2, .int .i64 y3, .int .i64 y4, .int .i64 y5, .int .i64 y6, .bool ry, .int .i64 y8, .int .i64 y9] 49)).drew (wr.heap.size + 1 + 1) 49 #[.int .i64 y0, .int .i64 y1, .int .i64 y2, .int .i64 y3, .int .i64 y4, .int .i64 y5, .int .i64 y6, .bool ry, .int .i64 y8, .int .i64 y9] := Blk.drew (Blk.newAt _ _ _ _ (by simp))
                  have BZ : Blk (((wr.alloc (.cells #[.int .i64 z0, .int .i64 z1, .int .i64 z2, .int .i64 z3, .int .i64 z4, .int .i64 z5, .int .i64 z6, .bool rz, .int .i64 z8, .int .i64 z9] 49)).alloc (.cells #[.int .i64 x0, .int .i64 x1, .int .i64 x2, .int .i64 x3, .int .i64 x4, .int .i64 x5, .int .i64 x6, .bool rx, .int .i64 x8, .int .i64 x9] 49)).alloc (.cells #[.int .i64 y0, .int .i64 y1, .int .i64 y2, .int .i64 y3, .int .i64 y4, .int .i64 y5, .int .i64 y6, .bool ry, .int .i64 y8, .int .i64 y9] 49)).drew (wr.heap.size) 49 #[.int .i64 z0, .int .i64 z1, .int .i64 z2, .int .i64 z3, .int .i64 z4, .int .i64 z5, .int .i64 z6, .bool rz, .int .i64 z8, .int .i64 z9] := Blk.drew (Blk.alloc (Blk.alloc (Blk.new _ _ _) _) _)
                  obtain ⟨w6, hw6⟩ := name_world hB6
                  rw [← hw6] at hB6 BX BY BZ ⊢
                  obtain ⟨gY, hgY⟩ : ∃ z, z = wr.heap.size + 1 + 1 := ⟨_, rfl⟩
                  have lY : wr.heap.size ≤ gY := by omega
                  rw [← hgY] at BY ⊢
                  obtain ⟨gX, hgX⟩ : ∃ z, z = wr.heap.size + 1 := ⟨_, rfl⟩
                  have lX : wr.heap.size ≤ gX := by omega
                  rw [← hgX] at BX ⊢
                  obtain ⟨gZ, hgZ⟩ : ∃ z, z = wr.heap.size := ⟨_, rfl⟩
                  have lZ : wr.heap.size ≤ gZ := by omega
                  rw [← hgZ] at BZ ⊢
                  clear hw6 hgX hgY hgZ e1
                  revert lZ
                  revert BZ
                  revert lY
                  revert BY
                  revert lX
                  revert BX
                  revert gZ
                  revert gY
                  revert gX
                  revert hB6
                  revert w6
                  exact main.out
              · rw [if_pos (by rfl)]
                go_simp
                refine hK.out _ _ (below_alloc (below_alloc (Below.refl wr.heap.size wr).drew (.cells #[.int .i64 0, .int .i64 0, .int .i64 0, .int .i64 0, .int .i64 0, .int .i64 0, .int .i64 0, .bool false, .int .i64 0, .int .i64 0] 49)) (.cells #[.int .i64 0, .int .i64 0, .int .i64 0, .int .i64 0, .int .i64 0, .int .i64 0, .int .i64 0, .bool false, .int .i64 0, .int .i64 0] 49)) (fun _ => ?_)
                clear hK
                refine wpAnyH_ready (rs := [23]) (by kernel_rfl) (by simp) ?_
                refine AllReadyH.cons (o := _) rfl (fun K hK => ?_) (AllReadyH.nil)
                · rw [if_pos (by rfl)]
                  go_simp
                  refine hK.out _ _ (below_alloc (below_alloc (below_alloc (Below.refl wr.heap.size wr).drew (.cells #[.int .i64 0, .int .i64 0, .int .i64 0, .int .i64 0, .int .i64 0, .int .i64 0, .int .i64 0, .bool false, .int .i64 0, .int .i64 0] 49)) (.cells #[.int .i64 0, .int .i64 0, .int .i64 0, .int .i64 0, .int .i64 0, .int .i64 0, .int .i64 0, .bool false, .int .i64 0, .int .i64 0] 49)) (.cells #[.int .i64 0, .int .i64 0, .int .i64 0, .int .i64 0, .int .i64 0, .int .i64 0, .int .i64 0, .bool false, .int .i64 0, .int .i64 0] 49)) (fun _ => ?_)
                  clear hK
                  refine wpAnyH_ready (rs := [26]) (by kernel_rfl) (by simp) ?_
                  refine AllReadyH.cons (o := _) rfl (fun K hK => ?_) AllReadyH.nil
                  rw [if_pos (by rfl)]
                  go_simp
                  refine hK.out _ _ (below_alloc (below_alloc (below_alloc (Below.refl wr.heap.size wr).drew (.cells #[.int .i64 0, .int .i64 0, .int .i64 0, .int .i64 0, .int .i64 0, .int .i64 0, .int .i64 0, .bool false, .int .i64 0, .int .i64 0] 49)) (.cells #[.int .i64 0, .int .i64 0, .int .i64 0, .int .i64 0, .int .i64 0, .int .i64 0, .int .i64 0, .bool false, .int .i64 0, .int .i64 0] 49)) (.cells #[.int .i64 x0, .int .i64 x1, .int .i64 x2, .int .i64 x3, .int .i64 x4, .int .i64 x5, .int .i64 x6, .bool rx, .int .i64 x8, .int .i64 x9] 49)) (fun _ => ?_)
                  clear hK
                  refine wpAnyH_ready (rs := [27]) (by kernel_rfl) (by simp) ?_
                  refine AllReadyH.cons (o := _) rfl (fun K hK => ?_) AllReadyH.nil
                  rw [if_pos (by rfl)]
                  go_simp
                  refine hK.out _ _ (below_alloc (below_alloc (below_alloc (Below.refl wr.heap.size wr).drew (.cells #[.int .i64 0, .int .i64 0, .int .i64 0, .int .i64 0, .int .i64 0, .int .i64 0, .int .i64 0, .bool false, .int .i64 0, .int .i64 0] 49)) (.cells #[.int .i64 y0, .int .i64 y1, .int .i64 y2, .int .i64 y3, .int .i64 y4, .int .i64 y5, .int .i64 y6, .bool ry, .int .i64 y8, .int .i64 y9] 49)) (.cells #[.int .i64 x0, .int .i64 x1, .int .i64 x2, .int .i64 x3, .int .i64 x4, .int .i64 x5, .int .i64 x6, .bool rx, .int .i64 x8, .int .i64 x9] 49)) (fun _ => ?_)
                  clear hK
                  refine wpAnyH_ready (rs := [28]) (by kernel_rfl) (by simp) ?_
                  refine AllReadyH.cons (o := _) rfl (fun K hK => ?_) AllReadyH.nil
                  rw [if_pos (by rfl)]
                  go_simp
                  refine hK.out _ _ (below_alloc (below_alloc (below_alloc (Below.refl wr.heap.size wr).drew (.cells #[.int .i64 z0, .int .i64 z1, .int .i64 z2, .int .i64 z3, .int .i64 z4, .int .i64 z5, .int .i64 z6, .bool rz, .int .i64 z8, .int .i64 z9] 49)) (.cells #[.int .i64 y0, .int .i64 y1, .int .i64 y2, .int .i64 y3, .int .i64 y4, .int .i64 y5, .int .i64 y6, .bool ry, .int .i64 y8, .int .i64 y9] 49)) (.cells #[.int .i64 x0, .int .i64 x1, .int .i64 x2, .int .i64 x3, .int .i64 x4, .int .i64 x5, .int .i64 x6, .bool rx, .int .i64 x8, .int .i64 x9] 49)) (fun _ => ?_)
                  clear hK
                  refine wpAnyH_done (by kernel_rfl) ?_ _
                  have hB6 : Below wr.heap.size wr (((wr.alloc (.cells #[.int .i64 z0, .int .i64 z1, .int .i64 z2, .int .i64 z3, .int .i64 z4, .int .i64 z5, .int .i64 z6, .bool rz, .int .i64 z8, .int .i64 z9] 49)).alloc (.cells #[.int .i64 y0, .int .i64 y1, .int .i64 y2, .int .i64 y3, .int .i64 y4, .int .i64 y5, .int .i64 y6, .bool ry, .int .i64 y8, .int .i64 y9] 49)).alloc (.cells #[.int .i64 x0, .int .i64 x1, .int .i64 x2, .int .i64 x3, .int .i64 x4, .int .i64 x5, .int .i64 x6, .bool rx, .int .i64 x8, .int .i64 x9] 49)).drew := (Below.drew (below_alloc (below_alloc (below_alloc (Below.refl wr.heap.size wr) (.cells #[.int .i64 z0, .int .i64 z1, .int .i64 z2, .int .i64 z3, .int .i64 z4, .int .i64 z5, .int .i64 z6, .bool rz, .int .i64 z8, .int .i64 z9] 49)) (.cells #[.int .i64 y0, .int .i64 y1, .int .i64 y2, .int .i64 y3, .int .i64 y4, .int .i64 y5, .int .i64 y6, .bool ry, .int .i64 y8, .int .i64 y9] 49)) (.cells #[.int .i64 x0, .int .i64 x1, .int .i64 x2, .int .i64 x3, .int .i64 x4, .int .i64 x5, .int .i64 x6, .bool rx, .int .i64 x8, .int .i64 x9] 49)))
                  have e1 : wr.drew.heap.size = wr.heap.size := rfl
                  have BX : Blk (((wr.alloc (.cells #[.int .i64 z0, .int .i64 z1, .int .i64 z2, .int .i64 z3, .int .i64 z4, .int .i64 z5, .int .i64 z6, .bool rz, .int .i64 z8, .int .i64 z9] 49)).alloc (.cells #[.int .i64 y0, .int .i64 y1, .int .i64 y2, .int .i64 y3, .int .i64 y4, .int .i64 y5, .int .i64 y6, .bool ry, .int .i64 y8, .int .i64 y9] 49)).alloc (.cells #[.int .i64 x0, .int .i64 x1, .int .i64 x2, .int .i64 x3, .int .i64 x4, .int .i64 x5, .int .i64 x6, .bool rx, .int .i64 x8, .int .i64 x9] 49)).drew (wr.heap.size + 1 + 1) 49 #[.int .i64 x0, .int .i64 x1, .int .i64 x2, .int .i64 x3, .int .i64 x4, .int .i64 x5, .int .i64 x6, .bool rx, .int .i64 x8, .int .i64 x9] := Blk.drew (Blk.newAt _ _ _ _ (by simp))
                  have BY : Blk (((wr.alloc (.cells #[.int .i64 z0, .int .i64 z1, .int .i64 z2, .int .i64 z3, .int .i64 z4, .int .i64 z5, .int .i64 z6, .bool rz, .int .i64 z8, .int .i64 z9] 49)).alloc (.cells #[.int .i64 y0, .int .i64 y1, .int .i64 y2, .int .i64 y3, .int .i64 y4, .int .i64 y5, .int .i64 y6, .bool ry, .int .i64 y8, .int .i64 y9] 49)).alloc (.cells #[.int .i64 x0, .int .i64 x1, .int .i64 x2, .int .i64 x3, .int .i64 x4, .int .i64 x5, .int .i64 x6, .bool rx, .int .i64 x8, .int .i64 x9] 49)).drew (wr.heap.size + 1) 49 #[.int .i64 y0, .int .i64 y1, .int .i64 y2, .int .i64 y3, .int .i64 y4, .int .i64 y5, .int .i64 y6, .bool ry, .int .i64 y8, .int .i64 y9] := Blk.drew (Blk.alloc (Blk.newAt _ _ _ _ (by simp)) _)
                  have BZ : Blk (((wr.alloc (.cells #[.int .i64 z0, .int .i64 z1, .int .i64 z2, .int .i64 z3, .int .i64 z4, .int .i64 z5, .int .i64 z6, .bool rz, .int .i64 z8, .int .i64 z9] 49)).alloc (.cells #[.int .i64 y0, .int .i64 y1, .int .i64 y2, .int .i64 y3, .int .i64 y4, .int .i64 y5, .int .i64 y6, .bool ry, .int .i64 y8, .int .i64 y9] 49)).alloc (.cells #[.int .i64 x0, .int .i64 x1, .int .i64 x2, .int .i64 x3, .int .i64 x4, .int .i64 x5, .int .i64 x6, .bool rx, .int .i64 x8, .int .i64 x9] 49)).drew (wr.heap.size) 49 #[.int .i64 z0, .int .i64 z1, .int .i64 z2, .int .i64 z3, .int .i64 z4, .int .i64 z5, .int .i64 z6, .bool rz, .int .i64 z8, .int .i64 z9] := Blk.drew (Blk.alloc (Blk.alloc (Blk.new _ _ _) _) _)
                  obtain ⟨w6, hw6⟩ := name_world hB6
                  rw [← hw6] at hB6 BX BY BZ ⊢
                  obtain ⟨gX, hgX⟩ : ∃ z, z = wr.heap.size + 1 + 1 := ⟨_, rfl⟩
                  have lX : wr.heap.size ≤ gX := by omega
                  rw [← hgX] at BX ⊢
                  obtain ⟨gY, hgY⟩ : ∃ z, z = wr.heap.size + 1 := ⟨_, rfl⟩
                  have lY : wr.heap.size ≤ gY := by omega
                  rw [← hgY] at BY ⊢
                  obtain ⟨gZ, hgZ⟩ : ∃ z, z = wr.heap.size := ⟨_, rfl⟩
                  have lZ : wr.heap.size ≤ gZ := by omega
                  rw [← hgZ] at BZ ⊢
                  clear hw6 hgX hgY hgZ e1
                  revert lZ
                  revert BZ
                  revert lY
                  revert BY
                  revert lX
                  revert BX
                  revert gZ
                  revert gY
                  revert gX
                  revert hB6
                  revert w6
                  exact main.out
          intro w6 hB6 gX gY gZ BX lX BY lY BZ lZ
          have hcl : True := trivial
          clear X0 X1 X2 X3 X4 X5 X6 X7 X8 X9 Y0 Y1 Y2 Y3 Y4 Y5 Y6 Y7 Y8 Y9 Z0 Z1 Z2 Z3 Z4 Z5 Z6 Z7 Z8 Z9 cv hbv hbx n1 n2 n3 l1 l2 l3 hcl
          have inv6 := inv.call hB6
          have s1 := hB6.size
          have cX := BX.cell
          have zX := BX.lt
          have cY := BY.cell
          have zY := BY.lt
          have cZ := BZ.cell
          have zZ := BZ.lt
          have HNO := Lib.hid (fun (w9 : World) (hb9 : Below w6.heap.size w6 w9) (h0 : supP l k e = []) => show RInv w w9 db ob ib pd dn mo no' (ylds dn 3 (-1) f (supS l k ++ supV l k (e + 1))) 3 by rw [HN.out, h0, List.append_nil]; exact inv6.call hb9)
          clear inv
          cases rx with
          | true =>
            have h0 := E.out.trans (if_neg (by simp))
            have R := Lib.hid (fun w9 hb9 => HNO.out w9 hb9 h0)
            clear h0 E HNO hpx hpy hye
            go_wp2
            go_roundg (gk - 1)
            case measure => omega
            case rel => exact ⟨e + 1, no', by omega, by omega, by omega, by go_num, by omega, R.out _ (by repeat (first | with_reducible exact Below.refl _ _ | with_reducible assumption | with_reducible refine below_drewN ?_ _ | with_reducible refine Below.drew ?_ | with_reducible refine below_alloc ?_ _ | (with_reducible refine Below.setCell ?_ ?_ _; rotate_left; ((try simp only); omega))))⟩
          | false =>
          cases ry with
          | true =>
            have h0 := E.out.trans (if_neg (by simp))
            have R := Lib.hid (fun w9 hb9 => HNO.out w9 hb9 h0)
            clear h0 E HNO hpx hpy hye
            go_wp2
            go_roundg (gk - 1)
            case measure => omega
            case rel => exact ⟨e + 1, no', by omega, by omega, by omega, by go_num, by omega, R.out _ (by repeat (first | with_reducible exact Below.refl _ _ | with_reducible assumption | with_reducible refine below_drewN ?_ _ | with_reducible refine Below.drew ?_ | with_reducible refine below_alloc ?_ _ | (with_reducible refine Below.setCell ?_ ?_ _; rotate_left; ((try simp only); omega))))⟩
          | false =>
          cases rz with
          | true =>
            have h0 := E.out.trans (if_neg (by simp))
            have R := Lib.hid (fun w9 hb9 => HNO.out w9 hb9 h0)
            clear h0 E HNO hpx hpy hye
            go_wp2
            go_roundg (gk - 1)
            case measure => omega
            case rel => exact ⟨e + 1, no', by omega, by omega, by omega, by go_num, by omega, R.out _ (by repeat (first | with_reducible exact Below.refl _ _ | with_reducible assumption | with_reducible refine below_drewN ?_ _ | with_reducible refine Below.drew ?_ | with_reducible refine below_alloc ?_ _ | (with_reducible refine Below.setCell ?_ ?_ _; rotate_left; ((try simp only); omega))))⟩
          | false =>
          have hpx : pchk (x4, x5, x6) = 0 := hpx rfl
          have hpy : pchk (y4, y5, y6) = 0 := hpy rfl
          by_cases hq : x4 = z4
          rotate_left
          · have hqb : (x4 == z4) = false := by simpa using hq
            have h0 := E.out.trans (if_neg (by rintro ⟨_, h, _⟩; simp only [Prod.mk.injEq] at h; first | exact hq h.1 | exact hq h.2.1 | exact hq h.2.2))
            have R := Lib.hid (fun w9 hb9 => HNO.out w9 hb9 h0)
            clear h0 E HNO hpx hpy hye
            go_wp2
            go_roundg (gk - 1)
            case measure => omega
            case rel => exact ⟨e + 1, no', by omega, by omega, by omega, by go_num, by omega, R.out _ (by repeat (first | with_reducible exact Below.refl _ _ | with_reducible assumption | with_reducible refine below_drewN ?_ _ | with_reducible refine Below.drew ?_ | with_reducible refine below_alloc ?_ _ | (with_reducible refine Below.setCell ?_ ?_ _; rotate_left; ((try simp only); omega))))⟩
          subst hq
          by_cases hq : x5 = z5
          rotate_left
          · have hqb : (x5 == z5) = false := by simpa using hq
            have h0 := E.out.trans (if_neg (by rintro ⟨_, h, _⟩; simp only [Prod.mk.injEq] at h; first | exact hq h.1 | exact hq h.2.1 | exact hq h.2.2))
            have R := Lib.hid (fun w9 hb9 => HNO.out w9 hb9 h0)
            clear h0 E HNO hpx hpy hye
            go_wp2
            go_roundg (gk - 1)
            case measure => omega
            case rel => exact ⟨e + 1, no', by omega, by omega, by omega, by go_num, by omega, R.out _ (by repeat (first | with_reducible exact Below.refl _ _ | with_reducible assumption | with_reducible refine below_drewN ?_ _ | with_reducible refine Below.drew ?_ | with_reducible refine below_alloc ?_ _ | (with_reducible refine Below.setCell ?_ ?_ _; rotate_left; ((try simp only); omega))))⟩
          subst hq
          by_cases hq : x6 = z6
          rotate_left
          · have hqb : (x6 == z6) = false := by simpa using hq
            have h0 := E.out.trans (if_neg (by rintro ⟨_, h, _⟩; simp only [Prod.mk.injEq] at h; first | exact hq h.1 | exact hq h.2.1 | exact hq h.2.2))
            have R := Lib.hid (fun w9 hb9 => HNO.out w9 hb9 h0)
            clear h0 E HNO hpx hpy hye
            go_wp2
            go_roundg (gk - 1)
            case measure => omega
            case rel => exact ⟨e + 1, no', by omega, by omega, by omega, by go_num, by omega, R.out _ (by repeat (first | with_reducible exact Below.refl _ _ | with_reducible assumption | with_reducible refine below_drewN ?_ _ | with_reducible refine Below.drew ?_ | with_reducible refine below_alloc ?_ _ | (with_reducible refine Below.setCell ?_ ?_ _; rotate_left; ((try simp only); omega))))⟩
          subst hq
          by_cases h5 : x4 = 5
          rotate_left
          · have h5b : (x4 != 5) = true := by simpa using h5
            have h0 := E.out.trans (if_neg (by rintro ⟨_, _, h, _⟩; exact h5 h))
            have R := Lib.hid (fun w9 hb9 => HNO.out w9 hb9 h0)
            clear h0 E HNO hpx hpy hye
            go_wp2
            go_roundg (gk - 1)
            case measure => omega
            case rel => exact ⟨e + 1, no', by omega, by omega, by omega, by go_num, by omega, R.out _ (by repeat (first | with_reducible exact Below.refl _ _ | with_reducible assumption | with_reducible refine below_drewN ?_ _ | with_reducible refine Below.drew ?_ | with_reducible refine below_alloc ?_ _ | (with_reducible refine Below.setCell ?_ ?_ _; rotate_left; ((try simp only); omega))))⟩
          have h5b : (x4 != 5) = false := by simp [h5]
          have rV6 := HV.out.under (inv6.low hB hmo)
          have hB6s : B ≤ w6.heap.size := by omega
          have qf := fun W (hW : Below w6.heap.size w6 W) => free_ok (some ⟨bv, ov, none⟩) n c l B W (rV6.below hB6s hW) (Nat.le_trans hB6s hW.size) hye.out
          have hfb : freeB l ((k : Int), (e : Int)) = decide (y6 = 0) := by rw [free_ev hye.out]; rfl
          obtain ⟨fb, hfb'⟩ : ∃ z, z = freeB l ((k : Int), (e : Int)) := ⟨_, rfl⟩
          rw [← hfb'] at qf hfb
          have HFB := Lib.hid hfb
          have E2 := Lib.hid (show supP l k e = if y6 = 0 ∧ numP (y4, y5, y6) = numP (x4, x5, x6) + 1 then [((k : Int), (e : Int))] else [] from E.out.trans (by simp [h5]))
          have HX5 := Lib.hid h5
          clear E
          have q1 := fun W => number_ok (x4, x5, x6) hpx W
          have q2 := fun W => number_ok (y4, y5, y6) hpy W
          have b1 := numP_bd hpx
          obtain ⟨P1, hP1⟩ : ∃ z, z = numP (x4, x5, x6) := ⟨_, rfl⟩
          obtain ⟨P2, hP2⟩ : ∃ z, z = numP (y4, y5, y6) := ⟨_, rfl⟩
          rw [← hP1] at q1 E2 b1
          rw [← hP2] at q2 E2
          have wP : IntKind.i64.wrap (P1 + 1) = P1 + 1 := IntWalk.i64_in _ (by omega)
          clear hfb hfb' hP1 hP2 h5 hpx hpy hye
          go_wp2_with fail
          refine (qf _ (by repeat (first | with_reducible exact Below.refl _ _ | with_reducible assumption | with_reducible refine below_drewN ?_ _ | with_reducible refine Below.drew ?_ | with_reducible refine below_alloc ?_ _ | (with_reducible refine Below.setCell ?_ ?_ _; rotate_left; ((try simp only); omega))))).mono ?_
          rintro e0 w7 ⟨rfl, hb7⟩
          have bx7 := BX.kept hb7
          have by7 := BY.kept hb7
          clear cX zX cY zY cZ zZ qf
          have cX := bx7.cell
          have zX := bx7.lt
          have cY := by7.cell
          have zY := by7.lt
          cases fb with
          | false =>
            have h0 := E2.out.trans (if_neg (by rintro ⟨h, _⟩; have := HFB.out; simp [h] at this))
            have R := Lib.hid (fun w9 hb9 => HNO.out w9 hb9 h0)
            clear h0 E2 HNO q1 q2
            go_wp2
            go_roundg (gk - 1)
            case measure => omega
            case rel => exact ⟨e + 1, no', by omega, by omega, by omega, by go_num, by omega, R.out _ (by repeat (first | with_reducible exact Below.refl _ _ | with_reducible assumption | with_reducible refine below_drewN ?_ _ | with_reducible refine Below.drew ?_ | with_reducible refine below_alloc ?_ _ | (with_reducible refine Below.setCell ?_ ?_ _; rotate_left; ((try simp only); omega))))⟩
          | true =>
          have HY6 := Lib.hid (show y6 = 0 by simpa using HFB.out.symm)
          go_wp2_with fail
          refine (q1 _).mono ?_
          rintro e1 w8 ⟨rfl, hb8⟩
          have k8 := below_call hb7 hb8
          have by8 := by7.kept hb8
          clear cX zX cY zY q1
          have cY := by8.cell
          have zY := by8.lt
          go_wp2_with fail
          refine (q2 _).mono ?_
          rintro e2 w9 ⟨rfl, hb9⟩
          have k9 := below_call k8 hb9
          clear cY zY q2
          by_cases hP : P2 = P1 + 1
          · have hPb : (P2 == P1 + 1) = true := by simpa using hP
            have h0 := E2.out.trans (if_pos ⟨HY6.out, hP⟩)
            have he2 : e ≤ 2000 := by have := HLV.out; omega
            have hn' : no' ≤ 100000000 := by omega
            have qy := fun W (hW : Below w6.heap.size w6 W) => yield_ok (inv6.ys.call hW) hn' (by omega) ((k : Int), (e : Int)) (by unfold okI; simp only; omega) (-1)
            simp only at qy
            have HY9 := Lib.hid (fun (w10 : World) (hy : YS w10 db ob ib pd dn mo (no' + 1) (yld dn 3 (-1) (ylds dn 3 (-1) f (supS l k ++ supV l k e)) ((k : Int), (e : Int))) 3) (hg : w9.grownBy w10 (some mo)) => show RInv w w10 db ob ib pd dn mo (no' + 1) (ylds dn 3 (-1) f (supS l k ++ supV l k (e + 1))) 3 by
              rw [HN.out, h0, ← List.append_assoc, ylds_append]
              exact ⟨hy, Gb.tr (inv6.call k9).gb hg⟩)
            clear h0 E2 HNO hP
            go_wp2_with fail
            refine (qy _ (by repeat (first | with_reducible exact Below.refl _ _ | with_reducible assumption | with_reducible refine below_drewN ?_ _ | with_reducible refine Below.drew ?_ | with_reducible refine below_alloc ?_ _ | (with_reducible refine Below.setCell ?_ ?_ _; rotate_left; ((try simp only); omega))))).mono ?_
            rintro e3 w10 ⟨rfl, hY, hG⟩
            go_wp2
            go_roundg (gk - 1)
            case measure => omega
            case rel => exact ⟨e + 1, no' + 1, by omega, by omega, by omega, by go_num, by omega, HY9.out _ hY hG⟩
          · have hPb : (P2 == P1 + 1) = false := by simpa using hP
            have h0 := E2.out.trans (if_neg (fun h => hP h.2))
            have R := Lib.hid (fun w9 hb9 => HNO.out w9 hb9 h0)
            clear h0 E2 HNO hP
            go_wp2
            go_roundg (gk - 1)
            case measure => omega
            case rel => exact ⟨e + 1, no', by omega, by omega, by omega, by go_num, by omega, R.out _ (by repeat (first | with_reducible exact Below.refl _ _ | with_reducible assumption | with_reducible refine below_drewN ?_ _ | with_reducible refine Below.drew ?_ | with_reducible refine below_alloc ?_ _ | (with_reducible refine Below.setCell ?_ ?_ _; rotate_left; ((try simp only); omega))))⟩
        · have d1 : ¬ ((e : Int) + 1 < (n' : Int)) := by omega
          have HEN := Lib.hid (supV_end HVL.out (by omega) (show v.length ≤ e + 1 by omega))
          have he2 : e ≤ 2000 := by have := HLV.out; omega
          clear hee rv hn'
          go_wp2
          go_roundg gh
          case measure => omega
          case rel => exact ⟨k + 1, no', by omega, by go_num, by omega, by rw [HS1.out, HEN.out]; exact inv⟩
end Go.Proofs.YtpkmiegccfhpnaaGreatDoor
