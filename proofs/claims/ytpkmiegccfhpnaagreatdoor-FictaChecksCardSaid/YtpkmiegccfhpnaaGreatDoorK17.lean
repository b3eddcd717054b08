/- Parts of the proofs of layer 31: FiBin, CaPairs, CaMapIn, CaFindM, CaFindR. -/
import Derived.Test.YtpkmiegccfhpnaaGreatDoorK10
import Derived.Test.YtpkmiegccfhpnaaGreatDoorK12
import Derived.Deep.LoopGhost
import Derived.Test.YtpkmiegccfhpnaaGreatDoorK05
import Derived.Test.YtpkmiegccfhpnaaGreatDoorK15
import Derived.Sort.MapsRangeIn
namespace Go.Proofs.YtpkmiegccfhpnaaGreatDoor
open Go.RowKit
def cmp3 (a b : Int) : Int := if a < b then -1 else if b < a then 1 else 0
set_option maxHeartbeats 400000 in
theorem isNaN_any (a : Int) (w : World) : Calls Tryz.prog 50 #[.int .i64 a] w fun e w' => e = .returned (.bool false) ∧ Below w.heap.size w w' := by
  go_enter Tryz.func50, Tryz.ntmps50
  go_wp2
  go_ret
  exact ⟨by simp, by repeat (first | with_reducible exact Below.refl _ _ | with_reducible assumption | with_reducible refine below_drewN ?_ _ | with_reducible refine Below.drew ?_ | with_reducible refine below_alloc ?_ _ | (with_reducible refine Below.setCell ?_ ?_ _; rotate_left; ((try simp only); omega)))⟩
set_option maxHeartbeats 400000 in
theorem cmpI_any (a b : Int) (w : World) : Calls Tryz.prog 32 #[.int .i64 a, .int .i64 b] w fun e w' => e = .returned (.int .i64 (cmp3 a b)) ∧ Below w.heap.size w w' := by
  go_enter Tryz.func32, Tryz.ntmps32
  go_wp2_with fail
  refine (isNaN_any a _).mono ?_
  rintro e w1 ⟨rfl, h1⟩
  go_wp2_with fail
  refine (isNaN_any b _).mono ?_
  rintro e w2 ⟨rfl, h2⟩
  have h3 := below_call h1 h2
  by_cases c1 : a < b
  · have E := Lib.hid (show cmp3 a b = -1 by unfold cmp3; rw [if_pos c1])
    go_wp2
    go_ret
    rw [E.out]
    exact ⟨rfl, h3⟩
  · by_cases c2 : b < a
    · have E := Lib.hid (show cmp3 a b = 1 by unfold cmp3; rw [if_neg c1, if_pos c2])
      go_wp2
      go_ret
      rw [E.out]
      exact ⟨rfl, h3⟩
    · have E := Lib.hid (show cmp3 a b = 0 by unfold cmp3; rw [if_neg c1, if_neg c2])
      go_wp2
      go_ret
      rw [E.out]
      exact ⟨rfl, h3⟩
def orS : List Int → Int
  | [] => 0
  | x :: l => if x ≠ 0 then x else orS l
set_option maxRecDepth 100000 in
set_option maxHeartbeats 1000000 in
theorem or_any (A : Option Addr) (n c : Nat) (l : List Int) (B : Nat) (w : World) (h : Reads w B 1 A n (csN l)) (hB : B ≤ w.heap.size) (hn : n ≤ 1000) :
    Calls Tryz.prog 31 #[.slice A n c] w fun e w' => e = .returned (.int .i64 (orS l)) ∧ Below w.heap.size w w' := by
  have HL := Lib.hid (show l.length = n from h.len (size := 1) (l := l) (f := cI) (fun _ => rfl) (by decide))
  go_enter Tryz.func31, Tryz.ntmps31
  go_wp2
  go_loopg [5, 8] n (fun g _ i wr => ∃ k : Nat, k + g = n ∧ i = .int .i64 k ∧ Below w.heap.size w wr ∧ Hid (orS (l.drop k) = orS l))
  case atStart => exact ⟨0, by omega, by simp, Below.refl _ _, Lib.hid rfl⟩
  case round =>
    obtain ⟨k, hkg, rfl, kr, hE⟩ := hrel
    cases gk with
    | zero =>
      obtain rfl : k = n := by omega
      have d0 : ¬ ((k : Int) < (k : Int)) := by omega
      have E := Lib.hid (show orS l = 0 by rw [← hE.out, List.drop_of_length_le (by have := HL.out; omega)]; rfl)
      go_wp2
      go_ret
      rw [E.out]
      exact ⟨rfl, kr⟩
    | succ g =>
      have hk : k < n := by omega
      have hk' : (k : Int) < (n : Int) := by omega
      obtain ⟨x, hx⟩ := get_some (l := l) (k := k) (by have := HL.out; omega)
      obtain ⟨b, off, hA, hb, hc⟩ := Reads.elem (f := cI) (fun _ => rfl) (h.below hB kr) hk hx
      have hD : l.drop k = x :: l.drop (k + 1) := by
        have := List.drop_eq_getElem_cons (i := k) (l := l) (by have := HL.out; omega)
        rw [this, (List.getElem?_eq_some_iff.1 hx).2]
      have HD := Lib.hid (show (if x ≠ 0 then x else orS (l.drop (k + 1))) = orS l by rw [← hE.out, hD]; rfl)
      have c0 : wr.cell? ⟨b, off + k, none⟩ = some (.int .i64 x) := by have := hc 0 _ rfl; simpa using this
      have hbw : b < wr.heap.size := by have := kr.size; omega
      subst hA
      clear hc hD hx hE
      by_cases hz : x = 0
      · have HN := Lib.hid (show orS (l.drop (k + 1)) = orS l by rw [← HD.out, if_neg (fun h => h hz)])
        have f0 : (x != 0) = false := by simp [hz]
        go_wp2
        go_roundg g
        case measure => omega
        case rel => exact ⟨k + 1, by omega, by go_num, kr, HN⟩
      · have HN := Lib.hid (show orS l = x by rw [← HD.out, if_pos hz])
        have f0 : (x != 0) = true := by simp [hz]
        go_wp2
        go_ret
        rw [HN.out]
        exact ⟨rfl, kr⟩
def Halves (m : List Tm) (t : Tm) (i j : Nat) : Prop := (∀ (k : Nat) x, k < i → m[k]? = some x → ltT x t) ∧ (∀ (k : Nat) x, j ≤ k → m[k]? = some x → ¬ ltT x t)
theorem halves_right {m : List Tm} (hs : SA m) (ho : OkL m) {t x : Tm} (ht : ok t) {i j h : Nat} (hh : Halves m t i j) (hx : m[h]? = some x) (hl : ltT x t) : Halves m t (h + 1) j := by
  refine ⟨fun k y hk hy => ?_, hh.2⟩
  rcases Nat.lt_or_ge k h with h1 | h1
  · have := List.pairwise_iff_getElem.1 hs k h (List.getElem?_eq_some_iff.1 hy).1 (List.getElem?_eq_some_iff.1 hx).1 h1
    rw [(List.getElem?_eq_some_iff.1 hy).2, (List.getElem?_eq_some_iff.1 hx).2] at this
    exact ltT_trans (ho _ (List.mem_of_getElem? hy)) (ho _ (List.mem_of_getElem? hx)) ht this hl
  · obtain rfl : k = h := by omega
    rw [hx] at hy; cases hy; exact hl
theorem halves_left {m : List Tm} (hs : SA m) (ho : OkL m) {t x : Tm} (ht : ok t) {i j h : Nat} (hh : Halves m t i j) (hx : m[h]? = some x) (hl : ¬ ltT x t) : Halves m t i h := by
  refine ⟨hh.1, fun k y hk hy => ?_⟩
  rcases Nat.lt_or_ge h k with h1 | h1
  · have := List.pairwise_iff_getElem.1 hs h k (List.getElem?_eq_some_iff.1 hx).1 (List.getElem?_eq_some_iff.1 hy).1 h1
    rw [(List.getElem?_eq_some_iff.1 hy).2, (List.getElem?_eq_some_iff.1 hx).2] at this
    exact leT_trans ht (ho _ (List.mem_of_getElem? hx)) (ho _ (List.mem_of_getElem? hy)) hl (ltT_asym this)
  · obtain rfl : k = h := by omega
    rw [hx] at hy; cases hy; exact hl
theorem halves_end {m : List Tm} {t : Tm} {i : Nat} (hh : Halves m t i i) (hi : i ≤ m.length) : posW m t = i := posW_is hh.1 hi (fun x hx => hh.2 i x (Nat.le_refl _) hx)
/-! ### The onsets of a voice -/
def ats (v : List Ev) : List Tm := v.map (·.at_)
theorem ats_at {v : List Ev} {k : Nat} {x : Ev} (h : v[k]? = some x) : (ats v)[k]? = some x.at_ := by unfold ats; rw [List.getElem?_map, h]; rfl
theorem ats_len (v : List Ev) : (ats v).length = v.length := by unfold ats; rw [List.length_map]
theorem ats_sa {v : List Ev} (h : Val v) : SA (ats v) := by
  unfold SA
  rw [List.pairwise_iff_getElem]
  intro i j hi hj hij
  have hi' : i < v.length := by rw [← ats_len v]; exact hi
  have hj' : j < v.length := by rw [← ats_len v]; exact hj
  obtain ⟨x, hx⟩ := get_some hi'
  obtain ⟨y, hy⟩ := get_some hj'
  have e1 := ats_at hx
  have e2 := ats_at hy
  rw [(List.getElem?_eq_some_iff.1 e1).2, (List.getElem?_eq_some_iff.1 e2).2]
  exact (at_lt h j i x y hx hy hij).1
theorem ats_ok {v : List Ev} (h : Val v) : OkL (ats v) := by
  intro t ht
  unfold ats at ht
  obtain ⟨x, hx, rfl⟩ := List.mem_map.1 ht
  exact (val_mem h x hx).1
/-- The comparison of two times as whole numbers. -/
def cmpX (a b : Tm) : Int := cmp3 (a.1 * b.2) (b.1 * a.2)
theorem cmpX_lt {a b : Tm} : decide (cmpX a b < 0) = decide (ltT a b) := by
  apply decide_eq_decide.2
  unfold cmpX cmp3 ltT
  by_cases h : a.1 * b.2 < b.1 * a.2
  · rw [if_pos h]; exact ⟨fun _ => h, fun _ => by decide⟩
  · rw [if_neg h]
    refine ⟨fun hh => ?_, fun hh => absurd hh h⟩
    split at hh <;> omega
theorem cmpX_eq {a b : Tm} (ha : ok a) (hb : ok b) : (cmpX a b == 0) = decide (a = b) := by
  unfold cmpX cmp3
  by_cases e : a = b
  · rw [e, if_neg (by omega), if_neg (by omega)]; simp
  · have : ¬ (a.1 * b.2 - b.1 * a.2 = 0) := fun h0 => e (ok_eq ha hb (by omega))
    rw [decide_eq_false e]
    split
    · rfl
    · rw [if_pos (by omega)]; rfl
theorem mulx_bd {a b : Int} (h0 : 0 ≤ a) (h1 : a ≤ 1099511627776) (h2 : 0 ≤ b) (h3 : b ≤ 1048576) : 0 ≤ a * b ∧ a * b ≤ 1152921504606846976 :=
  ⟨Int.mul_nonneg h0 h2, Int.le_trans (Int.mul_le_mul h1 h3 h2 (by omega)) (by decide)⟩
set_option maxHeartbeats 1000000 in
theorem lead1_any (x : Ev) (t : Tm) (hx : ok x.at_) (ht : ok t) (w : World) :
    Calls Tryz.prog 87 #[.agg (cE x).toArray, .agg #[.int .i64 t.1, .int .i64 t.2]] w fun e w' => e = .returned (.int .i64 (cmpX x.at_ t)) ∧ Below w.heap.size w w' := by
  have E := Lib.hid (show cmpX x.at_ t = cmp3 (x.at_.1 * t.2) (t.1 * x.at_.2) from rfl)
  have m1 := mulx_bd hx.1 hx.2.1 (show 0 ≤ t.2 by have := ht.2.2.1; omega) ht.2.2.2.1
  have m2 := mulx_bd ht.1 ht.2.1 (show 0 ≤ x.at_.2 by have := hx.2.2.1; omega) hx.2.2.2.1
  obtain ⟨⟨a0, a1⟩, ⟨d0, d1⟩, ⟨p0, p1, p2⟩, rs, sg, ps⟩ := x
  obtain ⟨t0, t1⟩ := t
  simp only at m1 m2 E ⊢
  have w1 : IntKind.i64.wrap (a0 * t1) = a0 * t1 := IntWalk.i64_in _ (by omega)
  have w2 : IntKind.i64.wrap (t0 * a1) = t0 * a1 := IntWalk.i64_in _ (by omega)
  have q := fun W => cmpI_any (a0 * t1) (t0 * a1) W
  rw [E.out]
  obtain ⟨u, hu⟩ : ∃ z, z = cmp3 (a0 * t1) (t0 * a1) := ⟨_, rfl⟩
  rw [← hu] at q ⊢
  rw [show (cE ⟨(a0, a1), (d0, d1), (p0, p1, p2), rs, sg, ps⟩).toArray = #[.int .i64 a0, .int .i64 a1, .int .i64 d0, .int .i64 d1, .int .i64 p0, .int .i64 p1, .int .i64 p2, .bool rs, .int .i64 sg, .int .i64 ps] from rfl]
  clear hu hx ht E m1 m2
  go_enter Tryz.func87, Tryz.ntmps87
  go_wp2_with fail
  refine (q _).mono ?_
  rintro e w1 ⟨rfl, hb1⟩
  have kb : Below w.heap.size w w1 := by repeat (first | exact Below.refl _ _ | refine below_drewN ?_ _ | refine Below.drew ?_ | refine below_alloc ?_ _ | (refine below_call ?_ (by assumption)) | (refine Below.setCell ?_ ?_ _; rotate_left; (simp; try omega)))
  go_wp2
  go_ret
  exact ⟨rfl, by repeat (first | with_reducible exact Below.refl _ _ | with_reducible assumption | with_reducible refine below_drewN ?_ _ | with_reducible refine Below.drew ?_ | with_reducible refine below_alloc ?_ _ | (with_reducible refine Below.setCell ?_ ?_ _; rotate_left; ((try simp only); omega)))⟩
set_option maxRecDepth 100000 in
set_option maxHeartbeats 8000000 in
theorem binE_any (A : Option Addr) (n c : Nat) (v : List Ev) (t : Tm) (B : Nat) (w : World) (h : Reads w B 10 A n (csE v)) (hB : B ≤ w.heap.size) (hn : n ≤ 2000) (hv : Val v) (ht : ok t) :
    Calls Tryz.prog 86 #[.slice A n c, .agg #[.int .i64 t.1, .int .i64 t.2], .func (.func 87) #[] #[]] w fun e w' =>
      e = .returned (.tuple #[.int .i64 (posW (ats v) t : Nat), .bool (decide ((ats v)[posW (ats v) t]? = some t))]) ∧ Below w.heap.size w w' := by
  have HL := Lib.hid h.evlen
  have HS := Lib.hid (ats_sa hv)
  have HO := Lib.hid (ats_ok hv)
  have HLA := Lib.hid (ats_len v)
  have HT := Lib.hid ht
  clear hv ht
  obtain ⟨t0, t1⟩ := t
  go_enter Tryz.func86, Tryz.ntmps86
  go_wp2
  go_loopg [9, 10, 11] n (fun g i j _ wr => ∃ a b : Nat, a + g = b ∧ b ≤ n ∧ i = .int .i64 a ∧ j = .int .i64 b ∧ Hid (Halves (ats v) (t0, t1) a b) ∧ Below w.heap.size w wr ∧ Blk wr w.heap.size 45 #[.int .i64 t0, .int .i64 t1])
  case atStart =>
    refine ⟨0, n, by omega, by omega, by simp, rfl, Lib.hid ⟨fun k x hk _ => by omega, fun k x hk hx => ?_⟩, by repeat (first | with_reducible exact Below.refl _ _ | with_reducible assumption | with_reducible refine below_drewN ?_ _ | with_reducible refine Below.drew ?_ | with_reducible refine below_alloc ?_ _ | (with_reducible refine Below.setCell ?_ ?_ _; rotate_left; ((try simp only); omega))), by with_reducible exact Blk.new _ _ _⟩
    have := (List.getElem?_eq_some_iff.1 hx).1
    rw [HLA.out] at this
    have := HL.out
    omega
  case round =>
    obtain ⟨a, b, hab, hbn, rfl, rfl, hH, k0, bT⟩ := hrel
    have t0c : wr.cell? ⟨w.heap.size, 0, none⟩ = some (.int .i64 t0) := bT.cell 0
    have t1c : wr.cell? ⟨w.heap.size, 1, none⟩ = some (.int .i64 t1) := bT.cell 1
    have lT := bT.lt
    cases gk with
    | zero =>
      obtain rfl : a = b := by omega
      have HP := Lib.hid (halves_end hH.out (by rw [HLA.out]; have := HL.out; omega))
      clear hH
      by_cases han : a < n
      · have hlt : (a : Int) < (n : Int) := by omega
        obtain ⟨s, hs⟩ := get_some (l := v) (k := a) (by have := HL.out; omega)
        have HM := Lib.hid (ats_at hs)
        have hso := HO.out _ (List.mem_of_getElem? HM.out)
        obtain ⟨bb, off, rfl, hbb, hcx⟩ := h.ev hB k0 han hs
        obtain ⟨X0, X1, X2, X3, X4, X5, X6, X7, X8, X9⟩ := ten hcx
        have q1 := fun W => lead1_any s (t0, t1) hso HT.out W
        have D := Lib.hid (cmpX_eq hso HT.out)
        obtain ⟨⟨a0, a1⟩, ⟨d0, d1⟩, ⟨p0, p1, p2⟩, rs, sg, ps⟩ := s
        simp only at q1 D X0 X1 X2 X3 X4 X5 X6 X7 X8 X9 HM
        rw [show (cE ⟨(a0, a1), (d0, d1), (p0, p1, p2), rs, sg, ps⟩).toArray = #[.int .i64 a0, .int .i64 a1, .int .i64 d0, .int .i64 d1, .int .i64 p0, .int .i64 p1, .int .i64 p2, .bool rs, .int .i64 sg, .int .i64 ps] from rfl] at q1
        obtain ⟨x, hx⟩ : ∃ y, y = cmpX (a0, a1) (t0, t1) := ⟨_, rfl⟩
        rw [← hx] at q1 D
        clear hx hso hs hcx
        go_wp2_with fail
        refine wp_region_calm (by kernel_rfl) (by kernel_rfl) ?_
        repeat (go_big_quiet_step ((go_at_call 87; with_reducible exact calm_call (q1 _))))
        refine wpQuiet_nil ?_
        intro w6 g6
        go_wp2
        go_ret2
        rw [HP.out, HM.out, D.out]
        exact ⟨by simp, below_call k0 g6⟩
      · have han' : a = n := by omega
        subst han'
        have HM := Lib.hid (show (ats v)[a]? = none by rw [List.getElem?_eq_none]; rw [HLA.out]; have := HL.out; omega)
        go_wp2_with fail
        refine wp_region_calm (by kernel_rfl) (by kernel_rfl) ?_
        repeat (go_big_quiet_step (fail))
        refine wpQuiet_nil ?_
        intro w6 g6
        go_wp2
        go_ret2
        rw [HP.out, HM.out]
        exact ⟨by simp, below_call k0 g6⟩
    | succ g =>
      have hlt : (a : Int) < (b : Int) := by omega
      have w1 : IntKind.i64.wrap ((a : Int) + (b : Int)) = (a : Int) + (b : Int) := IntWalk.i64_in _ (by omega)
      have w2 : IntKind.u64.wrap ((a : Int) + (b : Int)) = (a : Int) + (b : Int) := IntWalk.u64_in _ (by omega)
      obtain ⟨h0, hh0⟩ : ∃ h0 : Nat, h0 = (a + b) / 2 := ⟨_, rfl⟩
      have hd : ((a : Int) + (b : Int)) / 2 = (h0 : Int) := by omega
      have hh1 : a ≤ h0 ∧ h0 < b := by omega
      clear hh0
      obtain ⟨s, hs⟩ := get_some (l := v) (k := h0) (by have := HL.out; omega)
      have HM := Lib.hid (ats_at hs)
      have hso := HO.out _ (List.mem_of_getElem? HM.out)
      have hh2 : h0 < n := by omega
      have hh3 : (h0 : Int) < (n : Int) := by omega
      have hh4 : (0 : Int) ≤ (h0 : Int) := by omega
      obtain ⟨bb, off, hA, hbb, hcx⟩ := h.ev hB k0 hh2 hs
      obtain ⟨X0, X1, X2, X3, X4, X5, X6, X7, X8, X9⟩ := ten hcx
      have q1 := fun W => lead1_any s (t0, t1) hso HT.out W
      have D : decide (cmpX s.at_ (t0, t1) < 0) = decide (ltT s.at_ (t0, t1)) := cmpX_lt
      have w3 : IntKind.i64.wrap ((h0 : Int) + 1) = (h0 : Int) + 1 := IntWalk.i64_in _ (by omega)
      go_wp2_with fail
      obtain ⟨⟨a0, a1⟩, ⟨d0, d1⟩, ⟨p0, p1, p2⟩, rs, sg, ps⟩ := s
      simp only at q1 D X0 X1 X2 X3 X4 X5 X6 X7 X8 X9 HM
      rw [show (cE ⟨(a0, a1), (d0, d1), (p0, p1, p2), rs, sg, ps⟩).toArray = #[.int .i64 a0, .int .i64 a1, .int .i64 d0, .int .i64 d1, .int .i64 p0, .int .i64 p1, .int .i64 p2, .bool rs, .int .i64 sg, .int .i64 ps] from rfl] at q1
      obtain ⟨x, hx⟩ : ∃ y, y = cmpX (a0, a1) (t0, t1) := ⟨_, rfl⟩
      rw [← hx] at q1 D
      clear hx hso hs hcx
      subst hA
      by_cases hl : ltT (a0, a1) (t0, t1)
      · have HN := Lib.hid (halves_right HS.out HO.out HT.out hH.out HM.out hl)
        rw [decide_eq_true hl] at D
        clear hl hH
        refine wp_region_calm (by kernel_rfl) (by kernel_rfl) ?_
        repeat (go_big_quiet_step ((go_at_call 87; with_reducible exact calm_call (q1 _))))
        refine wpQuiet_nil ?_
        intro w6 g6
        go_wp2
        go_roundg (b - (h0 + 1))
        case measure => omega
        case rel => exact ⟨h0 + 1, b, by omega, hbn, by go_num, rfl, HN, below_call k0 g6, bT.kept g6⟩
      · have HN := Lib.hid (halves_left HS.out HO.out HT.out hH.out HM.out hl)
        rw [decide_eq_false hl] at D
        clear hl hH
        refine wp_region_calm (by kernel_rfl) (by kernel_rfl) ?_
        repeat (go_big_quiet_step ((go_at_call 87; with_reducible exact calm_call (q1 _))))
        refine wpQuiet_nil ?_
        intro w6 g6
        go_wp2
        go_roundg (h0 - a)
        case measure => omega
        case rel => exact ⟨a, h0, by omega, by omega, rfl, rfl, HN, below_call k0 g6, bT.kept g6⟩
end Go.Proofs.YtpkmiegccfhpnaaGreatDoor
namespace Go.Proofs.YtpkmiegccfhpnaaGreatDoor
open Go.RowKit
attribute [local go_sem] Oper.semAt_some
set_option maxRecDepth 100000 in
set_option maxHeartbeats 2000000 in
theorem ccheck_ok (A : Option Addr) (n c : Nat) (l : List (List Ev)) (B : Nat) (w : World) (h : ReadsV w B A n l) (hB : B ≤ w.heap.size) (hl : SetV l) :
    Calls Tryz.prog 111 #[.slice A n c] w fun e w' => e = .returned (.int .i64 0) ∧ Below w.heap.size w w' := by
  have HL := Lib.hid h.len
  have HS := Lib.hid hl
  have hn8 : n ≤ 8 := by have := hl.len; have := HL.out; omega
  have hn8' : ¬ ((8 : Int) < (n : Int)) := by omega
  have HR := Lib.hid h
  clear hl h
  go_enter Tryz.func111, Tryz.ntmps111
  go_wp2
  go_loopg [12] n (fun gh i wr => ∃ k : Nat, k + gh = n ∧ i = .int .i64 (k : Int) ∧ Below w.heap.size w wr)
  case atStart => exact ⟨0, by omega, rfl, Below.refl _ _⟩
  case round =>
    obtain ⟨k, hkg, rfl, kr⟩ := hrel
    cases gk with
    | zero =>
      have d0 : ¬ ((k : Int) < (n : Int)) := by omega
      clear hkg
      go_wp2
      refine ret_of (by simp [results, Tryz.results111, go_sem, *]; repeat' (first | rfl | apply And.intro)) rfl ⟨rfl, kr⟩
    | succ g =>
      have hkn : k < n := by omega
      have d0 : (k : Int) < (n : Int) := by omega
      have wk : IntKind.i64.wrap ((k : Int) + 1) = (k : Int) + 1 := IntWalk.i64_in _ (by omega)
      obtain ⟨v, hv⟩ := get_some (l := l) (k := k) (by rw [HL.out]; exact hkn)
      have hm := List.mem_of_getElem? hv
      obtain ⟨bv, ov, A', n', c', rfl, hbv, cv, rv, hn', hvn⟩ := HR.out.voice hB kr hkn hv
      have q1 := evCheck_any A' n' c' v B wr rv (Nat.le_trans hB kr.size) hn'
      rw [HS.out.chk v hm] at q1
      obtain ⟨y, hy⟩ : ∃ y, y = (checkS v).2 := ⟨_, rfl⟩
      rw [← hy] at q1
      clear hy hv hm
      go_wp2_with fail
      refine q1.mono ?_
      rintro e w1 ⟨rfl, hb1⟩
      have k2 := below_call kr hb1
      clear hb1
      go_wp2
      go_roundg g
      case measure => omega
      case rel => exact ⟨k + 1, by omega, by go_num, k2⟩
set_option maxRecDepth 100000 in
set_option maxHeartbeats 2000000 in
theorem pairs_any (n : Nat) (w : World) :
    Calls Tryz.prog 112 #[.int .i64 (n : Int)] w fun e w' => e = .returned (.func (.func 143) #[] #[.pointer (some ⟨w.heap.size, 0, none⟩)]) ∧ w' = w.alloc (.cells #[.int .i64 (n : Int)] 3) := by
  go_enter Tryz.func112, Tryz.ntmps112
  go_wp2
  go_ret
  exact ⟨rfl, rfl⟩
def rowPr (a k : Nat) : List (Nat × Nat) := (List.range k).flatMap fun b => if a ≠ b then [(a, b)] else []
def allPr (n k : Nat) : List (Nat × Nat) := (List.range k).flatMap fun a => rowPr a n
theorem rowPr_len (a : Nat) : ∀ k, (rowPr a k).length ≤ k
  | 0 => by simp [rowPr]
  | k + 1 => by
    have := rowPr_len a k
    unfold rowPr at this ⊢
    rw [flat_succ, List.length_append]
    by_cases h : a ≠ k
    · rw [if_pos h]; show _ + 1 ≤ _; omega
    · rw [if_neg h]; show _ + 0 ≤ _; omega
theorem allPr_len (n : Nat) : ∀ k, (allPr n k).length ≤ k * n
  | 0 => by simp [allPr]
  | k + 1 => by
    have := allPr_len n k
    have h2 := rowPr_len k n
    unfold allPr at this ⊢
    rw [flat_succ, List.length_append, Nat.succ_mul]
    omega
theorem pre_len {n k m : Nat} (hk : k < n) (hm : m < n) : (allPr n k ++ rowPr k m).length ≤ n * n := by
  have h1 := allPr_len n k
  have h2 := rowPr_len k m
  have h3 := Nat.mul_le_mul_right n (show k + 1 ≤ n from hk)
  rw [Nat.succ_mul] at h3
  rw [List.length_append]
  omega
/-- What the iterator asks of a round. -/
def PairOk (n lp : Nat) (J : List (Nat × Nat) → World → Prop) : Prop :=
  ∀ (pre : List (Nat × Nat)) (a b : Nat) (W : World), a < n → b < n → a ≠ b → pre.length ≤ n * n → J pre W →
    ∃ fn tmps assign body, (Instr.yield lp #[.int .i64 (a : Int), .int .i64 (b : Int)]).run Tryz.prog W = .ok (.round lp fn tmps assign body) W ∧
      RoundIn Fence.wide 0 Tryz.prog lp fn tmps assign body W fun e W' => e = .returned (.bool true) ∧ J (pre ++ [(a, b)]) W'
set_option maxRecDepth 100000 in
set_option maxHeartbeats 4000000 in
theorem pairs1_any (n p0 lp : Nat) (w : World) (hn : n ≤ 1000) (J : List (Nat × Nat) → World → Prop) (hJ : ∀ pre W, J pre W → Blk W p0 3 #[.int .i64 (n : Int)]) (h0 : J [] w) (hY : PairOk n lp J) :
    Calls Tryz.prog 143 #[.func (.yield lp) #[] #[], .pointer (some ⟨p0, 0, none⟩)] w fun e w' => (∃ v, e = .returned v) ∧ J (allPr n n) w' := by
  have HJ := Lib.hid hJ
  have HY := Lib.hid hY
  clear hJ hY
  have c0 := (HJ.out _ _ h0).cell 0
  simp only [List.getElem?_toArray, List.getElem?_cons_zero] at c0
  go_enter Tryz.func143, Tryz.ntmps143
  go_wp2
  go_loopg [6] n (fun gh i wr => ∃ k : Nat, k + gh = n ∧ i = .int .i64 (k : Int) ∧ J (allPr n k) wr)
  case atStart => exact ⟨0, by omega, rfl, h0⟩
  case round =>
    clear h0 c0
    obtain ⟨k, hkg, rfl, hJk⟩ := hrel
    cases gk with
    | zero =>
      have d0 : ¬ ((k : Int) < (n : Int)) := by omega
      have hkn : k = n := by omega
      subst hkn
      go_wp2
      go_end0
      exact ⟨⟨_, rfl⟩, hJk⟩
    | succ g =>
      have hkn : k < n := by omega
      have d0 : (k : Int) < (n : Int) := by omega
      have wk : IntKind.i64.wrap ((k : Int) + 1) = (k : Int) + 1 := IntWalk.i64_in _ (by omega)
      have c1 := (HJ.out _ _ hJk).cell 0
      simp only [List.getElem?_toArray, List.getElem?_cons_zero] at c1
      obtain ⟨wq, hwq⟩ : ∃ z, z = wr := ⟨_, rfl⟩
      subst hwq
      go_wp2
      go_loopg [10] n (fun g2 i wr => ∃ m : Nat, m + g2 = n ∧ i = .int .i64 (m : Int) ∧ J (allPr n k ++ rowPr k m) wr)
      case atStart => exact ⟨0, by omega, rfl, by simpa [rowPr] using hJk⟩
      case round =>
        clear hJk c1
        obtain ⟨m, hmg, rfl, hJm⟩ := hrel
        cases gk with
        | zero =>
          have d1 : ¬ ((m : Int) < (n : Int)) := by omega
          have hmn : m = n := by omega
          subst hmn
          go_wp2
          go_roundg g
          case measure => omega
          case rel => exact ⟨k + 1, by omega, by go_num, by unfold allPr; rw [flat_succ]; exact hJm⟩
        | succ g2 =>
          have hmn : m < n := by omega
          have d1 : (m : Int) < (n : Int) := by omega
          have wm : IntKind.i64.wrap ((m : Int) + 1) = (m : Int) + 1 := IntWalk.i64_in _ (by omega)
          by_cases hkm : k = m
          · have b1 : ((k : Int) != (m : Int)) = false := by simp [hkm]
            go_wp2
            go_roundg g2
            case measure => omega
            case rel => exact ⟨m + 1, by omega, by go_num, by unfold rowPr; rw [flat_succ, if_neg (by simpa using hkm), List.append_nil]; exact hJm⟩
          · have b1 : ((k : Int) != (m : Int)) = true := by simp; omega
            obtain ⟨fn, tmps, assign, body, hyd, hRd⟩ := HY.out _ k m wr hkn hmn hkm (pre_len hkn hmn) hJm
            repeat ((fail_if_success (with_reducible show (Code.region 6 _ _).wp _ _ _ _)); go_step)
            refine (wpIn_wide (n := 1)).1 ?_
            gi_wp2
            refine hRd.mono ?_
            rintro e W3 ⟨rfl, hJ3⟩
            clear hyd hRd
            gi_wp2
            go_wp2
            go_roundg g2
            case measure => omega
            case rel => exact ⟨m + 1, by omega, by go_num, by unfold rowPr; rw [flat_succ, if_pos hkm, ← List.append_assoc]; exact hJ3⟩
end Go.Proofs.YtpkmiegccfhpnaaGreatDoor
namespace Go.Proofs.YtpkmiegccfhpnaaGreatDoor
open Go.RowKit Go.Maps
section
variable {γ β : Type} {K : TypeId} {G : KeyG γ K} {T : ElemT β} {F : Fence} {nF : Nat} {w : World} {b n r : Nat} {f : γ → Option β} {S : γ → Bool} {ops : Array Oper} {rest : List Oper} {o : Oper} {a : Act} {Q : Exit → Act → World → Prop}
theorem wpListIn_trange {t E : TypeId} (hg : o.guard = none) (m : Operand) (hop : o.op = Op.range t m) (h : TMap w G T b n f) (ht : Tryz.prog.underlying t = some (.map K E)) (hm : a.eval m = .map (some b))
    (hK : ∀ w', TRng w' G T b w.heap.size n f (fun _ => false) → w.grownBy w' none → w'.heap.size = w.heap.size + 1 → wpListIn F nF Tryz.prog ops Q rest (a.put o.dst (.pointer (some ⟨w.heap.size, 0, none⟩))) w') : wpListIn F nF Tryz.prog ops Q (o :: rest) a w := by
  obtain ⟨D, h, hf⟩ := h
  refine wpListIn_range_own w hg m t hop K E G.keyed ht T.R b n D hm h ?_
  intro w' h1 h2 h3
  exact hK w' ⟨D, _, _, h1, hf, fun x kl hx hkl => by rw [(hf x kl hx hkl).1]; simp⟩ h2 h3
theorem wpListIn_tnext [DecidableEq γ] (hg : o.guard = none) (it : Operand) (hop : o.op = Op.next it false) (h : TRng w G T b r n f S) (hit : a.eval it = .pointer (some ⟨r, 0, none⟩))
    (hDone : (∀ x, G.ok x → f x ≠ none → S x = true) → wpListIn F nF Tryz.prog ops Q rest (a.put o.dst (.tuple #[.bool false])) w)
    (hMore : ∀ (x : γ) (y : β) (w' : World), G.ok x → T.ok y → f x = some y → S x = false → TRng w' G T b r n f (fun z => S z || decide (z = x)) → w'.rangeLeft b r < w.rangeLeft b r → w.grownBy w' (some r) → w'.heap.size = w.heap.size →
      (Instr.entry (.pointer (some ⟨r, 0, none⟩))).run Tryz.prog w' = .ok (.tuple #[G.enc x, T.enc y]) w' → wpListIn F nF Tryz.prog ops Q rest (a.put o.dst (.tuple #[.bool true, G.enc x, T.enc y])) w') :
    wpListIn F nF Tryz.prog ops Q (o :: rest) a w := by
  obtain ⟨D, left, cnt, hr, hf, hl⟩ := h
  refine wpListIn_next_ranges w hg it hop K G.keyed T.R G.enc T.enc (fun key kl hk => by obtain ⟨x, _, e⟩ := G.inv key kl hk; exact ⟨x, e⟩) (fun v y hv => by obtain ⟨c, _, e, _⟩ := T.back v y hv; exact ⟨c, e⟩) b r n D left cnt hit hr ?_ ?_
  · intro _ hall
    refine hDone fun x hx hfx => ?_
    obtain ⟨kl, hkl⟩ := G.keys x hx
    have := hl x kl hx hkl
    rw [hall kl] at this
    cases hS : S x with
    | true => rfl
    | false => rw [hS] at this; cases hfx' : f x with
      | none => exact absurd hfx' hfx
      | some y => rw [hfx'] at this; simp at this
  · intro x c kl y w' cnt' hkey hleft hv hat hr' hlt hg' hs' hen
    have hx : G.ok x := by
      obtain ⟨x', hx', e⟩ := G.inv _ _ hkey
      rw [G.inj _ _ e]; exact hx'
    have h1 := hl x kl hx hkey
    rw [hleft] at h1
    have h1 := h1.symm
    rw [Bool.and_eq_true] at h1
    obtain ⟨h1, h2⟩ := h1
    obtain ⟨y0, hy0⟩ := Option.isSome_iff_exists.1 h1
    obtain ⟨y', hok, e1, e2⟩ := T.back _ _ hv
    have e3 := (hf x kl hx hkey).2 y0 hy0 (.lit (.bool false))
    rw [hat, e2] at e3
    have e4 : y' = y0 := T.inj _ _ e3
    subst e4
    rw [e1] at hen ⊢
    refine hMore x y' w' hx hok hy0 (by simpa using h2) ⟨D, _, cnt', hr', hf, ?_⟩ (by rw [hr'.left_eq, hr.left_eq]; exact hlt) hg' hs' hen
    intro z kz hz hkz
    rw [hl z kz hz hkz]
    by_cases e : z = x
    · subst e
      rw [hkey] at hkz
      cases hkz
      rw [WideAt.sameKey_self (G.keyed.key hkey)]
      simp
    · have hne : kz ≠ kl := fun e' => e (G.one (by rw [hkz, e']) hkey)
      rw [sameKey_ne hne]
      simp [e]
theorem TRng.left_le (h : TRng w G T b r n f S) : w.rangeLeft b r ≤ n := by
  obtain ⟨D, left, cnt, hr, _⟩ := h
  obtain ⟨es, clock, since, seen, c0, hb, _, hs, _, hr', _, hc, _⟩ := hr
  simp only [World.rangeLeft, hb, hr']
  refine Nat.le_trans ?_ hs
  unfold leftOf
  exact Array.size_filter_le
theorem TRng.left_same {w' : World} (h1 : w'.heap[b]? = w.heap[b]?) (h2 : w'.heap[r]? = w.heap[r]?) : w'.rangeLeft b r = w.rangeLeft b r := by
  simp only [World.rangeLeft, h1, h2]
end
end Go.Proofs.YtpkmiegccfhpnaaGreatDoor
namespace Go.Proofs.YtpkmiegccfhpnaaGreatDoor
open Go.RowKit
def cCad (x : Cad) : List Value := [.int .i64 x.at_.1, .int .i64 x.at_.2, .int .i64 x.c, .int .i64 x.t, .int .i64 x.b, .int .i64 x.step, .int .i64 x.kind]
def csCad (l : List Cad) : List Value := l.flatMap cCad
theorem csCad_append (l m : List Cad) : csCad (l ++ m) = csCad l ++ csCad m := by unfold csCad; rw [List.flatMap_append]
theorem one_csCad (l : List Cad) : ∀ u ∈ csCad l, u.oneCell' = true := by
  intro u hu
  obtain ⟨t, _, ht⟩ := List.mem_flatMap.1 hu
  simp [cCad] at ht
  rcases ht with rfl | rfl | rfl | rfl | rfl | rfl | rfl <;> rfl
set_option maxRecDepth 100000 in
theorem cadence_info : (Tryz.prog.info? 126).map (fun i => (i.zero, i.size, i.bytes)) = some (some (.agg #[.int .i64 0, .int .i64 0, .int .i64 0, .int .i64 0, .int .i64 0, .int .i64 0, .int .i64 0]), 7, 56) := by kernel_rfl
def Hit (l : List (List Ev)) (a i b k : Nat) (x : Cad) : Prop := x.at_ = atOf (l.getD a []) i ∧ x.c = (a : Int) ∧ x.kind = cadK l a i b k
/-- The cadences of the pairs that have come. -/
structure CadsIn (l : List (List Ev)) (pre : List (Nat × Nat)) (cs : List Cad) : Prop where
  sound : ∀ x ∈ cs, CadOK l x
  full : ∀ p ∈ pre, ∀ i k, CadAt l p.1 i p.2 k = true → ∃ x ∈ cs, Hit l p.1 i p.2 k x
/-- .. and of the onsets S of one pair more. -/
structure CadsR (l : List (List Ev)) (pre : List (Nat × Nat)) (a b : Nat) (S : Tm → Bool) (cs : List Cad) : Prop where
  base : CadsIn l pre cs
  here : ∀ i k, CadAt l a i b k = true → S (atOf (l.getD a []) i) = true → ∃ x ∈ cs, Hit l a i b k x
section
variable {l : List (List Ev)} {pre : List (Nat × Nat)} {a b : Nat} {S : Tm → Bool} {cs : List Cad} {t : Tm}
theorem CadsR.start (h : CadsIn l pre cs) (a b : Nat) : CadsR l pre a b (fun _ => false) cs := ⟨h, fun _ _ _ h => by cases h⟩
theorem CadsR.skip (h : CadsR l pre a b S cs) (hno : ∀ i k, CadAt l a i b k = true → atOf (l.getD a []) i = t → False) : CadsR l pre a b (fun z => S z || decide (z = t)) cs :=
  ⟨h.base, fun i k hc hs => by
    simp only [Bool.or_eq_true, decide_eq_true_eq] at hs
    rcases hs with hs | hs
    · exact h.here i k hc hs
    · exact (hno i k hc hs).elim⟩
theorem CadsR.add (h : CadsR l pre a b S cs) {x : Cad} (hx : CadOK l x) (hh : ∀ i k, CadAt l a i b k = true → atOf (l.getD a []) i = t → Hit l a i b k x) : CadsR l pre a b (fun z => S z || decide (z = t)) (cs ++ [x]) :=
  ⟨⟨fun y hy => by
      rcases List.mem_append.1 hy with hy | hy
      · exact h.base.sound y hy
      · rw [List.mem_singleton.1 hy]; exact hx,
    fun p hp i k hc => by
      obtain ⟨y, hy, hh⟩ := h.base.full p hp i k hc
      exact ⟨y, List.mem_append_left _ hy, hh⟩⟩,
   fun i k hc hs => by
    simp only [Bool.or_eq_true, decide_eq_true_eq] at hs
    rcases hs with hs | hs
    · obtain ⟨y, hy, h2⟩ := h.here i k hc hs
      exact ⟨y, List.mem_append_left _ hy, h2⟩
    · exact ⟨x, by simp, hh i k hc hs⟩⟩
theorem CadsR.done (h : CadsR l pre a b S cs) (hS : ∀ i k, CadAt l a i b k = true → S (atOf (l.getD a []) i) = true) : CadsIn l (pre ++ [(a, b)]) cs :=
  ⟨h.base.sound, fun p hp i k hc => by
    rcases List.mem_append.1 hp with hp | hp
    · exact h.base.full p hp i k hc
    · cases List.mem_singleton.1 hp
      exact h.here i k hc (hS i k hc)⟩
theorem CadsIn.nil_ (l : List (List Ev)) : CadsIn l [] [] := ⟨fun _ h => (by cases h), fun _ h => (by cases h)⟩
/-- All have come. -/
theorem all_pairs {n a b : Nat} (ha : a < n) (hb : b < n) (hab : a ≠ b) : (a, b) ∈ allPr n n := by
  unfold allPr rowPr
  rw [List.mem_flatMap]
  refine ⟨a, List.mem_range.2 ha, ?_⟩
  rw [List.mem_flatMap]
  exact ⟨b, List.mem_range.2 hb, by rw [if_pos hab]; simp⟩
theorem CadsIn.all_ {n : Nat} (hn : l.length = n) (h : CadsIn l (allPr n n) cs) {c i u k : Nat} (hc : CadAt l c i u k = true) : ∃ x ∈ cs, Hit l c i u k x := by
  obtain ⟨h1, h2, h3, _⟩ := cad_parts hc
  exact h.full (c, u) (all_pairs (by rw [← hn]; exact getD_lt (i := i) (by omega)) (by rw [← hn]; exact getD_lt (i := k) (by omega)) h1) i k hc
theorem end_none (hb : Val (l.getD b [])) (he : cEnd (l.getD b []) 2 t = none) : ∀ i k, CadAt l a i b k = true → atOf (l.getD a []) i = t → False := fun i k hc ht => by
  obtain ⟨_, _, h3, h4, _⟩ := cad_parts hc
  have := (cEnd_spec hb (show (2 : Int) ≠ 0 by decide) t (k : Int)).2 ⟨k, rfl, h3, by rw [← h4, ht]⟩
  rw [he] at this
  cases this
theorem end_two (ha : Val (l.getD a [])) (hb : Val (l.getD b [])) {i k : Nat} (h1 : clK (l.getD a []) i = 1) (h2 : atOf (l.getD a []) i = t) (h3 : clK (l.getD b []) k = 2) (h4 : atOf (l.getD b []) k = t) :
    ∀ i' k', CadAt l a i' b k' = true → atOf (l.getD a []) i' = t → i' = i ∧ k' = k := fun i' k' hc ht => by
  obtain ⟨_, g2, g3, g4, _⟩ := cad_parts hc
  exact ⟨atOf_inj ha (clK_ne (by omega)).2.2.2.1 (clK_ne (by omega)).2.2.2.1 (by rw [ht, h2]), atOf_inj hb (clK_ne (by omega)).2.2.2.1 (clK_ne (by omega)).2.2.2.1 (by rw [← g4, ht, h4])⟩
theorem cad_not (ha : Val (l.getD a [])) (hb : Val (l.getD b [])) {i k : Nat} (h1 : clK (l.getD a []) i = 1) (h2 : atOf (l.getD a []) i = t) (h3 : clK (l.getD b []) k = 2) (h4 : atOf (l.getD b []) k = t) (ho : octB (pitOf (l.getD a []) i) (pitOf (l.getD b []) k) = false) :
    ∀ i' k', CadAt l a i' b k' = true → atOf (l.getD a []) i' = t → False := fun i' k' hc ht => by
  obtain ⟨rfl, rfl⟩ := end_two ha hb h1 h2 h3 h4 i' k' hc ht
  have := (cad_parts hc).2.2.2.2
  rw [ho] at this
  cases this
theorem cad_is (hab : a ≠ b) {i k : Nat} (h1 : clK (l.getD a []) i = 1) (h2 : atOf (l.getD a []) i = t) (h3 : clK (l.getD b []) k = 2) (h4 : atOf (l.getD b []) k = t) (ho : octB (pitOf (l.getD a []) i) (pitOf (l.getD b []) k) = true) : CadAt l a i b k = true := by
  unfold CadAt
  rw [h1, h3, h2, h4, ho]
  simp [hab]
theorem cad_hit (ha : Val (l.getD a [])) (hb : Val (l.getD b [])) {i k : Nat} (h1 : clK (l.getD a []) i = 1) (h2 : atOf (l.getD a []) i = t) (h3 : clK (l.getD b []) k = 2) (h4 : atOf (l.getD b []) k = t) (x : Cad) (e1 : x.at_ = t) (e2 : x.c = (a : Int)) (e3 : x.kind = kindO (l.getD a []) i (l.getD b []) k) :
    ∀ i' k', CadAt l a i' b k' = true → atOf (l.getD a []) i' = t → Hit l a i' b k' x := fun i' k' hc ht => by
  obtain ⟨rfl, rfl⟩ := end_two ha hb h1 h2 h3 h4 i' k' hc ht
  exact ⟨by rw [e1, h2], e2, e3⟩
end
theorem tdiv_bd {s : Int} (h : -62 ≤ s ∧ s ≤ 62) : -62 ≤ s.tdiv 7 ∧ s.tdiv 7 ≤ 62 := by
  by_cases hp : 0 ≤ s
  · rw [Int.tdiv_eq_ediv_of_nonneg hp]; omega
  · obtain ⟨m, rfl⟩ : ∃ m, s = -m := ⟨-s, by omega⟩
    rw [Int.neg_tdiv, Int.tdiv_eq_ediv_of_nonneg (by omega)]
    omega
/-- The octave test as the program makes it. -/
theorem oct_test (s h : Int) (hs : -62 ≤ s ∧ s ≤ 62) : (decide (s % 7 = 0) && decide (h = s / 7 * 12)) = !((s.tmod 7 != 0) || (h != s.tdiv 7 * 12)) := by
  have e0 : (s.tmod 7 = 0 ↔ s % 7 = 0) ∧ (s % 7 = 0 → s.tdiv 7 = s / 7) := by
    by_cases hp : 0 ≤ s
    · rw [Int.tmod_eq_emod_of_nonneg hp, Int.tdiv_eq_ediv_of_nonneg hp]
      exact ⟨Iff.rfl, fun _ => rfl⟩
    · obtain ⟨m, rfl⟩ : ∃ m, s = -m := ⟨-s, by omega⟩
      rw [Int.neg_tmod, Int.neg_tdiv, Int.tmod_eq_emod_of_nonneg (by omega), Int.tdiv_eq_ediv_of_nonneg (by omega)]
      omega
  have e1 := e0.1
  by_cases h0 : s % 7 = 0
  · have e2 : s.tdiv 7 = s / 7 := e0.2 h0
    rw [e2]
    simp [h0, e1.2 h0]
    rw [Bool.eq_iff_iff]; simp
  · have h1 : ¬ s.tmod 7 = 0 := fun h => h0 (e1.1 h)
    simp [h0, h1]
/-- What cadence.Find hands back. -/
def FindRet (l : List (List Ev)) (w : World) (e : Ending) (w' : World) : Prop :=
  ∃ u cs, e = .returned (.tuple #[u, .int .i64 0]) ∧ w'.ownsRow w.heap.size 126 7 u cs.length (csCad cs) ∧ (∀ x ∈ cs, CadOK l x) ∧ (∀ c i t k, CadAt l c i t k = true → ∃ x ∈ cs, Hit l c i t k x) ∧ cs.length ≤ 200000 ∧ Below w.heap.size w w'
end Go.Proofs.YtpkmiegccfhpnaaGreatDoor
namespace Go.Proofs.YtpkmiegccfhpnaaGreatDoor
open Go.RowKit Go.Maps
theorem below_none {w w' : World} (h : w.grownBy w' none) : Below w.heap.size w w' := ⟨h.os, h.tape, h.output, h.size, fun i hi => h.block i hi (by simp)⟩
theorem own_other {W : World} {base size k j : Nat} {e : TypeId} {v : Value} {xs : List Value} {o : Obj} (h : W.ownsRow base e size v k xs) (hj : W.heap[j]? = some o) (hno : ∀ cur, o ≠ .cells cur e (0, 0)) : some j ≠ v.ownBlock := by
  intro heq
  rcases h.2 with ⟨rfl, _⟩ | ⟨g, cap, cur, rfl, _, hgb, _⟩
  · cases heq
  · cases heq
    rw [hgb] at hj
    cases hj
    exact hno cur rfl
theorem blk_other {W : World} {base size k j : Nat} {e t : TypeId} {v : Value} {xs : List Value} {cs : Array Value} (h : W.ownsRow base e size v k xs) (hj : Blk W j t cs) (hne : t ≠ e) : some j ≠ v.ownBlock :=
  own_other h hj (fun cur he => by cases he; exact hne rfl)
theorem rng_other {γ β : Type} {K : TypeId} {G : KeyG γ K} {T : ElemT β} {W : World} {b r n : Nat} {f : γ → Option β} {S : γ → Bool} (h : TRng W G T b r n f S) {base size k : Nat} {e : TypeId} {v : Value} {xs : List Value} (h2 : W.ownsRow base e size v k xs) : some r ≠ v.ownBlock := by
  obtain ⟨D, left, cnt, ⟨es, clock, since, seen, c0, _, _, _, _, a5, _⟩, _⟩ := h
  exact own_other h2 a5 (fun cur he => by cases he)
structure RK (w : World) (va vb : List Ev) (A : Option Addr) (n c bo p0 D bl bc r : Nat) (r1 : Loop) (S : Tm → Bool) (u : Value) (cs : List Cad) (W : World) : Prop where
  rng : TRng W keyTime elemInt bc r 2000 (cEnd va 1) S
  low : TMap W keyTime elemInt bl 2000 (cEnd vb 2)
  box : Blk W w.heap.size 22 #[.slice A n c]
  out : Blk W bo 122 #[u]
  row : W.ownsRow (D + 2) 126 7 u cs.length (csCad cs)
  pbox : Blk W p0 3 #[.int .i64 (n : Int)]
  loop : W.heap[D + 1]? = some (.loop r1)
  defr : W.heap[D]? = some (.deferred (some []))
  bel : Below w.heap.size w W
section
variable {w : World} {va vb : List Ev} {A : Option Addr} {n c bo p0 D bl bc r : Nat} {r1 : Loop} {S : Tm → Bool} {u : Value} {cs : List Cad} {W W' : World}
theorem RK.kept (h : RK w va vb A n c bo p0 D bl bc r r1 S u cs W) (hb : Below W.heap.size W W') : RK w va vb A n c bo p0 D bl bc r r1 S u cs W' where
  rng := h.rng.call hb
  low := h.low.call hb
  box := h.box.kept hb
  out := h.out.kept hb
  row := own_call h.row hb
  pbox := h.pbox.kept hb
  loop := (hb.block _ (Array.getElem?_eq_some_iff.1 h.loop).1).trans h.loop
  defr := (hb.block _ (Array.getElem?_eq_some_iff.1 h.defr).1).trans h.defr
  bel := below_call h.bel hb
theorem RK.left (h : RK w va vb A n c bo p0 D bl bc r r1 S u cs W) (hb : Below W.heap.size W W') : W'.rangeLeft bc r = W.rangeLeft bc r :=
  TRng.left_same (hb.block _ h.rng.map.lt) (hb.block _ h.rng.lt)
/-- The range's step. -/
theorem RK.next (h : RK w va vb A n c bo p0 D bl bc r r1 S u cs W) {S' : Tm → Bool} (hr : TRng W' keyTime elemInt bc r 2000 (cEnd va 1) S') (hg : W.grownBy W' (some r)) (hne : bl ≠ r) (hw : w.heap.size < r) (hbo : bo < r) (hp : p0 < r) (hD : D + 1 < r) : RK w va vb A n c bo p0 D bl bc r r1 S' u cs W' where
  rng := hr
  low := h.low.grown hg (by simp [hne])
  box := Blk.gb h.box hg (by omega)
  out := Blk.gb h.out hg (by omega)
  row := own_gb h.row hg (fun k hk e => rng_other h.rng h.row (by rw [hk, e]))
  pbox := Blk.gb h.pbox hg (by omega)
  loop := (hg.block _ (Array.getElem?_eq_some_iff.1 h.loop).1 (fun e => by cases e; omega)).trans h.loop
  defr := (hg.block _ (Array.getElem?_eq_some_iff.1 h.defr).1 (fun e => by cases e; omega)).trans h.defr
  bel := below_grown h.bel hg (by omega) h.bel.size
/-- The list has grown, and its box is set. -/
theorem RK.put (h : RK w va vb A n c bo p0 D bl bc r r1 S u cs W) (hg : W.grownBy W' u.ownBlock) {u' : Value} {cs' : List Cad} (hrow : W'.ownsRow (D + 2) 126 7 u' cs'.length (csCad cs')) (h1 : w.heap.size < bo) (h2 : bo < p0) (h3 : p0 < D) (hbl : D + 1 < bl) (hbc : D + 1 < bc) (hr : D + 1 < r) :
    RK w va vb A n c bo p0 D bl bc r r1 S u' cs' (W'.setCell ⟨bo, 0, none⟩ u') := by
  have hb : Below bo W' (W'.setCell ⟨bo, 0, none⟩ u') := (Below.refl bo W').setCell (by show bo ≤ bo; omega) _
  have hs : ∀ j, j ≠ bo → (W'.setCell ⟨bo, 0, none⟩ u').heap[j]? = W'.heap[j]? := fun j hj => Below.heap_setCell W' ⟨bo, 0, none⟩ u' j hj
  have ho : ∀ {j : Nat} {o : Obj}, W.heap[j]? = some o → some j ≠ u.ownBlock → W'.heap[j]? = some o := fun hj hne => (hg.block _ (Array.getElem?_eq_some_iff.1 hj).1 hne).trans hj
  refine ⟨?_, ?_, ?_, ?_, ?_, ?_, ?_, ?_, ?_⟩
  · have hk := h.rng.kept hg (own_ne h.rng.map h.row) (rng_other h.rng h.row)
    obtain ⟨E, left, cnt, ⟨es, clock, since, seen, c0, a1, a2, a3, a4, a5, a6⟩, h3⟩ := hk
    exact ⟨E, left, cnt, ⟨es, clock, since, seen, c0, (hs _ (by omega)).trans a1, a2, a3, a4, (hs _ (by omega)).trans a5, a6⟩, h3⟩
  · obtain ⟨E, ⟨es, clock, a1, a2⟩, h3⟩ := h.low.grown hg (own_ne h.low h.row)
    exact ⟨E, ⟨es, clock, (hs _ (by omega)).trans a1, a2⟩, h3⟩
  · exact (hs _ (by omega)).trans (ho h.box (blk_other h.row h.box (by decide)))
  · have h4 : Blk W' bo 122 #[u] := ho h.out (blk_other h.row h.out (by decide))
    exact h4.set_ 0 u'
  · exact own_set hrow (by show bo < D + 2; omega)
  · exact (hs _ (by omega)).trans (ho h.pbox (blk_other h.row h.pbox (by decide)))
  · exact (hs _ (by omega)).trans (ho h.loop (own_other h.row h.loop (fun cur he => by cases he)))
  · exact (hs _ (by omega)).trans (ho h.defr (own_other h.row h.defr (fun cur he => by cases he)))
  · refine Below.setCell ?_ (by show w.heap.size ≤ bo; omega) _
    refine ⟨hg.os.trans h.bel.os, hg.tape.trans h.bel.tape, hg.output.trans h.bel.output, Nat.le_trans h.bel.size hg.size, fun i hi => ?_⟩
    refine (hg.block i (Nat.lt_of_lt_of_le hi h.bel.size) (fun e => ?_)).trans (h.bel.block i hi)
    have := (h.row.lt i e.symm).1
    omega
theorem RK.put_left (h : RK w va vb A n c bo p0 D bl bc r r1 S u cs W) (hg : W.grownBy W' u.ownBlock) (u' : Value) (h1 : bc ≠ bo) (h2 : r ≠ bo) : (W'.setCell ⟨bo, 0, none⟩ u').rangeLeft bc r = W.rangeLeft bc r := by
  refine TRng.left_same ?_ ?_
  · exact (Below.heap_setCell W' ⟨bo, 0, none⟩ u' _ h1).trans (hg.block _ h.rng.map.lt (own_ne h.rng.map h.row))
  · exact (Below.heap_setCell W' ⟨bo, 0, none⟩ u' _ h2).trans (hg.block _ h.rng.lt (rng_other h.rng h.row))
end
end Go.Proofs.YtpkmiegccfhpnaaGreatDoor
