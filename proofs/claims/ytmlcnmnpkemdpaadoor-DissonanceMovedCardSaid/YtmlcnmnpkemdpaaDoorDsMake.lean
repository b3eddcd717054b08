
/- The law's setting made of numbers: three voices. -/
import Derived.Test.YtmlcnmnpkemdpaaDoorDsPlain
import Derived.Test.YtmlcnmnpkemdpaaDoorAlLight
import Derived.Test.YtmlcnmnpkemdpaaDoorVoices
import Derived.Test.YtmlcnmnpkemdpaaDoorNums
namespace Go.Proofs.YtmlcnmnpkemdpaaDoor
open Go.RowKit
def SetRet (l : List (List Ev)) (m : Nat) (w : World) (e : Ending) (w' : World) : Prop := ∃ A c, e = .returned (.slice A m c) ∧ ReadsV w' w'.heap.size A m l ∧ Below w.heap.size w w'
theorem tS_whole (n : Int) : tS n 1 = (n, 1) := by
  have e : gg n 1 = 1 := by unfold gg; simp
  unfold tS
  rw [e, if_neg (by omega)]; simp
theorem made3_at (l : List Int) {v : Nat} (h : v < 3) : (made3 l)[v]? = some (lay 1 0 (madeL l v)) := by
  match v, h with
  | 0, _ => rfl
  | 1, _ => rfl
  | 2, _ => rfl
theorem step_cell {r : Nat} (h : r < 11) {k : Int} (hk : k % 11 = (r : Int)) : (#[.int .i64 1, .int .i64 (-1), .int .i64 1, .int .i64 (-1), .int .i64 2, .int .i64 (-2), .int .i64 4, .int .i64 (-3), .int .i64 0, .int .i64 1, .int .i64 (-1)] : Array Value)[r]? = some (.int .i64 (stepT k)) := by
  unfold stepT
  rw [hk, Int.toNat_natCast]
  match r, h with
  | 0, _ => rfl
  | 1, _ => rfl
  | 2, _ => rfl
  | 3, _ => rfl
  | 4, _ => rfl
  | 5, _ => rfl
  | 6, _ => rfl
  | 7, _ => rfl
  | 8, _ => rfl
  | 9, _ => rfl
  | 10, _ => rfl
theorem step_list {r : Nat} (h : r < 11) {k : Int} (hk : k % 11 = (r : Int)) (hl : r < ([Value.int .i64 1, Value.int .i64 (-1), Value.int .i64 1, Value.int .i64 (-1), Value.int .i64 2, Value.int .i64 (-2), Value.int .i64 4, Value.int .i64 (-3), Value.int .i64 0, Value.int .i64 1, Value.int .i64 (-1)] : List Value).length) : ([Value.int .i64 1, Value.int .i64 (-1), Value.int .i64 1, Value.int .i64 (-1), Value.int .i64 2, Value.int .i64 (-2), Value.int .i64 4, Value.int .i64 (-3), Value.int .i64 0, Value.int .i64 1, Value.int .i64 (-1)] : List Value)[r]'hl = .int .i64 (stepT k) := by
  have e := step_cell h hk
  rw [show (#[.int .i64 1, .int .i64 (-1), .int .i64 1, .int .i64 (-1), .int .i64 2, .int .i64 (-2), .int .i64 4, .int .i64 (-3), .int .i64 0, .int .i64 1, .int .i64 (-1)] : Array Value)[r]? = ([Value.int .i64 1, Value.int .i64 (-1), Value.int .i64 1, Value.int .i64 (-1), Value.int .i64 2, Value.int .i64 (-2), Value.int .i64 4, Value.int .i64 (-3), Value.int .i64 0, Value.int .i64 1, Value.int .i64 (-1)] : List Value)[r]? from by simp] at e
  rw [List.getElem?_eq_getElem hl] at e
  exact Option.some.inj e
theorem step_bd (k : Int) : -3 ≤ stepT k ∧ stepT k ≤ 4 := by
  obtain ⟨r, hr⟩ : ∃ r : Nat, (k % 11) = (r : Int) := ⟨(k % 11).toNat, by omega⟩
  have h : r < 11 := by omega
  have e := step_cell h hr
  have : ∀ j : Nat, j < 11 → ∀ x : Int, (#[.int .i64 1, .int .i64 (-1), .int .i64 1, .int .i64 (-1), .int .i64 2, .int .i64 (-2), .int .i64 4, .int .i64 (-3), .int .i64 0, .int .i64 1, .int .i64 (-1)] : Array Value)[j]? = some (.int .i64 x) → -3 ≤ x ∧ x ≤ 4 := by
    intro j hj x hx
    match j, hj with
    | 0, _ => simp at hx; omega
    | 1, _ => simp at hx; omega
    | 2, _ => simp at hx; omega
    | 3, _ => simp at hx; omega
    | 4, _ => simp at hx; omega
    | 5, _ => simp at hx; omega
    | 6, _ => simp at hx; omega
    | 7, _ => simp at hx; omega
    | 8, _ => simp at hx; omega
    | 9, _ => simp at hx; omega
    | 10, _ => simp at hx; omega
  exact this r h _ e
theorem mkL_some {l : List Int} {c i : Nat} {n x : Int} (h : l[i]? = some x) : mkL l (c + 1) i n = (durK (x % 1048576), payK i (nextK n (x % 1048576)) (x % 1048576)) :: mkL l c (i + 3) (nextK n (x % 1048576)) := by
  conv => lhs; unfold mkL
  rw [h]
theorem mkL_none {l : List Int} {c i : Nat} {n : Int} (h : l.length ≤ i) : mkL l c i n = [] := by
  cases c with
  | zero => rfl
  | succ c => unfold mkL; rw [List.getElem?_eq_none h]
theorem lay1_next (L : List (Int × Pay)) (z : Int × Pay) (h : 0 ≤ sumM L) (h' : sumM L ≤ 1000) (hz : 1 ≤ z.1) (hz' : z.1 ≤ 4) : lay 1 0 (L ++ [z]) = lay 1 0 L ++ [z.2.ev (sumM L, 1) (z.1, 1)] := by
  rw [lay_append, Int.zero_add]
  show _ ++ [z.2.ev (cq 1 (sumM L)) (cq 1 z.1)] = _
  rw [cq_one h (by omega), cq_one (by omega) (by omega)]
set_option maxRecDepth 100000 in
set_option maxHeartbeats 16000000 in
theorem made32_any {A : Option Addr} {n : Nat} {l : List Int} {w : World} (h : Nums w A n l) (c : Nat) :
    Calls Tryd.prog 21 #[.slice A n c] w fun e w' => SetRet (made3 l) 3 w e w' := by
  obtain ⟨hr, hnn, hfit⟩ := h
  have HLN := Lib.hid (show l.length = n from hr.len (size := 1) (l := l) (f := fun x => [Value.int .i64 x]) (fun _ => rfl) (by decide))
  have HFIT := Lib.hid hfit
  obtain ⟨i0, hi0, hz0, hz1, hz2⟩ := info_parts voice_info
  obtain ⟨j0, hj0, yz0, yz1, yz2⟩ := info_parts event_info
  have HNE : 54 ≠ 37 := by decide
  clear hfit
  go_enter Tryd.func21, Tryd.ntmps21
  go_wp2
  go_loopg [3, 4, 5, 6, 7, 8, 9, 10, 11] 3 (fun gh u i _ _ _ _ _ _ _ wr => ∃ (k : Nat) (ds : List Pl), k + gh = 3 ∧ i = .int .i64 (k : Int) ∧ wr.ownsRow w.heap.size 37 1 u k (csV ds) ∧ ds.length = k ∧ VocAt wr w.heap.size ds (made3 l) ∧ Below w.heap.size w wr)
  case atStart => exact ⟨0, [], by omega, by simp, ⟨rfl, .inl ⟨rfl, rfl⟩⟩, rfl, fun k d v hd _ => by simp at hd, Below.refl _ _⟩
  case round =>
    obtain ⟨v, ds, hkg, rfl, hrow, hdl, hvs, k0⟩ := hrel
    have wv : IntKind.i64.wrap ((v : Int) + 1) = (v : Int) + 1 := IntWalk.i64_in _ (by omega)
    cases gk with
    | zero =>
      have hv3 : v = 3 := by omega
      subst hv3
      obtain ⟨A9, c9, rfl, r9, _, _⟩ := own_reads hrow
      have HF := Lib.hid (show ReadsV wr wr.heap.size A9 3 (made3 l) from ⟨ds, by rw [hdl]; rfl, r9, fun j d v hd hv => by
        obtain ⟨h1, h2⟩ := hvs j d v hd hv
        obtain ⟨A8, c8, e8, r8, _, _⟩ := own_reads h1
        cases e8
        exact ⟨r8, h2⟩⟩)
      clear hdl hvs hkg wv
      go_wp2
      refine ret_of (by simp [results, Tryd.results21, go_sem, *]; repeat' (first | rfl | apply And.intro)) rfl ?_
      exact ⟨A9, c9, rfl, HF.out, k0⟩
    | succ gh =>
      have hv3 : v < 3 := by omega
      have dv : decide ((v : Int) < 3) = true := by simp; omega
      have w4v : IntKind.i64.wrap (4 * (v : Int)) = 4 * (v : Int) := IntWalk.i64_in _ (by omega)
      have w26 : IntKind.i64.wrap (26 + 4 * (v : Int)) = 26 + 4 * (v : Int) := IntWalk.i64_in _ (by omega)
      have HDL := Lib.hid hdl
      have HVOC := Lib.hid hvs
      have HROW := Lib.hid hrow
      obtain ⟨L, hL⟩ : ∃ L, L = madeL l v := ⟨_, rfl⟩
      have HL := Lib.hid hL
      have HL0 := Lib.hid (show L = [] ++ mkL l (10 - 0) (v + 3 * 0) (26 + 4 * (v : Int)) by rw [hL]; rfl)
      have HGOOD := Lib.hid (show ∀ z ∈ L, goodK z by rw [hL]; exact madeL_good l v)
      have HLEN := Lib.hid (show L.length ≤ 10 by rw [hL]; exact madeL_len l v)
      clear hdl hvs hrow hL
      obtain ⟨wb, hwb⟩ : ∃ z, z = wr := ⟨_, rfl⟩
      subst hwb
      go_wp2_with fail
      go_loopg [5, 6, 7, 8, 9, 10, 11] 10 (fun g2 p o s x _ _ _ wy => ∃ (j : Nat) (pre : List (Int × Pay)) (nn : Int), j + g2 = 10 ∧ pre.length = j ∧ p = .int .i64 nn ∧ 20 ≤ nn ∧ nn ≤ 44 ∧ Hid (L = pre ++ mkL l (10 - j) (v + 3 * j) nn) ∧ s = .int .i64 (sumM pre) ∧ x = .int .i64 ((v + 3 * j : Nat) : Int) ∧ wy.ownsRow wb.heap.size 54 10 o j (csE (lay 1 0 pre)) ∧ Below wb.heap.size wb wy)
      case atStart => exact ⟨0, [], _, by omega, rfl, rfl, by omega, by omega, HL0, by simp [sumM], by simp, ⟨rfl, .inl ⟨rfl, rfl⟩⟩, Below.refl _ _⟩
      case round =>
        clear HL0
        obtain ⟨j, pre, nn, hjg, hpl, rfl, hn20, hn44, hmk, rfl, rfl, hown, kr⟩ := hrel
        obtain ⟨i, hi⟩ : ∃ i, i = v + 3 * j := ⟨_, rfl⟩
        rw [← hi]
        have hps := sumM_nonneg (l := pre) (good_pos fun z hz => HGOOD.out z (by rw [hmk.out]; exact List.mem_append_left _ hz))
        have hps2 := good_sum (L := pre) fun z hz => HGOOD.out z (by rw [hmk.out]; exact List.mem_append_left _ hz)
        rw [hpl] at hps2
        have hj10 : j ≤ 10 := by omega
        have wi : IntKind.i64.wrap ((i : Int) + 3) = ((v + 3 * (j + 1) : Nat) : Int) := by rw [IntWalk.i64_in _ (by omega)]; omega
        obtain ⟨A6, c6, h6, r6, _, _⟩ := own_reads hown
        subst h6
        clear r6
        by_cases hex : i < n ∧ j < 10
        · obtain ⟨hin, hj9⟩ := hex
          cases gk with
          | zero => omega
          | succ g2 =>
          obtain ⟨x, hx⟩ := get_some (l := l) (k := i) (by have := HLN.out; omega)
          have hxf := HFIT.out x (List.mem_of_getElem? hx)
          obtain ⟨b, off, hA, hb, hc⟩ := hr.elem (f := fun x => [Value.int .i64 x]) (fun _ => rfl) hin hx
          subst hA
          have kw := below_call k0 kr
          have c0 := (kw.cell (p := ⟨b, off + i, none⟩) hb).trans (by have h := hc 0 _ rfl; simpa using h)
          have lb : b < wr.heap.size := by have := kw.size; omega
          have qm := mod_any x 1048576 wr (by omega) (by omega) hxf.1 hxf.2
          obtain ⟨k, hk⟩ : ∃ k, k = x % 1048576 := ⟨_, rfl⟩
          rw [← hk] at qm
          have hk0 : 0 ≤ k ∧ k < 1048576 := by rw [hk]; exact ⟨Int.emod_nonneg _ (by omega), Int.emod_lt_of_pos _ (by omega)⟩
          have HMK := Lib.hid (show L = (pre ++ [(durK k, payK i (nextK nn k) k)]) ++ mkL l (10 - (j + 1)) (v + 3 * (j + 1)) (nextK nn k) by
            rw [hmk.out, show 10 - j = (10 - (j + 1)) + 1 by omega, mkL_some (by rw [← hi]; exact hx), ← hk, List.append_assoc, ← hi, show v + 3 * (j + 1) = i + 3 by omega]
            rfl)
          have hg := HGOOD.out (durK k, payK i (nextK nn k) k) (by rw [HMK.out]; simp)
          have HSUM := Lib.hid (show sumM (pre ++ [(durK k, payK i (nextK nn k) k)]) = sumM pre + durK k by rw [sumM_append]; simp [sumM])
          have HLAY := Lib.hid (lay1_next pre (durK k, payK i (nextK nn k) k) hps (by omega) hg.1 hg.2.1)
          obtain ⟨r, hr11⟩ : ∃ r : Nat, k % 11 = (r : Int) := ⟨(k % 11).toNat, by omega⟩
          have hr1 : r < 11 := by omega
          have hst := step_bd k
          have hT1 := step_list hr1 hr11 (by simp; omega)
          obtain ⟨st, hstk⟩ : ∃ z, z = stepT k := ⟨_, rfl⟩
          obtain ⟨lo, hlo⟩ : ∃ z, z = min 44 (nn + st) := ⟨_, rfl⟩
          obtain ⟨np, hnp⟩ : ∃ z, z = max 20 lo := ⟨_, rfl⟩
          have HNX := Lib.hid (show nextK nn k = np by unfold nextK; rw [hnp, hlo, hstk])
          rw [← hstk] at hT1 hst
          have m1 : (if nn + st < 44 then nn + st else 44) = lo := by split <;> omega
          have m2 : (if 44 < nn + st then 44 else nn + st) = lo := by split <;> omega
          have m3 : (if 20 < lo then lo else 20) = np := by split <;> omega
          have m4 : (if lo < 20 then 20 else lo) = np := by split <;> omega
          have wst : IntKind.i64.wrap (nn + st) = nn + st := IntWalk.i64_in _ (by omega)
          have t11 : k.tmod 11 = (r : Int) := by rw [Int.tmod_eq_emod_of_nonneg hk0.1, hr11]
          have q11 : k.tdiv 11 = k / 11 := Int.tdiv_eq_ediv_of_nonneg hk0.1
          have t4 : (k / 11).tmod 4 = k / 11 % 4 := Int.tmod_eq_emod_of_nonneg (by omega)
          have q44 : k.tdiv 44 = k / 44 := Int.tdiv_eq_ediv_of_nonneg hk0.1
          have t9 : (k / 44).tmod 9 = k / 44 % 9 := Int.tmod_eq_emod_of_nonneg (by omega)
          have n20 : 20 ≤ np ∧ np ≤ 44 := by omega
          have t7 : np.tmod 7 = np % 7 := Int.tmod_eq_emod_of_nonneg (by omega)
          have q7 : np.tdiv 7 = np / 7 := Int.tdiv_eq_ediv_of_nonneg (by omega)
          have wr11 : IntKind.i64.wrap (r : Int) = (r : Int) := IntWalk.i64_in _ (by omega)
          have wq11 : IntKind.i64.wrap (k / 11) = k / 11 := IntWalk.i64_in _ (by omega)
          have wt4 : IntKind.i64.wrap (k / 11 % 4) = k / 11 % 4 := IntWalk.i64_in _ (by omega)
          have w1t : IntKind.i64.wrap (1 + k / 11 % 4) = durK k := by rw [IntWalk.i64_in _ (by omega)]; rfl
          have wq44 : IntKind.i64.wrap (k / 44) = k / 44 := IntWalk.i64_in _ (by omega)
          have wt9 : IntKind.i64.wrap (k / 44 % 9) = k / 44 % 9 := IntWalk.i64_in _ (by omega)
          have wt7 : IntKind.i64.wrap (np % 7) = np % 7 := IntWalk.i64_in _ (by omega)
          have wq7 : IntKind.i64.wrap (np / 7) = np / 7 := IntWalk.i64_in _ (by omega)
          have q1 := fun W => t_any (sumM pre) 1 W (by omega) (by omega) (by omega) (by omega)
          have q2 := fun W => t_any (durK k) 1 W (by have := hg.1; simp only at this; omega) (by have := hg.2.1; simp only at this; omega) (by omega) (by omega)
          rw [tS_whole] at q1 q2
          have ws : IntKind.i64.wrap (sumM pre + durK k) = sumM pre + durK k := IntWalk.i64_in _ (by have := hg.1; have := hg.2.1; simp only at *; omega)
          have di : (i : Int) < (n : Int) := by omega
          have dj : decide ((j : Int) < 10) = true := by simp; omega
          have dr : (r : Int) < 11 := by omega
          obtain ⟨dur, hdur⟩ : ∃ z, z = durK k := ⟨_, rfl⟩
          have HDUR := Lib.hid hdur
          rw [← hdur] at w1t q2 ws HSUM HLAY
          clear hx hxf hc hmk hg hlo hnp hstk hk hi hr11 hdur
          by_cases hre : k / 44 % 9 = 0
          · have dre : (k / 44 % 9 == 0) = true := by simpa using hre
            have HP := Lib.hid (show payK i (nextK nn k) k = ⟨(0, 0, 0), true, i, 0⟩ by unfold payK; rw [if_pos hre])
            clear hre
            go_wp2_with fail
            refine qm.mono ?_
            rintro e w5 ⟨rfl, rfl⟩
            go_wp2_with fail
            refine (q1 _).mono ?_
            rintro e w7 ⟨rfl, b7⟩
            go_wp2_with fail
            refine (q2 _).mono ?_
            rintro e w8 ⟨rfl, b8⟩
            have k8 : Below wb.heap.size wb w8 := below_call (below_call (show Below wb.heap.size wb _ from by repeat (first | with_reducible exact Below.refl _ _ | with_reducible assumption | with_reducible refine below_drewN ?_ _ | with_reducible refine Below.drew ?_ | with_reducible refine below_alloc ?_ _ | (with_reducible refine Below.setCell ?_ ?_ _; rotate_left; ((try simp only); omega)))) b7) b8
            have own8 := own_call (own_call (own_call hown (show Below wr.heap.size wr _ from below_alloc (Below.refl _ _) _)) b7) b8
            have z8 := k8.size
            clear b7 b8 hT1 m1 m2 m3 m4 hown kr c0 lb qm q1 q2
            go_wp2_with (at_builtin; (refine wpList_append_any _ rfl (.tmp 67) (.tmp 69) 37 rfl wb.heap.size 54 j0 _ 10 80 Tryd.underlying37 hj0 yz0 yz1 yz2 rfl (by omega) (.slice A6 j c6) j (csE (lay 1 0 pre)) rfl (own_call own8 (by repeat (first | with_reducible exact Below.refl _ _ | with_reducible assumption | with_reducible refine below_drewN ?_ _ | with_reducible refine Below.drew ?_ | with_reducible refine below_alloc ?_ _ | (with_reducible refine Below.setCell ?_ ?_ _; rotate_left; ((try simp only); omega))))) (w8.heap.size + 1 + 1) (some ⟨w8.heap.size + 1, 0, none⟩) 1 1 (csE [⟨(sumM pre, 1), (dur, 1), (0, 0, 0), true, (i : Int), 0⟩]) rfl (Reads.newAt _ _ _ 1 10 _ (by simp) rfl) (one_csE _) (by simp only [maxLen]; omega) (by omega) (by simp; omega) ?_); intro v9 w9 hown9 hg9 hat9)
            have k9 : Below wb.heap.size wb w9 := Below.grown (B := wb.heap.size) (show Below wb.heap.size wb _ from by repeat (first | with_reducible exact Below.refl _ _ | with_reducible assumption | with_reducible refine below_drewN ?_ _ | with_reducible refine Below.drew ?_ | with_reducible refine below_alloc ?_ _ | (with_reducible refine Below.setCell ?_ ?_ _; rotate_left; ((try simp only); omega)))) hg9 (by simp; omega) (fun x hx => (own8.lt x hx).1)
            have HLAY2 := Lib.hid (show csE (lay 1 0 (pre ++ [(dur, payK i (nextK nn k) k)])) = csE (lay 1 0 pre) ++ csE [⟨(sumM pre, 1), (dur, 1), (0, 0, 0), true, (i : Int), 0⟩] by rw [HLAY.out, csE_append, HP.out]; rfl)
            go_wp2_with fail
            go_roundg g2
            case measure => omega
            case rel => exact ⟨j + 1, pre ++ [(dur, payK i (nextK nn k) k)], np, by omega, by rw [List.length_append, hpl]; rfl, rfl, n20.1, n20.2, Lib.hid (by rw [← HNX.out, HDUR.out]; exact HMK.out), by rw [HSUM.out], by go_num, by rw [HLAY2.out]; exact hown9, k9⟩
          · have dre : (k / 44 % 9 == 0) = false := by simpa using hre
            have HP := Lib.hid (show payK i (nextK nn k) k = ⟨(np % 7, np / 7, 0), false, i, 0⟩ by unfold payK; rw [if_neg hre, HNX.out])
            clear hre
            go_wp2_with fail
            refine qm.mono ?_
            rintro e w5 ⟨rfl, rfl⟩
            go_wp2_with fail
            refine (q1 _).mono ?_
            rintro e w7 ⟨rfl, b7⟩
            go_wp2_with fail
            refine (q2 _).mono ?_
            rintro e w8 ⟨rfl, b8⟩
            have k8 : Below wb.heap.size wb w8 := below_call (below_call (show Below wb.heap.size wb _ from by repeat (first | with_reducible exact Below.refl _ _ | with_reducible assumption | with_reducible refine below_drewN ?_ _ | with_reducible refine Below.drew ?_ | with_reducible refine below_alloc ?_ _ | (with_reducible refine Below.setCell ?_ ?_ _; rotate_left; ((try simp only); omega)))) b7) b8
            have own8 := own_call (own_call (own_call hown (show Below wr.heap.size wr _ from below_alloc (Below.refl _ _) _)) b7) b8
            have z8 := k8.size
            clear b7 b8 hT1 m1 m2 m3 m4 hown kr c0 lb qm q1 q2
            go_wp2_with (at_builtin; (refine wpList_append_any _ rfl (.tmp 67) (.tmp 69) 37 rfl wb.heap.size 54 j0 _ 10 80 Tryd.underlying37 hj0 yz0 yz1 yz2 rfl (by omega) (.slice A6 j c6) j (csE (lay 1 0 pre)) rfl (own_call own8 (by repeat (first | with_reducible exact Below.refl _ _ | with_reducible assumption | with_reducible refine below_drewN ?_ _ | with_reducible refine Below.drew ?_ | with_reducible refine below_alloc ?_ _ | (with_reducible refine Below.setCell ?_ ?_ _; rotate_left; ((try simp only); omega))))) (w8.heap.size + 1 + 1) (some ⟨w8.heap.size + 1, 0, none⟩) 1 1 (csE [⟨(sumM pre, 1), (dur, 1), (Int.emod np 7, Int.ediv np 7, 0), false, (i : Int), 0⟩]) rfl (Reads.newAt _ _ _ 1 10 _ (by simp) rfl) (one_csE _) (by simp only [maxLen]; omega) (by omega) (by simp; omega) ?_); intro v9 w9 hown9 hg9 hat9)
            have k9 : Below wb.heap.size wb w9 := Below.grown (B := wb.heap.size) (show Below wb.heap.size wb _ from by repeat (first | with_reducible exact Below.refl _ _ | with_reducible assumption | with_reducible refine below_drewN ?_ _ | with_reducible refine Below.drew ?_ | with_reducible refine below_alloc ?_ _ | (with_reducible refine Below.setCell ?_ ?_ _; rotate_left; ((try simp only); omega)))) hg9 (by simp; omega) (fun x hx => (own8.lt x hx).1)
            have HLAY2 := Lib.hid (show csE (lay 1 0 (pre ++ [(dur, payK i (nextK nn k) k)])) = csE (lay 1 0 pre) ++ csE [⟨(sumM pre, 1), (dur, 1), (Int.emod np 7, Int.ediv np 7, 0), false, (i : Int), 0⟩] by rw [HLAY.out, csE_append, HP.out]; rfl)
            go_wp2_with fail
            go_roundg g2
            case measure => omega
            case rel => exact ⟨j + 1, pre ++ [(dur, payK i (nextK nn k) k)], np, by omega, by rw [List.length_append, hpl]; rfl, rfl, n20.1, n20.2, Lib.hid (by rw [← HNX.out, HDUR.out]; exact HMK.out), by rw [HSUM.out], by go_num, by rw [HLAY2.out]; exact hown9, k9⟩
        · have HEX := Lib.hid (show L = pre by
            rw [hmk.out]
            have : mkL l (10 - j) (v + 3 * j) nn = [] := by
              by_cases h1 : j < 10
              · exact mkL_none (by rw [HLN.out, ← hi]; have := fun h2 => hex ⟨h2, h1⟩; omega)
              · rw [show 10 - j = 0 by omega]; rfl
            rw [this, List.append_nil])
          have row2 := own_call HROW.out kr
          have vs2 := HVOC.out.kept kr
          have k2 := below_call k0 kr
          have kz := k0.size
          have kz2 := kr.size
          have HOWN := Lib.hid hown
          have HJ := Lib.hid (show j ≤ 10 from hj10)
          rcases (show ¬ i < n ∨ (i < n ∧ j = 10) by omega) with h1 | ⟨h1, h2⟩
          · have di : decide (i < n) = false := by simpa using h1
            clear hown hex hpl hmk hps hps2 wi h1 hjg hi
            go_wp2_with (at_builtin; (refine wpList_append_any _ rfl (.tmp 74) (.tmp 76) 22 rfl w.heap.size 37 i0 _ 1 24 Tryd.underlying22 hi0 hz0 hz1 hz2 rfl (by omega) u3 v (csV ds) rfl (own_call row2 (below_alloc (Below.refl _ _) _)) (wr.heap.size + 1) (some ⟨wr.heap.size, 0, none⟩) 1 1 (csV [(A6, j, c6)]) rfl (Reads.newAt _ _ _ 1 1 _ rfl rfl) (one_csV _) (by simp only [maxLen]; omega) (by omega) (by simp; omega) ?_); intro v4 w4 hown4 hg4 hat4)
            have hB4 : Below w.heap.size wr w4 := Below.grown (B := w.heap.size) (a := wr) ((below_alloc (Below.refl wr.heap.size wr) (.cells #[.slice A6 j c6] 37)).mono (by omega)) hg4 (by simp; omega) (fun x hx => (row2.lt x hx).1)
            have rowA := own_call row2 (below_alloc (Below.refl wr.heap.size wr) (.cells #[.slice A6 j c6] 37))
            have HNV := Lib.hid (show VocAt w4 w.heap.size (ds ++ [(A6, j, c6)]) (made3 l) from fun q d u hd hu => by
              rcases Nat.lt_or_ge q ds.length with hj | hj
              · rw [List.getElem?_append_left hj] at hd
                have h1 := vs2 q d u hd hu
                exact ⟨own_far (own_call h1.1 (below_alloc (Below.refl wr.heap.size wr) (.cells #[.slice A6 j c6] 37))) rowA hg4 HNE, h1.2⟩
              · have hjk : q = v := by
                  have h9 := (List.getElem?_eq_some_iff.1 hd).1
                  rw [List.length_append, HDL.out] at h9
                  rw [HDL.out] at hj
                  have h10 : q < v + 1 := h9
                  omega
                subst hjk
                rw [List.getElem?_append_right (by rw [HDL.out]; exact Nat.le_refl _), HDL.out] at hd
                simp at hd
                subst hd
                rw [made3_at l hv3, ← HL.out, HEX.out] at hu
                cases hu
                exact ⟨own_far (own_call (own_lower HOWN.out kz) (below_alloc (Below.refl wr.heap.size wr) (.cells #[.slice A6 j c6] 37))) rowA hg4 HNE, by have := HJ.out; show j ≤ _; omega⟩)
            go_roundg gh
            case measure => omega
            case rel => exact ⟨v + 1, ds ++ [(A6, j, c6)], by omega, by go_num, by rw [csV_append]; exact hown4, by rw [List.length_append, HDL.out]; rfl, HNV.out, k2.trans hB4⟩
          · have di : decide (i < n) = true := by simpa using h1
            subst h2
            clear hown hex hmk hps hps2 wi h1 hjg hi
            go_wp2_with (at_builtin; (refine wpList_append_any _ rfl (.tmp 74) (.tmp 76) 22 rfl w.heap.size 37 i0 _ 1 24 Tryd.underlying22 hi0 hz0 hz1 hz2 rfl (by omega) u3 v (csV ds) rfl (own_call row2 (below_alloc (Below.refl _ _) _)) (wr.heap.size + 1) (some ⟨wr.heap.size, 0, none⟩) 1 1 (csV [(A6, 10, c6)]) rfl (Reads.newAt _ _ _ 1 1 _ rfl rfl) (one_csV _) (by simp only [maxLen]; omega) (by omega) (by simp; omega) ?_); intro v4 w4 hown4 hg4 hat4)
            have hB4 : Below w.heap.size wr w4 := Below.grown (B := w.heap.size) (a := wr) ((below_alloc (Below.refl wr.heap.size wr) (.cells #[.slice A6 10 c6] 37)).mono (by omega)) hg4 (by simp; omega) (fun x hx => (row2.lt x hx).1)
            have rowA := own_call row2 (below_alloc (Below.refl wr.heap.size wr) (.cells #[.slice A6 10 c6] 37))
            have HNV := Lib.hid (show VocAt w4 w.heap.size (ds ++ [(A6, 10, c6)]) (made3 l) from fun q d u hd hu => by
              rcases Nat.lt_or_ge q ds.length with hj | hj
              · rw [List.getElem?_append_left hj] at hd
                have h1 := vs2 q d u hd hu
                exact ⟨own_far (own_call h1.1 (below_alloc (Below.refl wr.heap.size wr) (.cells #[.slice A6 10 c6] 37))) rowA hg4 HNE, h1.2⟩
              · have hjk : q = v := by
                  have h9 := (List.getElem?_eq_some_iff.1 hd).1
                  rw [List.length_append, HDL.out] at h9
                  rw [HDL.out] at hj
                  have h10 : q < v + 1 := h9
                  omega
                subst hjk
                rw [List.getElem?_append_right (by rw [HDL.out]; exact Nat.le_refl _), HDL.out] at hd
                simp at hd
                subst hd
                rw [made3_at l hv3, ← HL.out, HEX.out] at hu
                cases hu
                exact ⟨own_far (own_call (own_lower HOWN.out kz) (below_alloc (Below.refl wr.heap.size wr) (.cells #[.slice A6 10 c6] 37))) rowA hg4 HNE, by have := HJ.out; show 10 ≤ _; omega⟩)
            go_roundg gh
            case measure => omega
            case rel => exact ⟨v + 1, ds ++ [(A6, 10, c6)], by omega, by go_num, by rw [csV_append]; exact hown4, by rw [List.length_append, HDL.out]; rfl, HNV.out, k2.trans hB4⟩
end Go.Proofs.YtmlcnmnpkemdpaaDoor
