
/- The program's Count and Chord. -/
import Derived.Test.YtmlcnmnpkemdpaaDoorDsProg
namespace Go.Proofs.YtmlcnmnpkemdpaaDoor
open Go.RowKit
theorem countD_err {l : List (List Ev)} (h : (dissE l).2 ≠ 0) : countD l = ([], (dissE l).2) := by unfold countD; rw [if_pos h]
theorem countD_ok {l : List (List Ev)} (h : (dissE l).2 = 0) : countD l = ([cntT 1 (dissE l).1, cntT 2 (dissE l).1, cntT 3 (dissE l).1, cntT 4 (dissE l).1], 0) := by unfold countD; rw [if_neg (fun hh => hh h)]
@[reducible] def tallyT (F : List Dis) (k : Nat) : Array Value := #[.int .i64 (cntT 1 (F.take k)), .int .i64 (cntT 2 (F.take k)), .int .i64 (cntT 3 (F.take k)), .int .i64 (cntT 4 (F.take k))]
theorem made4_zero : madeCells #[Value.int .i64 0] 4 = #[.int .i64 0, .int .i64 0, .int .i64 0, .int .i64 0] := by kernel_rfl
set_option maxRecDepth 100000 in
theorem make_four (u : World) : (Instr.makeSlice 25 (.int .i64 4) (.int .i64 4)).run Tryd.prog u = .ok (.slice (some ⟨u.heap.size, 0, none⟩) 4 4) (u.alloc (.cells #[.int .i64 0, .int .i64 0, .int .i64 0, .int .i64 0] 3)) := by
  obtain ⟨j0, hj0, gz0, gz1, gz2⟩ := info_parts num_info
  have := run_makeSlice (P := Tryd.prog) u 25 3 j0 (.int .i64 0) Tryd.underlying25 hj0 gz0 .i64 .i64 4 4 (by omega) (Int.le_refl _) (by rw [gz1]; simp) (by rw [gz2]; show ((8 : Nat) : Int) * 4 ≤ _; omega) (by omega)
  rw [gz1] at this
  simp only [Value.cells] at this
  exact this.trans (by rw [show madeCells #[Value.int .i64 0] (Int.toNat 4 * 1) = #[.int .i64 0, .int .i64 0, .int .i64 0, .int .i64 0] from made4_zero]; rfl)
set_option maxRecDepth 100000 in
set_option maxHeartbeats 4000000 in
theorem count_any (A : Option Addr) (n c : Nat) (l : List (List Ev)) (w : World) (h : ReadsV w w.heap.size A n l) (hn : n ≤ 9223372036854775807) (ht : Tabs w) :
    Calls Tryd.prog 19 #[.slice A n c] w fun e w' => CntRet (countD l) w e w' := by
  have q1 := diss_any A n c l w h hn ht
  have hlen := dissE_len l
  have HK := Lib.hid (fun d (hd : d ∈ (dissE l).1) => dissE_treat hd)
  have hmk := make_four
  by_cases he : (dissE l).2 = 0
  · have E0 := countD_ok he
    obtain ⟨⟨F, er⟩, hF⟩ : ∃ F, F = dissE l := ⟨_, rfl⟩
    rw [← hF] at q1 hlen HK E0 he
    simp only at hlen HK E0 he
    subst he
    have E := Lib.hid E0
    clear h ht hF E0
    go_enter Tryd.func19, Tryd.ntmps19
    go_wp2_with fail
    refine q1.mono ?_
    rintro e w1 ⟨A1, c1, rfl, r1, k1⟩
    simp only at r1 ⊢
    obtain ⟨N, hN⟩ : ∃ N, N = F.length := ⟨_, rfl⟩
    have HN := Lib.hid hN
    rw [← hN] at r1 hlen ⊢
    clear hN
    go_wp2_with fail
    go_loopg [8, 20] N (fun gh _ x wr => ∃ k : Nat, k + gh = N ∧ x = .int .i64 (k : Int) ∧ Blk wr w1.heap.size 3 (tallyT F k) ∧ Below w1.heap.size w1 wr)
    case atStart => exact ⟨0, by omega, by simp, Blk.new _ _ _, by repeat (first | with_reducible exact Below.refl _ _ | with_reducible assumption | with_reducible refine below_drewN ?_ _ | with_reducible refine Below.drew ?_ | with_reducible refine below_alloc ?_ _ | (with_reducible refine Below.setCell ?_ ?_ _; rotate_left; ((try simp only); omega)))⟩
    case round =>
      obtain ⟨k, hkg, rfl, hbk, kr⟩ := hrel
      have wk : IntKind.i64.wrap ((k : Int) + 1) = (k : Int) + 1 := IntWalk.i64_in _ (by omega)
      have lk := hbk.lt
      cases gk with
      | zero =>
        have hk : k = N := by omega
        have d0 : ¬ ((k : Int) < (N : Int)) := by omega
        have HF := Lib.hid (show F.take k = F by rw [List.take_of_length_le]; rw [← HN.out]; omega)
        unfold tallyT at hbk
        rw [HF.out] at hbk
        have kw := below_call k1 kr
        clear hkg r1 hk
        go_wp2
        refine ret_of (by simp [results, Tryd.results19, go_sem, *]; repeat' (first | rfl | apply And.intro)) rfl ?_
        rw [E.out]
        refine ⟨some ⟨w1.heap.size, 0, none⟩, 4, rfl, ⟨rfl, fun _ => ⟨_, _, rfl, lk, fun j u hu => ?_⟩⟩, kw⟩
        rw [Nat.zero_add, hbk.cell]
        simpa [csN, cI] using hu
      | succ g =>
        have hk : k < N := by omega
        have d0 : (k : Int) < (N : Int) := by omega
        obtain ⟨x, hx⟩ := get_some (l := F) (k := k) (by have := HN.out; omega)
        obtain ⟨bb, off, hA, hbb, c0, c1', c2, c3, c4⟩ := r1.dis (Nat.le_refl _) kr hk hx
        subst hA
        have hkd := HK.out x (List.mem_of_getElem? hx)
        have T1 := Lib.hid (cntT_next 1 hx)
        have T2 := Lib.hid (cntT_next 2 hx)
        have T3 := Lib.hid (cntT_next 3 hx)
        have T4 := Lib.hid (cntT_next 4 hx)
        have b1 := cntT_bd 1 F k
        have b2 := cntT_bd 2 F k
        have b3 := cntT_bd 3 F k
        have b4 := cntT_bd 4 F k
        rw [← HN.out] at b1 b2 b3 b4
        have e0 := hbk.cell 0
        have e1 := hbk.cell 1
        have e2 := hbk.cell 2
        have e3 := hbk.cell 3
        have ef := hbk.frozen
        obtain ⟨n1, hn1⟩ : ∃ y, y = cntT 1 (F.take k) := ⟨_, rfl⟩
        obtain ⟨n2, hn2⟩ : ∃ y, y = cntT 2 (F.take k) := ⟨_, rfl⟩
        obtain ⟨n3, hn3⟩ : ∃ y, y = cntT 3 (F.take k) := ⟨_, rfl⟩
        obtain ⟨n4, hn4⟩ : ∃ y, y = cntT 4 (F.take k) := ⟨_, rfl⟩
        simp only [tallyT, ← hn1, ← hn2, ← hn3, ← hn4] at e0 e1 e2 e3 b1 b2 b3 b4 T1 T2 T3 T4 hbk
        clear hn1 hn2 hn3 hn4
        have w1' : IntKind.i64.wrap (n1 + 1) = n1 + 1 := IntWalk.i64_in _ (by omega)
        have w2' : IntKind.i64.wrap (n2 + 1) = n2 + 1 := IntWalk.i64_in _ (by omega)
        have w3' : IntKind.i64.wrap (n3 + 1) = n3 + 1 := IntWalk.i64_in _ (by omega)
        have w4' : IntKind.i64.wrap (n4 + 1) = n4 + 1 := IntWalk.i64_in _ (by omega)
        obtain ⟨x0, xa, xb, xk, xt⟩ := x
        simp only at c0 c1' c2 c3 c4 hkd T1 T2 T3 T4
        clear hx
        rcases hkd with rfl | rfl | rfl | rfl
        · go_wp2
          go_roundg g
          case measure => omega
          case rel => exact ⟨k + 1, by omega, by go_num, by have hb := hbk.set_ 0 (.int .i64 (n1 + 1)); simpa [tallyT, T1.out, T2.out, T3.out, T4.out] using hb.alloc (.cells #[.int .i64 x0, .int .i64 xa, .int .i64 xb, .int .i64 xk, .int .i64 1] 48), by repeat (first | with_reducible exact Below.refl _ _ | with_reducible assumption | with_reducible refine below_drewN ?_ _ | with_reducible refine Below.drew ?_ | with_reducible refine below_alloc ?_ _ | (with_reducible refine Below.setCell ?_ ?_ _; rotate_left; ((try simp only); omega)))⟩
        · go_wp2
          go_roundg g
          case measure => omega
          case rel => exact ⟨k + 1, by omega, by go_num, by have hb := hbk.set_ 1 (.int .i64 (n2 + 1)); simpa [tallyT, T1.out, T2.out, T3.out, T4.out] using hb.alloc (.cells #[.int .i64 x0, .int .i64 xa, .int .i64 xb, .int .i64 xk, .int .i64 2] 48), by repeat (first | with_reducible exact Below.refl _ _ | with_reducible assumption | with_reducible refine below_drewN ?_ _ | with_reducible refine Below.drew ?_ | with_reducible refine below_alloc ?_ _ | (with_reducible refine Below.setCell ?_ ?_ _; rotate_left; ((try simp only); omega)))⟩
        · go_wp2
          go_roundg g
          case measure => omega
          case rel => exact ⟨k + 1, by omega, by go_num, by have hb := hbk.set_ 2 (.int .i64 (n3 + 1)); simpa [tallyT, T1.out, T2.out, T3.out, T4.out] using hb.alloc (.cells #[.int .i64 x0, .int .i64 xa, .int .i64 xb, .int .i64 xk, .int .i64 3] 48), by repeat (first | with_reducible exact Below.refl _ _ | with_reducible assumption | with_reducible refine below_drewN ?_ _ | with_reducible refine Below.drew ?_ | with_reducible refine below_alloc ?_ _ | (with_reducible refine Below.setCell ?_ ?_ _; rotate_left; ((try simp only); omega)))⟩
        · go_wp2
          go_roundg g
          case measure => omega
          case rel => exact ⟨k + 1, by omega, by go_num, by have hb := hbk.set_ 3 (.int .i64 (n4 + 1)); simpa [tallyT, T1.out, T2.out, T3.out, T4.out] using hb.alloc (.cells #[.int .i64 x0, .int .i64 xa, .int .i64 xb, .int .i64 xk, .int .i64 4] 48), by repeat (first | with_reducible exact Below.refl _ _ | with_reducible assumption | with_reducible refine below_drewN ?_ _ | with_reducible refine Below.drew ?_ | with_reducible refine below_alloc ?_ _ | (with_reducible refine Below.setCell ?_ ?_ _; rotate_left; ((try simp only); omega)))⟩
  · have hne : ((dissE l).2 != 0) = true := by simpa using he
    have E := Lib.hid (countD_err he)
    obtain ⟨⟨F, er⟩, hF⟩ : ∃ x, x = dissE l := ⟨_, rfl⟩
    rw [← hF] at hne E q1
    simp only at hne E q1
    clear he h ht hF HK hlen
    go_enter Tryd.func19, Tryd.ntmps19
    go_wp2_with fail
    refine q1.mono ?_
    rintro e w1 ⟨A1, c1, rfl, r1, k1⟩
    simp only at r1 ⊢
    go_wp2
    refine ret_of (by simp [results, Tryd.results19, go_sem, *]; repeat' (first | rfl | apply And.intro)) rfl ?_
    rw [E.out]
    exact ⟨none, 0, rfl, Reads.none_, k1⟩
/-! ### Chord -/
def ChordERet (r : List Int × List Pit3 × Int) (w : World) (e : Ending) (w' : World) : Prop :=
  ∃ A1 c1 A2 c2, e = .returned (.tuple #[.slice A1 r.1.length c1, .slice A2 r.2.1.length c2, .int .i64 r.2.2]) ∧ Reads w' w'.heap.size 1 A1 r.1.length (csN r.1) ∧ Reads w' w'.heap.size 3 A2 r.2.1.length (csP r.2.1) ∧ Below w.heap.size w w'
theorem chordD_err {l : List (List Ev)} (n : Int) (h : (slicesE l).2 ≠ 0) : chordD l n = ([], [], (slicesE l).2) := by unfold chordD; rw [if_pos h]
theorem chordD_out {l : List (List Ev)} {n : Int} (h : (slicesE l).2 = 0) {K : Nat} (hK : K = (momS l).length - 1) (ho : n < 0 ∨ (K : Int) ≤ n) : chordD l n = ([], [], 2) := by
  subst hK; unfold chordD; rw [if_neg (fun hh => hh h), if_pos ho]
theorem chordD_in {l : List (List Ev)} {k : Nat} (h : (slicesE l).2 = 0) {K : Nat} (hK : K = (momS l).length - 1) (hk : k < K) : chordD l k = (whoI l (mAt (momS l) k) l.length, whatC l (mAt (momS l) k), 0) := by
  subst hK
  unfold chordD
  rw [if_neg (fun hh => hh h), if_neg (by omega), Int.toNat_natCast]
  rfl
set_option maxRecDepth 100000 in
set_option maxHeartbeats 2000000 in
theorem chordn_any (A : Option Addr) (n c : Nat) (l : List (List Ev)) (w : World) (h : ReadsV w w.heap.size A n l) (hn : n ≤ 9223372036854775807) (ht : Tabs w) (m : Int) :
    Calls Tryd.prog 11 #[.slice A n c, .int .i64 m] w fun e w' => ChordERet (chordD l m) w e w' := by
  by_cases he : (slicesE l).2 = 0
  · have q1 := begin_ok A n c l w h hn he ht
    by_cases h0 : m < 0
    · have HO := Lib.hid (fun K (hK : K = (momS l).length - 1) => chordD_out (n := m) he hK (.inl h0))
      clear he h
      go_enter Tryd.func11, Tryd.ntmps11
      go_wp2_with fail
      refine q1.mono ?_
      rintro e w1 ⟨g, S, Q, K, d, q, rfl, hs, k1⟩
      have E := Lib.hid (HO.out K hs.stg.many)
      clear hs
      go_wp2
      refine ret_of (by simp [results, Tryd.results11, go_sem, *]; repeat' (first | rfl | apply And.intro)) rfl ?_
      rw [E.out]
      exact ⟨none, 0, none, 0, rfl, Reads.none_, Reads.none_, k1⟩
    · obtain ⟨k, rfl⟩ : ∃ k : Nat, m = (k : Int) := ⟨m.toNat, by omega⟩
      have HO := Lib.hid (fun K (hK : K = (momS l).length - 1) (h1 : (K : Int) ≤ k) => chordD_out (n := (k : Int)) he hK (.inr h1))
      have HI := Lib.hid (fun K (hK : K = (momS l).length - 1) (h1 : k < K) => chordD_in he hK h1)
      clear he h
      go_enter Tryd.func11, Tryd.ntmps11
      go_wp2_with fail
      refine q1.mono ?_
      rintro e w1 ⟨g, S, Q, K, d, q, rfl, hs, k1⟩
      have g1 := hs.c1
      have gl := hs.lt
      by_cases hk : k < K
      · have E := Lib.hid (HI.out K hs.stg.many hk)
        have d1 : decide (K ≤ k) = false := by simp; omega
        have q2 := chord_ok hs.stg hs.lt hs.c0 hs.c1 hk
        obtain ⟨t, ht2⟩ : ∃ t, t = mAt (momS l) k := ⟨_, rfl⟩
        rw [← ht2] at q2 E
        have HW := Lib.hid (show (whoI l t l.length).length = (whoC l t).length by rw [whoI_len]; rfl)
        have HW2 := Lib.hid (what_len l t)
        clear hs HO HI ht2
        go_wp2_with fail
        refine q2.mono ?_
        rintro e w2 ⟨A1, c1, A2, c2, rfl, r1, r2, k2⟩
        go_wp2
        refine ret_of (by simp [results, Tryd.results11, go_sem, *]; repeat' (first | rfl | apply And.intro)) rfl ?_
        rw [E.out]
        exact ⟨A1, c1, A2, c2, by rw [HW.out, HW2.out], by rw [HW.out]; exact r1, by rw [HW2.out]; exact r2, below_call k1 k2⟩
      · have E := Lib.hid (HO.out K hs.stg.many (by omega))
        have d1 : decide (K ≤ k) = true := by simp; omega
        clear hs HO HI
        go_wp2
        refine ret_of (by simp [results, Tryd.results11, go_sem, *]; repeat' (first | rfl | apply And.intro)) rfl ?_
        rw [E.out]
        exact ⟨none, 0, none, 0, rfl, Reads.none_, Reads.none_, k1⟩
  · have E := Lib.hid (chordD_err m he)
    have q1 := begin_err A n c l w h hn he
    have hne : ((slicesE l).2 != 0) = true := by simpa using he
    obtain ⟨er, her⟩ : ∃ x, x = (slicesE l).2 := ⟨_, rfl⟩
    rw [← her] at q1 hne E
    clear he h her
    go_enter Tryd.func11, Tryd.ntmps11
    go_wp2_with fail
    refine q1.mono ?_
    rintro e w1 ⟨rfl, k1⟩
    go_wp2
    refine ret_of (by simp [results, Tryd.results11, go_sem, *]; repeat' (first | rfl | apply And.intro)) rfl ?_
    rw [E.out]
    exact ⟨none, 0, none, 0, rfl, Reads.none_, Reads.none_, k1⟩
end Go.Proofs.YtmlcnmnpkemdpaaDoor
