
/- The reference's All, Untreated and Count. -/
import Derived.Test.YtmlcnmnpkemdpaaGreatDoorDsTreatR
namespace Go.Proofs.YtmlcnmnpkemdpaaGreatDoor
open Go.RowKit
set_option maxRecDepth 100000 in
set_option maxHeartbeats 2000000 in
theorem rdiss_any (A : Option Addr) (n c : Nat) (l : List (List Ev)) (w : World) (h : ReadsV w w.heap.size A n l) (hn : n ≤ 9223372036854775807) :
    Calls Tryz.prog 8 #[.slice A n c] w fun e w' => DissERet (dissE l) w e w' := by
  by_cases he : (slicesE l).2 = 0
  · have E := Lib.hid (dissE_ok he)
    have q1 := rslices_ok A n c l w h hn he
    clear he h
    go_enter Tryz.func8, Tryz.ntmps8
    go_wp2_with fail
    refine q1.mono ?_
    rintro e w1 ⟨S, K, d, rfl, hs, k1⟩
    have q2 := rmade_any hs c d
    go_wp2_with fail
    refine q2.mono ?_
    rintro e w2 ⟨A2, c2, rfl, r2, k2⟩
    go_wp2
    refine ret_of (by simp [results, Tryz.results8, go_sem, *]; repeat' (first | rfl | apply And.intro)) rfl ?_
    rw [E.out]
    exact ⟨A2, c2, rfl, r2, below_call k1 k2⟩
  · have E := Lib.hid (dissE_err he)
    have q1 := rslices_err A n c l w h hn
    have hne : ((slicesE l).2 != 0) = true := by simpa using he
    obtain ⟨er, her⟩ : ∃ x, x = (slicesE l).2 := ⟨_, rfl⟩
    unfold SlErr at q1
    rw [← her] at q1 hne E
    clear he h her
    go_enter Tryz.func8, Tryz.ntmps8
    go_wp2_with fail
    refine q1.mono ?_
    rintro e w1 ⟨S, K, d, rfl, k1⟩
    go_wp2
    refine ret_of (by simp [results, Tryz.results8, go_sem, *]; repeat' (first | rfl | apply And.intro)) rfl ?_
    rw [E.out]
    exact ⟨none, 0, rfl, Reads.none_, k1⟩
set_option maxRecDepth 100000 in
set_option maxHeartbeats 4000000 in
theorem runtr_any (A : Option Addr) (n c : Nat) (l : List (List Ev)) (w : World) (h : ReadsV w w.heap.size A n l) (hn : n ≤ 9223372036854775807) :
    Calls Tryz.prog 10 #[.slice A n c] w fun e w' => DissERet (untrE l) w e w' := by
  have q1 := rdiss_any A n c l w h hn
  have hlen := dissE_len l
  obtain ⟨⟨F, er⟩, hF⟩ : ∃ F, F = dissE l := ⟨_, rfl⟩
  have E := Lib.hid (show untrE l = (F.filter (fun d => decide (d.treat = 4)), er) by unfold untrE; rw [← hF])
  rw [← hF] at q1 hlen
  simp only at hlen
  obtain ⟨i0, hi0, hz0, hz1, hz2⟩ := info_parts dis_info
  have HF0 := Lib.hid (show F = (dissE l).1 ∧ er = (dissE l).2 by rw [← hF]; exact ⟨rfl, rfl⟩)
  clear h hF
  go_enter Tryz.func10, Tryz.ntmps10
  go_wp2_with fail
  refine q1.mono ?_
  rintro e w1 ⟨A1, c1, rfl, r1, k1⟩
  simp only at r1 ⊢
  obtain ⟨N, hN⟩ : ∃ N, N = F.length := ⟨_, rfl⟩
  have HN := Lib.hid hN
  have HB := Lib.hid (fun k => dis_filter_bd (fun d : Dis => decide (d.treat = 4)) F k)
  rw [← hN] at r1 hlen ⊢
  clear hN
  by_cases her : er = 0
  rotate_left
  · have hne : (er != 0) = true := by simpa using her
    have E3 := Lib.hid (show F = [] by
      rw [HF0.out.1]
      have : (slicesE l).2 ≠ 0 := fun hz => her (by rw [HF0.out.2, dissE_ok hz])
      rw [dissE_err this])
    clear her HF0
    go_wp2
    refine ret_of (by simp [results, Tryz.results10, go_sem, *]; repeat' (first | rfl | apply And.intro)) rfl ?_
    rw [E.out, E3.out]
    exact ⟨none, 0, rfl, Reads.none_, k1⟩
  subst her
  go_wp2_with fail
  go_loopg [6, 7] N (fun gh o x wr => ∃ k : Nat, k + gh = N ∧ x = .int .i64 (k : Int) ∧ Hid (wr.ownsRow w1.heap.size 50 5 o ((F.take k).filter (fun d => decide (d.treat = 4))).length (csDis ((F.take k).filter (fun d => decide (d.treat = 4))))) ∧ Below w1.heap.size w1 wr)
  case atStart => exact ⟨0, by omega, by simp, Lib.hid ⟨rfl, .inl ⟨rfl, rfl⟩⟩, Below.refl _ _⟩
  case round =>
    obtain ⟨k, hkg, rfl, hown, kr⟩ := hrel
    have wk : IntKind.i64.wrap ((k : Int) + 1) = (k : Int) + 1 := IntWalk.i64_in _ (by omega)
    cases gk with
    | zero =>
      have hk : k = N := by omega
      have d0 : ¬ ((k : Int) < (N : Int)) := by omega
      have HF := Lib.hid (show F.take k = F by rw [List.take_of_length_le]; rw [← HN.out]; omega)
      rw [HF.out] at hown
      obtain ⟨A2, c2, rfl, r2, _, _⟩ := own_reads hown.out
      have kw := below_call k1 kr
      clear hk hkg hown r1
      go_wp2
      refine ret_of (by simp [results, Tryz.results10, go_sem, *]; repeat' (first | rfl | apply And.intro)) rfl ?_
      rw [E.out]
      exact ⟨A2, c2, rfl, r2, kw⟩
    | succ gh =>
      have hk : k < N := by omega
      have d0 : (k : Int) < (N : Int) := by omega
      obtain ⟨x, hx⟩ := get_some (l := F) (k := k) (by have := HN.out; omega)
      obtain ⟨bb, off, hA, hbb, c0, c1', c2, c3, c4⟩ := r1.dis (Nat.le_refl _) kr hk hx
      subst hA
      have HNX := Lib.hid (dis_filter (fun d : Dis => decide (d.treat = 4)) hx)
      have hb5 : ((F.take k).filter (fun d => decide (d.treat = 4))).length ≤ 2100000 := by have := HB.out k; have := HN.out; omega
      obtain ⟨o, ho⟩ : ∃ o, o = (F.take k).filter (fun d => decide (d.treat = 4)) := ⟨_, rfl⟩
      rw [← ho] at hown hb5 HNX
      obtain ⟨M, hM⟩ : ∃ M, M = o.length := ⟨_, rfl⟩
      have HM := Lib.hid hM
      rw [← hM] at hown hb5
      obtain ⟨x0, xa, xb, xk, xt⟩ := x
      simp only at c0 c1' c2 c3 c4 HNX
      have hkr := kr.size
      clear hx ho hM
      by_cases h4 : xt = 4
      · subst h4
        have HN2 := Lib.hid (show (F.take (k + 1)).filter (fun d => decide (d.treat = 4)) = o ++ [⟨x0, xa, xb, xk, 4⟩] by rw [HNX.out]; rfl)
        clear HNX
        go_wp2_with (at_builtin; (refine wpList_append_any _ rfl (.tmp 28) (.tmp 33) 26 rfl w1.heap.size 50 i0 _ 5 40 Tryz.underlying26 hi0 hz0 hz1 hz2 rfl (by omega) u6 M (csDis o) rfl (own_call hown.out (below_alloc (Below.refl _ _) _)) (wr.heap.size + 1) (some ⟨wr.heap.size, 0, none⟩) 1 1 (csDis [⟨x0, xa, xb, xk, 4⟩]) rfl (Reads.newAt _ _ _ 1 5 _ rfl rfl) (one_csDis _) (by simp only [maxLen]; omega) (by omega) (by simp; omega) ?_); intro v9 w9 hown9 hg9 hat9)
        have k9 : Below w1.heap.size w1 w9 := Below.grown (B := w1.heap.size) (kr.alloc (by omega) _) hg9 (by simp; omega) (fun x hx => (hown.out.lt x hx).1)
        go_roundg gh
        case measure => omega
        case rel => exact ⟨k + 1, by omega, by go_num, Lib.hid (by rw [HN2.out, List.length_append, List.length_singleton, ← HM.out, csDis_append]; exact hown9), k9⟩
      · have f4 : (xt == 4) = false := by simpa using h4
        have HN2 := Lib.hid (show (F.take (k + 1)).filter (fun d => decide (d.treat = 4)) = o by rw [HNX.out, if_neg (by simpa using h4), List.append_nil])
        clear HNX h4
        go_wp2_with fail
        go_roundg gh
        case measure => omega
        case rel => exact ⟨k + 1, by omega, by go_num, Lib.hid (by rw [HN2.out, ← HM.out]; exact hown.out), kr⟩
set_option maxRecDepth 100000 in
set_option maxHeartbeats 4000000 in
theorem rcount_any (A : Option Addr) (n c : Nat) (l : List (List Ev)) (w : World) (h : ReadsV w w.heap.size A n l) (hn : n ≤ 9223372036854775807) :
    Calls Tryz.prog 12 #[.slice A n c] w fun e w' => CntRet (countD l) w e w' := by
  have q1 := rdiss_any A n c l w h hn
  have hlen := dissE_len l
  have HK := Lib.hid (fun d (hd : d ∈ (dissE l).1) => dissE_treat hd)
  have hmk := make_four
  by_cases he : (dissE l).2 = 0
  · have E0 := countD_ok he
    obtain ⟨⟨F, er⟩, hF⟩ : ∃ F, F = dissE l := ⟨_, rfl⟩
    rw [← hF] at q1 hlen HK E0 he
    simp only at hlen HK E0 he
    subst he
    have E := Lib.hid E0
    clear h hF E0
    go_enter Tryz.func12, Tryz.ntmps12
    go_wp2_with fail
    refine q1.mono ?_
    rintro e w1 ⟨A1, c1, rfl, r1, k1⟩
    simp only at r1 ⊢
    obtain ⟨N, hN⟩ : ∃ N, N = F.length := ⟨_, rfl⟩
    have HN := Lib.hid hN
    rw [← hN] at r1 hlen ⊢
    clear hN
    go_wp2_with fail
    go_loopg [7] N (fun gh x wr => ∃ k : Nat, k + gh = N ∧ x = .int .i64 (k : Int) ∧ Blk wr w1.heap.size 3 (tallyT F k) ∧ Below w1.heap.size w1 wr)
    case atStart => exact ⟨0, by omega, by simp, Blk.new _ _ _, by repeat (first | with_reducible exact Below.refl _ _ | with_reducible assumption | with_reducible refine below_drewN ?_ _ | with_reducible refine Below.drew ?_ | with_reducible refine below_alloc ?_ _ | (with_reducible refine Below.setCell ?_ ?_ _; rotate_left; ((try simp only); omega)))⟩
    case round =>
      obtain ⟨k, hkg, rfl, hbk, kr⟩ := hrel
      have wk : IntKind.i64.wrap ((k : Int) + 1) = (k : Int) + 1 := IntWalk.i64_in _ (by omega)
      have lk := hbk.lt
      cases gk with
      | zero =>
        have hk : k = N := by omega
        have d0 : ¬ ((k : Int) < (N : Int)) := by omega
        have HF := Lib.hid (show F.take k = F by rw [List.take_of_length_le]; rw [← HN.out]; omega)
        unfold tallyT at hbk
        rw [HF.out] at hbk
        have kw := below_call k1 kr
        clear hkg r1 hk
        go_wp2
        refine ret_of (by simp [results, Tryz.results12, go_sem, *]; repeat' (first | rfl | apply And.intro)) rfl ?_
        rw [E.out]
        refine ⟨some ⟨w1.heap.size, 0, none⟩, 4, rfl, ⟨rfl, fun _ => ⟨_, _, rfl, lk, fun j u hu => ?_⟩⟩, kw⟩
        rw [Nat.zero_add, hbk.cell]
        simpa [csN, cI] using hu
      | succ g =>
        have hk : k < N := by omega
        have d0 : (k : Int) < (N : Int) := by omega
        obtain ⟨x, hx⟩ := get_some (l := F) (k := k) (by have := HN.out; omega)
        obtain ⟨bb, off, hA, hbb, c0, c1', c2, c3, c4⟩ := r1.dis (Nat.le_refl _) kr hk hx
        subst hA
        have hkd := HK.out x (List.mem_of_getElem? hx)
        have T1 := Lib.hid (cntT_next 1 hx)
        have T2 := Lib.hid (cntT_next 2 hx)
        have T3 := Lib.hid (cntT_next 3 hx)
        have T4 := Lib.hid (cntT_next 4 hx)
        have b1 := cntT_bd 1 F k
        have b2 := cntT_bd 2 F k
        have b3 := cntT_bd 3 F k
        have b4 := cntT_bd 4 F k
        rw [← HN.out] at b1 b2 b3 b4
        have e0 := hbk.cell 0
        have e1 := hbk.cell 1
        have e2 := hbk.cell 2
        have e3 := hbk.cell 3
        have ef := hbk.frozen
        obtain ⟨n1, hn1⟩ : ∃ y, y = cntT 1 (F.take k) := ⟨_, rfl⟩
        obtain ⟨n2, hn2⟩ : ∃ y, y = cntT 2 (F.take k) := ⟨_, rfl⟩
        obtain ⟨n3, hn3⟩ : ∃ y, y = cntT 3 (F.take k) := ⟨_, rfl⟩
        obtain ⟨n4, hn4⟩ : ∃ y, y = cntT 4 (F.take k) := ⟨_, rfl⟩
        simp only [tallyT, ← hn1, ← hn2, ← hn3, ← hn4] at e0 e1 e2 e3 b1 b2 b3 b4 T1 T2 T3 T4 hbk
        clear hn1 hn2 hn3 hn4
        have w1' : IntKind.i64.wrap (n1 + 1) = n1 + 1 := IntWalk.i64_in _ (by omega)
        have w2' : IntKind.i64.wrap (n2 + 1) = n2 + 1 := IntWalk.i64_in _ (by omega)
        have w3' : IntKind.i64.wrap (n3 + 1) = n3 + 1 := IntWalk.i64_in _ (by omega)
        have w4' : IntKind.i64.wrap (n4 + 1) = n4 + 1 := IntWalk.i64_in _ (by omega)
        obtain ⟨x0, xa, xb, xk, xt⟩ := x
        simp only at c0 c1' c2 c3 c4 hkd T1 T2 T3 T4
        clear hx
        rcases hkd with rfl | rfl | rfl | rfl
        · go_wp2
          go_roundg g
          case measure => omega
          case rel => exact ⟨k + 1, by omega, by go_num, by have hb := hbk.set_ 0 (.int .i64 (n1 + 1)); simpa [tallyT, T1.out, T2.out, T3.out, T4.out] using hb, by repeat (first | with_reducible exact Below.refl _ _ | with_reducible assumption | with_reducible refine below_drewN ?_ _ | with_reducible refine Below.drew ?_ | with_reducible refine below_alloc ?_ _ | (with_reducible refine Below.setCell ?_ ?_ _; rotate_left; ((try simp only); omega)))⟩
        · go_wp2
          go_roundg g
          case measure => omega
          case rel => exact ⟨k + 1, by omega, by go_num, by have hb := hbk.set_ 1 (.int .i64 (n2 + 1)); simpa [tallyT, T1.out, T2.out, T3.out, T4.out] using hb, by repeat (first | with_reducible exact Below.refl _ _ | with_reducible assumption | with_reducible refine below_drewN ?_ _ | with_reducible refine Below.drew ?_ | with_reducible refine below_alloc ?_ _ | (with_reducible refine Below.setCell ?_ ?_ _; rotate_left; ((try simp only); omega)))⟩
        · go_wp2
          go_roundg g
          case measure => omega
          case rel => exact ⟨k + 1, by omega, by go_num, by have hb := hbk.set_ 2 (.int .i64 (n3 + 1)); simpa [tallyT, T1.out, T2.out, T3.out, T4.out] using hb, by repeat (first | with_reducible exact Below.refl _ _ | with_reducible assumption | with_reducible refine below_drewN ?_ _ | with_reducible refine Below.drew ?_ | with_reducible refine below_alloc ?_ _ | (with_reducible refine Below.setCell ?_ ?_ _; rotate_left; ((try simp only); omega)))⟩
        · go_wp2
          go_roundg g
          case measure => omega
          case rel => exact ⟨k + 1, by omega, by go_num, by have hb := hbk.set_ 3 (.int .i64 (n4 + 1)); simpa [tallyT, T1.out, T2.out, T3.out, T4.out] using hb, by repeat (first | with_reducible exact Below.refl _ _ | with_reducible assumption | with_reducible refine below_drewN ?_ _ | with_reducible refine Below.drew ?_ | with_reducible refine below_alloc ?_ _ | (with_reducible refine Below.setCell ?_ ?_ _; rotate_left; ((try simp only); omega)))⟩
  · have hne : ((dissE l).2 != 0) = true := by simpa using he
    have E := Lib.hid (countD_err he)
    obtain ⟨⟨F, er⟩, hF⟩ : ∃ x, x = dissE l := ⟨_, rfl⟩
    rw [← hF] at hne E q1
    simp only at hne E q1
    clear he h hF HK hlen
    go_enter Tryz.func12, Tryz.ntmps12
    go_wp2_with fail
    refine q1.mono ?_
    rintro e w1 ⟨A1, c1, rfl, r1, k1⟩
    simp only at r1 ⊢
    go_wp2
    refine ret_of (by simp [results, Tryz.results12, go_sem, *]; repeat' (first | rfl | apply And.intro)) rfl ?_
    rw [E.out]
    exact ⟨none, 0, rfl, Reads.none_, k1⟩
end Go.Proofs.YtmlcnmnpkemdpaaGreatDoor
