
/- All forbidden motions, by the reference. -/
import Derived.Test.YtigfcbofbcpiaaaDoorPaMotion
import Derived.Test.YtigfcbofbcpiaaaDoorPaFind
import Derived.Test.YtigfcbofbcpiaaaDoorAlRefSlices
namespace Go.Proofs.YtigfcbofbcpiaaaDoor
open Go.RowKit
theorem all_zero (l : List (List Ev)) (m : List Tm) : allM l m 0 = [] := by
  have h : ∀ a b, motL l m 0 a b = [] := fun a b => by
    unfold motL
    have e : motE (l.getD a []) (l.getD b []) m 0 = (0, 0) := by
      unfold motE
      rw [if_pos (.inl (by rw [mv_zero]))]
    rw [e, if_neg (by decide)]
  unfold allM rowM
  simp [h]
set_option maxRecDepth 100000 in
set_option maxHeartbeats 8000000 in
theorem rfind_any (A : Option Addr) (n c : Nat) (l : List (List Ev)) (B : Nat) (w : World) (h : ReadsV w B A n l) (hB : B ≤ w.heap.size) (hn : n ≤ 9223372036854775807) :
    Calls Tryd.prog 11 #[.slice A n c] w fun e w' => ∃ v, e = .returned (.tuple #[v, .int .i64 (findE l).2]) ∧ w'.ownsRow w.heap.size 41 5 v (findE l).1.length (csPar (findE l).1) ∧ Below w.heap.size w w' := by
  have q1 := refSlices_any A n c l B w h hB hn
  go_enter Tryd.func11, Tryd.ntmps11
  go_wp2_with fail
  refine q1.mono ?_
  rintro e w1 ⟨v1, rfl, ho1, k1⟩
  by_cases he : (slicesE l).2 = 0
  · obtain ⟨hz, hsl⟩ := slicesE_ok he
    obtain ⟨S, d, rfl, rs⟩ := ho1.reads
    have HKL := Lib.hid (show (slicesE l).1.length = (momS l).length - 1 by rw [hsl]; simp)
    rw [hsl] at rs
    simp only [List.length_map, List.length_range] at rs
    rw [HKL.out, he]
    obtain ⟨K, hK⟩ : ∃ K, K = (momS l).length - 1 := ⟨_, rfl⟩
    rw [← hK] at rs ⊢
    have stg : Stg w1 A S n K l := ⟨(h.below hB k1).more (Nat.le_trans hB k1.size), by rw [hK]; rw [hK] at rs; exact rs, hz, hK⟩
    have hbig := stg.big
    have hln := stg.len
    obtain ⟨M, hM⟩ : ∃ M, M = max K 1 := ⟨_, rfl⟩
    have E := Lib.hid (show findE l = ((List.range M).flatMap (allM l (momS l)), 0) by
      unfold findE
      rw [he, if_neg (fun h => h rfl), ← hK, hM]
      by_cases h0 : K = 0
      · subst h0; simp [all_zero]
      · rw [show max K 1 = K by omega])
    have HALL := Lib.hid (fun k => all_len l (momS l) (by rw [hln]; exact hbig.2) k)
    have HACC := Lib.hid (fun k a b (ha : a ≤ 8) (hb : b ≤ 9) => accM_len l (momS l) k a b (by rw [hln]; exact hbig.2) ha hb)
    have HLN := Lib.hid hln
    have HMK := Lib.hid hM
    have hM1 : 1 ≤ M := by omega
    have hM2 : M ≤ 32000 := by omega
    have HFIRST := Lib.hid (show (List.range 1).flatMap (allM l (momS l)) = [] by simp [all_zero])
    clear hK he hsl ho1 HKL rs hz q1 h hln hM
    obtain ⟨i0, hi0, hz0, hz1, hz2⟩ := info_parts par_info
    go_wp2_with fail
    go_loopg [6, 7, 8, 9, 10, 11] (M - 1) (fun g o i _ _ _ _ wr => ∃ (k : Nat), 1 ≤ k ∧ k + g = M ∧ i = .int .i64 (k : Int) ∧ Hid (wr.ownsRow w1.heap.size 41 5 o ((List.range k).flatMap (allM l (momS l))).length (csPar ((List.range k).flatMap (allM l (momS l))))) ∧ Below w1.heap.size w1 wr)
    case atStart => exact ⟨1, by omega, by omega, by simp, Lib.hid (by rw [HFIRST.out]; exact ⟨rfl, .inl ⟨rfl, rfl⟩⟩), Below.refl _ _⟩
    case round =>
      obtain ⟨k, hk1, hkg, rfl, hown, kr⟩ := hrel
      have wk : IntKind.i64.wrap ((k : Int) + 1) = (k : Int) + 1 := IntWalk.i64_in _ (by omega)
      cases gk with
      | zero =>
        have hkM : k = M := by omega
        have d0 : ¬ ((k : Int) < (K : Int)) := by have := HMK.out; omega
        rw [hkM] at hown
        obtain ⟨L, hL⟩ : ∃ L, L = (List.range M).flatMap (allM l (momS l)) := ⟨_, rfl⟩
        rw [← hL] at hown
        have HF := Lib.hid (show findE l = (L, 0) by rw [E.out, hL])
        clear hL hkM hkg
        go_wp2
        refine ret_of (by simp [results, Tryd.results11, go_sem, *]; repeat' (first | rfl | apply And.intro)) rfl ⟨u6, ?_, ?_, below_call k1 kr⟩
        · rw [HF.out]
        · rw [HF.out]; exact own_lower hown.out k1.size
      | succ gh =>
        have hkK : k < K := by have := HMK.out; omega
        have d0 : (k : Int) < (K : Int) := by omega
        obtain ⟨L, hL⟩ : ∃ L, L = (List.range k).flatMap (allM l (momS l)) := ⟨_, rfl⟩
        have hLl : L.length ≤ 3200000 := by rw [hL]; have := HALL.out k; omega
        have HL := Lib.hid hL
        rw [← hL] at hown
        clear hL
        go_wp2_with fail
        go_loopg [6, 8, 9, 10, 11] n (fun g2 o i _ _ _ wy => ∃ (a : Nat), a + g2 = n ∧ i = .int .i64 (a : Int) ∧ Hid (wy.ownsRow w1.heap.size 41 5 o (L ++ accM l (momS l) k a (a + 1)).length (csPar (L ++ accM l (momS l) k a (a + 1)))) ∧ Below w1.heap.size w1 wy)
        case atStart => exact ⟨0, by omega, by simp, Lib.hid (by rw [acc_zero, List.append_nil]; exact hown.out), kr⟩
        case round =>
          clear hown kr
          obtain ⟨a, hag, rfl, hown, kr⟩ := hrel
          have wa : IntKind.i64.wrap ((a : Int) + 1) = (a : Int) + 1 := IntWalk.i64_in _ (by omega)
          cases gk with
          | zero =>
            have han : a = n := by omega
            have d1 : ¬ ((a : Int) < (n : Int)) := by omega
            have HN := Lib.hid (show wr.ownsRow w1.heap.size 41 5 u6 ((List.range (k + 1)).flatMap (allM l (momS l))).length (csPar ((List.range (k + 1)).flatMap (allM l (momS l)))) by
              have e1 := acc_end l (momS l) k
              rw [HLN.out] at e1
              have := hown.out
              rw [han, e1] at this
              rw [List.range_succ, List.flatMap_append]
              simp only [List.flatMap_cons, List.flatMap_nil, List.append_nil]
              rw [← HL.out]
              exact this)
            clear han hown
            go_wp2
            go_roundg gh
            case measure => omega
            case rel => exact ⟨k + 1, by omega, by omega, by go_num, HN, kr⟩
          | succ g2 =>
            have han : a < n := by omega
            have d1 : (a : Int) < (n : Int) := by omega
            go_wp2_with fail
            go_loopg [6, 9, 10, 11] (n - (a + 1)) (fun g3 o i _ _ wz => ∃ (b : Nat), b + g3 = n ∧ a < b ∧ i = .int .i64 (b : Int) ∧ Hid (wz.ownsRow w1.heap.size 41 5 o (L ++ accM l (momS l) k a b).length (csPar (L ++ accM l (momS l) k a b))) ∧ Below w1.heap.size w1 wz)
            case atStart => exact ⟨a + 1, by omega, by omega, by simp, hown, kr⟩
            case round =>
              clear hown kr
              obtain ⟨b, hbg, hab, rfl, hown, kr⟩ := hrel
              have wb : IntKind.i64.wrap ((b : Int) + 1) = (b : Int) + 1 := IntWalk.i64_in _ (by omega)
              cases gk with
              | zero =>
                have hbn : b = n := by omega
                have d2 : ¬ ((b : Int) < (n : Int)) := by omega
                have HN := Lib.hid (show wr.ownsRow w1.heap.size 41 5 u6 (L ++ accM l (momS l) k (a + 1) (a + 1 + 1)).length (csPar (L ++ accM l (momS l) k (a + 1) (a + 1 + 1))) by
                  have e1 := acc_row l (momS l) k a
                  rw [HLN.out] at e1
                  have := hown.out
                  rw [hbn, e1] at this
                  exact this)
                clear hbn hown
                go_wp2
                go_roundg g2
                case measure => omega
                case rel => exact ⟨a + 1, by omega, by go_num, HN, kr⟩
              | succ g3 =>
                have hbn : b < n := by omega
                have d2 : (b : Int) < (n : Int) := by omega
                obtain ⟨va, hva⟩ := get_some (l := l) (k := a) (by have := HLN.out; omega)
                obtain ⟨vb, hvb⟩ := get_some (l := l) (k := b) (by have := HLN.out; omega)
                have qk := motion_ok (stg.kept kr) c d hva hvb hkK
                have HM := Lib.hid (show motL l (momS l) k a b = if 0 < (motE va vb (momS l) k).1 then [⟨k, a, b, (motE va vb (momS l) k).1, (motE va vb (momS l) k).2⟩] else [] by
                  unfold motL
                  rw [show l.getD a [] = va by simp [List.getD, hva], show l.getD b [] = vb by simp [List.getD, hvb]])
                have HNX := Lib.hid (acc_next l (momS l) k hab)
                obtain ⟨⟨kd, st⟩, hmo⟩ : ∃ z, z = motE va vb (momS l) k := ⟨_, rfl⟩
                rw [← hmo] at qk HM
                simp only at qk HM
                clear hva hvb hmo
                go_wp2_with fail
                refine qk.mono ?_
                rintro e w5 ⟨rfl, hb5⟩
                have kr5 := below_call kr hb5
                have own5 := Lib.hid (own_call hown.out hb5)
                by_cases hk0 : 0 < kd
                · have HM2 := Lib.hid (show accM l (momS l) k a (b + 1) = accM l (momS l) k a b ++ [⟨k, a, b, kd, st⟩] by rw [HNX.out, HM.out, if_pos hk0])
                  obtain ⟨Lc, hLc⟩ : ∃ X, X = L ++ accM l (momS l) k a b := ⟨_, rfl⟩
                  have hLcl : Lc.length ≤ 4000000 := by
                    rw [hLc, List.length_append]
                    have h2 := HACC.out k a b (by omega) (by omega)
                    omega
                  have HLC := Lib.hid (show L ++ accM l (momS l) k a (b + 1) = Lc ++ [⟨k, a, b, kd, st⟩] by rw [HM2.out, ← List.append_assoc, hLc])
                  rw [← hLc] at own5
                  obtain ⟨N, hN⟩ : ∃ N, N = Lc.length := ⟨_, rfl⟩
                  rw [← hN] at own5 hLcl
                  have HN := Lib.hid hN
                  have kz := kr5.size
                  clear hLc hN HM HNX hown
                  go_wp2_with (at_builtin; (refine wpList_append_any _ rfl (.tmp 51) (.tmp 58) 26 rfl w1.heap.size 41 i0 _ 5 40 Tryd.underlying26 hi0 hz0 hz1 hz2 rfl (by omega) u6 N (csPar Lc) rfl (own_call own5.out (below_alloc (Below.refl _ _) _)) (w5.heap.size + 1) (some ⟨w5.heap.size, 0, none⟩) 1 1 (csPar [⟨k, a, b, kd, st⟩]) rfl (Reads.newAt _ _ _ 1 5 _ rfl rfl) (one_csPar _) (by simp only [maxLen]; omega) (by omega) (by simp; omega) ?_); intro v4 w4 hown4 hg4 hat4)
                  have hB4 : Below w1.heap.size w1 w4 := Below.grown (B := w1.heap.size) (kr5.alloc (by omega) _) hg4 (by simp; omega) (fun x hx => (own5.out.lt x hx).1)
                  go_roundg g3
                  case measure => omega
                  case rel => exact ⟨b + 1, by omega, by omega, by go_num, Lib.hid (by rw [HLC.out, List.length_append, csPar_append, ← HN.out]; exact hown4), hB4⟩
                · have HM2 := Lib.hid (show accM l (momS l) k a (b + 1) = accM l (momS l) k a b by rw [HNX.out, HM.out, if_neg hk0, List.append_nil])
                  clear HM HNX hown
                  go_wp2
                  go_roundg g3
                  case measure => omega
                  case rel => exact ⟨b + 1, by omega, by omega, by go_num, Lib.hid (by rw [HM2.out]; exact own5.out), kr5⟩
  · have hne : ((slicesE l).2 != 0) = true := by simpa using he
    have E := Lib.hid (show findE l = ([], (slicesE l).2) by unfold findE; rw [if_pos he])
    obtain ⟨S, d, rfl, _⟩ := ho1.reads
    obtain ⟨er, her⟩ : ∃ x, x = (slicesE l).2 := ⟨_, rfl⟩
    rw [← her] at hne E ⊢
    clear he her ho1
    go_wp2
    refine ret_of (by simp [results, Tryd.results11, go_sem, *]; repeat' (first | rfl | apply And.intro)) rfl ⟨.slice none 0 0, ?_, ?_, k1⟩
    · rw [E.out]
    · rw [E.out]; exact ⟨rfl, .inl ⟨rfl, rfl⟩⟩
end Go.Proofs.YtigfcbofbcpiaaaDoor
