/- DissonanceOrder holds: another order of the voices changes only their numbers. No condition. -/
import Derived.Test.YtmlcnmnpkemdpaaDoorTabDoor
import Derived.Test.YtmlcnmnpkemdpaaDoorDsAwake
import Derived.Test.YtmlcnmnpkemdpaaDoorDsMake
namespace Go.Proofs.YtmlcnmnpkemdpaaDoor.dissonanceOrder
open Go.RowKit Go.ChangeShapes Go.WideShapes Go.ChangeAt
set_option linter.unusedVariables false
theorem pits_of {L : List Int} : ∀ v ∈ made3 L, PitsV v := fun v hv => (made_pits L v hv).pits
/-- What the walk needs of the two lists. -/
theorem facts (L : List Int) (K : Nat) : ∃ (F G : List Dis) (C : List Int), dissE (made3 L) = (F, 0) ∧ dissE (rotL K (made3 L)) = (G, 0) ∧ countD (made3 L) = (C, 0) ∧ countD (rotL K (made3 L)) = (C, 0) ∧
    G.length = F.length ∧ F.length ≤ 2100000 ∧ C.length = 4 ∧ ∀ d ∈ G, 0 ≤ d.a ∧ d.a ≤ 2 ∧ 0 ≤ d.b ∧ d.b ≤ 2 ∧ rotD K d ∈ F := by
  have hs := made_set L
  have hl : (made3 L).length = 3 := rfl
  obtain ⟨hs2, hm⟩ := rot_mom hs hl K
  have hp := pits_of (L := L)
  have e1 := diss_set hs
  have e2 := diss_set hs2
  have e3 := count_set hs
  have e4 := count_set hs2
  rw [hm] at e2 e4
  obtain ⟨c1, c2⟩ := rot_count hl hp K (momS (made3 L))
  simp only [c2] at e4
  refine ⟨_, _, _, e1, e2, e3, e4, c1, ?_, rfl, fun d hd => ?_⟩
  · have := dissE_len (made3 L); rw [e1] at this; exact this
  · obtain ⟨n, a, b, h1, h2, h3, h4, rfl⟩ := (mem_allD _ _).1 hd
    have h3' : b < 3 := h3
    refine ⟨?_, ?_, ?_, ?_, rot_fwd hl hp K _ hd⟩
    · show (0 : Int) ≤ (a : Int); omega
    · show (a : Int) ≤ 2; omega
    · show (0 : Int) ≤ (b : Int); omega
    · show (b : Int) ≤ 2; omega
theorem readsV_three {w : World} {B g : Nat} {v1 v2 v3 : List Ev} {d1 d2 d3 : Pl} (h : Reads w B 1 (some ⟨g, 0, none⟩) 3 (csV [d1, d2, d3])) (h1 : Reads w B 10 d1.1 d1.2.1 (csE v1)) (h2 : Reads w B 10 d2.1 d2.2.1 (csE v2)) (h3 : Reads w B 10 d3.1 d3.2.1 (csE v3)) (l1 : d1.2.1 ≤ 9223372036854775807) (l2 : d2.2.1 ≤ 9223372036854775807) (l3 : d3.2.1 ≤ 9223372036854775807) : ReadsV w B (some ⟨g, 0, none⟩) 3 [v1, v2, v3] := by
  refine ⟨[d1, d2, d3], rfl, h, fun k d v hd hv => ?_⟩
  match k with
  | 0 => simp at hd hv; subst hd hv; exact ⟨h1, l1⟩
  | 1 => simp at hd hv; subst hd hv; exact ⟨h2, l2⟩
  | 2 => simp at hd hv; subst hd hv; exact ⟨h3, l3⟩
  | k + 3 => simp at hd
theorem parts5 (a b c d e a' b' c' d' e' : Int) : (a = a' ∧ b = b' ∧ c = c' ∧ d = d' ∧ e = e') ∨ a ≠ a' ∨ (a = a' ∧ b ≠ b') ∨ (a = a' ∧ b = b' ∧ c ≠ c') ∨ (a = a' ∧ b = b' ∧ c = c' ∧ d ≠ d') ∨ (a = a' ∧ b = b' ∧ c = c' ∧ d = d' ∧ e ≠ e') := by omega
theorem get3 {l : List (List Ev)} (h : l.length = 3) {k : Nat} (hk : k < 3) : ∃ v, l[k]? = some v ∧ l.getD k [] = v := by
  obtain ⟨v, hv⟩ := get_some (l := l) (k := k) (by omega)
  exact ⟨v, hv, by simp [List.getD, hv]⟩
set_option maxRecDepth 100000 in
set_option maxHeartbeats 16000000 in
theorem walk {A : Option Addr} {n : Nat} {L : List Int} {w : World} (c : Nat) (m : Int) (hm0 : -9223372036854775808 ≤ m) (hm1 : m ≤ 9223372036854775807) (h : Nums w A n L) (ht : Tabs w) :
    Calls Tryd.prog 5 #[.slice A n c, .int .i64 m] w fun e w' => e = .returned (.bool true) ∧ Below w.heap.size w w' := by
  go_enter Tryd.func5, Tryd.ntmps5
  go_wp2_with fail
  refine (known_any w ht).mono ?_
  rintro e w1 ⟨rfl, k1⟩
  replace h := h.kept k1
  go_wp2_with fail
  refine (made32_any h c).mono ?_
  rintro e w2 ⟨A2, c2, rfl, r2, b2⟩
  have k2 := below_call k1 b2
  clear h b2 k1
  go_wp2_with fail
  refine (mod_any m 3 w2 (by omega) (by omega) hm0 hm1).mono ?_
  rintro e w2' ⟨rfl, rfl⟩
  obtain ⟨K, hK⟩ : ∃ K : Nat, (K : Int) = m % 3 := ⟨(m % 3).toNat, by omega⟩
  have hK3 : K < 3 := by omega
  rw [← hK]
  clear hK hm0 hm1
  obtain ⟨F, G, C, e1, e2, e3, e4, hlen, hF2, hC4, hG⟩ := facts L K
  obtain ⟨S, hS⟩ : ∃ S, S = made3 L := ⟨_, rfl⟩
  have hS3 : S.length = 3 := by rw [hS]; rfl
  rw [← hS] at e1 e2 e3 e4 r2
  clear hS
  have q1 := fun W (hW : ReadsV W W.heap.size A2 3 S) (hT : Tabs W) => diss_any A2 3 c2 S W hW (by omega) hT
  have q3 := fun W (hW : ReadsV W W.heap.size A2 3 S) (hT : Tabs W) => count_any A2 3 c2 S W hW (by omega) hT
  have q2 := fun W A (hW : ReadsV W W.heap.size A 3 (rotL K S)) (hT : Tabs W) => diss_any A 3 3 (rotL K S) W hW (by omega) hT
  have q4 := fun W A (hW : ReadsV W W.heap.size A 3 (rotL K S)) (hT : Tabs W) => count_any A 3 3 (rotL K S) W hW (by omega) hT
  simp only [e1] at q1
  simp only [e2] at q2
  simp only [e3] at q3
  simp only [e4] at q4
  clear e1 e2 e3 e4
  obtain ⟨K1, hK1⟩ : ∃ x, x = (K + 1) % 3 := ⟨_, rfl⟩
  obtain ⟨K2, hK2⟩ : ∃ x, x = (K + 2) % 3 := ⟨_, rfl⟩
  obtain ⟨v0, g0, g0'⟩ := get3 hS3 hK3
  obtain ⟨v1, g1, g1'⟩ := get3 hS3 (show K1 < 3 by omega)
  obtain ⟨v2, g2, g2'⟩ := get3 hS3 (show K2 < 3 by omega)
  have HR := Lib.hid (show rotL K S = [v0, v1, v2] by
    unfold rotL rotV
    rw [show (0 + K) % 3 = K by omega, show (1 + K) % 3 = K1 by omega, show (2 + K) % 3 = K2 by omega, g0', g1', g2'])
  obtain ⟨b, off, A3, n3, c3, rfl, hb3, x0, y0, z0, -⟩ := r2.voice (Nat.le_refl _) (Below.refl _ _) hK3 g0
  obtain ⟨b', off', A4, n4, c4, hA, hb4, x1, y1, z1, -⟩ := r2.voice (Nat.le_refl _) (Below.refl _ _) (show K1 < 3 by omega) g1
  cases hA
  obtain ⟨b', off', A5, n5, c5, hA, hb5, x2, y2, z2, -⟩ := r2.voice (Nat.le_refl _) (Below.refl _ _) (show K2 < 3 by omega) g2
  cases hA
  clear g0 g1 g2 g0' g1' g2' hb4 hb5
  have wk1 : IntKind.i64.wrap ((K : Int) + 1) = (K : Int) + 1 := IntWalk.i64_in _ (by omega)
  have wk2 : IntKind.i64.wrap ((K : Int) + 2) = (K : Int) + 2 := IntWalk.i64_in _ (by omega)
  have m1 : ((K : Int) + 1).tmod 3 = (K1 : Int) := by rw [Int.tmod_eq_emod_of_nonneg (by omega)]; omega
  have m2 : ((K : Int) + 2).tmod 3 = (K2 : Int) := by rw [Int.tmod_eq_emod_of_nonneg (by omega)]; omega
  have w1' : IntKind.i64.wrap (K1 : Int) = (K1 : Int) := IntWalk.i64_in _ (by omega)
  have w2'' : IntKind.i64.wrap (K2 : Int) = (K2 : Int) := IntWalk.i64_in _ (by omega)
  have j1 : K1 < 3 := by omega
  have j2 : K2 < 3 := by omega
  clear hK1 hK2 hS3
  go_wp2_with fail
  go_region
  obtain ⟨w3, hw3⟩ : ∃ z, z = (w2.alloc (.cells #[.slice A3 n3 c3, .slice A4 n4 c4, .slice A5 n5 c5] 37)).drew := ⟨_, rfl⟩
  have b3 : Below w2.heap.size w2 w3 := by rw [hw3]; exact (below_alloc (Below.refl _ _) _).drew
  have R : Reads w3 w3.heap.size 1 (some ⟨w2.heap.size, 0, none⟩) 3 (csV [(A3, n3, c3), (A4, n4, c4), (A5, n5, c5)]) := by rw [hw3]; exact (Reads.newAt _ _ _ 3 1 _ rfl rfl).more (by simp [World.drew])
  rw [← hw3]
  clear hw3
  have k3 := below_call k2 b3
  have o3 : ReadsV w3 w3.heap.size (some ⟨w2.heap.size, 0, none⟩) 3 (rotL K S) := by rw [HR.out]; exact readsV_three (d1 := (A3, n3, c3)) (d2 := (A4, n4, c4)) (d3 := (A5, n5, c5)) R (rd1 y0 b3) (rd1 y1 b3) (rd1 y2 b3) z0 z1 z2
  have r3 := rdV r2 b3
  obtain ⟨ao, hao⟩ : ∃ z, z = w2.heap.size := ⟨_, rfl⟩
  rw [← hao] at o3 ⊢
  clear R x0 x1 x2 y0 y1 y2 z0 z1 z2 r2 b3 hao k2 m1 m2 w1' w2'' j1 j2 wk1 wk2 HR hb3
  have HF2 := Lib.hid hF2
  have HLEN := Lib.hid hlen
  have HC4 := Lib.hid hC4
  have HG := Lib.hid hG
  clear hG
  obtain ⟨N, hN⟩ : ∃ N, N = F.length := ⟨_, rfl⟩
  rw [← hN] at hlen hF2
  have HN := Lib.hid hN
  clear hN hF2
  go_wp2_with fail
  refine (q1 w3 r3 (ht.kept k3)).mono ?_
  rintro e w4 ⟨B1, d1, rfl, f1, b4⟩
  have k4 := below_call k3 b4
  have r4 := rdV r3 b4
  have o4 := rdV o3 b4
  clear q1 r3 o3 b4 k3
  simp only [← HN.out] at f1 ⊢
  go_wp2_with fail
  refine (q2 w4 _ o4 (ht.kept k4)).mono ?_
  rintro e w5 ⟨B2, d2, rfl, f2, b5⟩
  have k5 := below_call k4 b5
  have r5 := rdV r4 b5
  have o5 := rdV o4 b5
  replace f1 := rd1 f1 b5
  clear q2 r4 o4 b5 k4
  simp only [hlen] at f2 ⊢
  go_wp2_with fail
  refine (q3 w5 r5 (ht.kept k5)).mono ?_
  rintro e w6 ⟨B3, d3, rfl, f3, b6⟩
  have k6 := below_call k5 b6
  have o6 := rdV o5 b6
  replace f1 := rd1 f1 b6
  replace f2 := rd1 f2 b6
  clear q3 r5 o5 b6 k5
  simp only [hC4] at f3 ⊢
  go_wp2_with fail
  refine (q4 w6 _ o6 (ht.kept k6)).mono ?_
  rintro e w7 ⟨B4, d4, rfl, f4, b7⟩
  have k7 := below_call k6 b7
  replace f1 := rd1 f1 b7
  replace f2 := rd1 f2 b7
  replace f3 := rd1 f3 b7
  clear q4 o6 b7 k6
  simp only [hC4] at f4 ⊢
  clear hC4 hlen
  go_wp2_with fail
  refine (sameInts_any B3 B4 4 d3 d4 C _ _ w7 f3 (Nat.le_refl _) f4 (Nat.le_refl _) (by omega)).mono ?_
  rintro e w8 ⟨rfl, b8⟩
  have k8 := below_call k7 b8
  replace f1 := rd1 f1 b8
  replace f2 := rd1 f2 b8
  clear f3 f4 b8 k7 ht
  go_wp2_with fail
  go_loopg [17] N (fun gh i wr => ∃ k : Nat, k + gh = N ∧ i = .int .i64 (k : Int) ∧ Below w8.heap.size w8 wr)
  case atStart => exact ⟨0, by omega, by simp, Below.refl _ _⟩
  case round =>
    obtain ⟨k, hkg, rfl, kr⟩ := hrel
    have wk : IntKind.i64.wrap ((k : Int) + 1) = (k : Int) + 1 := IntWalk.i64_in _ (by have := HF2.out; have := HN.out; omega)
    cases gk with
    | zero =>
      have d0 : ¬ ((k : Int) < (N : Int)) := by omega
      clear hkg
      go_wp2
      refine ret_of (by simp [results, Tryd.results5, go_sem, *]; repeat' (first | rfl | apply And.intro)) rfl ⟨rfl, below_call k8 kr⟩
    | succ gh =>
      have hk : k < N := by omega
      have d0 : (k : Int) < (N : Int) := by omega
      obtain ⟨x, hx⟩ := get_some (l := G) (k := k) (by have := HLEN.out; have := HN.out; omega)
      obtain ⟨bb, off, hA, hbb, c0, c1, c2, c3, c4⟩ := f2.dis (Nat.le_refl _) kr hk hx
      subst hA
      obtain ⟨p0, p1, p2, p3, hmem⟩ := HG.out x (List.mem_of_getElem? hx)
      obtain ⟨j0, hj0⟩ := List.getElem?_of_mem hmem
      have hj0N : j0 < N := by have := (List.getElem?_eq_some_iff.1 hj0).1; have := HN.out; omega
      obtain ⟨x0, xa, xb, xk, xt⟩ := x
      simp only at c0 c1 c2 c3 c4 p0 p1 p2 p3
      obtain ⟨va, hva⟩ : ∃ z, z = (xa + (K : Int)) % 3 := ⟨_, rfl⟩
      obtain ⟨vb, hvb⟩ : ∃ z, z = (xb + (K : Int)) % 3 := ⟨_, rfl⟩
      have sa : IntKind.i64.wrap (xa + (K : Int)) = xa + (K : Int) := IntWalk.i64_in _ (by omega)
      have sb : IntKind.i64.wrap (xb + (K : Int)) = xb + (K : Int) := IntWalk.i64_in _ (by omega)
      have ta : (xa + (K : Int)).tmod 3 = va := by rw [Int.tmod_eq_emod_of_nonneg (by omega)]; omega
      have tb : (xb + (K : Int)).tmod 3 = vb := by rw [Int.tmod_eq_emod_of_nonneg (by omega)]; omega
      have ua : IntKind.i64.wrap va = va := IntWalk.i64_in _ (by omega)
      have ub : IntKind.i64.wrap vb = vb := IntWalk.i64_in _ (by omega)
      unfold rotD at hj0
      simp only at hj0
      rw [← hva, ← hvb] at hj0
      clear hva hvb hx hmem p0 p1 p2 p3
      obtain ⟨wb, hwb⟩ : ∃ z, z = wr := ⟨_, rfl⟩
      subst hwb
      have hzb := kr.size
      by_cases hsw : vb < va
      · rw [if_pos hsw] at hj0
        have HXJ := Lib.hid hj0
        clear hj0
        go_wp2_with fail
        go_loopg [19, 20] N (fun g2 f u wr => ∃ (j : Nat) (fb : Bool), j + g2 = N ∧ f = .bool fb ∧ u = .int .i64 (j : Int) ∧ Hid (j0 < j → fb = true) ∧ Blk wr wb.heap.size 48 #[.int .i64 x0, .int .i64 vb, .int .i64 va, .int .i64 xk, .int .i64 xt] ∧ Below wb.heap.size wb wr)
        case atStart => exact ⟨0, false, by omega, rfl, by simp, Lib.hid (fun h => absurd h (by omega)), Blk.new _ _ _, by repeat (first | with_reducible exact Below.refl _ _ | with_reducible assumption | with_reducible refine below_drewN ?_ _ | with_reducible refine Below.drew ?_ | with_reducible refine below_alloc ?_ _ | (with_reducible refine Below.setCell ?_ ?_ _; rotate_left; ((try simp only); omega)))⟩
        case round =>
          obtain ⟨j, fb, hjg, rfl, rfl, hf, hbx, kx⟩ := hrel
          have wj : IntKind.i64.wrap ((j : Int) + 1) = (j : Int) + 1 := IntWalk.i64_in _ (by have := HF2.out; have := HN.out; omega)
          have kwr := below_call kr kx
          cases gk with
          | zero =>
            have dj : ¬ ((j : Int) < (N : Int)) := by omega
            have hfb : fb = true := hf.out (by omega)
            subst hfb
            clear hjg hf
            go_wp2
            go_roundg gh
            case measure => omega
            case rel => exact ⟨k + 1, by omega, by go_num, kwr⟩
          | succ g2 =>
            clear c0 c1 c2 c3 c4 sa sb ta tb ua ub hbb hsw
            have hj : j < N := by omega
            have dj : (j : Int) < (N : Int) := by omega
            obtain ⟨y, hy⟩ := get_some (l := F) (k := j) (by have := HN.out; omega)
            obtain ⟨ba, oa, hA, hba, a0, a1, a2, a3, a4⟩ := f1.dis (Nat.le_refl _) kwr hj hy
            subst hA
            obtain ⟨y0, ya, yb, yk, yt⟩ := y
            simp only at a0 a1 a2 a3 a4
            have HY := Lib.hid hy
            have bc := hbx.cell
            have bz := hbx.lt
            clear hy
            by_cases hfb : fb = true
            · subst hfb
              go_wp2_with fail
              refine wp_region_calm (by kernel_rfl) (by kernel_rfl) ?_
              repeat (go_big_quiet_step (fail))
              refine wpQuiet_nil ?_
              intro wd gd
              go_wp2
              go_roundg g2
              case measure => omega
              case rel => exact ⟨j + 1, true, by omega, rfl, by go_num, Lib.hid (fun _ => rfl), hbx.kept gd, below_call kx gd⟩
            · have hfb2 : fb = false := by simpa using hfb
              subst hfb2
              clear hfb
              rcases parts5 y0 ya yb yk yt x0 vb va xk xt with ⟨h0, h1, h2, h3, h4⟩ | e | ⟨h0, e⟩ | ⟨h0, h1, e⟩ | ⟨h0, h1, h2, e⟩ | ⟨h0, h1, h2, h3, e⟩
              · rw [h0] at a0; rw [h1] at a1; rw [h2] at a2; rw [h3] at a3; rw [h4] at a4
                clear h0 h1 h2 h3 h4
                go_wp2_with fail
                refine wp_region_calm (by kernel_rfl) (by kernel_rfl) ?_
                repeat (go_big_quiet_step (fail))
                refine wpQuiet_nil ?_
                intro wd gd
                go_wp2
                go_roundg g2
                case measure => omega
                case rel => exact ⟨j + 1, true, by omega, rfl, by go_num, Lib.hid (fun _ => rfl), hbx.kept gd, below_call kx gd⟩
              · have f0 : (y0 == x0) = false := by simpa using e
                have HNO := Lib.hid (show j0 < j + 1 → false = true from fun h => by
                  rcases Nat.lt_or_ge j0 j with h1 | h1
                  · exact hf.out h1
                  · obtain rfl : j0 = j := by omega
                    have h2 := HY.out.symm.trans HXJ.out
                    simp only [Option.some.injEq, Dis.mk.injEq] at h2
                    exact absurd h2.1 e)
                clear e
                go_wp2_with fail
                refine wp_region_calm (by kernel_rfl) (by kernel_rfl) ?_
                repeat (go_big_quiet_step (fail))
                refine wpQuiet_nil ?_
                intro wd gd
                go_wp2
                go_roundg g2
                case measure => omega
                case rel => exact ⟨j + 1, false, by omega, rfl, by go_num, HNO, hbx.kept gd, below_call kx gd⟩
              · have f0 : (ya == vb) = false := by simpa using e
                have HNO := Lib.hid (show j0 < j + 1 → false = true from fun h => by
                  rcases Nat.lt_or_ge j0 j with h1 | h1
                  · exact hf.out h1
                  · obtain rfl : j0 = j := by omega
                    have h2 := HY.out.symm.trans HXJ.out
                    simp only [Option.some.injEq, Dis.mk.injEq] at h2
                    exact absurd h2.2.1 e)
                rw [h0] at a0
                clear h0
                clear e
                go_wp2_with fail
                refine wp_region_calm (by kernel_rfl) (by kernel_rfl) ?_
                repeat (go_big_quiet_step (fail))
                refine wpQuiet_nil ?_
                intro wd gd
                go_wp2
                go_roundg g2
                case measure => omega
                case rel => exact ⟨j + 1, false, by omega, rfl, by go_num, HNO, hbx.kept gd, below_call kx gd⟩
              · have f0 : (yb == va) = false := by simpa using e
                have HNO := Lib.hid (show j0 < j + 1 → false = true from fun h => by
                  rcases Nat.lt_or_ge j0 j with h1 | h1
                  · exact hf.out h1
                  · obtain rfl : j0 = j := by omega
                    have h2 := HY.out.symm.trans HXJ.out
                    simp only [Option.some.injEq, Dis.mk.injEq] at h2
                    exact absurd h2.2.2.1 e)
                rw [h0] at a0; rw [h1] at a1
                clear h0 h1
                clear e
                go_wp2_with fail
                refine wp_region_calm (by kernel_rfl) (by kernel_rfl) ?_
                repeat (go_big_quiet_step (fail))
                refine wpQuiet_nil ?_
                intro wd gd
                go_wp2
                go_roundg g2
                case measure => omega
                case rel => exact ⟨j + 1, false, by omega, rfl, by go_num, HNO, hbx.kept gd, below_call kx gd⟩
              · have f0 : (yk == xk) = false := by simpa using e
                have HNO := Lib.hid (show j0 < j + 1 → false = true from fun h => by
                  rcases Nat.lt_or_ge j0 j with h1 | h1
                  · exact hf.out h1
                  · obtain rfl : j0 = j := by omega
                    have h2 := HY.out.symm.trans HXJ.out
                    simp only [Option.some.injEq, Dis.mk.injEq] at h2
                    exact absurd h2.2.2.2.1 e)
                rw [h0] at a0; rw [h1] at a1; rw [h2] at a2
                clear h0 h1 h2
                clear e
                go_wp2_with fail
                refine wp_region_calm (by kernel_rfl) (by kernel_rfl) ?_
                repeat (go_big_quiet_step (fail))
                refine wpQuiet_nil ?_
                intro wd gd
                go_wp2
                go_roundg g2
                case measure => omega
                case rel => exact ⟨j + 1, false, by omega, rfl, by go_num, HNO, hbx.kept gd, below_call kx gd⟩
              · have f0 : (yt == xt) = false := by simpa using e
                have HNO := Lib.hid (show j0 < j + 1 → false = true from fun h => by
                  rcases Nat.lt_or_ge j0 j with h1 | h1
                  · exact hf.out h1
                  · obtain rfl : j0 = j := by omega
                    have h2 := HY.out.symm.trans HXJ.out
                    simp only [Option.some.injEq, Dis.mk.injEq] at h2
                    exact absurd h2.2.2.2.2 e)
                rw [h0] at a0; rw [h1] at a1; rw [h2] at a2; rw [h3] at a3
                clear h0 h1 h2 h3
                clear e
                go_wp2_with fail
                refine wp_region_calm (by kernel_rfl) (by kernel_rfl) ?_
                repeat (go_big_quiet_step (fail))
                refine wpQuiet_nil ?_
                intro wd gd
                go_wp2
                go_roundg g2
                case measure => omega
                case rel => exact ⟨j + 1, false, by omega, rfl, by go_num, HNO, hbx.kept gd, below_call kx gd⟩
      · rw [if_neg hsw] at hj0
        have HXJ := Lib.hid hj0
        clear hj0
        go_wp2_with fail
        go_loopg [19, 20] N (fun g2 f u wr => ∃ (j : Nat) (fb : Bool), j + g2 = N ∧ f = .bool fb ∧ u = .int .i64 (j : Int) ∧ Hid (j0 < j → fb = true) ∧ Blk wr wb.heap.size 48 #[.int .i64 x0, .int .i64 va, .int .i64 vb, .int .i64 xk, .int .i64 xt] ∧ Below wb.heap.size wb wr)
        case atStart => exact ⟨0, false, by omega, rfl, by simp, Lib.hid (fun h => absurd h (by omega)), Blk.new _ _ _, by repeat (first | with_reducible exact Below.refl _ _ | with_reducible assumption | with_reducible refine below_drewN ?_ _ | with_reducible refine Below.drew ?_ | with_reducible refine below_alloc ?_ _ | (with_reducible refine Below.setCell ?_ ?_ _; rotate_left; ((try simp only); omega)))⟩
        case round =>
          obtain ⟨j, fb, hjg, rfl, rfl, hf, hbx, kx⟩ := hrel
          have wj : IntKind.i64.wrap ((j : Int) + 1) = (j : Int) + 1 := IntWalk.i64_in _ (by have := HF2.out; have := HN.out; omega)
          have kwr := below_call kr kx
          cases gk with
          | zero =>
            have dj : ¬ ((j : Int) < (N : Int)) := by omega
            have hfb : fb = true := hf.out (by omega)
            subst hfb
            clear hjg hf
            go_wp2
            go_roundg gh
            case measure => omega
            case rel => exact ⟨k + 1, by omega, by go_num, kwr⟩
          | succ g2 =>
            clear c0 c1 c2 c3 c4 sa sb ta tb ua ub hbb hsw
            have hj : j < N := by omega
            have dj : (j : Int) < (N : Int) := by omega
            obtain ⟨y, hy⟩ := get_some (l := F) (k := j) (by have := HN.out; omega)
            obtain ⟨ba, oa, hA, hba, a0, a1, a2, a3, a4⟩ := f1.dis (Nat.le_refl _) kwr hj hy
            subst hA
            obtain ⟨y0, ya, yb, yk, yt⟩ := y
            simp only at a0 a1 a2 a3 a4
            have HY := Lib.hid hy
            have bc := hbx.cell
            have bz := hbx.lt
            clear hy
            by_cases hfb : fb = true
            · subst hfb
              go_wp2_with fail
              refine wp_region_calm (by kernel_rfl) (by kernel_rfl) ?_
              repeat (go_big_quiet_step (fail))
              refine wpQuiet_nil ?_
              intro wd gd
              go_wp2
              go_roundg g2
              case measure => omega
              case rel => exact ⟨j + 1, true, by omega, rfl, by go_num, Lib.hid (fun _ => rfl), hbx.kept gd, below_call kx gd⟩
            · have hfb2 : fb = false := by simpa using hfb
              subst hfb2
              clear hfb
              rcases parts5 y0 ya yb yk yt x0 va vb xk xt with ⟨h0, h1, h2, h3, h4⟩ | e | ⟨h0, e⟩ | ⟨h0, h1, e⟩ | ⟨h0, h1, h2, e⟩ | ⟨h0, h1, h2, h3, e⟩
              · rw [h0] at a0; rw [h1] at a1; rw [h2] at a2; rw [h3] at a3; rw [h4] at a4
                clear h0 h1 h2 h3 h4
                go_wp2_with fail
                refine wp_region_calm (by kernel_rfl) (by kernel_rfl) ?_
                repeat (go_big_quiet_step (fail))
                refine wpQuiet_nil ?_
                intro wd gd
                go_wp2
                go_roundg g2
                case measure => omega
                case rel => exact ⟨j + 1, true, by omega, rfl, by go_num, Lib.hid (fun _ => rfl), hbx.kept gd, below_call kx gd⟩
              · have f0 : (y0 == x0) = false := by simpa using e
                have HNO := Lib.hid (show j0 < j + 1 → false = true from fun h => by
                  rcases Nat.lt_or_ge j0 j with h1 | h1
                  · exact hf.out h1
                  · obtain rfl : j0 = j := by omega
                    have h2 := HY.out.symm.trans HXJ.out
                    simp only [Option.some.injEq, Dis.mk.injEq] at h2
                    exact absurd h2.1 e)
                clear e
                go_wp2_with fail
                refine wp_region_calm (by kernel_rfl) (by kernel_rfl) ?_
                repeat (go_big_quiet_step (fail))
                refine wpQuiet_nil ?_
                intro wd gd
                go_wp2
                go_roundg g2
                case measure => omega
                case rel => exact ⟨j + 1, false, by omega, rfl, by go_num, HNO, hbx.kept gd, below_call kx gd⟩
              · have f0 : (ya == va) = false := by simpa using e
                have HNO := Lib.hid (show j0 < j + 1 → false = true from fun h => by
                  rcases Nat.lt_or_ge j0 j with h1 | h1
                  · exact hf.out h1
                  · obtain rfl : j0 = j := by omega
                    have h2 := HY.out.symm.trans HXJ.out
                    simp only [Option.some.injEq, Dis.mk.injEq] at h2
                    exact absurd h2.2.1 e)
                rw [h0] at a0
                clear h0
                clear e
                go_wp2_with fail
                refine wp_region_calm (by kernel_rfl) (by kernel_rfl) ?_
                repeat (go_big_quiet_step (fail))
                refine wpQuiet_nil ?_
                intro wd gd
                go_wp2
                go_roundg g2
                case measure => omega
                case rel => exact ⟨j + 1, false, by omega, rfl, by go_num, HNO, hbx.kept gd, below_call kx gd⟩
              · have f0 : (yb == vb) = false := by simpa using e
                have HNO := Lib.hid (show j0 < j + 1 → false = true from fun h => by
                  rcases Nat.lt_or_ge j0 j with h1 | h1
                  · exact hf.out h1
                  · obtain rfl : j0 = j := by omega
                    have h2 := HY.out.symm.trans HXJ.out
                    simp only [Option.some.injEq, Dis.mk.injEq] at h2
                    exact absurd h2.2.2.1 e)
                rw [h0] at a0; rw [h1] at a1
                clear h0 h1
                clear e
                go_wp2_with fail
                refine wp_region_calm (by kernel_rfl) (by kernel_rfl) ?_
                repeat (go_big_quiet_step (fail))
                refine wpQuiet_nil ?_
                intro wd gd
                go_wp2
                go_roundg g2
                case measure => omega
                case rel => exact ⟨j + 1, false, by omega, rfl, by go_num, HNO, hbx.kept gd, below_call kx gd⟩
              · have f0 : (yk == xk) = false := by simpa using e
                have HNO := Lib.hid (show j0 < j + 1 → false = true from fun h => by
                  rcases Nat.lt_or_ge j0 j with h1 | h1
                  · exact hf.out h1
                  · obtain rfl : j0 = j := by omega
                    have h2 := HY.out.symm.trans HXJ.out
                    simp only [Option.some.injEq, Dis.mk.injEq] at h2
                    exact absurd h2.2.2.2.1 e)
                rw [h0] at a0; rw [h1] at a1; rw [h2] at a2
                clear h0 h1 h2
                clear e
                go_wp2_with fail
                refine wp_region_calm (by kernel_rfl) (by kernel_rfl) ?_
                repeat (go_big_quiet_step (fail))
                refine wpQuiet_nil ?_
                intro wd gd
                go_wp2
                go_roundg g2
                case measure => omega
                case rel => exact ⟨j + 1, false, by omega, rfl, by go_num, HNO, hbx.kept gd, below_call kx gd⟩
              · have f0 : (yt == xt) = false := by simpa using e
                have HNO := Lib.hid (show j0 < j + 1 → false = true from fun h => by
                  rcases Nat.lt_or_ge j0 j with h1 | h1
                  · exact hf.out h1
                  · obtain rfl : j0 = j := by omega
                    have h2 := HY.out.symm.trans HXJ.out
                    simp only [Option.some.injEq, Dis.mk.injEq] at h2
                    exact absurd h2.2.2.2.2 e)
                rw [h0] at a0; rw [h1] at a1; rw [h2] at a2; rw [h3] at a3
                clear h0 h1 h2 h3
                clear e
                go_wp2_with fail
                refine wp_region_calm (by kernel_rfl) (by kernel_rfl) ?_
                repeat (go_big_quiet_step (fail))
                refine wpQuiet_nil ?_
                intro wd gd
                go_wp2
                go_roundg g2
                case measure => omega
                case rel => exact ⟨j + 1, false, by omega, rfl, by go_num, HNO, hbx.kept gd, below_call kx gd⟩
def laids : List (String × DataW Unit) := Rows.dissonanceOrderRow.laid
theorem door_met (os : Os) (args : Array Value) : laidMetH Tryd.prog laids ((World.doorLaid Tryd.prog 80 os).forCall (fun _ _ => 0) ⟨#[], args, []⟩).memory :=
  laidMetH_of_parts3 (fuel := 8) (laidMet_of_run' 8 (by kernel_rfl) (by kernel_rfl)) (by kernel_rfl) (by kernel_rfl)
theorem tabs_of {W : World} (h : laidMetH Tryd.prog laids W) : Tabs W := by
  rw [MakeChecks.laidMetH_plain _ _ _ (by kernel_rfl)] at h
  exact tabs_of_list h (by kernel_rfl) (by kernel_rfl)
set_option maxRecDepth 100000 in
theorem lifted (os : Os) (started : os.Started) (H : Type) (enc : TypeId × Value → H) :
    ReturnsInHanded {} Tryd.checked os 5 .any (fun w args => (Rows.dissonanceOrderSpec.pre enc Tryd.prog Tryd.f5 [] false w args ∧ laidMetH Tryd.prog laids w) ∧ sizedMet enc Tryd.prog Tryd.f5 (OpenSpec.ofChange Rows.dissonanceOrderSpec) false w args) (Rows.dissonanceOrderSpec.post enc Tryd.prog Tryd.f5 false true false false) := by
  refine returnsInHanded_of_change_and (C := Tryd.checked) (X := fun w _ => laidMetH Tryd.prog laids w) (fun _ _ _ hh h => h.of_heap hh) own started (by kernel_rfl) Tryd.func5
    (ChangeSpec.witness_shaped (enc := enc) (C := Tryd.checked) (os := os) (X := fun w _ => laidMetH Tryd.prog laids w) false (World.doorLaid Tryd.prog 80 os) #[.slice none 0 0, .int .i64 0] 8 rfl (World.shaped_of_RefB (by kernel_rfl) (by kernel_rfl)) (by kernel_rfl) (by kernel_rfl) (by kernel_rfl) (door_met os _)) ?_
  intro W base args ds gs before hval0 hW _ _ hL _
  have hval : ∀ (j : Nat) t v, Tryd.f5.params[j]? = some t → args[j]? = some v → Value.okWide Tryd.prog W .any base t v := hval0
  have hW' := hW
  obtain ⟨p, q, hA0, hV, rfl, hfz, hnd⟩ := hW
  have hA : DataW.TrodAll enc Tryd.prog W 0 (fun _ => true) true Tryd.f5.params.toList args.toList ds p := hA0
  rw [Tryd.params5] at hA hval
  obtain ⟨v0, vs0, d0, ds0, p0, q0, hargs, rfl, rfl, h0, r0⟩ := trodAll_cons hA
  obtain ⟨v1, vs1, d1, ds1, p1, q1, rfl, rfl, rfl, h1, r1⟩ := trodAll_cons r0
  obtain ⟨rfl, rfl, rfl⟩ := trodAll_nil r1
  obtain rfl : args = #[v0, v1] := by cases args; simp_all
  obtain ⟨rfl, rfl⟩ := trodVars_none hV
  have k0 := h0
  have lt0 : ∀ x ∈ p0, x.block < W.heap.size := by obtain ⟨m, hm⟩ := k0; exact DataW.trod_lt m _ _ _ hm
  obtain ⟨A0, n0, c0, l0, rfl, w0⟩ := arg_ints (hval 0 25 v0 rfl rfl) h0
  have k1 := h1
  have lt1 : ∀ x ∈ p1, x.block < W.heap.size := by obtain ⟨m, hm⟩ := k1; exact DataW.trod_lt m _ _ _ hm
  obtain ⟨a1, rfl, w1⟩ := arg_int (hval 1 3 v1 rfl rfl) h1
  clear hA0 hval0
  refine (walk c0 a1 w1.1 w1.2 ⟨w0.1, w0.2.1, w0.2.2⟩ (tabs_of hL)).mono fun e W' ⟨he, bel⟩ => ?_
  subst he
  exact ⟨_, rfl, _, _, _, [], _, [], hW', trodAll_mk1 (shut_bool Tryd.underlying4 _), (trodAll_cons_mk (Below.trod laidOut (by kernel_rfl) (of_decide_eq_true (by kernel_rfl)) k0 bel lt0) (trodAll_cons_mk (Below.trod laidOut (by kernel_rfl) (of_decide_eq_true (by kernel_rfl)) k1 bel lt1) trodAll_mk0)), rfl, bel.frame _, fun h => by cases h⟩

theorem over : Rows.DissonanceOrderSaid :=
  OpenClaim.holds_of_wide 5 Tryd.f5 rfl rfl rfl rfl rfl rfl rfl ⟨rfl, rfl, rfl, rfl, rfl⟩ rfl rfl rfl rfl rfl (by kernel_rfl) Tryd.func5 (by kernel_rfl)
    (of_decide_eq_true (by kernel_rfl)) (by unfold Func.isWrapper; first | (rw [if_pos (by decide +kernel)]; kernel_rfl) | (rw [if_neg (by decide +kernel)]; exact ⟨rfl, rfl⟩))
    (fun os started H enc _ => lifted os started H enc)

/-- The card: the row, its variables tied to the program's text. -/
theorem proved : Rows.DissonanceOrderCardSaid :=
  Claim7.holds_tied_plain_at .later [] [.data, .data] true Rows.dissonanceOrderCard.stood.harness Rows.dissonanceOrderCard.stood.looks
    over (fun _ h => by cases h) (by kernel_rfl) (fun _ h => by cases h) dissonanceOrder_row_tie rfl ⟨rfl, rfl⟩ (by kernel_rfl) rfl
    (fun f fn hf hfn => by
      obtain rfl : f = 5 := Option.some.inj ((show Tryd.prog.funcNamed Tryd.f5.name = some 5 by kernel_rfl).symm.trans hf) |>.symm
      obtain rfl : fn = Tryd.f5 := (Option.some.inj (Tryd.func5.symm.trans hfn)).symm
      exact ⟨by kernel_rfl, fun j t ht => by
        rw [Tryd.params5] at ht
        have hm : t ∈ Tryd.f5.params.toList := by rw [Tryd.params5]; simpa using Array.mem_of_getElem? ht
        have hall : (Tryd.f5.params.toList.all fun u => !Tryd.prog.wantsStandIn u) = true := by kernel_rfl
        exact (show Tryd.prog.wantsStandIn t = false by simpa using List.all_eq_true.1 hall t hm)⟩)
    (by kernel_rfl)

end Go.Proofs.YtmlcnmnpkemdpaaDoor.dissonanceOrder
