/- DissonanceCounts holds: the numbers of all treatments add up, dissonances are in order, and none begins in a slice whose chord is consonant. No condition. -/
import Derived.Test.YtmlcnmnpkemdpaaDoorTabDoor
import Derived.Test.YtmlcnmnpkemdpaaDoorDsAwake
import Derived.Test.YtmlcnmnpkemdpaaDoorDsMake
namespace Go.Proofs.YtmlcnmnpkemdpaaDoor.dissonanceCounts
open Go.RowKit Go.ChangeShapes Go.WideShapes Go.ChangeAt
set_option linter.unusedVariables false
theorem pits_of {L : List Int} : ∀ v ∈ made3 L, PitsV v := fun v hv => (made_pits L v hv).pits
/-- What the walk needs of the lists. -/
theorem facts (L : List Int) : ∃ (F G : List Dis) (c1 c2 c3 c4 : Int) (N K : Nat), dissE (made3 L) = (F, 0) ∧ untrE (made3 L) = (G, 0) ∧ countD (made3 L) = ([c1, c2, c3, c4], 0) ∧ (slicesE (made3 L)).2 = 0 ∧ (slicesE (made3 L)).1.length = K ∧
    F.length = N ∧ N ≤ 2100000 ∧ K ≤ 2100000 ∧ (G.length : Int) = c4 ∧ 0 ≤ c1 ∧ 0 ≤ c2 ∧ 0 ≤ c3 ∧ 0 ≤ c4 ∧ c1 + c2 + c3 + c4 = (N : Int) ∧ F.Pairwise ltD ∧
    ∀ k : Nat, k < K → ∃ (Wh : List Int) (P : List Pit3), chordD (made3 L) k = (Wh, P, 0) ∧ P.length ≤ 8 ∧ (∀ p ∈ P, pchk p = 0) ∧ (fullC P = [] → ∀ d ∈ F, d.n ≠ (k : Int)) := by
  have hs := made_set L
  have hl : (made3 L).length = 3 := rfl
  have hp := pits_of (L := L)
  have e1 := diss_set hs
  have e3 := count_set hs
  have e5 := untr_set hs
  have e6 := setq_slices hs
  have hc := cnt_sum (made3 L) (momS (made3 L))
  have hz : (slicesE (made3 L)).2 = 0 := by rw [e6]
  refine ⟨_, _, _, _, _, _, _, (momS (made3 L)).length - 1, e1, e5, e3, hz, by rw [e6]; simp, rfl, ?_, ?_, rfl, by unfold cntT; omega, by unfold cntT; omega, by unfold cntT; omega, by unfold cntT; omega, hc, allD_sa _ _, fun k hk => ?_⟩
  · have := dissE_len (made3 L); rw [e1] at this; exact this
  · have := mom_big (slicesE_ok hz).1; omega
  · refine ⟨_, _, chordD_in hz rfl hk, ?_, what_ok hp _, fun h d hd e => ?_⟩
    · rw [what_len]; have := who_le (made3 L) (mAt (momS (made3 L)) k); omega
    · obtain ⟨n, h1, h2, h3⟩ := begins_clash hd
      obtain rfl : n = k := by omega
      exact h3 h
set_option maxRecDepth 100000 in
set_option maxHeartbeats 1000000 in
theorem has_none (A : Option Addr) (n c : Nat) (l : List Int) (x : Int) (w : World) (h : Reads w w.heap.size 1 A n (csN l)) (hn : n ≤ 9223372036854775807) (hx : ∀ y ∈ l, y ≠ x) :
    Calls Tryd.prog 32 #[.slice A n c, .int .i64 x] w fun e w' => e = .returned (.bool false) ∧ Below w.heap.size w w' := by
  have HL := Lib.hid (show l.length = n from h.len (size := 1) (l := l) (f := cI) (fun _ => rfl) (by decide))
  have HX := Lib.hid hx
  clear hx
  go_enter Tryd.func32, Tryd.ntmps32
  go_wp2
  go_loopg [5] n (fun gh i wr => ∃ k : Nat, k + gh = n ∧ i = .int .i64 k ∧ Below w.heap.size w wr)
  case atStart => exact ⟨0, by omega, rfl, Below.refl _ _⟩
  case round =>
    obtain ⟨k, hkg, rfl, k0⟩ := hrel
    cases gk with
    | zero =>
      have hk : k = n := by omega
      have d0 : ¬ ((k : Int) < (n : Int)) := by omega
      clear hk hkg
      go_wp2
      refine ret_of (by simp [results, Tryd.results32, go_sem, *]; repeat' (first | rfl | apply And.intro)) rfl ⟨rfl, k0⟩
    | succ g =>
      have hk : k < n := by omega
      have wk : IntKind.i64.wrap ((k : Int) + 1) = (k : Int) + 1 := IntWalk.i64_in _ (by omega)
      have d0 : (k : Int) < (n : Int) := by omega
      obtain ⟨y, hy⟩ := get_some (l := l) (k := k) (by have := HL.out; omega)
      have hne := HX.out y (List.mem_of_getElem? hy)
      have hne2 : (y == x) = false := by simpa using hne
      obtain ⟨b, off, rfl, hab, hc⟩ := Reads.elem (f := cI) (fun _ => rfl) (h.below (Nat.le_refl _) k0) hk hy
      have c0 := hc 0 _ rfl
      simp only [Nat.mul_one, Nat.add_zero] at c0
      clear hc hy hne
      go_wp2
      go_roundg g
      case measure => omega
      case rel => exact ⟨k + 1, by omega, by go_num, k0⟩
theorem ns_next {F : List Dis} {k : Nat} {x : Dis} (h : F[k]? = some x) : csN ((F.take (k + 1)).map (·.n)) = csN ((F.take k).map (·.n)) ++ csN [x.n] := by
  rw [← csN_append, take_get h, List.map_append]; rfl
set_option maxRecDepth 100000 in
set_option maxHeartbeats 16000000 in
theorem walk {A : Option Addr} {n : Nat} {L : List Int} {w : World} (c : Nat) (h : Nums w A n L) (ht : Tabs w) :
    Calls Tryd.prog 8 #[.slice A n c] w fun e w' => e = .returned (.bool true) ∧ Below w.heap.size w w' := by
  obtain ⟨i0, hi0, hz0, hz1, hz2⟩ := info_parts num_info
  go_enter Tryd.func8, Tryd.ntmps8
  go_wp2_with fail
  refine (known_any w ht).mono ?_
  rintro e w1 ⟨rfl, k1⟩
  replace h := h.kept k1
  go_wp2_with fail
  refine (made32_any h c).mono ?_
  rintro e w2 ⟨A2, c2, rfl, r2, b2⟩
  have k2 := below_call k1 b2
  clear h b2 k1
  obtain ⟨F, G, n1, n2, n3, n4, N, K, e1, e5, e3, e6, e7, hN, hN2, hK2, hG4, p1, p2, p3, p4, hsum, hsa, hch⟩ := facts L
  obtain ⟨S, hS⟩ : ∃ S, S = made3 L := ⟨_, rfl⟩
  rw [← hS] at e1 e3 e5 e6 e7 hch r2
  clear hS
  have q1 := fun W (hW : ReadsV W W.heap.size A2 3 S) (hT : Tabs W) => diss_any A2 3 c2 S W hW (by omega) hT
  have q3 := fun W (hW : ReadsV W W.heap.size A2 3 S) (hT : Tabs W) => count_any A2 3 c2 S W hW (by omega) hT
  have q5 := fun W (hW : ReadsV W W.heap.size A2 3 S) (hT : Tabs W) => untr_any A2 3 c2 S W hW (by omega) hT
  have q6 := fun W (hW : ReadsV W W.heap.size A2 3 S) => slices_any A2 3 c2 S _ W hW (Nat.le_refl _) (by omega)
  have q7 := fun m W (hW : ReadsV W W.heap.size A2 3 S) (hT : Tabs W) => chordn_any A2 3 c2 S W hW (by omega) hT m
  simp only [e1] at q1
  simp only [e3] at q3
  simp only [e5] at q5
  simp only [e6] at q6
  have HN := Lib.hid hN
  have HSA := Lib.hid hsa
  have HCH := Lib.hid hch
  have HG := Lib.hid hG4
  clear e1 e3 e5 e6 hsa hch hG4
  go_wp2_with fail
  refine (q1 w2 r2 (ht.kept k2)).mono ?_
  rintro e w4 ⟨B1, d1, rfl, f1, b4⟩
  have k4 := below_call k2 b4
  have r4 := rdV r2 b4
  clear q1 r2 b4 k2
  simp only [hN] at f1 ⊢
  clear hN
  go_wp2_with fail
  refine (q3 w4 r4 (ht.kept k4)).mono ?_
  rintro e w5 ⟨B2, d2, rfl, f2, b5⟩
  have k5 := below_call k4 b5
  have r5 := rdV r4 b5
  replace f1 := rd1 f1 b5
  clear q3 r4 b5 k4
  simp only [List.length_cons, List.length_nil, Nat.reduceAdd] at f2 ⊢
  go_wp2_with fail
  refine (q5 w5 r5 (ht.kept k5)).mono ?_
  rintro e w6 ⟨B3, d3, rfl, f3, b6⟩
  have k6 := below_call k5 b6
  have r6 := rdV r5 b6
  replace f1 := rd1 f1 b6
  replace f2 := rd1 f2 b6
  clear q5 r5 b6 k5 f3
  obtain ⟨U, hU⟩ : ∃ U, U = G.length := ⟨_, rfl⟩
  have HU : (U : Int) = n4 := by rw [hU]; exact HG.out
  simp only [← hU] at ⊢
  clear hU HG
  go_wp2_with fail
  refine (q6 w6 r6).mono ?_
  rintro e w7 ⟨v7, rfl, f7, b7⟩
  obtain ⟨A7, c7, rfl, -⟩ := f7.reads
  have k7 := below_call k6 b7
  have r7 := rdV r6 b7
  replace f1 := rd1 f1 b7
  replace f2 := rd1 f2 b7
  clear q6 r6 b7 k6 f7
  simp only [e7] at ⊢
  clear e7
  go_wp2_with fail
  have ht7 := ht.kept k7
  clear ht
  go_loopg [13, 14] N (fun gh u i wr => ∃ k : Nat, k + gh = N ∧ i = .int .i64 (k : Int) ∧ wr.ownsRow w7.heap.size 3 1 u k (csN ((F.take k).map (·.n))) ∧ Below w7.heap.size w7 wr)
  case atStart => exact ⟨0, by omega, by simp, ⟨rfl, .inl ⟨rfl, rfl⟩⟩, Below.refl _ _⟩
  case round =>
    obtain ⟨k, hkg, rfl, hown, kr⟩ := hrel
    have wk : IntKind.i64.wrap ((k : Int) + 1) = (k : Int) + 1 := IntWalk.i64_in _ (by omega)
    cases gk with
    | zero =>
      obtain rfl : N = k := by omega
      have d0 : ¬ ((N : Int) < (N : Int)) := by omega
      have HF := Lib.hid (show F.take N = F by rw [List.take_of_length_le]; rw [HN.out]; exact Nat.le_refl _)
      rw [HF.out] at hown
      obtain ⟨A9, c9, rfl, r9, _, _⟩ := own_reads hown
      have kw := below_call k7 kr
      have f1' := rd1 f1 kr
      have f2' := rd1 f2 kr
      have rv := rdV r7 kr
      have htr := ht7.kept kr
      clear hkg hown kr f1 f2 r7 ht7 k7 wk
      obtain ⟨wb, hwb⟩ : ∃ z, z = wr := ⟨_, rfl⟩
      subst hwb
      go_wp2_with fail
      go_loopg [17] K (fun gh i wr => ∃ k : Nat, k + gh = K ∧ i = .int .i64 (k : Int) ∧ Below wb.heap.size wb wr)
      case atStart => exact ⟨0, by omega, by simp, Below.refl _ _⟩
      case round =>
        obtain ⟨k, hkg, rfl, kx⟩ := hrel
        have kwx := below_call kw kx
        have htx := htr.kept kx
        cases gk with
        | zero =>
          have d0 : ¬ ((k : Int) < (K : Int)) := by omega
          have g2 := rd1 f2' kx
          obtain ⟨_, g2⟩ := g2
          obtain ⟨bq, oq, hA, hbq, hcq⟩ := g2 (by decide)
          subst hA HU
          have a0 := hcq 0 _ rfl
          have a1 := hcq 1 _ rfl
          have a2 := hcq 2 _ rfl
          have a3 := hcq 3 _ rfl
          simp only [Nat.add_zero] at a0
          have s1 : IntKind.i64.wrap (n1 + n2) = n1 + n2 := IntWalk.i64_in _ (by omega)
          have s2 : IntKind.i64.wrap (n1 + n2 + n3) = n1 + n2 + n3 := IntWalk.i64_in _ (by omega)
          have s3 : IntKind.i64.wrap (n1 + n2 + n3 + (U : Int)) = (N : Int) := by rw [IntWalk.i64_in _ (by omega)]; omega
          clear hkg hsum p1 p2 p3 p4 hN2 hK2 hcq g2 kx q7 f1' f2' rv r9
          go_wp2_with fail
          refine wp_region_calm (by kernel_rfl) (by kernel_rfl) ?_
          repeat (go_big_quiet_step (fail))
          refine wpQuiet_nil ?_
          intro wd gd
          go_wp2
          refine ret_of (by simp [results, Tryd.results8, go_sem, *]; repeat' (first | rfl | apply And.intro)) rfl ⟨rfl, below_call kwx gd⟩
        | succ g2 =>
          have hk : k < K := by omega
          have wk : IntKind.i64.wrap ((k : Int) + 1) = (k : Int) + 1 := IntWalk.i64_in _ (by omega)
          have d0 : (k : Int) < (K : Int) := by omega
          obtain ⟨Wh, P, e8, hP8, hPv, hPF⟩ := HCH.out k hk
          have q8 := q7 (k : Int)
          simp only [e8] at q8
          have rx := rdV rv kx
          have r9x := rd1 r9 kx
          clear e8 rv f1' f2' htr r9 q7
          go_wp2_with fail
          refine (q8 _ rx htx).mono ?_
          rintro e wa ⟨Ap, cp, Aq, cq, rfl, -, hq, ba⟩
          have ka := below_call kx ba
          have r9a := rd1 r9x ba
          have hta := htx.kept ba
          clear q8 rx htx ba kx r9x
          simp only at hq ⊢
          go_wp2_with fail
          refine (clashes_any2 Aq P.length cq P wa hq hP8 hPv hta).mono ?_
          rintro e wc ⟨Ac, cc, rfl, -, bc⟩
          have kc := below_call ka bc
          have r9c := rd1 r9a bc
          clear hq hP8 hPv hta r9a bc ka
          obtain ⟨NL, hNL⟩ : ∃ z, z = (fullC P).length := ⟨_, rfl⟩
          simp only [← hNL] at ⊢
          by_cases hn0 : NL = 0
          · have HX := Lib.hid (show ∀ y ∈ F.map (·.n), y ≠ (k : Int) from fun y hy => by
              obtain ⟨d, hd, rfl⟩ := List.mem_map.1 hy
              exact hPF (List.eq_nil_of_length_eq_zero (hNL.symm.trans hn0)) d hd)
            subst hn0
            clear hPF hNL
            go_wp2_with fail
            refine (has_none A9 N c9 _ k wc r9c (by omega) HX.out).mono ?_
            rintro e wd ⟨rfl, bd⟩
            have kd := below_call kc bd
            clear r9c bd
            go_wp2_with fail
            go_roundg g2
            case measure => omega
            case rel => exact ⟨k + 1, by omega, by go_num, kd⟩
          · have t0 : ((NL : Int) == 0) = false := beq_eq_false_iff_ne.2 (by omega)
            clear hPF hNL hn0
            go_wp2_with fail
            go_roundg g2
            case measure => omega
            case rel => exact ⟨k + 1, by omega, by go_num, kc⟩
    | succ gh =>
      have hk : k < N := by omega
      have d0 : (k : Int) < (N : Int) := by omega
      obtain ⟨x, hx⟩ := get_some (l := F) (k := k) (by rw [HN.out]; exact hk)
      obtain ⟨bb, off, hA, hbb, a0, a1, a2, a3, a4⟩ := f1.dis (Nat.le_refl _) kr hk hx
      subst hA
      have HNX := Lib.hid (ns_next hx)
      obtain ⟨x0, xa, xb, xk, xt⟩ := x
      simp only at a0 a1 a2 a3 a4 HNX
      have hzr := kr.size
      by_cases hk0 : k = 0
      · have d1 : ¬ ((0 : Int) < (k : Int)) := by omega
        clear hx hk0
        go_wp2_with (at_builtin; (refine wpList_append_any _ rfl (.tmp 115) (.tmp 118) 25 rfl w7.heap.size 3 i0 _ 1 8 Tryd.underlying25 hi0 hz0 hz1 hz2 rfl (by omega) u13 k (csN ((F.take k).map (·.n))) rfl (own_call hown (by repeat (first | with_reducible exact Below.refl _ _ | with_reducible assumption | with_reducible refine below_drewN ?_ _ | with_reducible refine Below.drew ?_ | with_reducible refine below_alloc ?_ _ | (with_reducible refine Below.setCell ?_ ?_ _; rotate_left; ((try simp only); omega))))) (wr.heap.size + 1 + 1) (some ⟨wr.heap.size + 1, 0, none⟩) 1 1 (csN [x0]) rfl (Reads.newAt _ _ _ 1 1 _ (by simp) rfl) (one_csN _) (by simp only [maxLen]; omega) (by omega) (by simp; omega) ?_); intro v9 w9 hown9 hg9 hat9)
        have k9 : Below w7.heap.size w7 w9 := Below.grown (B := w7.heap.size) (show Below w7.heap.size w7 _ from by repeat (first | with_reducible exact Below.refl _ _ | with_reducible assumption | with_reducible refine below_drewN ?_ _ | with_reducible refine Below.drew ?_ | with_reducible refine below_alloc ?_ _ | (with_reducible refine Below.setCell ?_ ?_ _; rotate_left; ((try simp only); omega)))) hg9 (by simp; omega) (fun x hx => (hown.lt x hx).1)
        go_wp2_with fail
        go_roundg gh
        case measure => omega
        case rel => exact ⟨k + 1, by omega, by go_num, by rw [HNX.out]; exact hown9, k9⟩
      · obtain ⟨p, rfl⟩ : ∃ p, k = p + 1 := ⟨k - 1, by omega⟩
        obtain ⟨y, hy⟩ := get_some (l := F) (k := p) (by rw [HN.out]; omega)
        obtain ⟨_, _, hA, _, b0, b1, b2, b3, b4⟩ := f1.dis (Nat.le_refl _) kr (show p < N by omega) hy
        cases hA
        have hlt : ltD y ⟨x0, xa, xb, xk, xt⟩ := by
          have h1 := (List.getElem?_eq_some_iff.1 hy); have h2 := (List.getElem?_eq_some_iff.1 hx)
          obtain ⟨l1, e1⟩ := h1; obtain ⟨l2, e2⟩ := h2
          have := List.pairwise_iff_getElem.1 HSA.out p (p + 1) l1 l2 (by omega)
          rw [e1, e2] at this
          exact this
        obtain ⟨y0, ya, yb, yk, yt⟩ := y
        unfold ltD at hlt
        simp only at b0 b1 b2 b3 b4 hlt
        have ws : IntKind.i64.wrap (((p + 1 : Nat) : Int) - 1) = (p : Int) := by rw [IntWalk.i64_in _ (by omega)]; omega
        have dp : (0 : Int) < ((p + 1 : Nat) : Int) := by omega
        have ip : p < N := by omega
        clear hx hy hk0
        rcases (show y0 < x0 ∨ (y0 = x0 ∧ ya < xa) ∨ (y0 = x0 ∧ ya = xa ∧ yb < xb) by omega) with g0 | ⟨rfl, g0⟩ | ⟨rfl, rfl, g0⟩
        · have t1 : ¬ x0 < y0 := by omega
          have t2 : (x0 == y0) = false := beq_eq_false_iff_ne.2 (by omega)
          clear g0 hlt
          go_wp2_with (at_builtin; (refine wpList_append_any _ rfl (.tmp 115) (.tmp 118) 25 rfl w7.heap.size 3 i0 _ 1 8 Tryd.underlying25 hi0 hz0 hz1 hz2 rfl (by omega) u13 (p + 1) (csN ((F.take (p + 1)).map (·.n))) rfl (own_call hown (by repeat (first | with_reducible exact Below.refl _ _ | with_reducible assumption | with_reducible refine below_drewN ?_ _ | with_reducible refine Below.drew ?_ | with_reducible refine below_alloc ?_ _ | (with_reducible refine Below.setCell ?_ ?_ _; rotate_left; ((try simp only); omega))))) (wr.heap.size + 1 + 1 + 1) (some ⟨wr.heap.size + 1 + 1, 0, none⟩) 1 1 (csN [x0]) rfl (Reads.newAt _ _ _ 1 1 _ (by simp) rfl) (one_csN _) (by simp only [maxLen]; omega) (by omega) (by simp; omega) ?_); intro v9 w9 hown9 hg9 hat9)
          have k9 : Below w7.heap.size w7 w9 := Below.grown (B := w7.heap.size) (show Below w7.heap.size w7 _ from by repeat (first | with_reducible exact Below.refl _ _ | with_reducible assumption | with_reducible refine below_drewN ?_ _ | with_reducible refine Below.drew ?_ | with_reducible refine below_alloc ?_ _ | (with_reducible refine Below.setCell ?_ ?_ _; rotate_left; ((try simp only); omega)))) hg9 (by simp; omega) (fun x hx => (hown.lt x hx).1)
          go_wp2_with fail
          go_roundg gh
          case measure => omega
          case rel => exact ⟨p + 1 + 1, by omega, by go_num, by rw [HNX.out]; exact hown9, k9⟩
        · have t1 : ¬ xa < ya := by omega
          have t2 : (xa == ya) = false := beq_eq_false_iff_ne.2 (by omega)
          clear g0 hlt
          go_wp2_with (at_builtin; (refine wpList_append_any _ rfl (.tmp 115) (.tmp 118) 25 rfl w7.heap.size 3 i0 _ 1 8 Tryd.underlying25 hi0 hz0 hz1 hz2 rfl (by omega) u13 (p + 1) (csN ((F.take (p + 1)).map (·.n))) rfl (own_call hown (by repeat (first | with_reducible exact Below.refl _ _ | with_reducible assumption | with_reducible refine below_drewN ?_ _ | with_reducible refine Below.drew ?_ | with_reducible refine below_alloc ?_ _ | (with_reducible refine Below.setCell ?_ ?_ _; rotate_left; ((try simp only); omega))))) (wr.heap.size + 1 + 1 + 1) (some ⟨wr.heap.size + 1 + 1, 0, none⟩) 1 1 (csN [y0]) rfl (Reads.newAt _ _ _ 1 1 _ (by simp) rfl) (one_csN _) (by simp only [maxLen]; omega) (by omega) (by simp; omega) ?_); intro v9 w9 hown9 hg9 hat9)
          have k9 : Below w7.heap.size w7 w9 := Below.grown (B := w7.heap.size) (show Below w7.heap.size w7 _ from by repeat (first | with_reducible exact Below.refl _ _ | with_reducible assumption | with_reducible refine below_drewN ?_ _ | with_reducible refine Below.drew ?_ | with_reducible refine below_alloc ?_ _ | (with_reducible refine Below.setCell ?_ ?_ _; rotate_left; ((try simp only); omega)))) hg9 (by simp; omega) (fun x hx => (hown.lt x hx).1)
          go_wp2_with fail
          go_roundg gh
          case measure => omega
          case rel => exact ⟨p + 1 + 1, by omega, by go_num, by rw [HNX.out]; exact hown9, k9⟩
        · have t1 : ¬ xb ≤ yb := by omega
          clear g0 hlt
          go_wp2_with (at_builtin; (refine wpList_append_any _ rfl (.tmp 115) (.tmp 118) 25 rfl w7.heap.size 3 i0 _ 1 8 Tryd.underlying25 hi0 hz0 hz1 hz2 rfl (by omega) u13 (p + 1) (csN ((F.take (p + 1)).map (·.n))) rfl (own_call hown (by repeat (first | with_reducible exact Below.refl _ _ | with_reducible assumption | with_reducible refine below_drewN ?_ _ | with_reducible refine Below.drew ?_ | with_reducible refine below_alloc ?_ _ | (with_reducible refine Below.setCell ?_ ?_ _; rotate_left; ((try simp only); omega))))) (wr.heap.size + 1 + 1 + 1) (some ⟨wr.heap.size + 1 + 1, 0, none⟩) 1 1 (csN [y0]) rfl (Reads.newAt _ _ _ 1 1 _ (by simp) rfl) (one_csN _) (by simp only [maxLen]; omega) (by omega) (by simp; omega) ?_); intro v9 w9 hown9 hg9 hat9)
          have k9 : Below w7.heap.size w7 w9 := Below.grown (B := w7.heap.size) (show Below w7.heap.size w7 _ from by repeat (first | with_reducible exact Below.refl _ _ | with_reducible assumption | with_reducible refine below_drewN ?_ _ | with_reducible refine Below.drew ?_ | with_reducible refine below_alloc ?_ _ | (with_reducible refine Below.setCell ?_ ?_ _; rotate_left; ((try simp only); omega)))) hg9 (by simp; omega) (fun x hx => (hown.lt x hx).1)
          go_wp2_with fail
          go_roundg gh
          case measure => omega
          case rel => exact ⟨p + 1 + 1, by omega, by go_num, by rw [HNX.out]; exact hown9, k9⟩
def laids : List (String × DataW Unit) := Rows.dissonanceCountsRow.laid
theorem door_met (os : Os) (args : Array Value) : laidMetH Tryd.prog laids ((World.doorLaid Tryd.prog 80 os).forCall (fun _ _ => 0) ⟨#[], args, []⟩).memory :=
  laidMetH_of_parts3 (fuel := 8) (laidMet_of_run' 8 (by kernel_rfl) (by kernel_rfl)) (by kernel_rfl) (by kernel_rfl)
theorem tabs_of {W : World} (h : laidMetH Tryd.prog laids W) : Tabs W := by
  rw [MakeChecks.laidMetH_plain _ _ _ (by kernel_rfl)] at h
  exact tabs_of_list h (by kernel_rfl) (by kernel_rfl)
set_option maxRecDepth 100000 in
theorem lifted (os : Os) (started : os.Started) (H : Type) (enc : TypeId × Value → H) :
    ReturnsInHanded {} Tryd.checked os 8 .any (fun w args => (Rows.dissonanceCountsSpec.pre enc Tryd.prog Tryd.f8 [] false w args ∧ laidMetH Tryd.prog laids w) ∧ sizedMet enc Tryd.prog Tryd.f8 (OpenSpec.ofChange Rows.dissonanceCountsSpec) false w args) (Rows.dissonanceCountsSpec.post enc Tryd.prog Tryd.f8 false true false false) := by
  refine returnsInHanded_of_change_and (C := Tryd.checked) (X := fun w _ => laidMetH Tryd.prog laids w) (fun _ _ _ hh h => h.of_heap hh) own started (by kernel_rfl) Tryd.func8
    (ChangeSpec.witness_shaped (enc := enc) (C := Tryd.checked) (os := os) (X := fun w _ => laidMetH Tryd.prog laids w) false (World.doorLaid Tryd.prog 80 os) #[.slice none 0 0] 8 rfl (World.shaped_of_RefB (by kernel_rfl) (by kernel_rfl)) (by kernel_rfl) (by kernel_rfl) (by kernel_rfl) (door_met os _)) ?_
  intro W base args ds gs before hval0 hW _ _ hL _
  have hval : ∀ (j : Nat) t v, Tryd.f8.params[j]? = some t → args[j]? = some v → Value.okWide Tryd.prog W .any base t v := hval0
  have hW' := hW
  obtain ⟨p, q, hA0, hV, rfl, hfz, hnd⟩ := hW
  have hA : DataW.TrodAll enc Tryd.prog W 0 (fun _ => true) true Tryd.f8.params.toList args.toList ds p := hA0
  rw [Tryd.params8] at hA hval
  obtain ⟨v0, vs0, d0, ds0, p0, q0, hargs, rfl, rfl, h0, r0⟩ := trodAll_cons hA
  obtain ⟨rfl, rfl, rfl⟩ := trodAll_nil r0
  obtain rfl : args = #[v0] := by cases args; simp_all
  obtain ⟨rfl, rfl⟩ := trodVars_none hV
  have k0 := h0
  have lt0 : ∀ x ∈ p0, x.block < W.heap.size := by obtain ⟨m, hm⟩ := k0; exact DataW.trod_lt m _ _ _ hm
  obtain ⟨A0, n0, c0, l0, rfl, w0⟩ := arg_ints (hval 0 25 v0 rfl rfl) h0
  clear hA0 hval0
  refine (walk c0 ⟨w0.1, w0.2.1, w0.2.2⟩ (tabs_of hL)).mono fun e W' ⟨he, bel⟩ => ?_
  subst he
  exact ⟨_, rfl, _, _, _, [], _, [], hW', trodAll_mk1 (shut_bool Tryd.underlying4 _), (trodAll_cons_mk (Below.trod laidOut (by kernel_rfl) (of_decide_eq_true (by kernel_rfl)) k0 bel lt0) trodAll_mk0), rfl, bel.frame _, fun h => by cases h⟩

theorem over : Rows.DissonanceCountsSaid :=
  OpenClaim.holds_of_wide 8 Tryd.f8 rfl rfl rfl rfl rfl rfl rfl ⟨rfl, rfl, rfl, rfl, rfl⟩ rfl rfl rfl rfl rfl (by kernel_rfl) Tryd.func8 (by kernel_rfl)
    (of_decide_eq_true (by kernel_rfl)) (by unfold Func.isWrapper; first | (rw [if_pos (by decide +kernel)]; kernel_rfl) | (rw [if_neg (by decide +kernel)]; exact ⟨rfl, rfl⟩))
    (fun os started H enc _ => lifted os started H enc)

/-- The card: the row, its variables tied to the program's text. -/
theorem proved : Rows.DissonanceCountsCardSaid :=
  Claim7.holds_tied_plain_at .later [] [.data, .data] true Rows.dissonanceCountsCard.stood.harness Rows.dissonanceCountsCard.stood.looks
    over (fun _ h => by cases h) (by kernel_rfl) (fun _ h => by cases h) dissonanceCounts_row_tie rfl ⟨rfl, rfl⟩ (by kernel_rfl) rfl
    (fun f fn hf hfn => by
      obtain rfl : f = 8 := Option.some.inj ((show Tryd.prog.funcNamed Tryd.f8.name = some 8 by kernel_rfl).symm.trans hf) |>.symm
      obtain rfl : fn = Tryd.f8 := (Option.some.inj (Tryd.func8.symm.trans hfn)).symm
      exact ⟨by kernel_rfl, fun j t ht => by
        rw [Tryd.params8] at ht
        have hm : t ∈ Tryd.f8.params.toList := by rw [Tryd.params8]; simpa using Array.mem_of_getElem? ht
        have hall : (Tryd.f8.params.toList.all fun u => !Tryd.prog.wantsStandIn u) = true := by kernel_rfl
        exact (show Tryd.prog.wantsStandIn t = false by simpa using List.all_eq_true.1 hall t hm)⟩)
    (by kernel_rfl)

end Go.Proofs.YtmlcnmnpkemdpaaDoor.dissonanceCounts
