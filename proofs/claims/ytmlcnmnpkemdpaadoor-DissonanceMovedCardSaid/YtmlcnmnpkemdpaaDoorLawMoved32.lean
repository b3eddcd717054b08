/- DissonanceMoved holds: an octave higher all dissonances are the same, and with doubled times there are as many, of which those that were untreated or suspended stay so. No condition. -/
import Derived.Test.YtmlcnmnpkemdpaaDoorTabDoor
import Derived.Test.YtmlcnmnpkemdpaaDoorDsAwake
import Derived.Test.YtmlcnmnpkemdpaaDoorDsCopies
namespace Go.Proofs.YtmlcnmnpkemdpaaDoor.dissonanceMoved
open Go.RowKit Go.ChangeShapes Go.WideShapes Go.ChangeAt
set_option linter.unusedVariables false
theorem facts (L : List Int) : ∃ (F G : List Dis) (N : Nat), dissE (made3 L) = (F, 0) ∧ dissE ((made3 L).map (List.map octE)) = (F, 0) ∧ dissE ((made3 L).map (List.map dblE)) = (G, 0) ∧ F.length = N ∧ G.length = N ∧ N ≤ 2100000 ∧
    (∀ d ∈ F, d.treat = 1 ∨ d.treat = 2 ∨ d.treat = 3 ∨ d.treat = 4) ∧
    ∀ (i : Nat) (x y : Dis), F[i]? = some x → G[i]? = some y → y.n = x.n ∧ y.a = x.a ∧ y.b = x.b ∧ y.kind = x.kind ∧ (3 ≤ x.treat → y.treat = x.treat) := by
  have hs := made_set L
  have e1 := diss_set hs
  have e2 := diss_set (oct_set L)
  have e3 := diss_set (slow_set L)
  rw [up_mom, all_up (made_pits L)] at e2
  obtain ⟨h1, h2⟩ := all_slow (made_whole L) (fun v hv => (made_pits L v hv).pits) (setq_sa hs).1 (setq_sa (slow_set L)).1
  refine ⟨_, _, _, e1, e2, e3, rfl, h1, ?_, ?_, h2⟩
  · have := dissE_len (made3 L); rw [e1] at this; exact this
  · intro d hd
    have := dissE_treat (l := made3 L) (d := d) (by rw [e1]; exact hd)
    exact this
theorem ev_facts {L : List Int} {v : List Ev} {x : Ev} {i k : Nat} (hv : (made3 L)[i]? = some v) (hx : v[k]? = some x) :
    ∃ a d : Int, 0 ≤ a ∧ a ≤ 1000000 ∧ 0 ≤ d ∧ d ≤ 1000000 ∧ x.at_ = (a, 1) ∧ x.dur = (d, 1) ∧ (x.rest = false → 0 ≤ x.pit.2.1 ∧ x.pit.2.1 ≤ 7) := by
  have h1 := List.mem_of_getElem? hv
  have h2 := List.mem_of_getElem? hx
  obtain ⟨a, d, p1, p2, p3, p4, p5⟩ := made_whole L v h1 x h2
  refine ⟨a, d, p1, by omega, by omega, by omega, p4, p5, fun hr => ?_⟩
  obtain ⟨q1, q2⟩ := made_pits L v h1 x h2 hr
  exact ⟨(pchk_ok q1).2.2.1, q2⟩
set_option maxRecDepth 100000 in
set_option maxHeartbeats 16000000 in
theorem walk {A : Option Addr} {n : Nat} {L : List Int} {w : World} (c : Nat) (h : Nums w A n L) (ht : Tabs w) :
    Calls Tryd.prog 6 #[.slice A n c] w fun e w' => e = .returned (.bool true) ∧ Below w.heap.size w w' := by
  go_enter Tryd.func6, Tryd.ntmps6
  go_wp2_with fail
  refine (known_any w ht).mono ?_
  rintro e w1 ⟨rfl, k1⟩
  replace h := h.kept k1
  go_wp2_with fail
  refine (made32_any h c).mono ?_
  rintro e w2 ⟨A2, c2, rfl, r2, b2⟩
  have k2 := below_call k1 b2
  clear h b2 k1
  obtain ⟨F, G, N, e1, e2, e3, hF, hG, hN, hT, hFG⟩ := facts L
  have hev := @ev_facts L
  have hlen := made_len L
  obtain ⟨S, hS⟩ : ∃ S, S = made3 L := ⟨_, rfl⟩
  have hS3 : S.length = 3 := by rw [hS]; rfl
  rw [← hS] at e1 e2 e3 hev hlen r2
  clear hS
  have HS3 := Lib.hid hS3
  have HEV := Lib.hid (fun (v : List Ev) (x : Ev) (i k : Nat) (hv : S[i]? = some v) (hx : v[k]? = some x) => hev hv hx)
  have HLEN := Lib.hid hlen
  have HF := Lib.hid hF
  have HG := Lib.hid hG
  have HT := Lib.hid hT
  have HFG := Lib.hid hFG
  have q1 := fun W (hW : ReadsV W W.heap.size A2 3 S) (hT : Tabs W) => diss_any A2 3 c2 S W hW (by omega) hT
  have q2 := fun W A c (hW : ReadsV W W.heap.size A 3 (S.map (List.map octE))) (hT : Tabs W) => diss_any A 3 c (S.map (List.map octE)) W hW (by omega) hT
  have q3 := fun W A c (hW : ReadsV W W.heap.size A 3 (S.map (List.map dblE))) (hT : Tabs W) => diss_any A 3 c (S.map (List.map dblE)) W hW (by omega) hT
  simp only [e1] at q1
  simp only [e2] at q2
  simp only [e3] at q3
  clear e1 e2 e3 hev hT hFG
  go_wp2_with fail
  refine (own32_row A2 3 c2 S w2 r2 (by omega) (fun v hv => Nat.le_trans (hlen v hv) (by omega))).mono ?_
  rintro e w3 hx
  obtain ⟨_, dh, rfl, ⟨Ah, ch, rfl⟩, hh, b3⟩ := CopyAt.of hx hS3 octE
  clear hx
  have r3 := rdV r2 b3
  go_wp2_with fail
  refine (own32_row A2 3 c2 S w3 r3 (by omega) (fun v hv => Nat.le_trans (hlen v hv) (by omega))).mono ?_
  rintro e w4 hx
  obtain ⟨_, dl, rfl, ⟨Al, cl, rfl⟩, hl, b4⟩ := CopyAt.of hx hS3 dblE
  clear hx r3 hlen hS3
  replace hh := hh.kept b4 (Nat.le_refl _)
  have b24 := below_call b3 b4
  have hz3 := b3.size
  have hz34 := b4.size
  go_wp2_with fail
  go_loopg [7] 3 (fun gh i wr => ∃ k : Nat, k + gh = 3 ∧ i = .int .i64 (k : Int) ∧ CopyAt wr w2.heap.size w3.heap.size (.slice Ah 3 ch) dh S (gs octE k 0) ∧ CopyAt wr w3.heap.size w4.heap.size (.slice Al 3 cl) dl S (gs dblE k 0) ∧ Below w2.heap.size w2 wr ∧ w4.heap.size ≤ wr.heap.size)
  case atStart => exact ⟨0, by omega, by simp, hh, hl, b24, Nat.le_refl _⟩
  case round =>
    obtain ⟨i, hig, rfl, hh, hl, ki, hzi⟩ := hrel
    have wi : IntKind.i64.wrap ((i : Int) + 1) = (i : Int) + 1 := IntWalk.i64_in _ (by omega)
    cases gk with
    | zero =>
      obtain rfl : i = 3 := by omega
      have rh := hh.reads HS3.out octE (fun j u hu => by unfold gs; rw [if_pos (by have := (List.getElem?_eq_some_iff.1 hu).1; have := HS3.out; omega)])
      have rl := hl.reads HS3.out dblE (fun j u hu => by unfold gs; rw [if_pos (by have := (List.getElem?_eq_some_iff.1 hu).1; have := HS3.out; omega)])
      have rs := rdV r2 ki
      have kw := below_call k2 ki
      obtain ⟨wf, hwf⟩ : ∃ z, z = wr := ⟨_, rfl⟩
      subst hwf
      clear hig hh hl ki hzi b24 hz3 hz34 b3 b4 r2 k2
      go_wp2_with fail
      refine (q1 wf rs (ht.kept kw)).mono ?_
      rintro e w5 ⟨B1, d1, rfl, f1, b5⟩
      have k5 := below_call kw b5
      replace rh := rdV rh b5
      replace rl := rdV rl b5
      clear q1 rs b5 kw
      simp only [HF.out] at f1 ⊢
      go_wp2_with fail
      refine (q2 w5 _ _ rh (ht.kept k5)).mono ?_
      rintro e w6 ⟨B2, d2, rfl, f2, b6⟩
      have k6 := below_call k5 b6
      replace rl := rdV rl b6
      replace f1 := rd1 f1 b6
      clear q2 rh b6 k5
      simp only [HF.out] at f2 ⊢
      go_wp2_with fail
      refine (q3 w6 _ _ rl (ht.kept k6)).mono ?_
      rintro e w7 ⟨B3, d3, rfl, f3, b7⟩
      have k7 := below_call k6 b7
      replace f1 := rd1 f1 b7
      replace f2 := rd1 f2 b7
      clear q3 rl b7 k6
      simp only [HG.out] at f3 ⊢
      go_wp2_with fail
      refine (sameDis_any B1 B2 N d1 d2 F w7 f1 f2 (by omega)).mono ?_
      rintro e w8 ⟨rfl, b8⟩
      have k8 := below_call k7 b8
      replace f1 := rd1 f1 b8
      replace f3 := rd1 f3 b8
      clear f2 b8 k7
      go_wp2_with fail
      go_loopg [15] N (fun gh j wr => ∃ k : Nat, k + gh = N ∧ j = .int .i64 (k : Int) ∧ Below w8.heap.size w8 wr)
      case atStart => exact ⟨0, by omega, by simp, Below.refl _ _⟩
      case round =>
        obtain ⟨k, hkg, rfl, kr⟩ := hrel
        have wk : IntKind.i64.wrap ((k : Int) + 1) = (k : Int) + 1 := IntWalk.i64_in _ (by omega)
        cases gk with
        | zero =>
          obtain rfl : N = k := by omega
          have d0 : ¬ ((N : Int) < (N : Int)) := by omega
          clear hkg
          go_wp2
          refine ret_of (by simp [results, Tryd.results6, go_sem, *]; repeat' (first | rfl | apply And.intro)) rfl ⟨rfl, below_call k8 kr⟩
        | succ g =>
          have hk : k < N := by omega
          have d0 : (k : Int) < (N : Int) := by omega
          obtain ⟨x, hx⟩ := get_some (l := F) (k := k) (by rw [HF.out]; exact hk)
          obtain ⟨y, hy⟩ := get_some (l := G) (k := k) (by rw [HG.out]; exact hk)
          obtain ⟨ba, oa, hA, hba, a0, a1, a2, a3, a4⟩ := f1.dis (Nat.le_refl _) kr hk hx
          obtain ⟨bb, ob, hB, hbb, c0, c1, c2', c3, c4⟩ := f3.dis (Nat.le_refl _) kr hk hy
          subst hA hB
          obtain ⟨g0, g1, g2, g3, g4⟩ := HFG.out k x y hx hy
          have htr := HT.out x (List.mem_of_getElem? hx)
          have hzk := kr.size
          rw [g0] at c0; rw [g1] at c1; rw [g2] at c2'; rw [g3] at c3
          obtain ⟨x0, xa, xb, xk, xt⟩ := x
          obtain ⟨y0, ya, yb, yk, yt⟩ := y
          simp only at a0 a1 a2 a3 a4 c0 c1 c2' c3 c4 g4 htr
          clear g0 g1 g2 g3 hx hy
          rcases htr with rfl | rfl | rfl | rfl
          · clear g4
            go_wp2_with fail
            go_region
            all_goals
              go_wp2_with fail
              go_roundg g
              case measure => omega
              case rel => exact ⟨k + 1, by omega, by go_num, by repeat (first | with_reducible exact Below.refl _ _ | with_reducible assumption | with_reducible refine below_drewN ?_ _ | with_reducible refine Below.drew ?_ | with_reducible refine below_alloc ?_ _ | (with_reducible refine Below.setCell ?_ ?_ _; rotate_left; ((try simp only); omega)))⟩
          · clear g4
            go_wp2_with fail
            go_region
            all_goals
              go_wp2_with fail
              go_roundg g
              case measure => omega
              case rel => exact ⟨k + 1, by omega, by go_num, by repeat (first | with_reducible exact Below.refl _ _ | with_reducible assumption | with_reducible refine below_drewN ?_ _ | with_reducible refine Below.drew ?_ | with_reducible refine below_alloc ?_ _ | (with_reducible refine Below.setCell ?_ ?_ _; rotate_left; ((try simp only); omega)))⟩
          · obtain rfl : yt = 3 := g4 (by omega)
            clear g4
            go_wp2_with fail
            go_region
            all_goals
              go_wp2_with fail
              go_roundg g
              case measure => omega
              case rel => exact ⟨k + 1, by omega, by go_num, by repeat (first | with_reducible exact Below.refl _ _ | with_reducible assumption | with_reducible refine below_drewN ?_ _ | with_reducible refine Below.drew ?_ | with_reducible refine below_alloc ?_ _ | (with_reducible refine Below.setCell ?_ ?_ _; rotate_left; ((try simp only); omega)))⟩
          · obtain rfl : yt = 4 := g4 (by omega)
            clear g4
            go_wp2_with fail
            go_region
            all_goals
              go_wp2_with fail
              go_roundg g
              case measure => omega
              case rel => exact ⟨k + 1, by omega, by go_num, by repeat (first | with_reducible exact Below.refl _ _ | with_reducible assumption | with_reducible refine below_drewN ?_ _ | with_reducible refine Below.drew ?_ | with_reducible refine below_alloc ?_ _ | (with_reducible refine Below.setCell ?_ ?_ _; rotate_left; ((try simp only); omega)))⟩
    | succ gh =>
      have hi3 : i < 3 := by omega
      have di : (i : Int) < 3 := by omega
      obtain ⟨v, hv⟩ := get_some (l := S) (k := i) (by rw [HS3.out]; exact hi3)
      have hv10 := HLEN.out v (List.mem_of_getElem? hv)
      have HV := Lib.hid hv
      obtain ⟨ba, oa, A', n', c', hA, hba, x1, x2, _, x3⟩ := r2.voiceB hi3 hv
      rw [x3] at hv10
      have HX3 := Lib.hid x3
      subst hA
      clear hv x3
      obtain ⟨wo, hwo⟩ : ∃ z, z = wr := ⟨_, rfl⟩
      subst hwo
      go_wp2_with fail
      go_loopg [8] n' (fun g2 j wr => ∃ k : Nat, k + g2 = n' ∧ j = .int .i64 (k : Int) ∧ CopyAt wr w2.heap.size w3.heap.size (.slice Ah 3 ch) dh S (gs octE i k) ∧ CopyAt wr w3.heap.size w4.heap.size (.slice Al 3 cl) dl S (gs dblE i k) ∧ Below w2.heap.size w2 wr ∧ w4.heap.size ≤ wr.heap.size)
      case atStart => exact ⟨0, by omega, by simp, hh, hl, ki, hzi⟩
      case round =>
        obtain ⟨k, hkg, rfl, hh, hl, kr, hzr⟩ := hrel
        have wk : IntKind.i64.wrap ((k : Int) + 1) = (k : Int) + 1 := IntWalk.i64_in _ (by omega)
        have yx1 := (kr.cell (p := ⟨ba, oa + i, none⟩) hba).trans x1
        cases gk with
        | zero =>
          obtain rfl : k = n' := by omega
          have d0 : ¬ ((k : Int) < (k : Int)) := by omega
          have hh' := hh.congr (g' := gs octE (i + 1) 0) (fun j u hu => gs_step octE i j u (fun e => by subst e; have := HV.out.symm.trans hu; cases this; exact HX3.out))
          have hl' := hl.congr (g' := gs dblE (i + 1) 0) (fun j u hu => gs_step dblE i j u (fun e => by subst e; have := HV.out.symm.trans hu; cases this; exact HX3.out))
          clear hkg hh hl x1 x2
          go_wp2
          go_roundg gh
          case measure => omega
          case rel => exact ⟨i + 1, by omega, by go_num, hh', hl', kr, hzr⟩
        | succ g2 =>
          have hk : k < n' := by omega
          have d0 : (k : Int) < (n' : Int) := by omega
          obtain ⟨x, hx⟩ := get_some (l := v) (k := k) (by rw [HX3.out]; exact hk)
          obtain ⟨a, d, p1, p2, p3, p4, p5, p6, p7⟩ := HEV.out v x i k HV.out hx
          obtain ⟨bx, ox, hA', hbx, hcx⟩ := x2.ev (Nat.le_refl _) (Below.refl _ _) hk hx
          obtain ⟨t0, t1, t2, t3, t4, t5, t6, t7, _, _⟩ := ten hcx
          have HDBL := Lib.hid (show dblE x = { { x with at_ := (2 * a, 1) } with dur := (2 * d, 1) } by unfold dblE dbl; rw [p5, p6])
          rw [p5] at t0 t1
          rw [p6] at t2 t3
          simp only at t0 t1 t2 t3
          have HLX := Lib.hid (show ((v.take k).map octE ++ x :: v.drop (k + 1)).length = n' by rw [List.length_append, mix_len octE hx, List.length_cons, List.length_drop, HX3.out]; omega)
          have HLX2 := Lib.hid (show ((v.take k).map dblE ++ x :: v.drop (k + 1)).length = n' by rw [List.length_append, mix_len dblE hx, List.length_cons, List.length_drop, HX3.out]; omega)
          have HLX3 := Lib.hid (show ((v.take k).map dblE ++ { x with at_ := (2 * a, 1) } :: v.drop (k + 1)).length = n' by rw [List.length_append, mix_len dblE hx, List.length_cons, List.length_drop, HX3.out]; omega)
          have yx7 := (kr.cell (p := ⟨bx, ox + k * 10 + 7, none⟩) hbx).trans t7
          have wa : IntKind.i64.wrap (2 * a) = 2 * a := IntWalk.i64_in _ (by omega)
          have wd' : IntKind.i64.wrap (2 * d) = 2 * d := IntWalk.i64_in _ (by omega)
          have qa := fun W => t_any (2 * a) 1 W (by omega) (by omega) (by omega) (by omega)
          have qd := fun W => t_any (2 * d) 1 W (by omega) (by omega) (by omega) (by omega)
          rw [tS_whole] at qa qd
          subst hA'
          clear x2 p5 p6 hcx t4 t5 t6
          by_cases hr : x.rest = true
          · rw [hr] at yx7
            have HO := Lib.hid (show octE x = x by unfold octE; rw [if_pos hr])
            have H5 := hh.congr (g' := gs octE i (k + 1)) (fun j u hu => by
              by_cases hj : j = i
              · subst hj
                have := HV.out.symm.trans hu
                cases this
                rw [gs_at, gs_at, mix_at hx, mix_next hx, HO.out]
              · exact gs_ne octE hj u)
            have K5 := hl
            have kr5 := kr
            obtain ⟨w5, hw5⟩ : ∃ z, z = wr := ⟨_, rfl⟩
            subst hw5
            have hz5 := hzr
            have hz53 := Nat.le_trans hz34 hz5
            clear hh hl p7
            go_wp2_with fail
            obtain ⟨bl, gl, cx2, hAl, lbl, bbl, y1, y2, y3, y4, y5, y6, y7⟩ := K5.ev_ HV.out ((gs_at dblE i k v).trans (mix_at hx)) (mix_len dblE hx) HLX2.out
            subst hAl
            have zx1 := (kr5.cell (p := ⟨ba, oa + i, none⟩) hba).trans x1
            have zx2 := (kr5.cell (p := ⟨bx, ox + k * 10, none⟩) hbx).trans t0
            have zx3 := (kr5.cell (p := ⟨bx, ox + k * 10 + 1, none⟩) hbx).trans t1
            have lb1 : ba < w5.heap.size := by have := kr5.size; omega
            have lb2 : bx < w5.heap.size := by have := kr5.size; omega
            go_wp2_with fail
            refine wp_region_calm_tail 27 (by kernel_rfl) (by kernel_rfl) ?_
            simp only [List.take_succ_cons, List.take_zero, List.drop_succ_cons, List.drop_zero]
            repeat (go_big_quiet_step ((go_at_call 25; with_reducible exact calm_call (qa _))))
            refine wpQuiet_nil ?_
            intro wd gd
            have H6 := H5.kept gd hz53
            have K6 := K5.kept gd hz5
            have kr6 := below_call kr5 gd
            have o6 := own_call y5 gd
            have f6 := o6.frozenAt
            have l6 : gl < wd.heap.size := by have := gd.size; omega
            have u0 := (gd.cell (p := ⟨gl, k * 10 + 0, none⟩) y4).trans (y6 0 _ rfl)
            have u1 := (gd.cell (p := ⟨gl, k * 10 + 1, none⟩) y4).trans (y6 1 _ rfl)
            simp only [Nat.add_zero] at u0
            have hzd : w4.heap.size ≤ wd.heap.size := by have := gd.size; omega
            clear H5 K5 kr5 y1 y5 y6 y7 zx1 zx2 zx3 lb1 lb2
            go_wp2_with fail
            obtain ⟨w7, hw7⟩ : ∃ z, z = (wd.setCell ⟨gl, k * 10, none⟩ (.int .i64 (2 * a))).setCell ⟨gl, k * 10 + 1, none⟩ (.int .i64 1) := ⟨_, rfl⟩
            have K7 : CopyAt w7 w3.heap.size w4.heap.size (.slice (some ⟨bl, 0, none⟩) 3 cl) dl S (fun j u => if j = i then (v.take k).map dblE ++ { x with at_ := (2 * a, 1) } :: v.drop (k + 1) else gs dblE i k j u) := by
              rw [hw7]
              exact K6.put HV.out y2 (fun _ _ _ _ _ _ h hne => st_one _ _ _ _ _ _ (st_one _ _ _ _ _ _ h hne) hne) (by rw [if_pos rfl]; exact at_row hx _ _ o6) (fun j hj u => if_neg hj)
            have H7 : CopyAt w7 w2.heap.size w3.heap.size (.slice Ah 3 ch) dh S (gs octE i (k + 1)) := by
              rw [hw7]
              exact H6.kept (((Below.refl w3.heap.size wd).setCell (by show w3.heap.size ≤ gl; exact y3) _).setCell (by show w3.heap.size ≤ gl; exact y3) _) (Nat.le_refl _)
            have kr7 : Below w2.heap.size w2 w7 := by rw [hw7]; exact (kr6.setCell (by show w2.heap.size ≤ gl; omega) _).setCell (by show w2.heap.size ≤ gl; omega) _
            have hz7 : w4.heap.size ≤ w7.heap.size := by rw [hw7]; simpa using hzd
            rw [← hw7]
            clear hw7 H6 K6 kr6 o6 f6 l6 u0 u1 hzd gd
            obtain ⟨bm, gm, cx3, hAm, lbm, bbm, y1', y2', y3', y4', y5', y6', y7'⟩ := K7.ev_ HV.out (if_pos rfl) (mix_len dblE hx) HLX3.out
            cases hAm
            have zx1 := (kr7.cell (p := ⟨ba, oa + i, none⟩) hba).trans x1
            have zx2 := (kr7.cell (p := ⟨bx, ox + k * 10 + 2, none⟩) hbx).trans t2
            have zx3 := (kr7.cell (p := ⟨bx, ox + k * 10 + 3, none⟩) hbx).trans t3
            have lb1 : ba < w7.heap.size := by have := kr7.size; omega
            have lb2 : bx < w7.heap.size := by have := kr7.size; omega
            go_wp2_with fail
            refine wp_region_calm_tail 27 (by kernel_rfl) (by kernel_rfl) ?_
            simp only [List.take_succ_cons, List.take_zero, List.drop_succ_cons, List.drop_zero]
            repeat (go_big_quiet_step ((go_at_call 25; with_reducible exact calm_call (qd _))))
            refine wpQuiet_nil ?_
            intro we ge
            have H8 := H7.kept ge (by omega)
            have K8 := K7.kept ge hz7
            have kr8 := below_call kr7 ge
            have o8 := own_call y5' ge
            have f8 := o8.frozenAt
            have l8 : gm < we.heap.size := by have := ge.size; omega
            have u2 := (ge.cell (p := ⟨gm, k * 10 + 2, none⟩) y4').trans (y6' 2 _ rfl)
            have u3 := (ge.cell (p := ⟨gm, k * 10 + 3, none⟩) y4').trans (y6' 3 _ rfl)
            have hze : w4.heap.size ≤ we.heap.size := by have := ge.size; omega
            clear H7 K7 kr7 y1' y5' y6' y7' zx1 zx2 zx3 lb1 lb2
            go_wp2_with fail
            obtain ⟨w9, hw9⟩ : ∃ z, z = (we.setCell ⟨gm, k * 10 + 2, none⟩ (.int .i64 (2 * d))).setCell ⟨gm, k * 10 + 3, none⟩ (.int .i64 1) := ⟨_, rfl⟩
            have K9 : CopyAt w9 w3.heap.size w4.heap.size (.slice (some ⟨bl, 0, none⟩) 3 cl) dl S (gs dblE i (k + 1)) := by
              rw [hw9]
              exact K8.put HV.out y2' (fun _ _ _ _ _ _ h hne => st_one _ _ _ _ _ _ (st_one _ _ _ _ _ _ h hne) hne) (by rw [gs_at]; exact dur_row hx _ _ HDBL.out o8) (fun j hj u => (gs_ne dblE hj u).trans (if_neg hj).symm)
            have H9 : CopyAt w9 w2.heap.size w3.heap.size (.slice Ah 3 ch) dh S (gs octE i (k + 1)) := by
              rw [hw9]
              exact H8.kept (((Below.refl w3.heap.size we).setCell (by show w3.heap.size ≤ gm; exact y3') _).setCell (by show w3.heap.size ≤ gm; exact y3') _) (Nat.le_refl _)
            have kr9 : Below w2.heap.size w2 w9 := by rw [hw9]; exact (kr8.setCell (by show w2.heap.size ≤ gm; omega) _).setCell (by show w2.heap.size ≤ gm; omega) _
            have hz9 : w4.heap.size ≤ w9.heap.size := by rw [hw9]; simpa using hze
            try rw [← hw9]
            go_roundg g2
            case measure => omega
            case rel => exact ⟨k + 1, by omega, by go_num, H9, K9, kr9, hz9⟩
          · have hrf : x.rest = false := by simpa using hr
            rw [hrf] at yx7
            obtain ⟨bu, gi, cx, hAh, lbu, bbu, z1, z2, z3, z4, z5, z6, z7⟩ := hh.ev_ HV.out ((gs_at octE i k v).trans (mix_at hx)) (mix_len octE hx) HLX.out
            subst hAh
            have z65 := z6 5 _ rfl
            obtain ⟨p70, p71⟩ := p7 hrf
            have wp : IntKind.i64.wrap (x.pit.2.1 + 1) = x.pit.2.1 + 1 := IntWalk.i64_in _ (by omega)
            obtain ⟨w5, hw5⟩ : ∃ z, z = wr.setCell ⟨gi, k * 10 + 5, none⟩ (.int .i64 (x.pit.2.1 + 1)) := ⟨_, rfl⟩
            have H5 : CopyAt w5 w2.heap.size w3.heap.size (.slice (some ⟨bu, 0, none⟩) 3 ch) dh S (gs octE i (k + 1)) := by
              rw [hw5]
              exact hh.put HV.out z2 st_one (by rw [gs_at]; exact oct_row hx hrf z5) (fun j hj u => gs_ne octE hj u)
            have hgi3 : gi < w3.heap.size := hh.inn _ (List.mem_of_getElem? z2) _ rfl
            have K5 : CopyAt w5 w3.heap.size w4.heap.size (.slice Al 3 cl) dl S (gs dblE i k) := by
              rw [hw5]
              refine CopyAt.set_ hl ?_
              omega
            have kr5 : Below w2.heap.size w2 w5 := by rw [hw5]; exact kr.setCell (by show w2.heap.size ≤ gi; omega) _
            have hz5 : w4.heap.size ≤ w5.heap.size := by rw [hw5]; simpa using hzr
            have hz53 := Nat.le_trans hz34 hz5
            clear hh hl p7 z2 z5 z6
            go_wp2_with fail
            rw [← hw5]
            clear hw5 wp yx1 yx7 z1 z3 z4 z7 z65
            obtain ⟨bl, gl, cx2, hAl, lbl, bbl, y1, y2, y3, y4, y5, y6, y7⟩ := K5.ev_ HV.out ((gs_at dblE i k v).trans (mix_at hx)) (mix_len dblE hx) HLX2.out
            subst hAl
            have zx1 := (kr5.cell (p := ⟨ba, oa + i, none⟩) hba).trans x1
            have zx2 := (kr5.cell (p := ⟨bx, ox + k * 10, none⟩) hbx).trans t0
            have zx3 := (kr5.cell (p := ⟨bx, ox + k * 10 + 1, none⟩) hbx).trans t1
            have lb1 : ba < w5.heap.size := by have := kr5.size; omega
            have lb2 : bx < w5.heap.size := by have := kr5.size; omega
            go_wp2_with fail
            refine wp_region_calm_tail 27 (by kernel_rfl) (by kernel_rfl) ?_
            simp only [List.take_succ_cons, List.take_zero, List.drop_succ_cons, List.drop_zero]
            repeat (go_big_quiet_step ((go_at_call 25; with_reducible exact calm_call (qa _))))
            refine wpQuiet_nil ?_
            intro wd gd
            have H6 := H5.kept gd hz53
            have K6 := K5.kept gd hz5
            have kr6 := below_call kr5 gd
            have o6 := own_call y5 gd
            have f6 := o6.frozenAt
            have l6 : gl < wd.heap.size := by have := gd.size; omega
            have u0 := (gd.cell (p := ⟨gl, k * 10 + 0, none⟩) y4).trans (y6 0 _ rfl)
            have u1 := (gd.cell (p := ⟨gl, k * 10 + 1, none⟩) y4).trans (y6 1 _ rfl)
            simp only [Nat.add_zero] at u0
            have hzd : w4.heap.size ≤ wd.heap.size := by have := gd.size; omega
            clear H5 K5 kr5 y1 y5 y6 y7 zx1 zx2 zx3 lb1 lb2
            go_wp2_with fail
            obtain ⟨w7, hw7⟩ : ∃ z, z = (wd.setCell ⟨gl, k * 10, none⟩ (.int .i64 (2 * a))).setCell ⟨gl, k * 10 + 1, none⟩ (.int .i64 1) := ⟨_, rfl⟩
            have K7 : CopyAt w7 w3.heap.size w4.heap.size (.slice (some ⟨bl, 0, none⟩) 3 cl) dl S (fun j u => if j = i then (v.take k).map dblE ++ { x with at_ := (2 * a, 1) } :: v.drop (k + 1) else gs dblE i k j u) := by
              rw [hw7]
              exact K6.put HV.out y2 (fun _ _ _ _ _ _ h hne => st_one _ _ _ _ _ _ (st_one _ _ _ _ _ _ h hne) hne) (by rw [if_pos rfl]; exact at_row hx _ _ o6) (fun j hj u => if_neg hj)
            have H7 : CopyAt w7 w2.heap.size w3.heap.size (.slice (some ⟨bu, 0, none⟩) 3 ch) dh S (gs octE i (k + 1)) := by
              rw [hw7]
              exact H6.kept (((Below.refl w3.heap.size wd).setCell (by show w3.heap.size ≤ gl; exact y3) _).setCell (by show w3.heap.size ≤ gl; exact y3) _) (Nat.le_refl _)
            have kr7 : Below w2.heap.size w2 w7 := by rw [hw7]; exact (kr6.setCell (by show w2.heap.size ≤ gl; omega) _).setCell (by show w2.heap.size ≤ gl; omega) _
            have hz7 : w4.heap.size ≤ w7.heap.size := by rw [hw7]; simpa using hzd
            rw [← hw7]
            clear hw7 H6 K6 kr6 o6 f6 l6 u0 u1 hzd gd
            obtain ⟨bm, gm, cx3, hAm, lbm, bbm, y1', y2', y3', y4', y5', y6', y7'⟩ := K7.ev_ HV.out (if_pos rfl) (mix_len dblE hx) HLX3.out
            cases hAm
            have zx1 := (kr7.cell (p := ⟨ba, oa + i, none⟩) hba).trans x1
            have zx2 := (kr7.cell (p := ⟨bx, ox + k * 10 + 2, none⟩) hbx).trans t2
            have zx3 := (kr7.cell (p := ⟨bx, ox + k * 10 + 3, none⟩) hbx).trans t3
            have lb1 : ba < w7.heap.size := by have := kr7.size; omega
            have lb2 : bx < w7.heap.size := by have := kr7.size; omega
            go_wp2_with fail
            refine wp_region_calm_tail 27 (by kernel_rfl) (by kernel_rfl) ?_
            simp only [List.take_succ_cons, List.take_zero, List.drop_succ_cons, List.drop_zero]
            repeat (go_big_quiet_step ((go_at_call 25; with_reducible exact calm_call (qd _))))
            refine wpQuiet_nil ?_
            intro we ge
            have H8 := H7.kept ge (by omega)
            have K8 := K7.kept ge hz7
            have kr8 := below_call kr7 ge
            have o8 := own_call y5' ge
            have f8 := o8.frozenAt
            have l8 : gm < we.heap.size := by have := ge.size; omega
            have u2 := (ge.cell (p := ⟨gm, k * 10 + 2, none⟩) y4').trans (y6' 2 _ rfl)
            have u3 := (ge.cell (p := ⟨gm, k * 10 + 3, none⟩) y4').trans (y6' 3 _ rfl)
            have hze : w4.heap.size ≤ we.heap.size := by have := ge.size; omega
            clear H7 K7 kr7 y1' y5' y6' y7' zx1 zx2 zx3 lb1 lb2
            go_wp2_with fail
            obtain ⟨w9, hw9⟩ : ∃ z, z = (we.setCell ⟨gm, k * 10 + 2, none⟩ (.int .i64 (2 * d))).setCell ⟨gm, k * 10 + 3, none⟩ (.int .i64 1) := ⟨_, rfl⟩
            have K9 : CopyAt w9 w3.heap.size w4.heap.size (.slice (some ⟨bl, 0, none⟩) 3 cl) dl S (gs dblE i (k + 1)) := by
              rw [hw9]
              exact K8.put HV.out y2' (fun _ _ _ _ _ _ h hne => st_one _ _ _ _ _ _ (st_one _ _ _ _ _ _ h hne) hne) (by rw [gs_at]; exact dur_row hx _ _ HDBL.out o8) (fun j hj u => (gs_ne dblE hj u).trans (if_neg hj).symm)
            have H9 : CopyAt w9 w2.heap.size w3.heap.size (.slice (some ⟨bu, 0, none⟩) 3 ch) dh S (gs octE i (k + 1)) := by
              rw [hw9]
              exact H8.kept (((Below.refl w3.heap.size we).setCell (by show w3.heap.size ≤ gm; exact y3') _).setCell (by show w3.heap.size ≤ gm; exact y3') _) (Nat.le_refl _)
            have kr9 : Below w2.heap.size w2 w9 := by rw [hw9]; exact (kr8.setCell (by show w2.heap.size ≤ gm; omega) _).setCell (by show w2.heap.size ≤ gm; omega) _
            have hz9 : w4.heap.size ≤ w9.heap.size := by rw [hw9]; simpa using hze
            try rw [← hw9]
            go_roundg g2
            case measure => omega
            case rel => exact ⟨k + 1, by omega, by go_num, H9, K9, kr9, hz9⟩
def laids : List (String × DataW Unit) := Rows.dissonanceMovedRow.laid
theorem door_met (os : Os) (args : Array Value) : laidMetH Tryd.prog laids ((World.doorLaid Tryd.prog 80 os).forCall (fun _ _ => 0) ⟨#[], args, []⟩).memory :=
  laidMetH_of_parts3 (fuel := 8) (laidMet_of_run' 8 (by kernel_rfl) (by kernel_rfl)) (by kernel_rfl) (by kernel_rfl)
theorem tabs_of {W : World} (h : laidMetH Tryd.prog laids W) : Tabs W := by
  rw [MakeChecks.laidMetH_plain _ _ _ (by kernel_rfl)] at h
  exact tabs_of_list h (by kernel_rfl) (by kernel_rfl)
set_option maxRecDepth 100000 in
theorem lifted (os : Os) (started : os.Started) (H : Type) (enc : TypeId × Value → H) :
    ReturnsInHanded {} Tryd.checked os 6 .any (fun w args => (Rows.dissonanceMovedSpec.pre enc Tryd.prog Tryd.f6 [] false w args ∧ laidMetH Tryd.prog laids w) ∧ sizedMet enc Tryd.prog Tryd.f6 (OpenSpec.ofChange Rows.dissonanceMovedSpec) false w args) (Rows.dissonanceMovedSpec.post enc Tryd.prog Tryd.f6 false true false false) := by
  refine returnsInHanded_of_change_and (C := Tryd.checked) (X := fun w _ => laidMetH Tryd.prog laids w) (fun _ _ _ hh h => h.of_heap hh) own started (by kernel_rfl) Tryd.func6
    (ChangeSpec.witness_shaped (enc := enc) (C := Tryd.checked) (os := os) (X := fun w _ => laidMetH Tryd.prog laids w) false (World.doorLaid Tryd.prog 80 os) #[.slice none 0 0] 8 rfl (World.shaped_of_RefB (by kernel_rfl) (by kernel_rfl)) (by kernel_rfl) (by kernel_rfl) (by kernel_rfl) (door_met os _)) ?_
  intro W base args ds gs before hval0 hW _ _ hL _
  have hval : ∀ (j : Nat) t v, Tryd.f6.params[j]? = some t → args[j]? = some v → Value.okWide Tryd.prog W .any base t v := hval0
  have hW' := hW
  obtain ⟨p, q, hA0, hV, rfl, hfz, hnd⟩ := hW
  have hA : DataW.TrodAll enc Tryd.prog W 0 (fun _ => true) true Tryd.f6.params.toList args.toList ds p := hA0
  rw [Tryd.params6] at hA hval
  obtain ⟨v0, vs0, d0, ds0, p0, q0, hargs, rfl, rfl, h0, r0⟩ := trodAll_cons hA
  obtain ⟨rfl, rfl, rfl⟩ := trodAll_nil r0
  obtain rfl : args = #[v0] := by cases args; simp_all
  obtain ⟨rfl, rfl⟩ := trodVars_none hV
  have k0 := h0
  have lt0 : ∀ x ∈ p0, x.block < W.heap.size := by obtain ⟨m, hm⟩ := k0; exact DataW.trod_lt m _ _ _ hm
  obtain ⟨A0, n0, c0, l0, rfl, w0⟩ := arg_ints (hval 0 25 v0 rfl rfl) h0
  clear hA0 hval0
  refine (walk c0 ⟨w0.1, w0.2.1, w0.2.2⟩ (tabs_of hL)).mono fun e W' ⟨he, bel⟩ => ?_
  subst he
  exact ⟨_, rfl, _, _, _, [], _, [], hW', trodAll_mk1 (shut_bool Tryd.underlying4 _), (trodAll_cons_mk (Below.trod laidOut (by kernel_rfl) (of_decide_eq_true (by kernel_rfl)) k0 bel lt0) trodAll_mk0), rfl, bel.frame _, fun h => by cases h⟩

theorem over : Rows.DissonanceMovedSaid :=
  OpenClaim.holds_of_wide 6 Tryd.f6 rfl rfl rfl rfl rfl rfl rfl ⟨rfl, rfl, rfl, rfl, rfl⟩ rfl rfl rfl rfl rfl (by kernel_rfl) Tryd.func6 (by kernel_rfl)
    (of_decide_eq_true (by kernel_rfl)) (by unfold Func.isWrapper; first | (rw [if_pos (by decide +kernel)]; kernel_rfl) | (rw [if_neg (by decide +kernel)]; exact ⟨rfl, rfl⟩))
    (fun os started H enc _ => lifted os started H enc)

/-- The card: the row, its variables tied to the program's text. -/
theorem proved : Rows.DissonanceMovedCardSaid :=
  Claim7.holds_tied_plain_at .later [] [.data, .data] true Rows.dissonanceMovedCard.stood.harness Rows.dissonanceMovedCard.stood.looks
    over (fun _ h => by cases h) (by kernel_rfl) (fun _ h => by cases h) dissonanceMoved_row_tie rfl ⟨rfl, rfl⟩ (by kernel_rfl) rfl
    (fun f fn hf hfn => by
      obtain rfl : f = 6 := Option.some.inj ((show Tryd.prog.funcNamed Tryd.f6.name = some 6 by kernel_rfl).symm.trans hf) |>.symm
      obtain rfl : fn = Tryd.f6 := (Option.some.inj (Tryd.func6.symm.trans hfn)).symm
      exact ⟨by kernel_rfl, fun j t ht => by
        rw [Tryd.params6] at ht
        have hm : t ∈ Tryd.f6.params.toList := by rw [Tryd.params6]; simpa using Array.mem_of_getElem? ht
        have hall : (Tryd.f6.params.toList.all fun u => !Tryd.prog.wantsStandIn u) = true := by kernel_rfl
        exact (show Tryd.prog.wantsStandIn t = false by simpa using List.all_eq_true.1 hall t hm)⟩)
    (by kernel_rfl)

end Go.Proofs.YtmlcnmnpkemdpaaDoor.dissonanceMoved
