/- Cut voices: the program's walk. -/
import Derived.Test.YtiphacmmglohaaaLess
import Derived.BigRegion
namespace Go.Proofs.Ytiphacmmglohaaa
open Go.RowKit
/-- What all orders of a region come to, shown once. -/
structure Shr (G : Prop) : Prop where
  out : G
theorem share {G p : Prop} (k : Shr G → p) (g : G) : p := k ⟨g⟩
theorem both_two {f f' t t' : Int} (h : chk f f' = 0) (h' : chk t t' = 0) : both (f, f') (t, t') = 0 := by unfold both; rw [if_neg (by rw [h]; exact fun h => h rfl)]; exact h'
theorem both_fst {f f' t t' : Int} (h : chk f f' ≠ 0) : both (f, f') (t, t') = chk f f' := by unfold both; rw [if_pos h]
theorem both_snd {f f' t t' : Int} (h : chk f f' = 0) : both (f, f') (t, t') = chk t t' := by unfold both; rw [if_neg (by rw [h]; exact fun h => h rfl)]

set_option maxRecDepth 100000 in
set_option maxHeartbeats 4000000 in
theorem cut_any (A : Option Addr) (n c : Nat) (l : List Ev) (ff tt : Int × Int) (B : Nat) (w : World) (h : Reads w B 10 A n (csE l)) (hB : B ≤ w.heap.size) (hn : n ≤ 4000) :
    Calls Try.prog 17 #[.slice A n c, vTm ff, vTm tt] w fun e w' => ∃ A' c', e = .returned (.tuple #[.slice A' (cutS l ff tt).1.length c', .int .i64 (cutS l ff tt).2]) ∧ OwnE w' w.heap.size (cutS l ff tt).1.length A' c' (cutS l ff tt).1 ∧ Below w.heap.size w w' := by
  obtain ⟨f, f'⟩ := ff
  obtain ⟨t, t'⟩ := tt
  have HL : Hid (l.length = n) := Lib.hid h.evlen
  obtain ⟨i0, hi0, hz0, hz1, hz2⟩ := info_parts event_info
  have rF : Blk ((w.alloc (.cells #[.int .i64 f, .int .i64 f'] 24)).alloc (.cells #[.int .i64 t, .int .i64 t'] 24)) w.heap.size 24 #[.int .i64 f, .int .i64 f'] := (Blk.new _ _ _).alloc _
  have rT : Blk ((w.alloc (.cells #[.int .i64 f, .int .i64 f'] 24)).alloc (.cells #[.int .i64 t, .int .i64 t'] 24)) (w.heap.size + 1) 24 #[.int .i64 t, .int .i64 t'] := Blk.newAt _ _ _ _ (by simp)
  have k0 : Below w.heap.size w ((w.alloc (.cells #[.int .i64 f, .int .i64 f'] 24)).alloc (.cells #[.int .i64 t, .int .i64 t'] 24)) := by repeat (first | exact Below.refl _ _ | refine below_drewN ?_ _ | refine Below.drew ?_ | refine below_alloc ?_ _ | (refine below_call ?_ (by assumption)) | (refine Below.setCell ?_ ?_ _; rotate_left; (simp; try omega)))
  have hc := evEnd_any A n c l B _ (h.below hB k0) (by simp; omega) (by omega)
  obtain ⟨⟨x, x', ee⟩, he⟩ : ∃ y, y = endS l := ⟨_, rfl⟩
  rw [← he] at hc
  by_cases hee : ee = 0
  · subst hee
    have hadd := add_of_end (l := l) (by rw [← he])
    have hE0 : cutS l (f, f') (t, t') = if both (f, f') (t, t') ≠ 0 then ([], both (f, f') (t, t')) else if rangeB l (f, f') (t, t') = true then ([], 2) else if (cutAll (f, f') (t, t') l).2 ≠ 0 then ([], (cutAll (f, f') (t, t') l).2) else chainS (cutAll (f, f') (t, t') l).1 := by rw [cutS_v, ← he, if_neg (fun h => h rfl)]
    have hRB : rangeB l (f, f') (t, t') = (lessB (t, t') (f, f') || lessB (x, x') (t, t')) := by unfold rangeB; rw [← he]
    clear he
    have E0 := Lib.hid hE0; have RB := Lib.hid hRB; have AD := Lib.hid hadd
    clear hE0 hRB hadd
    go_enter Try.func17, Try.ntmps17
    go_wp2_with fail
    refine hc.mono ?_
    rintro e w1 ⟨rfl, hb1⟩
    replace rF := rF.kept hb1
    replace rT := rT.kept hb1
    have cF := rF.cell; have zF := rF.lt; have cT := rT.cell; have zT := rT.lt
    have mF : w.heap.size < w1.heap.size + 1 := by omega
    have mT : w.heap.size + 1 < w1.heap.size + 1 := by omega
    have k1 := below_call k0 hb1
    go_wp2_with fail
    have hsl : Blk ((w1.alloc (.cells #[.int .i64 x, .int .i64 x'] 24)).alloc (.cells #[.int .i64 f, .int .i64 f', .int .i64 t, .int .i64 t'] 24)) (w1.heap.size + 1) 24 #[.int .i64 f, .int .i64 f', .int .i64 t, .int .i64 t'] := Blk.newAt _ _ _ _ (by simp)
    have hen : Blk ((w1.alloc (.cells #[.int .i64 x, .int .i64 x'] 24)).alloc (.cells #[.int .i64 f, .int .i64 f', .int .i64 t, .int .i64 t'] 24)) w1.heap.size 24 #[.int .i64 x, .int .i64 x'] := (Blk.new _ _ _).alloc _
    go_loopw [11, 12, 30] (fun _ _ i wr => ∃ k : Nat, k ≤ 2 ∧ i = .int .i64 k ∧ Hid (1 ≤ k → chk f f' = 0) ∧ Hid (2 ≤ k → chk t t' = 0) ∧ Below w.heap.size w wr ∧ Blk wr w.heap.size 24 #[.int .i64 f, .int .i64 f'] ∧ Blk wr (w.heap.size + 1) 24 #[.int .i64 t, .int .i64 t'] ∧ Blk wr w1.heap.size 24 #[.int .i64 x, .int .i64 x'] ∧ Blk wr (w1.heap.size + 1) 24 #[.int .i64 f, .int .i64 f', .int .i64 t, .int .i64 t']) (fun _ _ i _ => 2 - (intOf i).toNat)
    case atStart => exact ⟨0, by omega, rfl, Lib.hid (fun h => absurd h (by omega)), Lib.hid (fun h => absurd h (by omega)), by repeat (first | with_reducible exact Below.refl _ _ | with_reducible assumption | with_reducible refine below_drewN ?_ _ | with_reducible refine Below.drew ?_ | with_reducible refine below_alloc ?_ _ | (with_reducible refine Below.setCell ?_ ?_ _; rotate_left; ((try simp only); omega))), (rF.alloc _).alloc _, (rT.alloc _).alloc _, hen, hsl⟩
    case round =>
      clear rF rT cF zF cT zT hsl hen
      obtain ⟨k, hk, rfl, g0, g1, k2, rF, rT, rE, rS⟩ := hrel
      have cF := rF.cell; have zF := rF.lt; have cT := rT.cell; have zT := rT.lt; have cS := rS.cell; have zS := rS.lt
      match k, hk with

      | 0, _ =>
        rw [show ((0 : Nat) : Int) = 0 by rfl]
        go_wp2_with (go_at_call 46; refine (check_any _ _ _).mono ?_; rintro e w2 ⟨rfl, hb2⟩; have sF := (rF.alloc _).kept hb2; have sT := (rT.alloc _).kept hb2; have sE := (rE.alloc _).kept hb2; have sS := (rS.alloc _).kept hb2; have k3 := below_call (below_alloc k2 _) hb2)
        · go_ret2
          have h0 : (chk f f' != 0) = true := by assumption
          have h1 : chk f f' ≠ 0 := by simpa using h0
          rw [E0.out, both_fst h1, if_pos h1]
          exact ⟨none, 0, rfl, OwnE.nil_ _ _, k3⟩
        · go_roundw
          case rel =>
            have h0 : (chk f f' != 0) = false := by assumption
            exact ⟨1, by omega, rfl, Lib.hid (fun _ => by simpa using h0), Lib.hid (fun h => absurd h (by omega)), k3, sF, sT, sE, sS⟩
          case measure => simp [intOf]
      | 1, _ =>
        rw [show ((1 : Nat) : Int) = 1 by rfl]
        have G0 := Lib.hid (g0.out (by omega))
        go_wp2_with (go_at_call 46; refine (check_any _ _ _).mono ?_; rintro e w2 ⟨rfl, hb2⟩; have sF := (rF.alloc _).kept hb2; have sT := (rT.alloc _).kept hb2; have sE := (rE.alloc _).kept hb2; have sS := (rS.alloc _).kept hb2; have k3 := below_call (below_alloc k2 _) hb2)
        · go_ret2
          have h0 : (chk t t' != 0) = true := by assumption
          have h1 : chk t t' ≠ 0 := by simpa using h0
          rw [E0.out, both_snd G0.out, if_pos h1]
          exact ⟨none, 0, rfl, OwnE.nil_ _ _, k3⟩
        · go_roundw
          case rel =>
            have h0 : (chk t t' != 0) = false := by assumption
            exact ⟨2, by omega, rfl, Lib.hid (fun _ => G0.out), Lib.hid (fun _ => by simpa using h0), k3, sF, sT, sE, sS⟩
          case measure => simp [intOf]
      | 2, _ =>
        rw [show ((2 : Nat) : Int) = 2 by rfl]
        have B0 := Lib.hid (both_two (g0.out (by omega)) (g1.out (by omega)))
        have hE1 := E0.out
        rw [B0.out, if_neg (fun h => h rfl), RB.out] at hE1
        have E1 := Lib.hid hE1; clear hE1 E0 B0 g0 g1 RB cS zS rS
        have cE := rE.cell; have zE := rE.lt
        obtain ⟨b1, hb1'⟩ : ∃ b, b = lessB (t, t') (f, f') := ⟨_, rfl⟩
        have h1 := less_any (t, t') (f, f')
        rw [← hb1'] at h1
        obtain ⟨b2, hb2'⟩ : ∃ b, b = lessB (x, x') (t, t') := ⟨_, rfl⟩
        have h2 := less_any (x, x') (t, t')
        rw [← hb2'] at h2
        have hE1 := E1.out
        rw [← hb1', ← hb2'] at hE1
        clear hb1' hb2' E1
        have H1 := Lib.hid h1; have H2 := Lib.hid h2; clear h1 h2
        cases b1 with
        | true =>
          have E := Lib.hid hE1; clear hE1
          go_wp2_with (go_at_call 47; refine (H1.out _).mono ?_; rintro e w2 ⟨rfl, hb2⟩)
          go_ret2
          rw [E.out]
          exact ⟨none, 0, rfl, OwnE.nil_ _ _, below_call k2 hb2⟩
        | false =>
          cases b2 with
          | true =>
            have E := Lib.hid hE1; clear hE1
            go_wp2_with (first | (go_at_call 47; refine (H1.out _).mono ?_; rintro e w2 ⟨rfl, hb2⟩; replace rT := rT.kept hb2; replace rE := rE.kept hb2; replace cT := rT.cell; replace cE := rE.cell; replace zT := rT.lt; replace zE := rE.lt; replace k2 := below_call k2 hb2; clear hb2 H1 cF zF rF) | (go_at_call 47; refine (H2.out _).mono ?_; rintro e w3 ⟨rfl, hb3⟩))
            go_ret2
            rw [E.out]
            exact ⟨none, 0, rfl, OwnE.nil_ _ _, below_call k2 hb3⟩
          | false =>
            rw [if_neg (by simp)] at hE1
            have E := Lib.hid hE1; clear hE1
            go_wp2_with (first | (go_at_call 47; refine (H1.out _).mono ?_; rintro e w2 ⟨rfl, hb2⟩; replace rT := rT.kept hb2; replace rE := rE.kept hb2; replace rF := rF.kept hb2; replace cT := rT.cell; replace cE := rE.cell; replace zT := rT.lt; replace zE := rE.lt; replace k2 := below_call k2 hb2; clear hb2 H1 cF zF) | (go_at_call 47; refine (H2.out _).mono ?_; rintro e w3 ⟨rfl, hb3⟩; replace rT := rT.kept hb3; replace rF := rF.kept hb3; replace k2 := below_call k2 hb3; clear hb3 H2 cT zT cE zE rE))
            clear k0 k1
            go_loopw [9, 13, 15, 16, 17, 50] (fun _ v _ _ _ i wr => ∃ (k : Nat) (done : List Ev), k ≤ n ∧ i = .int .i64 k ∧ done.length ≤ k ∧ Hid (cutAt (f, f') (t, t') done (l.drop k) = cutAll (f, f') (t, t') l) ∧ wr.ownsRow (w.heap.size + 1 + 1) 59 10 v done.length (csE done) ∧ Below w.heap.size w wr ∧ Blk wr w.heap.size 24 #[.int .i64 f, .int .i64 f'] ∧ Blk wr (w.heap.size + 1) 24 #[.int .i64 t, .int .i64 t']) (fun _ _ _ _ _ i _ => n - (intOf i).toNat)
            case atStart => exact ⟨0, [], by omega, rfl, by simp, Lib.hid (cutAt_nil _ _ _), ⟨rfl, .inl ⟨rfl, rfl⟩⟩, k2, rF, rT⟩
            case round =>
              clear rF rT k2
              obtain ⟨k, done, hk, rfl, hdn, hs, hown, k0, rF0, rT0⟩ := hrel
              by_cases hlt : k < n
              · have hlt' : (k : Int) < (n : Int) := by omega
                obtain ⟨A3, c3, rfl, hown3⟩ := ownE_form hown
                clear hown3
                obtain ⟨x, hx⟩ := get_some (l := l) (k := k) (by have := HL.out; omega)
                have HD := Lib.hid (drop_get hx)
                obtain ⟨b, off, rfl, hab, hcl⟩ := h.ev hB k0 hlt hx
                have hy := AD.out x (List.mem_of_getElem? hx)
                obtain ⟨⟨a, a'⟩, ⟨d, d'⟩, ⟨p, q, r⟩, rst, sg, ps⟩ := x
                obtain ⟨c0, c1, c2, c3, c4, c5, c6, c7, c8, c9⟩ := ten hcl
                clear hcl hx
                simp only at c0 c1 c2 c3 c4 c5 c6 c7 c8 c9 hy
                obtain ⟨⟨y, y', ye⟩, hY'⟩ : ∃ z, z = addS (a, a') (d, d') := ⟨_, rfl⟩
                rw [← hY'] at hy
                simp only at hy
                subst hy
                have hY := hY'.symm; clear hY'
                have zF0 := rF0.lt; have zT0 := rT0.lt
                go_wp2_with fail
                apply share
                · intro main
                  go_region
                  all_goals
                    have hBx : Below wr.heap.size wr ((((wr.alloc (.cells #[.int .i64 a, .int .i64 a', .int .i64 d, .int .i64 d', .int .i64 p, .int .i64 q, .int .i64 r, .bool rst, .int .i64 sg, .int .i64 ps] 59)).alloc (.cells #[.int .i64 a, .int .i64 a'] 24)).alloc (.cells #[.int .i64 a, .int .i64 a'] 24)).drew) := by repeat (first | with_reducible exact Below.refl _ _ | with_reducible assumption | with_reducible refine below_drewN ?_ _ | with_reducible refine Below.drew ?_ | with_reducible refine below_alloc ?_ _ | (with_reducible refine Below.setCell ?_ ?_ _; rotate_left; ((try simp only); omega)))
                    have hXx : Blk ((((wr.alloc (.cells #[.int .i64 a, .int .i64 a', .int .i64 d, .int .i64 d', .int .i64 p, .int .i64 q, .int .i64 r, .bool rst, .int .i64 sg, .int .i64 ps] 59)).alloc (.cells #[.int .i64 a, .int .i64 a'] 24)).alloc (.cells #[.int .i64 a, .int .i64 a'] 24)).drew) wr.heap.size 59 #[.int .i64 a, .int .i64 a', .int .i64 d, .int .i64 d', .int .i64 p, .int .i64 q, .int .i64 r, .bool rst, .int .i64 sg, .int .i64 ps] := by repeat (first | with_reducible exact rfl | with_reducible exact Blk.new _ _ _ | (with_reducible refine Blk.newAt _ _ _ _ ?_; first | rfl | (simp; done)) | with_reducible apply Blk.alloc | with_reducible apply Blk.drewN | with_reducible apply Blk.drew | with_reducible apply Blk.set_to | (with_reducible apply Blk.far_; (simp only [ne_eq]; omega)) | rfl)
                    have h1x : Blk ((((wr.alloc (.cells #[.int .i64 a, .int .i64 a', .int .i64 d, .int .i64 d', .int .i64 p, .int .i64 q, .int .i64 r, .bool rst, .int .i64 sg, .int .i64 ps] 59)).alloc (.cells #[.int .i64 a, .int .i64 a'] 24)).alloc (.cells #[.int .i64 a, .int .i64 a'] 24)).drew) (wr.heap.size + 1) 24 #[.int .i64 a, .int .i64 a'] := Blk.drew (Blk.alloc (Blk.newAt _ _ _ _ (by simp)) _)
                    have h2x : Blk ((((wr.alloc (.cells #[.int .i64 a, .int .i64 a', .int .i64 d, .int .i64 d', .int .i64 p, .int .i64 q, .int .i64 r, .bool rst, .int .i64 sg, .int .i64 ps] 59)).alloc (.cells #[.int .i64 a, .int .i64 a'] 24)).alloc (.cells #[.int .i64 a, .int .i64 a'] 24)).drew) (wr.heap.size + 1 + 1) 24 #[.int .i64 a, .int .i64 a'] := Blk.drew (Blk.newAt _ _ _ _ (by simp))
                    have hne : wr.heap.size + 1 ≠ wr.heap.size + 1 + 1 := by omega
                    have hne' : wr.heap.size + 1 + 1 ≠ wr.heap.size + 1 := by omega
                    have hl1 : wr.heap.size < wr.heap.size + 1 := by omega
                    have hl2 : wr.heap.size < wr.heap.size + 1 + 1 := by omega
                    generalize (((wr.alloc (.cells #[.int .i64 a, .int .i64 a', .int .i64 d, .int .i64 d', .int .i64 p, .int .i64 q, .int .i64 r, .bool rst, .int .i64 sg, .int .i64 ps] 59)).alloc (.cells #[.int .i64 a, .int .i64 a'] 24)).alloc (.cells #[.int .i64 a, .int .i64 a'] 24)).drew = wv at hBx hXx h1x h2x ⊢
                    generalize wr.heap.size + 1 + 1 = g2 at h2x hne hne' hl2 ⊢
                    generalize wr.heap.size + 1 = g1 at h1x hne hne' hl1 ⊢
                    first
                      | (revert hl2; revert hl1; revert hne'; revert hne; revert h2x; revert h1x; revert hXx; revert hBx; revert g2; revert g1; revert wv; exact main.out)
                      | (revert hl1; revert hl2; revert hne; revert hne'; revert h1x; revert h2x; revert hXx; revert hBx; revert g1; revert g2; revert wv; exact main.out)
                intro wv gA gQ K rX rA rQ nAQ nQA nA nQ
                have nXA : wr.heap.size ≠ gA := by omega
                have nXQ : wr.heap.size ≠ gQ := by omega
                have nAX : gA ≠ wr.heap.size := by omega
                have nQX : gQ ≠ wr.heap.size := by omega
                have nFA : w.heap.size ≠ gA := by omega
                have nFQ : w.heap.size ≠ gQ := by omega
                have nFX : w.heap.size ≠ wr.heap.size := by omega
                have nTA : w.heap.size + 1 ≠ gA := by omega
                have nTQ : w.heap.size + 1 ≠ gQ := by omega
                have nTX : w.heap.size + 1 ≠ wr.heap.size := by omega
                clear c0 c1 c2 c3 c4 c5 c6 c7 c8 c9
                have lA : wr.heap.size ≤ gA := by omega
                have lQ : wr.heap.size ≤ gQ := by omega
                have cX := rX.cell; have zX := rX.lt; have fX := rX.frozen
                have cA := rA.cell; have zA := rA.lt; have fA := rA.frozen
                have cQ := rQ.cell; have zQ := rQ.lt; have fQ := rQ.frozen
                have rF := rF0.kept K; have cF := rF.cell; have zF := rF.lt
                have rT := rT0.kept K; have cT := rT.cell; have zT := rT.lt
                by_cases hp : lessB (a, a') (f, f') = true
                · by_cases hq : lessB (t, t') (y, y') = true
                  · skip
                    have hfr : fromS (f, f') ⟨(a, a'), (d, d'), (p, q, r), rst, sg, ps⟩ = (f, f') := by unfold fromS; rw [if_pos hp]
                    have hto : toS (t, t') ⟨(a, a'), (d, d'), (p, q, r), rst, sg, ps⟩ = (t, t') := by unfold toS nextS; simp only [hY]; rw [if_pos hq]
                    have hone := cutOne_v (f, f') (t, t') ⟨(a, a'), (d, d'), (p, q, r), rst, sg, ps⟩
                    rw [hfr, hto] at hone
                    clear hfr hto
                    have hA := add_any (a, a') (d, d')
                    rw [hY] at hA
                    have h1 := less_any (a, a') (f, f')
                    rw [hp] at h1
                    have h2 := less_any (t, t') (y, y')
                    rw [hq] at h2
                    obtain ⟨bb, hbb⟩ : ∃ bb, bb = lessB (f, f') (t, t') := ⟨_, rfl⟩
                    have h3 := less_any (f, f') (t, t')
                    rw [← hbb] at h3 hone
                    obtain ⟨⟨s, s', se⟩, hS⟩ : ∃ z, z = subS (t, t') (f, f') := ⟨_, rfl⟩
                    have h4 := sub_any (t, t') (f, f')
                    rw [← hS] at h4 hone
                    clear hbb hS hY hp hq
                    have O := Lib.hid hone; have HA := Lib.hid hA; have H1 := Lib.hid h1; have H2 := Lib.hid h2; have H3 := Lib.hid h3; have H4 := Lib.hid h4
                    clear hone hA h1 h2 h3 h4
                    go_wp2_with fail
                    refine (HA.out _).mono ?_
                    rintro e w1 ⟨rfl, hb1⟩
                    replace rX : Blk w1 (wr.heap.size) 59 #[.int .i64 a, .int .i64 a', .int .i64 d, .int .i64 d', .int .i64 p, .int .i64 q, .int .i64 r, .bool rst, .int .i64 sg, .int .i64 ps] := Blk.kept (by repeat (first | with_reducible exact rX | with_reducible exact Blk.new _ _ _ | (with_reducible refine Blk.newAt _ _ _ _ ?_; first | rfl | (simp; done)) | with_reducible apply Blk.alloc | with_reducible apply Blk.drewN | with_reducible apply Blk.drew | with_reducible apply Blk.set_to | (with_reducible apply Blk.far_; (simp only [ne_eq]; omega)) | rfl)) hb1
                    replace rA : Blk w1 (gA) 24 #[.int .i64 a, .int .i64 a'] := Blk.kept (by repeat (first | with_reducible exact rA | with_reducible exact Blk.new _ _ _ | (with_reducible refine Blk.newAt _ _ _ _ ?_; first | rfl | (simp; done)) | with_reducible apply Blk.alloc | with_reducible apply Blk.drewN | with_reducible apply Blk.drew | with_reducible apply Blk.set_to | (with_reducible apply Blk.far_; (simp only [ne_eq]; omega)) | rfl)) hb1
                    replace rQ : Blk w1 (gQ) 24 #[.int .i64 a, .int .i64 a'] := Blk.kept (by repeat (first | with_reducible exact rQ | with_reducible exact Blk.new _ _ _ | (with_reducible refine Blk.newAt _ _ _ _ ?_; first | rfl | (simp; done)) | with_reducible apply Blk.alloc | with_reducible apply Blk.drewN | with_reducible apply Blk.drew | with_reducible apply Blk.set_to | (with_reducible apply Blk.far_; (simp only [ne_eq]; omega)) | rfl)) hb1
                    replace K : Below wr.heap.size wr w1 := below_call (by repeat (first | with_reducible exact Below.refl _ _ | with_reducible assumption | with_reducible refine below_drewN ?_ _ | with_reducible refine Below.drew ?_ | with_reducible refine below_alloc ?_ _ | (with_reducible refine Below.setCell ?_ ?_ _; rotate_left; ((try simp only); omega)))) hb1
                    clear hb1
                    replace cX := rX.cell; replace zX := rX.lt; replace fX := rX.frozen
                    replace cA := rA.cell; replace zA := rA.lt; replace fA := rA.frozen
                    replace cQ := rQ.cell; replace zQ := rQ.lt; replace fQ := rQ.frozen
                    replace rF := rF0.kept K; replace cF := rF.cell; replace zF := rF.lt
                    replace rT := rT0.kept K; replace cT := rT.cell; replace zT := rT.lt
                    go_wp2_with fail
                    refine (H1.out _).mono ?_
                    rintro e w2 ⟨rfl, hb2⟩
                    replace rX : Blk w2 (wr.heap.size) 59 #[.int .i64 a, .int .i64 a', .int .i64 d, .int .i64 d', .int .i64 p, .int .i64 q, .int .i64 r, .bool rst, .int .i64 sg, .int .i64 ps] := Blk.kept (by repeat (first | with_reducible exact rX | with_reducible exact Blk.new _ _ _ | (with_reducible refine Blk.newAt _ _ _ _ ?_; first | rfl | (simp; done)) | with_reducible apply Blk.alloc | with_reducible apply Blk.drewN | with_reducible apply Blk.drew | with_reducible apply Blk.set_to | (with_reducible apply Blk.far_; (simp only [ne_eq]; omega)) | rfl)) hb2
                    replace rA : Blk w2 (gA) 24 #[.int .i64 a, .int .i64 a'] := Blk.kept (by repeat (first | with_reducible exact rA | with_reducible exact Blk.new _ _ _ | (with_reducible refine Blk.newAt _ _ _ _ ?_; first | rfl | (simp; done)) | with_reducible apply Blk.alloc | with_reducible apply Blk.drewN | with_reducible apply Blk.drew | with_reducible apply Blk.set_to | (with_reducible apply Blk.far_; (simp only [ne_eq]; omega)) | rfl)) hb2
                    replace rQ : Blk w2 (gQ) 24 #[.int .i64 y, .int .i64 y'] := Blk.kept (by repeat (first | with_reducible exact rQ | with_reducible exact Blk.new _ _ _ | (with_reducible refine Blk.newAt _ _ _ _ ?_; first | rfl | (simp; done)) | with_reducible apply Blk.alloc | with_reducible apply Blk.drewN | with_reducible apply Blk.drew | with_reducible apply Blk.set_to | (with_reducible apply Blk.far_; (simp only [ne_eq]; omega)) | rfl)) hb2
                    replace K : Below wr.heap.size wr w2 := below_call (by repeat (first | with_reducible exact Below.refl _ _ | with_reducible assumption | with_reducible refine below_drewN ?_ _ | with_reducible refine Below.drew ?_ | with_reducible refine below_alloc ?_ _ | (with_reducible refine Below.setCell ?_ ?_ _; rotate_left; ((try simp only); omega)))) hb2
                    clear hb2
                    replace cX := rX.cell; replace zX := rX.lt; replace fX := rX.frozen
                    replace cA := rA.cell; replace zA := rA.lt; replace fA := rA.frozen
                    replace cQ := rQ.cell; replace zQ := rQ.lt; replace fQ := rQ.frozen
                    replace rF := rF0.kept K; replace cF := rF.cell; replace zF := rF.lt
                    replace rT := rT0.kept K; replace cT := rT.cell; replace zT := rT.lt
                    go_wp2_with fail
                    refine (H2.out _).mono ?_
                    rintro e w3 ⟨rfl, hb3⟩
                    replace rX : Blk w3 (wr.heap.size) 59 #[.int .i64 a, .int .i64 a', .int .i64 d, .int .i64 d', .int .i64 p, .int .i64 q, .int .i64 r, .bool rst, .int .i64 sg, .int .i64 ps] := Blk.kept (by repeat (first | with_reducible exact rX | with_reducible exact Blk.new _ _ _ | (with_reducible refine Blk.newAt _ _ _ _ ?_; first | rfl | (simp; done)) | with_reducible apply Blk.alloc | with_reducible apply Blk.drewN | with_reducible apply Blk.drew | with_reducible apply Blk.set_to | (with_reducible apply Blk.far_; (simp only [ne_eq]; omega)) | rfl)) hb3
                    replace rA : Blk w3 (gA) 24 #[.int .i64 f, .int .i64 f'] := Blk.kept (by repeat (first | with_reducible exact rA | with_reducible exact Blk.new _ _ _ | (with_reducible refine Blk.newAt _ _ _ _ ?_; first | rfl | (simp; done)) | with_reducible apply Blk.alloc | with_reducible apply Blk.drewN | with_reducible apply Blk.drew | with_reducible apply Blk.set_to | (with_reducible apply Blk.far_; (simp only [ne_eq]; omega)) | rfl)) hb3
                    replace rQ : Blk w3 (gQ) 24 #[.int .i64 y, .int .i64 y'] := Blk.kept (by repeat (first | with_reducible exact rQ | with_reducible exact Blk.new _ _ _ | (with_reducible refine Blk.newAt _ _ _ _ ?_; first | rfl | (simp; done)) | with_reducible apply Blk.alloc | with_reducible apply Blk.drewN | with_reducible apply Blk.drew | with_reducible apply Blk.set_to | (with_reducible apply Blk.far_; (simp only [ne_eq]; omega)) | rfl)) hb3
                    replace K : Below wr.heap.size wr w3 := below_call (by repeat (first | with_reducible exact Below.refl _ _ | with_reducible assumption | with_reducible refine below_drewN ?_ _ | with_reducible refine Below.drew ?_ | with_reducible refine below_alloc ?_ _ | (with_reducible refine Below.setCell ?_ ?_ _; rotate_left; ((try simp only); omega)))) hb3
                    clear hb3
                    replace cX := rX.cell; replace zX := rX.lt; replace fX := rX.frozen
                    replace cA := rA.cell; replace zA := rA.lt; replace fA := rA.frozen
                    replace cQ := rQ.cell; replace zQ := rQ.lt; replace fQ := rQ.frozen
                    replace rF := rF0.kept K; replace cF := rF.cell; replace zF := rF.lt
                    replace rT := rT0.kept K; replace cT := rT.cell; replace zT := rT.lt
                    go_wp2_with fail
                    refine (H3.out _).mono ?_
                    rintro e w4 ⟨rfl, hb4⟩
                    replace rX : Blk w4 (wr.heap.size) 59 #[.int .i64 a, .int .i64 a', .int .i64 d, .int .i64 d', .int .i64 p, .int .i64 q, .int .i64 r, .bool rst, .int .i64 sg, .int .i64 ps] := Blk.kept (by repeat (first | with_reducible exact rX | with_reducible exact Blk.new _ _ _ | (with_reducible refine Blk.newAt _ _ _ _ ?_; first | rfl | (simp; done)) | with_reducible apply Blk.alloc | with_reducible apply Blk.drewN | with_reducible apply Blk.drew | with_reducible apply Blk.set_to | (with_reducible apply Blk.far_; (simp only [ne_eq]; omega)) | rfl)) hb4
                    replace rA : Blk w4 (gA) 24 #[.int .i64 f, .int .i64 f'] := Blk.kept (by repeat (first | with_reducible exact rA | with_reducible exact Blk.new _ _ _ | (with_reducible refine Blk.newAt _ _ _ _ ?_; first | rfl | (simp; done)) | with_reducible apply Blk.alloc | with_reducible apply Blk.drewN | with_reducible apply Blk.drew | with_reducible apply Blk.set_to | (with_reducible apply Blk.far_; (simp only [ne_eq]; omega)) | rfl)) hb4
                    replace rQ : Blk w4 (gQ) 24 #[.int .i64 t, .int .i64 t'] := Blk.kept (by repeat (first | with_reducible exact rQ | with_reducible exact Blk.new _ _ _ | (with_reducible refine Blk.newAt _ _ _ _ ?_; first | rfl | (simp; done)) | with_reducible apply Blk.alloc | with_reducible apply Blk.drewN | with_reducible apply Blk.drew | with_reducible apply Blk.set_to | (with_reducible apply Blk.far_; (simp only [ne_eq]; omega)) | rfl)) hb4
                    replace K : Below wr.heap.size wr w4 := below_call (by repeat (first | with_reducible exact Below.refl _ _ | with_reducible assumption | with_reducible refine below_drewN ?_ _ | with_reducible refine Below.drew ?_ | with_reducible refine below_alloc ?_ _ | (with_reducible refine Below.setCell ?_ ?_ _; rotate_left; ((try simp only); omega)))) hb4
                    clear hb4
                    replace cX := rX.cell; replace zX := rX.lt; replace fX := rX.frozen
                    replace cA := rA.cell; replace zA := rA.lt; replace fA := rA.frozen
                    replace cQ := rQ.cell; replace zQ := rQ.lt; replace fQ := rQ.frozen
                    replace rF := rF0.kept K; replace cF := rF.cell; replace zF := rF.lt
                    replace rT := rT0.kept K; replace cT := rT.cell; replace zT := rT.lt
                    cases bb with
                    | false =>
                      go_wp2_with fail
                      go_roundw
                      case rel =>
                        refine ⟨k + 1, done, by omega, by go_num, by omega, ?_, own_call hown K, below_call k0 K, rF, rT⟩
                        have hr := hs.out
                        have ho := O.out
                        rw [if_neg (by simp)] at ho
                        rw [HD.out, cutAt_ok _ _ _ _ _ (by rw [ho]), ho, List.append_nil] at hr
                        exact Lib.hid hr
                      case measure => simp [intOf]; omega
                    | true =>
                      go_wp2_with fail
                      refine (H4.out _).mono ?_
                      rintro e w5 ⟨rfl, hb5⟩
                      replace rX : Blk w5 (wr.heap.size) 59 #[.int .i64 a, .int .i64 a', .int .i64 d, .int .i64 d', .int .i64 p, .int .i64 q, .int .i64 r, .bool rst, .int .i64 sg, .int .i64 ps] := Blk.kept (by repeat (first | with_reducible exact rX | with_reducible exact Blk.new _ _ _ | (with_reducible refine Blk.newAt _ _ _ _ ?_; first | rfl | (simp; done)) | with_reducible apply Blk.alloc | with_reducible apply Blk.drewN | with_reducible apply Blk.drew | with_reducible apply Blk.set_to | (with_reducible apply Blk.far_; (simp only [ne_eq]; omega)) | rfl)) hb5
                      replace rA : Blk w5 (gA) 24 #[.int .i64 f, .int .i64 f'] := Blk.kept (by repeat (first | with_reducible exact rA | with_reducible exact Blk.new _ _ _ | (with_reducible refine Blk.newAt _ _ _ _ ?_; first | rfl | (simp; done)) | with_reducible apply Blk.alloc | with_reducible apply Blk.drewN | with_reducible apply Blk.drew | with_reducible apply Blk.set_to | (with_reducible apply Blk.far_; (simp only [ne_eq]; omega)) | rfl)) hb5
                      replace rQ : Blk w5 (gQ) 24 #[.int .i64 t, .int .i64 t'] := Blk.kept (by repeat (first | with_reducible exact rQ | with_reducible exact Blk.new _ _ _ | (with_reducible refine Blk.newAt _ _ _ _ ?_; first | rfl | (simp; done)) | with_reducible apply Blk.alloc | with_reducible apply Blk.drewN | with_reducible apply Blk.drew | with_reducible apply Blk.set_to | (with_reducible apply Blk.far_; (simp only [ne_eq]; omega)) | rfl)) hb5
                      replace K : Below wr.heap.size wr w5 := below_call (by repeat (first | with_reducible exact Below.refl _ _ | with_reducible assumption | with_reducible refine below_drewN ?_ _ | with_reducible refine Below.drew ?_ | with_reducible refine below_alloc ?_ _ | (with_reducible refine Below.setCell ?_ ?_ _; rotate_left; ((try simp only); omega)))) hb5
                      clear hb5
                      replace cX := rX.cell; replace zX := rX.lt; replace fX := rX.frozen
                      replace cA := rA.cell; replace zA := rA.lt; replace fA := rA.frozen
                      replace cQ := rQ.cell; replace zQ := rQ.lt; replace fQ := rQ.frozen
                      replace rF := rF0.kept K; replace cF := rF.cell; replace zF := rF.lt
                      replace rT := rT0.kept K; replace cT := rT.cell; replace zT := rT.lt
                      have ho := O.out
                      rw [if_pos (by simp)] at ho
                      by_cases hse : se = 0
                      · subst hse
                        rw [if_neg (fun h => h rfl)] at ho
                        have O2 := Lib.hid ho; clear ho
                        have K2 : Below wr.heap.size wr (((w5.setCell ⟨wr.heap.size, 2, none⟩ (.int .i64 s)).setCell ⟨wr.heap.size, 3, none⟩ (.int .i64 s')).alloc (.cells #[.int .i64 a, .int .i64 a', .int .i64 s, .int .i64 s', .int .i64 p, .int .i64 q, .int .i64 r, .bool rst, .int .i64 sg, .int .i64 ps] 59)) := by repeat (first | with_reducible exact Below.refl _ _ | with_reducible assumption | with_reducible refine below_drewN ?_ _ | with_reducible refine Below.drew ?_ | with_reducible refine below_alloc ?_ _ | (with_reducible refine Below.setCell ?_ ?_ _; rotate_left; ((try simp only); omega)))
                        have rX2 : Blk ((w5.setCell ⟨wr.heap.size, 2, none⟩ (.int .i64 s)).setCell ⟨wr.heap.size, 3, none⟩ (.int .i64 s')) wr.heap.size 59 #[.int .i64 a, .int .i64 a', .int .i64 s, .int .i64 s', .int .i64 p, .int .i64 q, .int .i64 r, .bool rst, .int .i64 sg, .int .i64 ps] := by repeat (first | with_reducible exact rX | with_reducible exact Blk.new _ _ _ | (with_reducible refine Blk.newAt _ _ _ _ ?_; first | rfl | (simp; done)) | with_reducible apply Blk.alloc | with_reducible apply Blk.drewN | with_reducible apply Blk.drew | with_reducible apply Blk.set_to | (with_reducible apply Blk.far_; (simp only [ne_eq]; omega)) | rfl)
                        have hw5 : Hid (w5.heap.size = ((w5.setCell ⟨wr.heap.size, 2, none⟩ (.int .i64 s)).setCell ⟨wr.heap.size, 3, none⟩ (.int .i64 s')).heap.size) := Lib.hid (by simp [World.setCell])
                        go_wp2_with (at_builtin; (refine wpList_append_any _ rfl (.tmp 91) (.tmp 93) 22 rfl (w.heap.size + 1 + 1) 59 i0 _ 10 80 Try.underlying22 hi0 hz0 hz1 hz2 rfl (by omega) (.slice A3 done.length c3) done.length (csE done) rfl (own_call hown K2) (w5.heap.size + 1) (some ⟨w5.heap.size, 0, none⟩) 1 1 (csE [⟨(a, a'), (s, s'), (p, q, r), rst, sg, ps⟩]) rfl (Reads.newAt _ _ _ 1 10 _ hw5.out rfl) (one_csE _) (by simp only [maxLen]; omega) (by omega) (by have := K2.size; have := k0.size; omega) ?_); intro v6 w6 hown6 hg6 hat6)
                        go_roundw
                        case rel =>
                          have K6 : Below w.heap.size w w6 := (below_call k0 K2).grown hg6 (by have := K2.size; have := k0.size; omega) (fun j hj => by have := (hown.lt j hj).1; omega)
                          have nF : some w.heap.size ≠ (Value.slice A3 done.length c3).ownBlock := fun e => by have := (hown.lt _ e.symm).1; omega
                          have nT : some (w.heap.size + 1) ≠ (Value.slice A3 done.length c3).ownBlock := fun e => by have := (hown.lt _ e.symm).1; omega
                          refine ⟨k + 1, done ++ [⟨(a, a'), (s, s'), (p, q, r), rst, sg, ps⟩], by omega, by go_num, by simp; omega, ?_, ?_, K6, Blk.grown_ (rF0.kept K2) hg6 nF, Blk.grown_ (rT0.kept K2) hg6 nT⟩
                          · have hr := hs.out
                            rw [HD.out, cutAt_ok _ _ _ _ _ (by rw [O2.out]), O2.out] at hr
                            exact Lib.hid hr
                          · rw [csE_append, List.length_append]
                            exact hown6
                        case measure => simp [intOf]; omega
                      · have hse' : (se != 0) = true := by simpa using hse
                        rw [if_pos hse] at ho
                        have O2 := Lib.hid ho; clear ho hse
                        go_wp2_with fail
                        go_ret2
                        have hr := hs.out
                        have hse : se ≠ 0 := by simpa using hse'
                        rw [HD.out, cutAt_bad _ _ _ _ _ (by rw [O2.out]; exact hse), O2.out] at hr
                        have e1 : cutS l (f, f') (t, t') = ([], se) := by rw [E.out, ← hr, if_pos hse]
                        rw [e1]
                        exact ⟨none, 0, rfl, OwnE.nil_ _ _, below_call k0 (by repeat (first | with_reducible exact Below.refl _ _ | with_reducible assumption | with_reducible refine below_drewN ?_ _ | with_reducible refine Below.drew ?_ | with_reducible refine below_alloc ?_ _ | (with_reducible refine Below.setCell ?_ ?_ _; rotate_left; ((try simp only); omega))))⟩
                  · replace hq : lessB (t, t') (y, y') = false := by simpa using hq
                    have hfr : fromS (f, f') ⟨(a, a'), (d, d'), (p, q, r), rst, sg, ps⟩ = (f, f') := by unfold fromS; rw [if_pos hp]
                    have hto : toS (t, t') ⟨(a, a'), (d, d'), (p, q, r), rst, sg, ps⟩ = (y, y') := by unfold toS nextS; simp only [hY]; rw [if_neg (by rw [hq]; simp)]
                    have hone := cutOne_v (f, f') (t, t') ⟨(a, a'), (d, d'), (p, q, r), rst, sg, ps⟩
                    rw [hfr, hto] at hone
                    clear hfr hto
                    have hA := add_any (a, a') (d, d')
                    rw [hY] at hA
                    have h1 := less_any (a, a') (f, f')
                    rw [hp] at h1
                    have h2 := less_any (t, t') (y, y')
                    rw [hq] at h2
                    obtain ⟨bb, hbb⟩ : ∃ bb, bb = lessB (f, f') (y, y') := ⟨_, rfl⟩
                    have h3 := less_any (f, f') (y, y')
                    rw [← hbb] at h3 hone
                    obtain ⟨⟨s, s', se⟩, hS⟩ : ∃ z, z = subS (y, y') (f, f') := ⟨_, rfl⟩
                    have h4 := sub_any (y, y') (f, f')
                    rw [← hS] at h4 hone
                    clear hbb hS hY hp hq
                    have O := Lib.hid hone; have HA := Lib.hid hA; have H1 := Lib.hid h1; have H2 := Lib.hid h2; have H3 := Lib.hid h3; have H4 := Lib.hid h4
                    clear hone hA h1 h2 h3 h4
                    go_wp2_with fail
                    refine (HA.out _).mono ?_
                    rintro e w1 ⟨rfl, hb1⟩
                    replace rX : Blk w1 (wr.heap.size) 59 #[.int .i64 a, .int .i64 a', .int .i64 d, .int .i64 d', .int .i64 p, .int .i64 q, .int .i64 r, .bool rst, .int .i64 sg, .int .i64 ps] := Blk.kept (by repeat (first | with_reducible exact rX | with_reducible exact Blk.new _ _ _ | (with_reducible refine Blk.newAt _ _ _ _ ?_; first | rfl | (simp; done)) | with_reducible apply Blk.alloc | with_reducible apply Blk.drewN | with_reducible apply Blk.drew | with_reducible apply Blk.set_to | (with_reducible apply Blk.far_; (simp only [ne_eq]; omega)) | rfl)) hb1
                    replace rA : Blk w1 (gA) 24 #[.int .i64 a, .int .i64 a'] := Blk.kept (by repeat (first | with_reducible exact rA | with_reducible exact Blk.new _ _ _ | (with_reducible refine Blk.newAt _ _ _ _ ?_; first | rfl | (simp; done)) | with_reducible apply Blk.alloc | with_reducible apply Blk.drewN | with_reducible apply Blk.drew | with_reducible apply Blk.set_to | (with_reducible apply Blk.far_; (simp only [ne_eq]; omega)) | rfl)) hb1
                    replace rQ : Blk w1 (gQ) 24 #[.int .i64 a, .int .i64 a'] := Blk.kept (by repeat (first | with_reducible exact rQ | with_reducible exact Blk.new _ _ _ | (with_reducible refine Blk.newAt _ _ _ _ ?_; first | rfl | (simp; done)) | with_reducible apply Blk.alloc | with_reducible apply Blk.drewN | with_reducible apply Blk.drew | with_reducible apply Blk.set_to | (with_reducible apply Blk.far_; (simp only [ne_eq]; omega)) | rfl)) hb1
                    replace K : Below wr.heap.size wr w1 := below_call (by repeat (first | with_reducible exact Below.refl _ _ | with_reducible assumption | with_reducible refine below_drewN ?_ _ | with_reducible refine Below.drew ?_ | with_reducible refine below_alloc ?_ _ | (with_reducible refine Below.setCell ?_ ?_ _; rotate_left; ((try simp only); omega)))) hb1
                    clear hb1
                    replace cX := rX.cell; replace zX := rX.lt; replace fX := rX.frozen
                    replace cA := rA.cell; replace zA := rA.lt; replace fA := rA.frozen
                    replace cQ := rQ.cell; replace zQ := rQ.lt; replace fQ := rQ.frozen
                    replace rF := rF0.kept K; replace cF := rF.cell; replace zF := rF.lt
                    replace rT := rT0.kept K; replace cT := rT.cell; replace zT := rT.lt
                    go_wp2_with fail
                    refine (H1.out _).mono ?_
                    rintro e w2 ⟨rfl, hb2⟩
                    replace rX : Blk w2 (wr.heap.size) 59 #[.int .i64 a, .int .i64 a', .int .i64 d, .int .i64 d', .int .i64 p, .int .i64 q, .int .i64 r, .bool rst, .int .i64 sg, .int .i64 ps] := Blk.kept (by repeat (first | with_reducible exact rX | with_reducible exact Blk.new _ _ _ | (with_reducible refine Blk.newAt _ _ _ _ ?_; first | rfl | (simp; done)) | with_reducible apply Blk.alloc | with_reducible apply Blk.drewN | with_reducible apply Blk.drew | with_reducible apply Blk.set_to | (with_reducible apply Blk.far_; (simp only [ne_eq]; omega)) | rfl)) hb2
                    replace rA : Blk w2 (gA) 24 #[.int .i64 a, .int .i64 a'] := Blk.kept (by repeat (first | with_reducible exact rA | with_reducible exact Blk.new _ _ _ | (with_reducible refine Blk.newAt _ _ _ _ ?_; first | rfl | (simp; done)) | with_reducible apply Blk.alloc | with_reducible apply Blk.drewN | with_reducible apply Blk.drew | with_reducible apply Blk.set_to | (with_reducible apply Blk.far_; (simp only [ne_eq]; omega)) | rfl)) hb2
                    replace rQ : Blk w2 (gQ) 24 #[.int .i64 y, .int .i64 y'] := Blk.kept (by repeat (first | with_reducible exact rQ | with_reducible exact Blk.new _ _ _ | (with_reducible refine Blk.newAt _ _ _ _ ?_; first | rfl | (simp; done)) | with_reducible apply Blk.alloc | with_reducible apply Blk.drewN | with_reducible apply Blk.drew | with_reducible apply Blk.set_to | (with_reducible apply Blk.far_; (simp only [ne_eq]; omega)) | rfl)) hb2
                    replace K : Below wr.heap.size wr w2 := below_call (by repeat (first | with_reducible exact Below.refl _ _ | with_reducible assumption | with_reducible refine below_drewN ?_ _ | with_reducible refine Below.drew ?_ | with_reducible refine below_alloc ?_ _ | (with_reducible refine Below.setCell ?_ ?_ _; rotate_left; ((try simp only); omega)))) hb2
                    clear hb2
                    replace cX := rX.cell; replace zX := rX.lt; replace fX := rX.frozen
                    replace cA := rA.cell; replace zA := rA.lt; replace fA := rA.frozen
                    replace cQ := rQ.cell; replace zQ := rQ.lt; replace fQ := rQ.frozen
                    replace rF := rF0.kept K; replace cF := rF.cell; replace zF := rF.lt
                    replace rT := rT0.kept K; replace cT := rT.cell; replace zT := rT.lt
                    go_wp2_with fail
                    refine (H2.out _).mono ?_
                    rintro e w3 ⟨rfl, hb3⟩
                    replace rX : Blk w3 (wr.heap.size) 59 #[.int .i64 a, .int .i64 a', .int .i64 d, .int .i64 d', .int .i64 p, .int .i64 q, .int .i64 r, .bool rst, .int .i64 sg, .int .i64 ps] := Blk.kept (by repeat (first | with_reducible exact rX | with_reducible exact Blk.new _ _ _ | (with_reducible refine Blk.newAt _ _ _ _ ?_; first | rfl | (simp; done)) | with_reducible apply Blk.alloc | with_reducible apply Blk.drewN | with_reducible apply Blk.drew | with_reducible apply Blk.set_to | (with_reducible apply Blk.far_; (simp only [ne_eq]; omega)) | rfl)) hb3
                    replace rA : Blk w3 (gA) 24 #[.int .i64 f, .int .i64 f'] := Blk.kept (by repeat (first | with_reducible exact rA | with_reducible exact Blk.new _ _ _ | (with_reducible refine Blk.newAt _ _ _ _ ?_; first | rfl | (simp; done)) | with_reducible apply Blk.alloc | with_reducible apply Blk.drewN | with_reducible apply Blk.drew | with_reducible apply Blk.set_to | (with_reducible apply Blk.far_; (simp only [ne_eq]; omega)) | rfl)) hb3
                    replace rQ : Blk w3 (gQ) 24 #[.int .i64 y, .int .i64 y'] := Blk.kept (by repeat (first | with_reducible exact rQ | with_reducible exact Blk.new _ _ _ | (with_reducible refine Blk.newAt _ _ _ _ ?_; first | rfl | (simp; done)) | with_reducible apply Blk.alloc | with_reducible apply Blk.drewN | with_reducible apply Blk.drew | with_reducible apply Blk.set_to | (with_reducible apply Blk.far_; (simp only [ne_eq]; omega)) | rfl)) hb3
                    replace K : Below wr.heap.size wr w3 := below_call (by repeat (first | with_reducible exact Below.refl _ _ | with_reducible assumption | with_reducible refine below_drewN ?_ _ | with_reducible refine Below.drew ?_ | with_reducible refine below_alloc ?_ _ | (with_reducible refine Below.setCell ?_ ?_ _; rotate_left; ((try simp only); omega)))) hb3
                    clear hb3
                    replace cX := rX.cell; replace zX := rX.lt; replace fX := rX.frozen
                    replace cA := rA.cell; replace zA := rA.lt; replace fA := rA.frozen
                    replace cQ := rQ.cell; replace zQ := rQ.lt; replace fQ := rQ.frozen
                    replace rF := rF0.kept K; replace cF := rF.cell; replace zF := rF.lt
                    replace rT := rT0.kept K; replace cT := rT.cell; replace zT := rT.lt
                    go_wp2_with fail
                    refine (H3.out _).mono ?_
                    rintro e w4 ⟨rfl, hb4⟩
                    replace rX : Blk w4 (wr.heap.size) 59 #[.int .i64 a, .int .i64 a', .int .i64 d, .int .i64 d', .int .i64 p, .int .i64 q, .int .i64 r, .bool rst, .int .i64 sg, .int .i64 ps] := Blk.kept (by repeat (first | with_reducible exact rX | with_reducible exact Blk.new _ _ _ | (with_reducible refine Blk.newAt _ _ _ _ ?_; first | rfl | (simp; done)) | with_reducible apply Blk.alloc | with_reducible apply Blk.drewN | with_reducible apply Blk.drew | with_reducible apply Blk.set_to | (with_reducible apply Blk.far_; (simp only [ne_eq]; omega)) | rfl)) hb4
                    replace rA : Blk w4 (gA) 24 #[.int .i64 f, .int .i64 f'] := Blk.kept (by repeat (first | with_reducible exact rA | with_reducible exact Blk.new _ _ _ | (with_reducible refine Blk.newAt _ _ _ _ ?_; first | rfl | (simp; done)) | with_reducible apply Blk.alloc | with_reducible apply Blk.drewN | with_reducible apply Blk.drew | with_reducible apply Blk.set_to | (with_reducible apply Blk.far_; (simp only [ne_eq]; omega)) | rfl)) hb4
                    replace rQ : Blk w4 (gQ) 24 #[.int .i64 y, .int .i64 y'] := Blk.kept (by repeat (first | with_reducible exact rQ | with_reducible exact Blk.new _ _ _ | (with_reducible refine Blk.newAt _ _ _ _ ?_; first | rfl | (simp; done)) | with_reducible apply Blk.alloc | with_reducible apply Blk.drewN | with_reducible apply Blk.drew | with_reducible apply Blk.set_to | (with_reducible apply Blk.far_; (simp only [ne_eq]; omega)) | rfl)) hb4
                    replace K : Below wr.heap.size wr w4 := below_call (by repeat (first | with_reducible exact Below.refl _ _ | with_reducible assumption | with_reducible refine below_drewN ?_ _ | with_reducible refine Below.drew ?_ | with_reducible refine below_alloc ?_ _ | (with_reducible refine Below.setCell ?_ ?_ _; rotate_left; ((try simp only); omega)))) hb4
                    clear hb4
                    replace cX := rX.cell; replace zX := rX.lt; replace fX := rX.frozen
                    replace cA := rA.cell; replace zA := rA.lt; replace fA := rA.frozen
                    replace cQ := rQ.cell; replace zQ := rQ.lt; replace fQ := rQ.frozen
                    replace rF := rF0.kept K; replace cF := rF.cell; replace zF := rF.lt
                    replace rT := rT0.kept K; replace cT := rT.cell; replace zT := rT.lt
                    cases bb with
                    | false =>
                      go_wp2_with fail
                      go_roundw
                      case rel =>
                        refine ⟨k + 1, done, by omega, by go_num, by omega, ?_, own_call hown K, below_call k0 K, rF, rT⟩
                        have hr := hs.out
                        have ho := O.out
                        rw [if_neg (by simp)] at ho
                        rw [HD.out, cutAt_ok _ _ _ _ _ (by rw [ho]), ho, List.append_nil] at hr
                        exact Lib.hid hr
                      case measure => simp [intOf]; omega
                    | true =>
                      go_wp2_with fail
                      refine (H4.out _).mono ?_
                      rintro e w5 ⟨rfl, hb5⟩
                      replace rX : Blk w5 (wr.heap.size) 59 #[.int .i64 a, .int .i64 a', .int .i64 d, .int .i64 d', .int .i64 p, .int .i64 q, .int .i64 r, .bool rst, .int .i64 sg, .int .i64 ps] := Blk.kept (by repeat (first | with_reducible exact rX | with_reducible exact Blk.new _ _ _ | (with_reducible refine Blk.newAt _ _ _ _ ?_; first | rfl | (simp; done)) | with_reducible apply Blk.alloc | with_reducible apply Blk.drewN | with_reducible apply Blk.drew | with_reducible apply Blk.set_to | (with_reducible apply Blk.far_; (simp only [ne_eq]; omega)) | rfl)) hb5
                      replace rA : Blk w5 (gA) 24 #[.int .i64 f, .int .i64 f'] := Blk.kept (by repeat (first | with_reducible exact rA | with_reducible exact Blk.new _ _ _ | (with_reducible refine Blk.newAt _ _ _ _ ?_; first | rfl | (simp; done)) | with_reducible apply Blk.alloc | with_reducible apply Blk.drewN | with_reducible apply Blk.drew | with_reducible apply Blk.set_to | (with_reducible apply Blk.far_; (simp only [ne_eq]; omega)) | rfl)) hb5
                      replace rQ : Blk w5 (gQ) 24 #[.int .i64 y, .int .i64 y'] := Blk.kept (by repeat (first | with_reducible exact rQ | with_reducible exact Blk.new _ _ _ | (with_reducible refine Blk.newAt _ _ _ _ ?_; first | rfl | (simp; done)) | with_reducible apply Blk.alloc | with_reducible apply Blk.drewN | with_reducible apply Blk.drew | with_reducible apply Blk.set_to | (with_reducible apply Blk.far_; (simp only [ne_eq]; omega)) | rfl)) hb5
                      replace K : Below wr.heap.size wr w5 := below_call (by repeat (first | with_reducible exact Below.refl _ _ | with_reducible assumption | with_reducible refine below_drewN ?_ _ | with_reducible refine Below.drew ?_ | with_reducible refine below_alloc ?_ _ | (with_reducible refine Below.setCell ?_ ?_ _; rotate_left; ((try simp only); omega)))) hb5
                      clear hb5
                      replace cX := rX.cell; replace zX := rX.lt; replace fX := rX.frozen
                      replace cA := rA.cell; replace zA := rA.lt; replace fA := rA.frozen
                      replace cQ := rQ.cell; replace zQ := rQ.lt; replace fQ := rQ.frozen
                      replace rF := rF0.kept K; replace cF := rF.cell; replace zF := rF.lt
                      replace rT := rT0.kept K; replace cT := rT.cell; replace zT := rT.lt
                      have ho := O.out
                      rw [if_pos (by simp)] at ho
                      by_cases hse : se = 0
                      · subst hse
                        rw [if_neg (fun h => h rfl)] at ho
                        have O2 := Lib.hid ho; clear ho
                        have K2 : Below wr.heap.size wr (((w5.setCell ⟨wr.heap.size, 2, none⟩ (.int .i64 s)).setCell ⟨wr.heap.size, 3, none⟩ (.int .i64 s')).alloc (.cells #[.int .i64 a, .int .i64 a', .int .i64 s, .int .i64 s', .int .i64 p, .int .i64 q, .int .i64 r, .bool rst, .int .i64 sg, .int .i64 ps] 59)) := by repeat (first | with_reducible exact Below.refl _ _ | with_reducible assumption | with_reducible refine below_drewN ?_ _ | with_reducible refine Below.drew ?_ | with_reducible refine below_alloc ?_ _ | (with_reducible refine Below.setCell ?_ ?_ _; rotate_left; ((try simp only); omega)))
                        have rX2 : Blk ((w5.setCell ⟨wr.heap.size, 2, none⟩ (.int .i64 s)).setCell ⟨wr.heap.size, 3, none⟩ (.int .i64 s')) wr.heap.size 59 #[.int .i64 a, .int .i64 a', .int .i64 s, .int .i64 s', .int .i64 p, .int .i64 q, .int .i64 r, .bool rst, .int .i64 sg, .int .i64 ps] := by repeat (first | with_reducible exact rX | with_reducible exact Blk.new _ _ _ | (with_reducible refine Blk.newAt _ _ _ _ ?_; first | rfl | (simp; done)) | with_reducible apply Blk.alloc | with_reducible apply Blk.drewN | with_reducible apply Blk.drew | with_reducible apply Blk.set_to | (with_reducible apply Blk.far_; (simp only [ne_eq]; omega)) | rfl)
                        have hw5 : Hid (w5.heap.size = ((w5.setCell ⟨wr.heap.size, 2, none⟩ (.int .i64 s)).setCell ⟨wr.heap.size, 3, none⟩ (.int .i64 s')).heap.size) := Lib.hid (by simp [World.setCell])
                        go_wp2_with (at_builtin; (refine wpList_append_any _ rfl (.tmp 91) (.tmp 93) 22 rfl (w.heap.size + 1 + 1) 59 i0 _ 10 80 Try.underlying22 hi0 hz0 hz1 hz2 rfl (by omega) (.slice A3 done.length c3) done.length (csE done) rfl (own_call hown K2) (w5.heap.size + 1) (some ⟨w5.heap.size, 0, none⟩) 1 1 (csE [⟨(a, a'), (s, s'), (p, q, r), rst, sg, ps⟩]) rfl (Reads.newAt _ _ _ 1 10 _ hw5.out rfl) (one_csE _) (by simp only [maxLen]; omega) (by omega) (by have := K2.size; have := k0.size; omega) ?_); intro v6 w6 hown6 hg6 hat6)
                        go_roundw
                        case rel =>
                          have K6 : Below w.heap.size w w6 := (below_call k0 K2).grown hg6 (by have := K2.size; have := k0.size; omega) (fun j hj => by have := (hown.lt j hj).1; omega)
                          have nF : some w.heap.size ≠ (Value.slice A3 done.length c3).ownBlock := fun e => by have := (hown.lt _ e.symm).1; omega
                          have nT : some (w.heap.size + 1) ≠ (Value.slice A3 done.length c3).ownBlock := fun e => by have := (hown.lt _ e.symm).1; omega
                          refine ⟨k + 1, done ++ [⟨(a, a'), (s, s'), (p, q, r), rst, sg, ps⟩], by omega, by go_num, by simp; omega, ?_, ?_, K6, Blk.grown_ (rF0.kept K2) hg6 nF, Blk.grown_ (rT0.kept K2) hg6 nT⟩
                          · have hr := hs.out
                            rw [HD.out, cutAt_ok _ _ _ _ _ (by rw [O2.out]), O2.out] at hr
                            exact Lib.hid hr
                          · rw [csE_append, List.length_append]
                            exact hown6
                        case measure => simp [intOf]; omega
                      · have hse' : (se != 0) = true := by simpa using hse
                        rw [if_pos hse] at ho
                        have O2 := Lib.hid ho; clear ho hse
                        go_wp2_with fail
                        go_ret2
                        have hr := hs.out
                        have hse : se ≠ 0 := by simpa using hse'
                        rw [HD.out, cutAt_bad _ _ _ _ _ (by rw [O2.out]; exact hse), O2.out] at hr
                        have e1 : cutS l (f, f') (t, t') = ([], se) := by rw [E.out, ← hr, if_pos hse]
                        rw [e1]
                        exact ⟨none, 0, rfl, OwnE.nil_ _ _, below_call k0 (by repeat (first | with_reducible exact Below.refl _ _ | with_reducible assumption | with_reducible refine below_drewN ?_ _ | with_reducible refine Below.drew ?_ | with_reducible refine below_alloc ?_ _ | (with_reducible refine Below.setCell ?_ ?_ _; rotate_left; ((try simp only); omega))))⟩
                · replace hp : lessB (a, a') (f, f') = false := by simpa using hp
                  by_cases hq : lessB (t, t') (y, y') = true
                  · skip
                    have hfr : fromS (f, f') ⟨(a, a'), (d, d'), (p, q, r), rst, sg, ps⟩ = (a, a') := by unfold fromS; rw [if_neg (by rw [hp]; simp)]
                    have hto : toS (t, t') ⟨(a, a'), (d, d'), (p, q, r), rst, sg, ps⟩ = (t, t') := by unfold toS nextS; simp only [hY]; rw [if_pos hq]
                    have hone := cutOne_v (f, f') (t, t') ⟨(a, a'), (d, d'), (p, q, r), rst, sg, ps⟩
                    rw [hfr, hto] at hone
                    clear hfr hto
                    have hA := add_any (a, a') (d, d')
                    rw [hY] at hA
                    have h1 := less_any (a, a') (f, f')
                    rw [hp] at h1
                    have h2 := less_any (t, t') (y, y')
                    rw [hq] at h2
                    obtain ⟨bb, hbb⟩ : ∃ bb, bb = lessB (a, a') (t, t') := ⟨_, rfl⟩
                    have h3 := less_any (a, a') (t, t')
                    rw [← hbb] at h3 hone
                    obtain ⟨⟨s, s', se⟩, hS⟩ : ∃ z, z = subS (t, t') (a, a') := ⟨_, rfl⟩
                    have h4 := sub_any (t, t') (a, a')
                    rw [← hS] at h4 hone
                    clear hbb hS hY hp hq
                    have O := Lib.hid hone; have HA := Lib.hid hA; have H1 := Lib.hid h1; have H2 := Lib.hid h2; have H3 := Lib.hid h3; have H4 := Lib.hid h4
                    clear hone hA h1 h2 h3 h4
                    go_wp2_with fail
                    refine (HA.out _).mono ?_
                    rintro e w1 ⟨rfl, hb1⟩
                    replace rX : Blk w1 (wr.heap.size) 59 #[.int .i64 a, .int .i64 a', .int .i64 d, .int .i64 d', .int .i64 p, .int .i64 q, .int .i64 r, .bool rst, .int .i64 sg, .int .i64 ps] := Blk.kept (by repeat (first | with_reducible exact rX | with_reducible exact Blk.new _ _ _ | (with_reducible refine Blk.newAt _ _ _ _ ?_; first | rfl | (simp; done)) | with_reducible apply Blk.alloc | with_reducible apply Blk.drewN | with_reducible apply Blk.drew | with_reducible apply Blk.set_to | (with_reducible apply Blk.far_; (simp only [ne_eq]; omega)) | rfl)) hb1
                    replace rA : Blk w1 (gA) 24 #[.int .i64 a, .int .i64 a'] := Blk.kept (by repeat (first | with_reducible exact rA | with_reducible exact Blk.new _ _ _ | (with_reducible refine Blk.newAt _ _ _ _ ?_; first | rfl | (simp; done)) | with_reducible apply Blk.alloc | with_reducible apply Blk.drewN | with_reducible apply Blk.drew | with_reducible apply Blk.set_to | (with_reducible apply Blk.far_; (simp only [ne_eq]; omega)) | rfl)) hb1
                    replace rQ : Blk w1 (gQ) 24 #[.int .i64 a, .int .i64 a'] := Blk.kept (by repeat (first | with_reducible exact rQ | with_reducible exact Blk.new _ _ _ | (with_reducible refine Blk.newAt _ _ _ _ ?_; first | rfl | (simp; done)) | with_reducible apply Blk.alloc | with_reducible apply Blk.drewN | with_reducible apply Blk.drew | with_reducible apply Blk.set_to | (with_reducible apply Blk.far_; (simp only [ne_eq]; omega)) | rfl)) hb1
                    replace K : Below wr.heap.size wr w1 := below_call (by repeat (first | with_reducible exact Below.refl _ _ | with_reducible assumption | with_reducible refine below_drewN ?_ _ | with_reducible refine Below.drew ?_ | with_reducible refine below_alloc ?_ _ | (with_reducible refine Below.setCell ?_ ?_ _; rotate_left; ((try simp only); omega)))) hb1
                    clear hb1
                    replace cX := rX.cell; replace zX := rX.lt; replace fX := rX.frozen
                    replace cA := rA.cell; replace zA := rA.lt; replace fA := rA.frozen
                    replace cQ := rQ.cell; replace zQ := rQ.lt; replace fQ := rQ.frozen
                    replace rF := rF0.kept K; replace cF := rF.cell; replace zF := rF.lt
                    replace rT := rT0.kept K; replace cT := rT.cell; replace zT := rT.lt
                    go_wp2_with fail
                    refine (H1.out _).mono ?_
                    rintro e w2 ⟨rfl, hb2⟩
                    replace rX : Blk w2 (wr.heap.size) 59 #[.int .i64 a, .int .i64 a', .int .i64 d, .int .i64 d', .int .i64 p, .int .i64 q, .int .i64 r, .bool rst, .int .i64 sg, .int .i64 ps] := Blk.kept (by repeat (first | with_reducible exact rX | with_reducible exact Blk.new _ _ _ | (with_reducible refine Blk.newAt _ _ _ _ ?_; first | rfl | (simp; done)) | with_reducible apply Blk.alloc | with_reducible apply Blk.drewN | with_reducible apply Blk.drew | with_reducible apply Blk.set_to | (with_reducible apply Blk.far_; (simp only [ne_eq]; omega)) | rfl)) hb2
                    replace rA : Blk w2 (gA) 24 #[.int .i64 a, .int .i64 a'] := Blk.kept (by repeat (first | with_reducible exact rA | with_reducible exact Blk.new _ _ _ | (with_reducible refine Blk.newAt _ _ _ _ ?_; first | rfl | (simp; done)) | with_reducible apply Blk.alloc | with_reducible apply Blk.drewN | with_reducible apply Blk.drew | with_reducible apply Blk.set_to | (with_reducible apply Blk.far_; (simp only [ne_eq]; omega)) | rfl)) hb2
                    replace rQ : Blk w2 (gQ) 24 #[.int .i64 y, .int .i64 y'] := Blk.kept (by repeat (first | with_reducible exact rQ | with_reducible exact Blk.new _ _ _ | (with_reducible refine Blk.newAt _ _ _ _ ?_; first | rfl | (simp; done)) | with_reducible apply Blk.alloc | with_reducible apply Blk.drewN | with_reducible apply Blk.drew | with_reducible apply Blk.set_to | (with_reducible apply Blk.far_; (simp only [ne_eq]; omega)) | rfl)) hb2
                    replace K : Below wr.heap.size wr w2 := below_call (by repeat (first | with_reducible exact Below.refl _ _ | with_reducible assumption | with_reducible refine below_drewN ?_ _ | with_reducible refine Below.drew ?_ | with_reducible refine below_alloc ?_ _ | (with_reducible refine Below.setCell ?_ ?_ _; rotate_left; ((try simp only); omega)))) hb2
                    clear hb2
                    replace cX := rX.cell; replace zX := rX.lt; replace fX := rX.frozen
                    replace cA := rA.cell; replace zA := rA.lt; replace fA := rA.frozen
                    replace cQ := rQ.cell; replace zQ := rQ.lt; replace fQ := rQ.frozen
                    replace rF := rF0.kept K; replace cF := rF.cell; replace zF := rF.lt
                    replace rT := rT0.kept K; replace cT := rT.cell; replace zT := rT.lt
                    go_wp2_with fail
                    refine (H2.out _).mono ?_
                    rintro e w3 ⟨rfl, hb3⟩
                    replace rX : Blk w3 (wr.heap.size) 59 #[.int .i64 a, .int .i64 a', .int .i64 d, .int .i64 d', .int .i64 p, .int .i64 q, .int .i64 r, .bool rst, .int .i64 sg, .int .i64 ps] := Blk.kept (by repeat (first | with_reducible exact rX | with_reducible exact Blk.new _ _ _ | (with_reducible refine Blk.newAt _ _ _ _ ?_; first | rfl | (simp; done)) | with_reducible apply Blk.alloc | with_reducible apply Blk.drewN | with_reducible apply Blk.drew | with_reducible apply Blk.set_to | (with_reducible apply Blk.far_; (simp only [ne_eq]; omega)) | rfl)) hb3
                    replace rA : Blk w3 (gA) 24 #[.int .i64 a, .int .i64 a'] := Blk.kept (by repeat (first | with_reducible exact rA | with_reducible exact Blk.new _ _ _ | (with_reducible refine Blk.newAt _ _ _ _ ?_; first | rfl | (simp; done)) | with_reducible apply Blk.alloc | with_reducible apply Blk.drewN | with_reducible apply Blk.drew | with_reducible apply Blk.set_to | (with_reducible apply Blk.far_; (simp only [ne_eq]; omega)) | rfl)) hb3
                    replace rQ : Blk w3 (gQ) 24 #[.int .i64 y, .int .i64 y'] := Blk.kept (by repeat (first | with_reducible exact rQ | with_reducible exact Blk.new _ _ _ | (with_reducible refine Blk.newAt _ _ _ _ ?_; first | rfl | (simp; done)) | with_reducible apply Blk.alloc | with_reducible apply Blk.drewN | with_reducible apply Blk.drew | with_reducible apply Blk.set_to | (with_reducible apply Blk.far_; (simp only [ne_eq]; omega)) | rfl)) hb3
                    replace K : Below wr.heap.size wr w3 := below_call (by repeat (first | with_reducible exact Below.refl _ _ | with_reducible assumption | with_reducible refine below_drewN ?_ _ | with_reducible refine Below.drew ?_ | with_reducible refine below_alloc ?_ _ | (with_reducible refine Below.setCell ?_ ?_ _; rotate_left; ((try simp only); omega)))) hb3
                    clear hb3
                    replace cX := rX.cell; replace zX := rX.lt; replace fX := rX.frozen
                    replace cA := rA.cell; replace zA := rA.lt; replace fA := rA.frozen
                    replace cQ := rQ.cell; replace zQ := rQ.lt; replace fQ := rQ.frozen
                    replace rF := rF0.kept K; replace cF := rF.cell; replace zF := rF.lt
                    replace rT := rT0.kept K; replace cT := rT.cell; replace zT := rT.lt
                    go_wp2_with fail
                    refine (H3.out _).mono ?_
                    rintro e w4 ⟨rfl, hb4⟩
                    replace rX : Blk w4 (wr.heap.size) 59 #[.int .i64 a, .int .i64 a', .int .i64 d, .int .i64 d', .int .i64 p, .int .i64 q, .int .i64 r, .bool rst, .int .i64 sg, .int .i64 ps] := Blk.kept (by repeat (first | with_reducible exact rX | with_reducible exact Blk.new _ _ _ | (with_reducible refine Blk.newAt _ _ _ _ ?_; first | rfl | (simp; done)) | with_reducible apply Blk.alloc | with_reducible apply Blk.drewN | with_reducible apply Blk.drew | with_reducible apply Blk.set_to | (with_reducible apply Blk.far_; (simp only [ne_eq]; omega)) | rfl)) hb4
                    replace rA : Blk w4 (gA) 24 #[.int .i64 a, .int .i64 a'] := Blk.kept (by repeat (first | with_reducible exact rA | with_reducible exact Blk.new _ _ _ | (with_reducible refine Blk.newAt _ _ _ _ ?_; first | rfl | (simp; done)) | with_reducible apply Blk.alloc | with_reducible apply Blk.drewN | with_reducible apply Blk.drew | with_reducible apply Blk.set_to | (with_reducible apply Blk.far_; (simp only [ne_eq]; omega)) | rfl)) hb4
                    replace rQ : Blk w4 (gQ) 24 #[.int .i64 t, .int .i64 t'] := Blk.kept (by repeat (first | with_reducible exact rQ | with_reducible exact Blk.new _ _ _ | (with_reducible refine Blk.newAt _ _ _ _ ?_; first | rfl | (simp; done)) | with_reducible apply Blk.alloc | with_reducible apply Blk.drewN | with_reducible apply Blk.drew | with_reducible apply Blk.set_to | (with_reducible apply Blk.far_; (simp only [ne_eq]; omega)) | rfl)) hb4
                    replace K : Below wr.heap.size wr w4 := below_call (by repeat (first | with_reducible exact Below.refl _ _ | with_reducible assumption | with_reducible refine below_drewN ?_ _ | with_reducible refine Below.drew ?_ | with_reducible refine below_alloc ?_ _ | (with_reducible refine Below.setCell ?_ ?_ _; rotate_left; ((try simp only); omega)))) hb4
                    clear hb4
                    replace cX := rX.cell; replace zX := rX.lt; replace fX := rX.frozen
                    replace cA := rA.cell; replace zA := rA.lt; replace fA := rA.frozen
                    replace cQ := rQ.cell; replace zQ := rQ.lt; replace fQ := rQ.frozen
                    replace rF := rF0.kept K; replace cF := rF.cell; replace zF := rF.lt
                    replace rT := rT0.kept K; replace cT := rT.cell; replace zT := rT.lt
                    cases bb with
                    | false =>
                      go_wp2_with fail
                      go_roundw
                      case rel =>
                        refine ⟨k + 1, done, by omega, by go_num, by omega, ?_, own_call hown K, below_call k0 K, rF, rT⟩
                        have hr := hs.out
                        have ho := O.out
                        rw [if_neg (by simp)] at ho
                        rw [HD.out, cutAt_ok _ _ _ _ _ (by rw [ho]), ho, List.append_nil] at hr
                        exact Lib.hid hr
                      case measure => simp [intOf]; omega
                    | true =>
                      go_wp2_with fail
                      refine (H4.out _).mono ?_
                      rintro e w5 ⟨rfl, hb5⟩
                      replace rX : Blk w5 (wr.heap.size) 59 #[.int .i64 a, .int .i64 a', .int .i64 d, .int .i64 d', .int .i64 p, .int .i64 q, .int .i64 r, .bool rst, .int .i64 sg, .int .i64 ps] := Blk.kept (by repeat (first | with_reducible exact rX | with_reducible exact Blk.new _ _ _ | (with_reducible refine Blk.newAt _ _ _ _ ?_; first | rfl | (simp; done)) | with_reducible apply Blk.alloc | with_reducible apply Blk.drewN | with_reducible apply Blk.drew | with_reducible apply Blk.set_to | (with_reducible apply Blk.far_; (simp only [ne_eq]; omega)) | rfl)) hb5
                      replace rA : Blk w5 (gA) 24 #[.int .i64 a, .int .i64 a'] := Blk.kept (by repeat (first | with_reducible exact rA | with_reducible exact Blk.new _ _ _ | (with_reducible refine Blk.newAt _ _ _ _ ?_; first | rfl | (simp; done)) | with_reducible apply Blk.alloc | with_reducible apply Blk.drewN | with_reducible apply Blk.drew | with_reducible apply Blk.set_to | (with_reducible apply Blk.far_; (simp only [ne_eq]; omega)) | rfl)) hb5
                      replace rQ : Blk w5 (gQ) 24 #[.int .i64 t, .int .i64 t'] := Blk.kept (by repeat (first | with_reducible exact rQ | with_reducible exact Blk.new _ _ _ | (with_reducible refine Blk.newAt _ _ _ _ ?_; first | rfl | (simp; done)) | with_reducible apply Blk.alloc | with_reducible apply Blk.drewN | with_reducible apply Blk.drew | with_reducible apply Blk.set_to | (with_reducible apply Blk.far_; (simp only [ne_eq]; omega)) | rfl)) hb5
                      replace K : Below wr.heap.size wr w5 := below_call (by repeat (first | with_reducible exact Below.refl _ _ | with_reducible assumption | with_reducible refine below_drewN ?_ _ | with_reducible refine Below.drew ?_ | with_reducible refine below_alloc ?_ _ | (with_reducible refine Below.setCell ?_ ?_ _; rotate_left; ((try simp only); omega)))) hb5
                      clear hb5
                      replace cX := rX.cell; replace zX := rX.lt; replace fX := rX.frozen
                      replace cA := rA.cell; replace zA := rA.lt; replace fA := rA.frozen
                      replace cQ := rQ.cell; replace zQ := rQ.lt; replace fQ := rQ.frozen
                      replace rF := rF0.kept K; replace cF := rF.cell; replace zF := rF.lt
                      replace rT := rT0.kept K; replace cT := rT.cell; replace zT := rT.lt
                      have ho := O.out
                      rw [if_pos (by simp)] at ho
                      by_cases hse : se = 0
                      · subst hse
                        rw [if_neg (fun h => h rfl)] at ho
                        have O2 := Lib.hid ho; clear ho
                        have K2 : Below wr.heap.size wr (((w5.setCell ⟨wr.heap.size, 2, none⟩ (.int .i64 s)).setCell ⟨wr.heap.size, 3, none⟩ (.int .i64 s')).alloc (.cells #[.int .i64 a, .int .i64 a', .int .i64 s, .int .i64 s', .int .i64 p, .int .i64 q, .int .i64 r, .bool rst, .int .i64 sg, .int .i64 ps] 59)) := by repeat (first | with_reducible exact Below.refl _ _ | with_reducible assumption | with_reducible refine below_drewN ?_ _ | with_reducible refine Below.drew ?_ | with_reducible refine below_alloc ?_ _ | (with_reducible refine Below.setCell ?_ ?_ _; rotate_left; ((try simp only); omega)))
                        have rX2 : Blk ((w5.setCell ⟨wr.heap.size, 2, none⟩ (.int .i64 s)).setCell ⟨wr.heap.size, 3, none⟩ (.int .i64 s')) wr.heap.size 59 #[.int .i64 a, .int .i64 a', .int .i64 s, .int .i64 s', .int .i64 p, .int .i64 q, .int .i64 r, .bool rst, .int .i64 sg, .int .i64 ps] := by repeat (first | with_reducible exact rX | with_reducible exact Blk.new _ _ _ | (with_reducible refine Blk.newAt _ _ _ _ ?_; first | rfl | (simp; done)) | with_reducible apply Blk.alloc | with_reducible apply Blk.drewN | with_reducible apply Blk.drew | with_reducible apply Blk.set_to | (with_reducible apply Blk.far_; (simp only [ne_eq]; omega)) | rfl)
                        have hw5 : Hid (w5.heap.size = ((w5.setCell ⟨wr.heap.size, 2, none⟩ (.int .i64 s)).setCell ⟨wr.heap.size, 3, none⟩ (.int .i64 s')).heap.size) := Lib.hid (by simp [World.setCell])
                        go_wp2_with (at_builtin; (refine wpList_append_any _ rfl (.tmp 91) (.tmp 93) 22 rfl (w.heap.size + 1 + 1) 59 i0 _ 10 80 Try.underlying22 hi0 hz0 hz1 hz2 rfl (by omega) (.slice A3 done.length c3) done.length (csE done) rfl (own_call hown K2) (w5.heap.size + 1) (some ⟨w5.heap.size, 0, none⟩) 1 1 (csE [⟨(a, a'), (s, s'), (p, q, r), rst, sg, ps⟩]) rfl (Reads.newAt _ _ _ 1 10 _ hw5.out rfl) (one_csE _) (by simp only [maxLen]; omega) (by omega) (by have := K2.size; have := k0.size; omega) ?_); intro v6 w6 hown6 hg6 hat6)
                        go_roundw
                        case rel =>
                          have K6 : Below w.heap.size w w6 := (below_call k0 K2).grown hg6 (by have := K2.size; have := k0.size; omega) (fun j hj => by have := (hown.lt j hj).1; omega)
                          have nF : some w.heap.size ≠ (Value.slice A3 done.length c3).ownBlock := fun e => by have := (hown.lt _ e.symm).1; omega
                          have nT : some (w.heap.size + 1) ≠ (Value.slice A3 done.length c3).ownBlock := fun e => by have := (hown.lt _ e.symm).1; omega
                          refine ⟨k + 1, done ++ [⟨(a, a'), (s, s'), (p, q, r), rst, sg, ps⟩], by omega, by go_num, by simp; omega, ?_, ?_, K6, Blk.grown_ (rF0.kept K2) hg6 nF, Blk.grown_ (rT0.kept K2) hg6 nT⟩
                          · have hr := hs.out
                            rw [HD.out, cutAt_ok _ _ _ _ _ (by rw [O2.out]), O2.out] at hr
                            exact Lib.hid hr
                          · rw [csE_append, List.length_append]
                            exact hown6
                        case measure => simp [intOf]; omega
                      · have hse' : (se != 0) = true := by simpa using hse
                        rw [if_pos hse] at ho
                        have O2 := Lib.hid ho; clear ho hse
                        go_wp2_with fail
                        go_ret2
                        have hr := hs.out
                        have hse : se ≠ 0 := by simpa using hse'
                        rw [HD.out, cutAt_bad _ _ _ _ _ (by rw [O2.out]; exact hse), O2.out] at hr
                        have e1 : cutS l (f, f') (t, t') = ([], se) := by rw [E.out, ← hr, if_pos hse]
                        rw [e1]
                        exact ⟨none, 0, rfl, OwnE.nil_ _ _, below_call k0 (by repeat (first | with_reducible exact Below.refl _ _ | with_reducible assumption | with_reducible refine below_drewN ?_ _ | with_reducible refine Below.drew ?_ | with_reducible refine below_alloc ?_ _ | (with_reducible refine Below.setCell ?_ ?_ _; rotate_left; ((try simp only); omega))))⟩
                  · replace hq : lessB (t, t') (y, y') = false := by simpa using hq
                    have hfr : fromS (f, f') ⟨(a, a'), (d, d'), (p, q, r), rst, sg, ps⟩ = (a, a') := by unfold fromS; rw [if_neg (by rw [hp]; simp)]
                    have hto : toS (t, t') ⟨(a, a'), (d, d'), (p, q, r), rst, sg, ps⟩ = (y, y') := by unfold toS nextS; simp only [hY]; rw [if_neg (by rw [hq]; simp)]
                    have hone := cutOne_v (f, f') (t, t') ⟨(a, a'), (d, d'), (p, q, r), rst, sg, ps⟩
                    rw [hfr, hto] at hone
                    clear hfr hto
                    have hA := add_any (a, a') (d, d')
                    rw [hY] at hA
                    have h1 := less_any (a, a') (f, f')
                    rw [hp] at h1
                    have h2 := less_any (t, t') (y, y')
                    rw [hq] at h2
                    obtain ⟨bb, hbb⟩ : ∃ bb, bb = lessB (a, a') (y, y') := ⟨_, rfl⟩
                    have h3 := less_any (a, a') (y, y')
                    rw [← hbb] at h3 hone
                    obtain ⟨⟨s, s', se⟩, hS⟩ : ∃ z, z = subS (y, y') (a, a') := ⟨_, rfl⟩
                    have h4 := sub_any (y, y') (a, a')
                    rw [← hS] at h4 hone
                    clear hbb hS hY hp hq
                    have O := Lib.hid hone; have HA := Lib.hid hA; have H1 := Lib.hid h1; have H2 := Lib.hid h2; have H3 := Lib.hid h3; have H4 := Lib.hid h4
                    clear hone hA h1 h2 h3 h4
                    go_wp2_with fail
                    refine (HA.out _).mono ?_
                    rintro e w1 ⟨rfl, hb1⟩
                    replace rX : Blk w1 (wr.heap.size) 59 #[.int .i64 a, .int .i64 a', .int .i64 d, .int .i64 d', .int .i64 p, .int .i64 q, .int .i64 r, .bool rst, .int .i64 sg, .int .i64 ps] := Blk.kept (by repeat (first | with_reducible exact rX | with_reducible exact Blk.new _ _ _ | (with_reducible refine Blk.newAt _ _ _ _ ?_; first | rfl | (simp; done)) | with_reducible apply Blk.alloc | with_reducible apply Blk.drewN | with_reducible apply Blk.drew | with_reducible apply Blk.set_to | (with_reducible apply Blk.far_; (simp only [ne_eq]; omega)) | rfl)) hb1
                    replace rA : Blk w1 (gA) 24 #[.int .i64 a, .int .i64 a'] := Blk.kept (by repeat (first | with_reducible exact rA | with_reducible exact Blk.new _ _ _ | (with_reducible refine Blk.newAt _ _ _ _ ?_; first | rfl | (simp; done)) | with_reducible apply Blk.alloc | with_reducible apply Blk.drewN | with_reducible apply Blk.drew | with_reducible apply Blk.set_to | (with_reducible apply Blk.far_; (simp only [ne_eq]; omega)) | rfl)) hb1
                    replace rQ : Blk w1 (gQ) 24 #[.int .i64 a, .int .i64 a'] := Blk.kept (by repeat (first | with_reducible exact rQ | with_reducible exact Blk.new _ _ _ | (with_reducible refine Blk.newAt _ _ _ _ ?_; first | rfl | (simp; done)) | with_reducible apply Blk.alloc | with_reducible apply Blk.drewN | with_reducible apply Blk.drew | with_reducible apply Blk.set_to | (with_reducible apply Blk.far_; (simp only [ne_eq]; omega)) | rfl)) hb1
                    replace K : Below wr.heap.size wr w1 := below_call (by repeat (first | with_reducible exact Below.refl _ _ | with_reducible assumption | with_reducible refine below_drewN ?_ _ | with_reducible refine Below.drew ?_ | with_reducible refine below_alloc ?_ _ | (with_reducible refine Below.setCell ?_ ?_ _; rotate_left; ((try simp only); omega)))) hb1
                    clear hb1
                    replace cX := rX.cell; replace zX := rX.lt; replace fX := rX.frozen
                    replace cA := rA.cell; replace zA := rA.lt; replace fA := rA.frozen
                    replace cQ := rQ.cell; replace zQ := rQ.lt; replace fQ := rQ.frozen
                    replace rF := rF0.kept K; replace cF := rF.cell; replace zF := rF.lt
                    replace rT := rT0.kept K; replace cT := rT.cell; replace zT := rT.lt
                    go_wp2_with fail
                    refine (H1.out _).mono ?_
                    rintro e w2 ⟨rfl, hb2⟩
                    replace rX : Blk w2 (wr.heap.size) 59 #[.int .i64 a, .int .i64 a', .int .i64 d, .int .i64 d', .int .i64 p, .int .i64 q, .int .i64 r, .bool rst, .int .i64 sg, .int .i64 ps] := Blk.kept (by repeat (first | with_reducible exact rX | with_reducible exact Blk.new _ _ _ | (with_reducible refine Blk.newAt _ _ _ _ ?_; first | rfl | (simp; done)) | with_reducible apply Blk.alloc | with_reducible apply Blk.drewN | with_reducible apply Blk.drew | with_reducible apply Blk.set_to | (with_reducible apply Blk.far_; (simp only [ne_eq]; omega)) | rfl)) hb2
                    replace rA : Blk w2 (gA) 24 #[.int .i64 a, .int .i64 a'] := Blk.kept (by repeat (first | with_reducible exact rA | with_reducible exact Blk.new _ _ _ | (with_reducible refine Blk.newAt _ _ _ _ ?_; first | rfl | (simp; done)) | with_reducible apply Blk.alloc | with_reducible apply Blk.drewN | with_reducible apply Blk.drew | with_reducible apply Blk.set_to | (with_reducible apply Blk.far_; (simp only [ne_eq]; omega)) | rfl)) hb2
                    replace rQ : Blk w2 (gQ) 24 #[.int .i64 y, .int .i64 y'] := Blk.kept (by repeat (first | with_reducible exact rQ | with_reducible exact Blk.new _ _ _ | (with_reducible refine Blk.newAt _ _ _ _ ?_; first | rfl | (simp; done)) | with_reducible apply Blk.alloc | with_reducible apply Blk.drewN | with_reducible apply Blk.drew | with_reducible apply Blk.set_to | (with_reducible apply Blk.far_; (simp only [ne_eq]; omega)) | rfl)) hb2
                    replace K : Below wr.heap.size wr w2 := below_call (by repeat (first | with_reducible exact Below.refl _ _ | with_reducible assumption | with_reducible refine below_drewN ?_ _ | with_reducible refine Below.drew ?_ | with_reducible refine below_alloc ?_ _ | (with_reducible refine Below.setCell ?_ ?_ _; rotate_left; ((try simp only); omega)))) hb2
                    clear hb2
                    replace cX := rX.cell; replace zX := rX.lt; replace fX := rX.frozen
                    replace cA := rA.cell; replace zA := rA.lt; replace fA := rA.frozen
                    replace cQ := rQ.cell; replace zQ := rQ.lt; replace fQ := rQ.frozen
                    replace rF := rF0.kept K; replace cF := rF.cell; replace zF := rF.lt
                    replace rT := rT0.kept K; replace cT := rT.cell; replace zT := rT.lt
                    go_wp2_with fail
                    refine (H2.out _).mono ?_
                    rintro e w3 ⟨rfl, hb3⟩
                    replace rX : Blk w3 (wr.heap.size) 59 #[.int .i64 a, .int .i64 a', .int .i64 d, .int .i64 d', .int .i64 p, .int .i64 q, .int .i64 r, .bool rst, .int .i64 sg, .int .i64 ps] := Blk.kept (by repeat (first | with_reducible exact rX | with_reducible exact Blk.new _ _ _ | (with_reducible refine Blk.newAt _ _ _ _ ?_; first | rfl | (simp; done)) | with_reducible apply Blk.alloc | with_reducible apply Blk.drewN | with_reducible apply Blk.drew | with_reducible apply Blk.set_to | (with_reducible apply Blk.far_; (simp only [ne_eq]; omega)) | rfl)) hb3
                    replace rA : Blk w3 (gA) 24 #[.int .i64 a, .int .i64 a'] := Blk.kept (by repeat (first | with_reducible exact rA | with_reducible exact Blk.new _ _ _ | (with_reducible refine Blk.newAt _ _ _ _ ?_; first | rfl | (simp; done)) | with_reducible apply Blk.alloc | with_reducible apply Blk.drewN | with_reducible apply Blk.drew | with_reducible apply Blk.set_to | (with_reducible apply Blk.far_; (simp only [ne_eq]; omega)) | rfl)) hb3
                    replace rQ : Blk w3 (gQ) 24 #[.int .i64 y, .int .i64 y'] := Blk.kept (by repeat (first | with_reducible exact rQ | with_reducible exact Blk.new _ _ _ | (with_reducible refine Blk.newAt _ _ _ _ ?_; first | rfl | (simp; done)) | with_reducible apply Blk.alloc | with_reducible apply Blk.drewN | with_reducible apply Blk.drew | with_reducible apply Blk.set_to | (with_reducible apply Blk.far_; (simp only [ne_eq]; omega)) | rfl)) hb3
                    replace K : Below wr.heap.size wr w3 := below_call (by repeat (first | with_reducible exact Below.refl _ _ | with_reducible assumption | with_reducible refine below_drewN ?_ _ | with_reducible refine Below.drew ?_ | with_reducible refine below_alloc ?_ _ | (with_reducible refine Below.setCell ?_ ?_ _; rotate_left; ((try simp only); omega)))) hb3
                    clear hb3
                    replace cX := rX.cell; replace zX := rX.lt; replace fX := rX.frozen
                    replace cA := rA.cell; replace zA := rA.lt; replace fA := rA.frozen
                    replace cQ := rQ.cell; replace zQ := rQ.lt; replace fQ := rQ.frozen
                    replace rF := rF0.kept K; replace cF := rF.cell; replace zF := rF.lt
                    replace rT := rT0.kept K; replace cT := rT.cell; replace zT := rT.lt
                    go_wp2_with fail
                    refine (H3.out _).mono ?_
                    rintro e w4 ⟨rfl, hb4⟩
                    replace rX : Blk w4 (wr.heap.size) 59 #[.int .i64 a, .int .i64 a', .int .i64 d, .int .i64 d', .int .i64 p, .int .i64 q, .int .i64 r, .bool rst, .int .i64 sg, .int .i64 ps] := Blk.kept (by repeat (first | with_reducible exact rX | with_reducible exact Blk.new _ _ _ | (with_reducible refine Blk.newAt _ _ _ _ ?_; first | rfl | (simp; done)) | with_reducible apply Blk.alloc | with_reducible apply Blk.drewN | with_reducible apply Blk.drew | with_reducible apply Blk.set_to | (with_reducible apply Blk.far_; (simp only [ne_eq]; omega)) | rfl)) hb4
                    replace rA : Blk w4 (gA) 24 #[.int .i64 a, .int .i64 a'] := Blk.kept (by repeat (first | with_reducible exact rA | with_reducible exact Blk.new _ _ _ | (with_reducible refine Blk.newAt _ _ _ _ ?_; first | rfl | (simp; done)) | with_reducible apply Blk.alloc | with_reducible apply Blk.drewN | with_reducible apply Blk.drew | with_reducible apply Blk.set_to | (with_reducible apply Blk.far_; (simp only [ne_eq]; omega)) | rfl)) hb4
                    replace rQ : Blk w4 (gQ) 24 #[.int .i64 y, .int .i64 y'] := Blk.kept (by repeat (first | with_reducible exact rQ | with_reducible exact Blk.new _ _ _ | (with_reducible refine Blk.newAt _ _ _ _ ?_; first | rfl | (simp; done)) | with_reducible apply Blk.alloc | with_reducible apply Blk.drewN | with_reducible apply Blk.drew | with_reducible apply Blk.set_to | (with_reducible apply Blk.far_; (simp only [ne_eq]; omega)) | rfl)) hb4
                    replace K : Below wr.heap.size wr w4 := below_call (by repeat (first | with_reducible exact Below.refl _ _ | with_reducible assumption | with_reducible refine below_drewN ?_ _ | with_reducible refine Below.drew ?_ | with_reducible refine below_alloc ?_ _ | (with_reducible refine Below.setCell ?_ ?_ _; rotate_left; ((try simp only); omega)))) hb4
                    clear hb4
                    replace cX := rX.cell; replace zX := rX.lt; replace fX := rX.frozen
                    replace cA := rA.cell; replace zA := rA.lt; replace fA := rA.frozen
                    replace cQ := rQ.cell; replace zQ := rQ.lt; replace fQ := rQ.frozen
                    replace rF := rF0.kept K; replace cF := rF.cell; replace zF := rF.lt
                    replace rT := rT0.kept K; replace cT := rT.cell; replace zT := rT.lt
                    cases bb with
                    | false =>
                      go_wp2_with fail
                      go_roundw
                      case rel =>
                        refine ⟨k + 1, done, by omega, by go_num, by omega, ?_, own_call hown K, below_call k0 K, rF, rT⟩
                        have hr := hs.out
                        have ho := O.out
                        rw [if_neg (by simp)] at ho
                        rw [HD.out, cutAt_ok _ _ _ _ _ (by rw [ho]), ho, List.append_nil] at hr
                        exact Lib.hid hr
                      case measure => simp [intOf]; omega
                    | true =>
                      go_wp2_with fail
                      refine (H4.out _).mono ?_
                      rintro e w5 ⟨rfl, hb5⟩
                      replace rX : Blk w5 (wr.heap.size) 59 #[.int .i64 a, .int .i64 a', .int .i64 d, .int .i64 d', .int .i64 p, .int .i64 q, .int .i64 r, .bool rst, .int .i64 sg, .int .i64 ps] := Blk.kept (by repeat (first | with_reducible exact rX | with_reducible exact Blk.new _ _ _ | (with_reducible refine Blk.newAt _ _ _ _ ?_; first | rfl | (simp; done)) | with_reducible apply Blk.alloc | with_reducible apply Blk.drewN | with_reducible apply Blk.drew | with_reducible apply Blk.set_to | (with_reducible apply Blk.far_; (simp only [ne_eq]; omega)) | rfl)) hb5
                      replace rA : Blk w5 (gA) 24 #[.int .i64 a, .int .i64 a'] := Blk.kept (by repeat (first | with_reducible exact rA | with_reducible exact Blk.new _ _ _ | (with_reducible refine Blk.newAt _ _ _ _ ?_; first | rfl | (simp; done)) | with_reducible apply Blk.alloc | with_reducible apply Blk.drewN | with_reducible apply Blk.drew | with_reducible apply Blk.set_to | (with_reducible apply Blk.far_; (simp only [ne_eq]; omega)) | rfl)) hb5
                      replace rQ : Blk w5 (gQ) 24 #[.int .i64 y, .int .i64 y'] := Blk.kept (by repeat (first | with_reducible exact rQ | with_reducible exact Blk.new _ _ _ | (with_reducible refine Blk.newAt _ _ _ _ ?_; first | rfl | (simp; done)) | with_reducible apply Blk.alloc | with_reducible apply Blk.drewN | with_reducible apply Blk.drew | with_reducible apply Blk.set_to | (with_reducible apply Blk.far_; (simp only [ne_eq]; omega)) | rfl)) hb5
                      replace K : Below wr.heap.size wr w5 := below_call (by repeat (first | with_reducible exact Below.refl _ _ | with_reducible assumption | with_reducible refine below_drewN ?_ _ | with_reducible refine Below.drew ?_ | with_reducible refine below_alloc ?_ _ | (with_reducible refine Below.setCell ?_ ?_ _; rotate_left; ((try simp only); omega)))) hb5
                      clear hb5
                      replace cX := rX.cell; replace zX := rX.lt; replace fX := rX.frozen
                      replace cA := rA.cell; replace zA := rA.lt; replace fA := rA.frozen
                      replace cQ := rQ.cell; replace zQ := rQ.lt; replace fQ := rQ.frozen
                      replace rF := rF0.kept K; replace cF := rF.cell; replace zF := rF.lt
                      replace rT := rT0.kept K; replace cT := rT.cell; replace zT := rT.lt
                      have ho := O.out
                      rw [if_pos (by simp)] at ho
                      by_cases hse : se = 0
                      · subst hse
                        rw [if_neg (fun h => h rfl)] at ho
                        have O2 := Lib.hid ho; clear ho
                        have K2 : Below wr.heap.size wr (((w5.setCell ⟨wr.heap.size, 2, none⟩ (.int .i64 s)).setCell ⟨wr.heap.size, 3, none⟩ (.int .i64 s')).alloc (.cells #[.int .i64 a, .int .i64 a', .int .i64 s, .int .i64 s', .int .i64 p, .int .i64 q, .int .i64 r, .bool rst, .int .i64 sg, .int .i64 ps] 59)) := by repeat (first | with_reducible exact Below.refl _ _ | with_reducible assumption | with_reducible refine below_drewN ?_ _ | with_reducible refine Below.drew ?_ | with_reducible refine below_alloc ?_ _ | (with_reducible refine Below.setCell ?_ ?_ _; rotate_left; ((try simp only); omega)))
                        have rX2 : Blk ((w5.setCell ⟨wr.heap.size, 2, none⟩ (.int .i64 s)).setCell ⟨wr.heap.size, 3, none⟩ (.int .i64 s')) wr.heap.size 59 #[.int .i64 a, .int .i64 a', .int .i64 s, .int .i64 s', .int .i64 p, .int .i64 q, .int .i64 r, .bool rst, .int .i64 sg, .int .i64 ps] := by repeat (first | with_reducible exact rX | with_reducible exact Blk.new _ _ _ | (with_reducible refine Blk.newAt _ _ _ _ ?_; first | rfl | (simp; done)) | with_reducible apply Blk.alloc | with_reducible apply Blk.drewN | with_reducible apply Blk.drew | with_reducible apply Blk.set_to | (with_reducible apply Blk.far_; (simp only [ne_eq]; omega)) | rfl)
                        have hw5 : Hid (w5.heap.size = ((w5.setCell ⟨wr.heap.size, 2, none⟩ (.int .i64 s)).setCell ⟨wr.heap.size, 3, none⟩ (.int .i64 s')).heap.size) := Lib.hid (by simp [World.setCell])
                        go_wp2_with (at_builtin; (refine wpList_append_any _ rfl (.tmp 91) (.tmp 93) 22 rfl (w.heap.size + 1 + 1) 59 i0 _ 10 80 Try.underlying22 hi0 hz0 hz1 hz2 rfl (by omega) (.slice A3 done.length c3) done.length (csE done) rfl (own_call hown K2) (w5.heap.size + 1) (some ⟨w5.heap.size, 0, none⟩) 1 1 (csE [⟨(a, a'), (s, s'), (p, q, r), rst, sg, ps⟩]) rfl (Reads.newAt _ _ _ 1 10 _ hw5.out rfl) (one_csE _) (by simp only [maxLen]; omega) (by omega) (by have := K2.size; have := k0.size; omega) ?_); intro v6 w6 hown6 hg6 hat6)
                        go_roundw
                        case rel =>
                          have K6 : Below w.heap.size w w6 := (below_call k0 K2).grown hg6 (by have := K2.size; have := k0.size; omega) (fun j hj => by have := (hown.lt j hj).1; omega)
                          have nF : some w.heap.size ≠ (Value.slice A3 done.length c3).ownBlock := fun e => by have := (hown.lt _ e.symm).1; omega
                          have nT : some (w.heap.size + 1) ≠ (Value.slice A3 done.length c3).ownBlock := fun e => by have := (hown.lt _ e.symm).1; omega
                          refine ⟨k + 1, done ++ [⟨(a, a'), (s, s'), (p, q, r), rst, sg, ps⟩], by omega, by go_num, by simp; omega, ?_, ?_, K6, Blk.grown_ (rF0.kept K2) hg6 nF, Blk.grown_ (rT0.kept K2) hg6 nT⟩
                          · have hr := hs.out
                            rw [HD.out, cutAt_ok _ _ _ _ _ (by rw [O2.out]), O2.out] at hr
                            exact Lib.hid hr
                          · rw [csE_append, List.length_append]
                            exact hown6
                        case measure => simp [intOf]; omega
                      · have hse' : (se != 0) = true := by simpa using hse
                        rw [if_pos hse] at ho
                        have O2 := Lib.hid ho; clear ho hse
                        go_wp2_with fail
                        go_ret2
                        have hr := hs.out
                        have hse : se ≠ 0 := by simpa using hse'
                        rw [HD.out, cutAt_bad _ _ _ _ _ (by rw [O2.out]; exact hse), O2.out] at hr
                        have e1 : cutS l (f, f') (t, t') = ([], se) := by rw [E.out, ← hr, if_pos hse]
                        rw [e1]
                        exact ⟨none, 0, rfl, OwnE.nil_ _ _, below_call k0 (by repeat (first | with_reducible exact Below.refl _ _ | with_reducible assumption | with_reducible refine below_drewN ?_ _ | with_reducible refine Below.drew ?_ | with_reducible refine below_alloc ?_ _ | (with_reducible refine Below.setCell ?_ ?_ _; rotate_left; ((try simp only); omega))))⟩
              · have hr := hs.out
                rw [List.drop_eq_nil_of_le (by have := HL.out; omega), cutAt_end] at hr
                have e1 : cutS l (f, f') (t, t') = chainS done := by rw [E.out, ← hr]; rfl
                have E2 := Lib.hid e1
                clear hr e1
                go_wp2_with fail
                refine (chained_any _ done.length done (w.heap.size + 1 + 1) _ hown (by omega) (by have := rT0.lt; omega)).mono ?_
                rintro e w4 ⟨A4, c4, rfl, ho4, hb4⟩
                have k4 : Below w.heap.size w w4 := k0.trans (hb4.mono (by omega))
                go_wp2_with fail
                go_ret2
                rw [E2.out]
                exact ⟨A4, c4, rfl, ho4.lower (by omega), k4⟩
      | k + 3, h => exact absurd h (by omega)
  · have hee' : (ee != 0) = true := by simpa using hee
    have E := Lib.hid (show cutS l (f, f') (t, t') = ([], ee) by rw [cutS_v, ← he, if_pos hee])
    clear he
    go_enter Try.func17, Try.ntmps17
    go_wp2_with fail
    refine hc.mono ?_
    rintro e w1 ⟨rfl, hb1⟩
    have k1 := below_call k0 hb1
    go_wp2_with fail
    go_ret2
    rw [E.out]
    exact ⟨none, 0, rfl, OwnE.nil_ _ _, by repeat (first | with_reducible exact Below.refl _ _ | with_reducible assumption | with_reducible refine below_drewN ?_ _ | with_reducible refine Below.drew ?_ | with_reducible refine below_alloc ?_ _ | (with_reducible refine Below.setCell ?_ ?_ _; rotate_left; ((try simp only); omega)))⟩
end Go.Proofs.Ytiphacmmglohaaa
