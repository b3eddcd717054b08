/- Cut voices: the reference's walk. -/
import Derived.Test.YtiphacmmglohaaaCut
import Derived.Test.YtiphacmmglohaaaRefStretch
namespace Go.Proofs.Ytiphacmmglohaaa
open Go.RowKit
theorem range_ref (f t : Int × Int) (x x' : Int) : (lessB t f || lessB (x, x') t) = (decide (0 < (cmpS f t).1) || decide (0 < (cmpS t (x, x')).1)) := by rw [cmp_pos, cmp_pos]
theorem lay_blk {W we : World} {t : TypeId} {cs : Array Value} {G : Prop} (hb : Below W.heap.size W we) (g : Nat) (B : Blk W g t cs) (h : g < we.heap.size → (∀ i, we.cell? ⟨g, i, none⟩ = cs[i]?) → (∀ i, we.frozen? ⟨g, i, none⟩ = false) → Blk we g t cs → G) : G := h (B.kept hb).lt (B.kept hb).cell (B.kept hb).frozen (B.kept hb)
theorem pick_two {W wx : World} {a b lo : Nat} {t : TypeId} {z z' y y' u u' v v' : Value} {p : Prop} (hwx : wx = (((W.setCell ⟨a, 0, none⟩ u).setCell ⟨a, 1, none⟩ u').setCell ⟨b, 0, none⟩ v).setCell ⟨b, 1, none⟩ v') (hab : a ≠ b) (Ba : Blk W a t #[z, z']) (Bb : Blk W b t #[y, y']) (la : lo ≤ a) (lb : lo ≤ b) (k : ∀ gU gV, gU = a → gV = b → lo ≤ gU → Blk wx gU t #[u, u'] → lo ≤ gV → Blk wx gV t #[v, v'] → p) : p := by
  refine k a b rfl rfl la ?_ lb ?_
  · subst hwx
    exact Blk.far_ hab (Blk.far_ hab (Blk.set_to (Blk.set_to Ba rfl) rfl))
  · subst hwx
    exact Blk.set_to (Blk.set_to (Blk.far_ (Ne.symm hab) (Blk.far_ (Ne.symm hab) Bb)) rfl) rfl
theorem cmp_err (a b : Int × Int) : (cmpS a b).2 = both a b := by
  unfold cmpS
  by_cases h : both a b = 0
  · rw [h, if_neg (fun h => h rfl)]
  · rw [if_pos h]
set_option maxRecDepth 100000 in
set_option maxHeartbeats 4000000 in
theorem refCut_any (A : Option Addr) (n c : Nat) (l : List Ev) (ff tt : Int × Int) (B : Nat) (w : World) (h : Reads w B 10 A n (csE l)) (hB : B ≤ w.heap.size) (hn : n ≤ 4000) :
    Calls Try.prog 18 #[.slice A n c, vTm ff, vTm tt] w fun e w' => ∃ A' c', e = .returned (.tuple #[.slice A' (cutS l ff tt).1.length c', .int .i64 (cutS l ff tt).2]) ∧ OwnE w' w.heap.size (cutS l ff tt).1.length A' c' (cutS l ff tt).1 ∧ Below w.heap.size w w' := by
  obtain ⟨f, f'⟩ := ff
  obtain ⟨t, t'⟩ := tt
  have HL : Hid (l.length = n) := Lib.hid h.evlen
  obtain ⟨i0, hi0, hz0, hz1, hz2⟩ := info_parts event_info
  have rF : Blk ((w.alloc (.cells #[.int .i64 f, .int .i64 f'] 24)).alloc (.cells #[.int .i64 t, .int .i64 t'] 24)) w.heap.size 24 #[.int .i64 f, .int .i64 f'] := (Blk.new _ _ _).alloc _
  have rT : Blk ((w.alloc (.cells #[.int .i64 f, .int .i64 f'] 24)).alloc (.cells #[.int .i64 t, .int .i64 t'] 24)) (w.heap.size + 1) 24 #[.int .i64 t, .int .i64 t'] := Blk.newAt _ _ _ _ (by simp)
  have k0 : Below w.heap.size w ((w.alloc (.cells #[.int .i64 f, .int .i64 f'] 24)).alloc (.cells #[.int .i64 t, .int .i64 t'] 24)) := by repeat (first | exact Below.refl _ _ | refine below_drewN ?_ _ | refine Below.drew ?_ | refine below_alloc ?_ _ | (refine below_call ?_ (by assumption)) | (refine Below.setCell ?_ ?_ _; rotate_left; (simp; try omega)))
  have hc := refEvEnd_any A n c l B _ (h.below hB k0) (by simp; omega) (by omega)
  obtain ⟨⟨x, x', ee⟩, he⟩ : ∃ y, y = endS l := ⟨_, rfl⟩
  rw [← he] at hc
  by_cases hee : ee = 0
  · subst hee
    have hadd := add_of_end (l := l) (by rw [← he])
    have hE0 : cutS l (f, f') (t, t') = if both (f, f') (t, t') ≠ 0 then ([], both (f, f') (t, t')) else if rangeB l (f, f') (t, t') = true then ([], 2) else if (cutAll (f, f') (t, t') l).2 ≠ 0 then ([], (cutAll (f, f') (t, t') l).2) else chainS (cutAll (f, f') (t, t') l).1 := by rw [cutS_v, ← he, if_neg (fun h => h rfl)]
    have hRB : rangeB l (f, f') (t, t') = (lessB (t, t') (f, f') || lessB (x, x') (t, t')) := by unfold rangeB; rw [← he]
    rw [range_ref] at hRB
    clear he
    obtain ⟨⟨c1, ce⟩, hc1⟩ : ∃ z, z = cmpS (f, f') (t, t') := ⟨_, rfl⟩
    have q1 := refCmp_any (f, f') (t, t')
    have hce := cmp_err (f, f') (t, t')
    rw [← hc1] at q1 hRB hce
    simp only at hce
    rw [← hce] at hE0
    obtain ⟨⟨d1, de⟩, hd1⟩ : ∃ z, z = cmpS (t, t') (x, x') := ⟨_, rfl⟩
    have q2 := refCmp_any (t, t') (x, x')
    rw [← hd1] at q2 hRB
    rw [hRB] at hE0
    clear hRB hc1 hd1 hce
    have AD := Lib.hid hadd; have Q1 := Lib.hid q1; have Q2 := Lib.hid q2
    clear hadd q1 q2
    by_cases hzc : ce = 0
    · subst hzc
      rw [if_neg (fun h => h rfl)] at hE0
      by_cases hrange : 0 < c1 ∨ 0 < d1
      · rw [if_pos (by simpa using hrange)] at hE0
        have E := Lib.hid hE0; clear hE0
        go_enter Try.func18, Try.ntmps18
        go_wp2_with fail
        refine hc.mono ?_
        rintro e w1 ⟨rfl, hb1⟩
        replace rF := rF.kept hb1
        replace rT := rT.kept hb1
        have cF := rF.cell; have zF := rF.lt; have cT := rT.cell; have zT := rT.lt
        have mF : w.heap.size < w1.heap.size + 1 := by omega
        have mT : w.heap.size + 1 < w1.heap.size + 1 := by omega
        have k1 := below_call k0 hb1
        have rE : Blk (w1.alloc (.cells #[.int .i64 x, .int .i64 x'] 24)) w1.heap.size 24 #[.int .i64 x, .int .i64 x'] := Blk.new _ _ _
        go_wp2_with fail
        refine (Q1.out _).mono ?_
        rintro e w2 ⟨rfl, hb2⟩
        replace rT := (rT.alloc _).kept hb2
        replace rE := rE.kept hb2
        replace cT := rT.cell; replace zT := rT.lt
        have cE := rE.cell; have zE := rE.lt
        have k2 := below_call (below_alloc k1 _) hb2
        go_wp2_with fail
        refine (Q2.out _).mono ?_
        rintro e w3 ⟨rfl, hb3⟩
        have k3 := below_call k2 hb3
        go_wp2_with fail
        all_goals first | (exfalso; omega) | (go_ret2; rw [E.out]; exact ⟨none, 0, rfl, OwnE.nil_ _ _, k3⟩)
      · have hr1 : c1 ≤ 0 := by omega
        have hr2 : d1 ≤ 0 := by omega
        rw [if_neg (by simpa using hrange)] at hE0
        clear hrange
        have E := Lib.hid hE0; clear hE0
        go_enter Try.func18, Try.ntmps18
        go_wp2_with fail
        refine hc.mono ?_
        rintro e w1 ⟨rfl, hb1⟩
        replace rF := rF.kept hb1
        replace rT := rT.kept hb1
        have cF := rF.cell; have zF := rF.lt; have cT := rT.cell; have zT := rT.lt
        have mF : w.heap.size < w1.heap.size + 1 := by omega
        have mT : w.heap.size + 1 < w1.heap.size + 1 := by omega
        have k1 := below_call k0 hb1
        have rE : Blk (w1.alloc (.cells #[.int .i64 x, .int .i64 x'] 24)) w1.heap.size 24 #[.int .i64 x, .int .i64 x'] := Blk.new _ _ _
        go_wp2_with fail
        refine (Q1.out _).mono ?_
        rintro e w2 ⟨rfl, hb2⟩
        replace rF := (rF.alloc _).kept hb2
        replace rT := (rT.alloc _).kept hb2
        replace rE := rE.kept hb2
        replace cT := rT.cell; replace zT := rT.lt
        have cE := rE.cell; have zE := rE.lt
        have k2 := below_call (below_alloc k1 _) hb2
        go_wp2_with fail
        refine (Q2.out _).mono ?_
        rintro e w3 ⟨rfl, hb3⟩
        replace rF := rF.kept hb3
        replace rT := rT.kept hb3
        have k3 := below_call k2 hb3
        clear k0 k1 k2 cF cT zF zT cE zE mF mT rE hb1 hb2 hb3
        go_wp2_with fail
        all_goals try (exfalso; omega)
        go_loopw [9, 10, 13, 14] (fun _ _ v i wr => ∃ (k : Nat) (done : List Ev), k ≤ n ∧ i = .int .i64 k ∧ done.length ≤ k ∧ Hid (cutAt (f, f') (t, t') done (l.drop k) = cutAll (f, f') (t, t') l) ∧ wr.ownsRow (w.heap.size + 1 + 1) 59 10 v done.length (csE done) ∧ Below w.heap.size w wr ∧ Blk wr w.heap.size 24 #[.int .i64 f, .int .i64 f'] ∧ Blk wr (w.heap.size + 1) 24 #[.int .i64 t, .int .i64 t']) (fun _ _ _ i _ => n - (intOf i).toNat)
        case atStart => exact ⟨0, [], by omega, rfl, by simp, Lib.hid (cutAt_nil _ _ _), ⟨rfl, .inl ⟨rfl, rfl⟩⟩, k3, rF, rT⟩
        case round =>
          clear rF rT k3
          obtain ⟨k, done, hk, rfl, hdn, hs, hown, k0, rF0, rT0⟩ := hrel
          by_cases hlt : k < n
          · have hlt' : (k : Int) < (n : Int) := by omega
            obtain ⟨A3, c3, rfl, hown3⟩ := ownE_form hown
            clear hown3
            obtain ⟨x0, hx⟩ := get_some (l := l) (k := k) (by have := HL.out; omega)
            have HD := Lib.hid (drop_get hx)
            obtain ⟨b, off, rfl, hab, hcl⟩ := h.ev hB k0 hlt hx
            have hy := AD.out x0 (List.mem_of_getElem? hx)
            obtain ⟨⟨a, a'⟩, ⟨d, d'⟩, ⟨p, q, r⟩, rst, sg, ps⟩ := x0
            obtain ⟨g0, g1, g2, g3, g4, g5, g6, g7, g8, g9⟩ := ten hcl
            clear hcl hx
            simp only at g0 g1 g2 g3 g4 g5 g6 g7 g8 g9 hy
            obtain ⟨⟨y, y', ye⟩, hY'⟩ : ∃ z, z = addS (a, a') (d, d') := ⟨_, rfl⟩
            have hqa := refAdd_any (a, a') (d, d')
            rw [← hY'] at hy hqa
            simp only at hy
            subst hy
            -- what the round makes
            obtain ⟨⟨u, u'⟩, hU⟩ : ∃ z, z = laterS (a, a') (f, f') := ⟨_, rfl⟩
            have hql := later_any (a, a') (f, f')
            rw [← hU] at hql
            obtain ⟨⟨v, v'⟩, hV⟩ : ∃ z, z = earlierS (y, y') (t, t') := ⟨_, rfl⟩
            have hqe := earlier_any (y, y') (t, t')
            rw [← hV] at hqe
            have hone := cutOne_v (f, f') (t, t') ⟨(a, a'), (d, d'), (p, q, r), rst, sg, ps⟩
            have hfr : fromS (f, f') ⟨(a, a'), (d, d'), (p, q, r), rst, sg, ps⟩ = (u, u') := by rw [hU]; rfl
            have hto : toS (t, t') ⟨(a, a'), (d, d'), (p, q, r), rst, sg, ps⟩ = (v, v') := by rw [hV]; unfold toS nextS earlierS; simp only [← hY']
            rw [hfr, hto] at hone
            obtain ⟨⟨m, me⟩, hm⟩ : ∃ z, z = cmpS (u, u') (v, v') := ⟨_, rfl⟩
            have hqc := refCmp_any (u, u') (v, v')
            rw [← hm] at hqc
            have hbb : lessB (u, u') (v, v') = decide (m < 0) := by unfold lessB; rw [← hm]
            rw [hbb] at hone
            obtain ⟨⟨s, s', se⟩, hS⟩ : ∃ z, z = subS (v, v') (u, u') := ⟨_, rfl⟩
            have hqs := refSub_any (v, v') (u, u')
            rw [← hS] at hqs hone
            clear hU hV hfr hto hm hbb hS hY'
            have O := Lib.hid hone; have QA := Lib.hid hqa; have QL := Lib.hid hql; have QE := Lib.hid hqe; have QC := Lib.hid hqc; have QS := Lib.hid hqs
            clear hone hqa hql hqe hqc hqs
            have zF0 := rF0.lt; have zT0 := rT0.lt
            have cF0 := rF0.cell; have cT0 := rT0.cell
            go_wp2_with fail
            -- stop, _ := Add(l[i].At, l[i].Dur)
            apply share
            · intro main
              go_region_held3 (fun w' => w'.cell? ⟨b, off + k * 10, none⟩ = some (.int .i64 a) ∧ w'.cell? ⟨b, off + k * 10 + 1, none⟩ = some (.int .i64 a') ∧ w'.cell? ⟨b, off + k * 10 + 2, none⟩ = some (.int .i64 d) ∧ w'.cell? ⟨b, off + k * 10 + 3, none⟩ = some (.int .i64 d') ∧ Below wr.heap.size wr w') ((refine (fun hb => ⟨(hb.cell (p := ⟨_, _, none⟩) hab).trans g0, (hb.cell (p := ⟨_, _, none⟩) hab).trans g1, (hb.cell (p := ⟨_, _, none⟩) hab).trans g2, (hb.cell (p := ⟨_, _, none⟩) hab).trans g3, hb⟩) ?_; repeat (first | exact Below.refl _ _ | exact hBd | exact (show _ ∧ _ ∧ _ ∧ _ ∧ Below wr.heap.size wr _ by assumption).2.2.2.2 | refine Below.drew ?_ | refine below_alloc ?_ _ | (refine Below.setCell ?_ ?_ _; rotate_left; (first | (have hz := hBd.size; show wr.heap.size ≤ _; simp only; omega) | (show wr.heap.size ≤ _; simp only; omega)))))) (first | (go_at_call 52; refine (QA.out _).mono ?_; rintro e wd ⟨rfl, hbd⟩; have hBd := below_call (show _ ∧ _ ∧ _ ∧ _ ∧ Below wr.heap.size wr _ by assumption).2.2.2.2 hbd; have hcd := (bcell hbd).1; have hfd := (bcell hbd).2; try (have hzd : wr.heap.size < wd.heap.size := by have hz := hbd.size; simp at hz; omega)))
              all_goals
                have hB5 := (show _ ∧ _ ∧ _ ∧ _ ∧ Below wr.heap.size wr _ by assumption).2.2.2.2
                obtain ⟨wv, hwv⟩ := name_world hB5
                first
                  | (refine pick_block (wv := wv) (lo := wr.heap.size) (t := 24) wd.heap.size #[.int .i64 y, .int .i64 y'] ?_ ?_ ?_; (focus (have hz := hBd.size; omega)); (focus (rw [hwv]; repeat (first | with_reducible exact Blk.new _ _ _ | (with_reducible refine Blk.newAt _ _ _ _ ?_; first | rfl | (simp; done)) | with_reducible apply Blk.alloc | with_reducible apply Blk.drewN | with_reducible apply Blk.drew | with_reducible apply Blk.set_to | (with_reducible apply Blk.far_; (simp only [ne_eq]; omega)) | (with_reducible apply Blk.kept (hb := hbd)) | rfl))); intro gx hgx hgq5 BX5)
                  | (refine pick_block (wv := wv) (lo := wr.heap.size) (t := 24) wr.heap.size #[.int .i64 y, .int .i64 y'] ?_ ?_ ?_; (focus omega); (focus (rw [hwv]; repeat (first | with_reducible exact Blk.new _ _ _ | (with_reducible refine Blk.newAt _ _ _ _ ?_; first | rfl | (simp; done)) | with_reducible apply Blk.alloc | with_reducible apply Blk.drewN | with_reducible apply Blk.drew | with_reducible apply Blk.set_to | (with_reducible apply Blk.far_; (simp only [ne_eq]; omega)) | (with_reducible apply Blk.kept (hb := hbd)) | rfl))); intro gx hgx hgq5 BX5)
                rw [← hwv] at hB5 ⊢
                rw [← hgx]
                clear hwv hgx
                revert BX5; revert hgq5; revert gx; revert hB5; revert wv; exact main.out
            intro wv K gN lN rN
            have hab5 := Nat.lt_of_lt_of_le hab K.size
            have e0 := (K.cell (p := ⟨b, off + k * 10, none⟩) hab).trans g0
            have e1 := (K.cell (p := ⟨b, off + k * 10 + 1, none⟩) hab).trans g1
            have rF := rF0.kept K; have rT := rT0.kept K
            have cN := rN.cell; have zN := rN.lt
            have zF := rF.lt; have zT := rT.lt
            have n0 : wv.cell? ⟨gN, 0, none⟩ = some (.int .i64 y) := cN 0
            have n1 : wv.cell? ⟨gN, 1, none⟩ = some (.int .i64 y') := cN 1
            have f0 : wv.cell? ⟨w.heap.size, 0, none⟩ = some (.int .i64 f) := rF.cell 0
            have f1 : wv.cell? ⟨w.heap.size, 1, none⟩ = some (.int .i64 f') := rF.cell 1
            have t0 : wv.cell? ⟨w.heap.size + 1, 0, none⟩ = some (.int .i64 t) := rT.cell 0
            have t1 : wv.cell? ⟨w.heap.size + 1, 1, none⟩ = some (.int .i64 t') := rT.cell 1
            clear cN cF0 cT0
            go_wp2_with fail
            apply share
            · intro main
              go_region_held3 (fun w' => w'.cell? ⟨b, off + k * 10, none⟩ = some (.int .i64 a) ∧ w'.cell? ⟨b, off + k * 10 + 1, none⟩ = some (.int .i64 a') ∧ w'.cell? ⟨gN, 0, none⟩ = some (.int .i64 y) ∧ w'.cell? ⟨gN, 1, none⟩ = some (.int .i64 y') ∧ w'.cell? ⟨w.heap.size, 0, none⟩ = some (.int .i64 f) ∧ w'.cell? ⟨w.heap.size, 1, none⟩ = some (.int .i64 f') ∧ w'.cell? ⟨w.heap.size + 1, 0, none⟩ = some (.int .i64 t) ∧ w'.cell? ⟨w.heap.size + 1, 1, none⟩ = some (.int .i64 t') ∧ Below wv.heap.size wv w') ((refine (fun hb => ⟨(hb.cell (p := ⟨_, _, none⟩) hab5).trans e0, (hb.cell (p := ⟨_, _, none⟩) hab5).trans e1, (hb.cell (p := ⟨_, _, none⟩) zN).trans n0, (hb.cell (p := ⟨_, _, none⟩) zN).trans n1, (hb.cell (p := ⟨_, _, none⟩) zF).trans f0, (hb.cell (p := ⟨_, _, none⟩) zF).trans f1, (hb.cell (p := ⟨_, _, none⟩) zT).trans t0, (hb.cell (p := ⟨_, _, none⟩) zT).trans t1, hb⟩) ?_; repeat (first | exact Below.refl _ _ | exact hBe | exact hBd | exact (show _ ∧ _ ∧ _ ∧ _ ∧ _ ∧ _ ∧ _ ∧ _ ∧ Below wv.heap.size wv _ by assumption).2.2.2.2.2.2.2.2 | refine Below.drew ?_ | refine below_alloc ?_ _ | (refine Below.setCell ?_ ?_ _; rotate_left; (first | (have hz := hBd.size; have hz' := hBe.size; show wv.heap.size ≤ _; simp only; omega) | (have hz := hBd.size; show wv.heap.size ≤ _; simp only; omega) | (show wv.heap.size ≤ _; simp only; omega)))))) (first | (go_at_call 53; refine (QL.out _).mono ?_; rintro e wd ⟨rfl, hbd⟩; have hBd := below_call (show _ ∧ _ ∧ _ ∧ _ ∧ _ ∧ _ ∧ _ ∧ _ ∧ Below wv.heap.size wv _ by assumption).2.2.2.2.2.2.2.2 hbd; have hcd := (bcell hbd).1; have hfd := (bcell hbd).2; (try (refine lay_blk hbd (wv.heap.size) (t := 24) (cs := #[.int .i64 0, .int .i64 0]) ?_ ?_; (focus ((repeat (first | with_reducible exact Blk.new _ _ _ | (with_reducible refine Blk.newAt _ _ _ _ ?_; first | rfl | (simp; done)) | with_reducible apply Blk.alloc | with_reducible apply Blk.drewN | with_reducible apply Blk.drew | with_reducible assumption)); done)); intro lzP lcP lfP lbP)); (try (refine lay_blk hbd (wv.heap.size + 1) (t := 24) (cs := #[.int .i64 0, .int .i64 0]) ?_ ?_; (focus ((repeat (first | with_reducible exact Blk.new _ _ _ | (with_reducible refine Blk.newAt _ _ _ _ ?_; first | rfl | (simp; done)) | with_reducible apply Blk.alloc | with_reducible apply Blk.drewN | with_reducible apply Blk.drew | with_reducible assumption)); done)); intro lzQ lcQ lfQ lbQ))) | (go_at_call 54; refine (QE.out _).mono ?_; rintro e we ⟨rfl, hbe⟩; have hBe := below_call (show _ ∧ _ ∧ _ ∧ _ ∧ _ ∧ _ ∧ _ ∧ _ ∧ Below wv.heap.size wv _ by assumption).2.2.2.2.2.2.2.2 hbe; have hce := (bcell hbe).1; have hfe := (bcell hbe).2; (try (refine lay_blk hbe (wv.heap.size) (t := 24) (cs := #[.int .i64 0, .int .i64 0]) ?_ ?_; (focus ((repeat (first | with_reducible exact Blk.new _ _ _ | (with_reducible refine Blk.newAt _ _ _ _ ?_; first | rfl | (simp; done)) | with_reducible apply Blk.alloc | with_reducible apply Blk.drewN | with_reducible apply Blk.drew | with_reducible assumption | with_reducible apply Blk.kept (hb := hbd))); done)); intro lzR lcR lfR lbR)); (try (refine lay_blk hbe (wv.heap.size + 1) (t := 24) (cs := #[.int .i64 0, .int .i64 0]) ?_ ?_; (focus ((repeat (first | with_reducible exact Blk.new _ _ _ | (with_reducible refine Blk.newAt _ _ _ _ ?_; first | rfl | (simp; done)) | with_reducible apply Blk.alloc | with_reducible apply Blk.drewN | with_reducible apply Blk.drew | with_reducible assumption | with_reducible apply Blk.kept (hb := hbd))); done)); intro lzS lcS lfS lbS)); (try (refine lay_blk hbe (wd.heap.size) (t := 24) (cs := #[.int .i64 0, .int .i64 0]) ?_ ?_; (focus ((repeat (first | with_reducible exact Blk.new _ _ _ | (with_reducible refine Blk.newAt _ _ _ _ ?_; first | rfl | (simp; done)) | with_reducible apply Blk.alloc | with_reducible apply Blk.drewN | with_reducible apply Blk.drew | with_reducible assumption)); done)); intro lzT lcT lfT lbT)); (try (refine lay_blk hbe (wd.heap.size + 1) (t := 24) (cs := #[.int .i64 0, .int .i64 0]) ?_ ?_; (focus ((repeat (first | with_reducible exact Blk.new _ _ _ | (with_reducible refine Blk.newAt _ _ _ _ ?_; first | rfl | (simp; done)) | with_reducible apply Blk.alloc | with_reducible apply Blk.drewN | with_reducible apply Blk.drew | with_reducible assumption)); done)); intro lzU lcU lfU lbU))))
              all_goals
                have hB5 := (show _ ∧ _ ∧ _ ∧ _ ∧ _ ∧ _ ∧ _ ∧ _ ∧ Below wv.heap.size wv _ by assumption).2.2.2.2.2.2.2.2
                have hz1 := hbd.size
                have hz2 := hbe.size
                simp at hz1 hz2
                obtain ⟨wx, hwx⟩ := name_world hB5
                rw [← hwx] at hB5 ⊢
                first
                  | ((first | (refine pick_block (wv := wx) (lo := wv.heap.size) (t := 24) (wv.heap.size + 1) #[.int .i64 u, .int .i64 u'] ?_ ?_ ?_; (focus omega); (focus (rw [hwx]; repeat (first | with_reducible exact Blk.new _ _ _ | (with_reducible refine Blk.newAt _ _ _ _ ?_; first | rfl | (simp; done)) | with_reducible apply Blk.alloc | with_reducible apply Blk.drewN | with_reducible apply Blk.drew | with_reducible apply Blk.set_to | (with_reducible apply Blk.far_; (simp only [ne_eq]; omega)) | (with_reducible apply Blk.kept (hb := hbd)) | (with_reducible apply Blk.kept (hb := hbe)) | rfl))); intro gU hgU lU BU; rw [← hgU]; clear hgU) | (refine pick_block (wv := wx) (lo := wv.heap.size) (t := 24) (wd.heap.size + 1) #[.int .i64 u, .int .i64 u'] ?_ ?_ ?_; (focus omega); (focus (rw [hwx]; repeat (first | with_reducible exact Blk.new _ _ _ | (with_reducible refine Blk.newAt _ _ _ _ ?_; first | rfl | (simp; done)) | with_reducible apply Blk.alloc | with_reducible apply Blk.drewN | with_reducible apply Blk.drew | with_reducible apply Blk.set_to | (with_reducible apply Blk.far_; (simp only [ne_eq]; omega)) | (with_reducible apply Blk.kept (hb := hbd)) | (with_reducible apply Blk.kept (hb := hbe)) | rfl))); intro gU hgU lU BU; rw [← hgU]; clear hgU) | (refine pick_block (wv := wx) (lo := wv.heap.size) (t := 24) (we.heap.size + 1) #[.int .i64 u, .int .i64 u'] ?_ ?_ ?_; (focus omega); (focus (rw [hwx]; repeat (first | with_reducible exact Blk.new _ _ _ | (with_reducible refine Blk.newAt _ _ _ _ ?_; first | rfl | (simp; done)) | with_reducible apply Blk.alloc | with_reducible apply Blk.drewN | with_reducible apply Blk.drew | with_reducible apply Blk.set_to | (with_reducible apply Blk.far_; (simp only [ne_eq]; omega)) | (with_reducible apply Blk.kept (hb := hbd)) | (with_reducible apply Blk.kept (hb := hbe)) | rfl))); intro gU hgU lU BU; rw [← hgU]; clear hgU)); (first | (refine pick_block (wv := wx) (lo := wv.heap.size) (t := 24) (wv.heap.size + 1) #[.int .i64 v, .int .i64 v'] ?_ ?_ ?_; (focus omega); (focus (rw [hwx]; repeat (first | with_reducible exact Blk.new _ _ _ | (with_reducible refine Blk.newAt _ _ _ _ ?_; first | rfl | (simp; done)) | with_reducible apply Blk.alloc | with_reducible apply Blk.drewN | with_reducible apply Blk.drew | with_reducible apply Blk.set_to | (with_reducible apply Blk.far_; (simp only [ne_eq]; omega)) | (with_reducible apply Blk.kept (hb := hbd)) | (with_reducible apply Blk.kept (hb := hbe)) | rfl))); intro gV hgV lV BV; rw [← hgV]; clear hgV) | (refine pick_block (wv := wx) (lo := wv.heap.size) (t := 24) (wd.heap.size + 1) #[.int .i64 v, .int .i64 v'] ?_ ?_ ?_; (focus omega); (focus (rw [hwx]; repeat (first | with_reducible exact Blk.new _ _ _ | (with_reducible refine Blk.newAt _ _ _ _ ?_; first | rfl | (simp; done)) | with_reducible apply Blk.alloc | with_reducible apply Blk.drewN | with_reducible apply Blk.drew | with_reducible apply Blk.set_to | (with_reducible apply Blk.far_; (simp only [ne_eq]; omega)) | (with_reducible apply Blk.kept (hb := hbd)) | (with_reducible apply Blk.kept (hb := hbe)) | rfl))); intro gV hgV lV BV; rw [← hgV]; clear hgV) | (refine pick_block (wv := wx) (lo := wv.heap.size) (t := 24) (we.heap.size + 1) #[.int .i64 v, .int .i64 v'] ?_ ?_ ?_; (focus omega); (focus (rw [hwx]; repeat (first | with_reducible exact Blk.new _ _ _ | (with_reducible refine Blk.newAt _ _ _ _ ?_; first | rfl | (simp; done)) | with_reducible apply Blk.alloc | with_reducible apply Blk.drewN | with_reducible apply Blk.drew | with_reducible apply Blk.set_to | (with_reducible apply Blk.far_; (simp only [ne_eq]; omega)) | (with_reducible apply Blk.kept (hb := hbd)) | (with_reducible apply Blk.kept (hb := hbe)) | rfl))); intro gV hgV lV BV; rw [← hgV]; clear hgV) | (refine pick_block (wv := wx) (lo := wv.heap.size) (t := 24) (wv.heap.size) #[.int .i64 v, .int .i64 v'] ?_ ?_ ?_; (focus omega); (focus (rw [hwx]; repeat (first | with_reducible exact Blk.new _ _ _ | (with_reducible refine Blk.newAt _ _ _ _ ?_; first | rfl | (simp; done)) | with_reducible apply Blk.alloc | with_reducible apply Blk.drewN | with_reducible apply Blk.drew | with_reducible apply Blk.set_to | (with_reducible apply Blk.far_; (simp only [ne_eq]; omega)) | (with_reducible apply Blk.kept (hb := hbd)) | (with_reducible apply Blk.kept (hb := hbe)) | rfl))); intro gV hgV lV BV; rw [← hgV]; clear hgV) | (refine pick_block (wv := wx) (lo := wv.heap.size) (t := 24) (wd.heap.size) #[.int .i64 v, .int .i64 v'] ?_ ?_ ?_; (focus omega); (focus (rw [hwx]; repeat (first | with_reducible exact Blk.new _ _ _ | (with_reducible refine Blk.newAt _ _ _ _ ?_; first | rfl | (simp; done)) | with_reducible apply Blk.alloc | with_reducible apply Blk.drewN | with_reducible apply Blk.drew | with_reducible apply Blk.set_to | (with_reducible apply Blk.far_; (simp only [ne_eq]; omega)) | (with_reducible apply Blk.kept (hb := hbd)) | (with_reducible apply Blk.kept (hb := hbe)) | rfl))); intro gV hgV lV BV; rw [← hgV]; clear hgV) | (refine pick_block (wv := wx) (lo := wv.heap.size) (t := 24) (we.heap.size) #[.int .i64 v, .int .i64 v'] ?_ ?_ ?_; (focus omega); (focus (rw [hwx]; repeat (first | with_reducible exact Blk.new _ _ _ | (with_reducible refine Blk.newAt _ _ _ _ ?_; first | rfl | (simp; done)) | with_reducible apply Blk.alloc | with_reducible apply Blk.drewN | with_reducible apply Blk.drew | with_reducible apply Blk.set_to | (with_reducible apply Blk.far_; (simp only [ne_eq]; omega)) | (with_reducible apply Blk.kept (hb := hbd)) | (with_reducible apply Blk.kept (hb := hbe)) | rfl))); intro gV hgV lV BV; rw [← hgV]; clear hgV)); revert BV; revert lV; revert BU; revert lU; revert gV; revert gU; revert hB5; clear hwx; revert wx; exact main.out)
                  | ((first | (refine pick_block (wv := wx) (lo := wv.heap.size) (t := 24) (wv.heap.size + 1) #[.int .i64 v, .int .i64 v'] ?_ ?_ ?_; (focus omega); (focus (rw [hwx]; repeat (first | with_reducible exact Blk.new _ _ _ | (with_reducible refine Blk.newAt _ _ _ _ ?_; first | rfl | (simp; done)) | with_reducible apply Blk.alloc | with_reducible apply Blk.drewN | with_reducible apply Blk.drew | with_reducible apply Blk.set_to | (with_reducible apply Blk.far_; (simp only [ne_eq]; omega)) | (with_reducible apply Blk.kept (hb := hbd)) | (with_reducible apply Blk.kept (hb := hbe)) | rfl))); intro gV hgV lV BV; rw [← hgV]; clear hgV) | (refine pick_block (wv := wx) (lo := wv.heap.size) (t := 24) (wd.heap.size + 1) #[.int .i64 v, .int .i64 v'] ?_ ?_ ?_; (focus omega); (focus (rw [hwx]; repeat (first | with_reducible exact Blk.new _ _ _ | (with_reducible refine Blk.newAt _ _ _ _ ?_; first | rfl | (simp; done)) | with_reducible apply Blk.alloc | with_reducible apply Blk.drewN | with_reducible apply Blk.drew | with_reducible apply Blk.set_to | (with_reducible apply Blk.far_; (simp only [ne_eq]; omega)) | (with_reducible apply Blk.kept (hb := hbd)) | (with_reducible apply Blk.kept (hb := hbe)) | rfl))); intro gV hgV lV BV; rw [← hgV]; clear hgV) | (refine pick_block (wv := wx) (lo := wv.heap.size) (t := 24) (we.heap.size + 1) #[.int .i64 v, .int .i64 v'] ?_ ?_ ?_; (focus omega); (focus (rw [hwx]; repeat (first | with_reducible exact Blk.new _ _ _ | (with_reducible refine Blk.newAt _ _ _ _ ?_; first | rfl | (simp; done)) | with_reducible apply Blk.alloc | with_reducible apply Blk.drewN | with_reducible apply Blk.drew | with_reducible apply Blk.set_to | (with_reducible apply Blk.far_; (simp only [ne_eq]; omega)) | (with_reducible apply Blk.kept (hb := hbd)) | (with_reducible apply Blk.kept (hb := hbe)) | rfl))); intro gV hgV lV BV; rw [← hgV]; clear hgV)); (first | (refine pick_block (wv := wx) (lo := wv.heap.size) (t := 24) (wv.heap.size + 1) #[.int .i64 u, .int .i64 u'] ?_ ?_ ?_; (focus omega); (focus (rw [hwx]; repeat (first | with_reducible exact Blk.new _ _ _ | (with_reducible refine Blk.newAt _ _ _ _ ?_; first | rfl | (simp; done)) | with_reducible apply Blk.alloc | with_reducible apply Blk.drewN | with_reducible apply Blk.drew | with_reducible apply Blk.set_to | (with_reducible apply Blk.far_; (simp only [ne_eq]; omega)) | (with_reducible apply Blk.kept (hb := hbd)) | (with_reducible apply Blk.kept (hb := hbe)) | rfl))); intro gU hgU lU BU; rw [← hgU]; clear hgU) | (refine pick_block (wv := wx) (lo := wv.heap.size) (t := 24) (wd.heap.size + 1) #[.int .i64 u, .int .i64 u'] ?_ ?_ ?_; (focus omega); (focus (rw [hwx]; repeat (first | with_reducible exact Blk.new _ _ _ | (with_reducible refine Blk.newAt _ _ _ _ ?_; first | rfl | (simp; done)) | with_reducible apply Blk.alloc | with_reducible apply Blk.drewN | with_reducible apply Blk.drew | with_reducible apply Blk.set_to | (with_reducible apply Blk.far_; (simp only [ne_eq]; omega)) | (with_reducible apply Blk.kept (hb := hbd)) | (with_reducible apply Blk.kept (hb := hbe)) | rfl))); intro gU hgU lU BU; rw [← hgU]; clear hgU) | (refine pick_block (wv := wx) (lo := wv.heap.size) (t := 24) (we.heap.size + 1) #[.int .i64 u, .int .i64 u'] ?_ ?_ ?_; (focus omega); (focus (rw [hwx]; repeat (first | with_reducible exact Blk.new _ _ _ | (with_reducible refine Blk.newAt _ _ _ _ ?_; first | rfl | (simp; done)) | with_reducible apply Blk.alloc | with_reducible apply Blk.drewN | with_reducible apply Blk.drew | with_reducible apply Blk.set_to | (with_reducible apply Blk.far_; (simp only [ne_eq]; omega)) | (with_reducible apply Blk.kept (hb := hbd)) | (with_reducible apply Blk.kept (hb := hbe)) | rfl))); intro gU hgU lU BU; rw [← hgU]; clear hgU) | (refine pick_block (wv := wx) (lo := wv.heap.size) (t := 24) (wv.heap.size) #[.int .i64 u, .int .i64 u'] ?_ ?_ ?_; (focus omega); (focus (rw [hwx]; repeat (first | with_reducible exact Blk.new _ _ _ | (with_reducible refine Blk.newAt _ _ _ _ ?_; first | rfl | (simp; done)) | with_reducible apply Blk.alloc | with_reducible apply Blk.drewN | with_reducible apply Blk.drew | with_reducible apply Blk.set_to | (with_reducible apply Blk.far_; (simp only [ne_eq]; omega)) | (with_reducible apply Blk.kept (hb := hbd)) | (with_reducible apply Blk.kept (hb := hbe)) | rfl))); intro gU hgU lU BU; rw [← hgU]; clear hgU) | (refine pick_block (wv := wx) (lo := wv.heap.size) (t := 24) (wd.heap.size) #[.int .i64 u, .int .i64 u'] ?_ ?_ ?_; (focus omega); (focus (rw [hwx]; repeat (first | with_reducible exact Blk.new _ _ _ | (with_reducible refine Blk.newAt _ _ _ _ ?_; first | rfl | (simp; done)) | with_reducible apply Blk.alloc | with_reducible apply Blk.drewN | with_reducible apply Blk.drew | with_reducible apply Blk.set_to | (with_reducible apply Blk.far_; (simp only [ne_eq]; omega)) | (with_reducible apply Blk.kept (hb := hbd)) | (with_reducible apply Blk.kept (hb := hbe)) | rfl))); intro gU hgU lU BU; rw [← hgU]; clear hgU) | (refine pick_block (wv := wx) (lo := wv.heap.size) (t := 24) (we.heap.size) #[.int .i64 u, .int .i64 u'] ?_ ?_ ?_; (focus omega); (focus (rw [hwx]; repeat (first | with_reducible exact Blk.new _ _ _ | (with_reducible refine Blk.newAt _ _ _ _ ?_; first | rfl | (simp; done)) | with_reducible apply Blk.alloc | with_reducible apply Blk.drewN | with_reducible apply Blk.drew | with_reducible apply Blk.set_to | (with_reducible apply Blk.far_; (simp only [ne_eq]; omega)) | (with_reducible apply Blk.kept (hb := hbd)) | (with_reducible apply Blk.kept (hb := hbe)) | rfl))); intro gU hgU lU BU; rw [← hgU]; clear hgU)); revert BV; revert lV; revert BU; revert lU; revert gV; revert gU; revert hB5; clear hwx; revert wx; exact main.out)
                  | ((first | (refine pick_block (wv := wx) (lo := wv.heap.size) (t := 24) (wv.heap.size) #[.int .i64 u, .int .i64 u'] ?_ ?_ ?_; (focus omega); (focus (rw [hwx]; repeat (first | with_reducible exact Blk.new _ _ _ | (with_reducible refine Blk.newAt _ _ _ _ ?_; first | rfl | (simp; done)) | with_reducible apply Blk.alloc | with_reducible apply Blk.drewN | with_reducible apply Blk.drew | with_reducible apply Blk.set_to | (with_reducible apply Blk.far_; (simp only [ne_eq]; omega)) | (with_reducible apply Blk.kept (hb := hbd)) | (with_reducible apply Blk.kept (hb := hbe)) | rfl))); intro gU hgU lU BU; rw [← hgU]; clear hgU) | (refine pick_block (wv := wx) (lo := wv.heap.size) (t := 24) (wd.heap.size) #[.int .i64 u, .int .i64 u'] ?_ ?_ ?_; (focus omega); (focus (rw [hwx]; repeat (first | with_reducible exact Blk.new _ _ _ | (with_reducible refine Blk.newAt _ _ _ _ ?_; first | rfl | (simp; done)) | with_reducible apply Blk.alloc | with_reducible apply Blk.drewN | with_reducible apply Blk.drew | with_reducible apply Blk.set_to | (with_reducible apply Blk.far_; (simp only [ne_eq]; omega)) | (with_reducible apply Blk.kept (hb := hbd)) | (with_reducible apply Blk.kept (hb := hbe)) | rfl))); intro gU hgU lU BU; rw [← hgU]; clear hgU) | (refine pick_block (wv := wx) (lo := wv.heap.size) (t := 24) (we.heap.size) #[.int .i64 u, .int .i64 u'] ?_ ?_ ?_; (focus omega); (focus (rw [hwx]; repeat (first | with_reducible exact Blk.new _ _ _ | (with_reducible refine Blk.newAt _ _ _ _ ?_; first | rfl | (simp; done)) | with_reducible apply Blk.alloc | with_reducible apply Blk.drewN | with_reducible apply Blk.drew | with_reducible apply Blk.set_to | (with_reducible apply Blk.far_; (simp only [ne_eq]; omega)) | (with_reducible apply Blk.kept (hb := hbd)) | (with_reducible apply Blk.kept (hb := hbe)) | rfl))); intro gU hgU lU BU; rw [← hgU]; clear hgU)); (first | (refine pick_block (wv := wx) (lo := wv.heap.size) (t := 24) (wv.heap.size) #[.int .i64 v, .int .i64 v'] ?_ ?_ ?_; (focus omega); (focus (rw [hwx]; repeat (first | with_reducible exact Blk.new _ _ _ | (with_reducible refine Blk.newAt _ _ _ _ ?_; first | rfl | (simp; done)) | with_reducible apply Blk.alloc | with_reducible apply Blk.drewN | with_reducible apply Blk.drew | with_reducible apply Blk.set_to | (with_reducible apply Blk.far_; (simp only [ne_eq]; omega)) | (with_reducible apply Blk.kept (hb := hbd)) | (with_reducible apply Blk.kept (hb := hbe)) | rfl))); intro gV hgV lV BV; rw [← hgV]; clear hgV) | (refine pick_block (wv := wx) (lo := wv.heap.size) (t := 24) (wd.heap.size) #[.int .i64 v, .int .i64 v'] ?_ ?_ ?_; (focus omega); (focus (rw [hwx]; repeat (first | with_reducible exact Blk.new _ _ _ | (with_reducible refine Blk.newAt _ _ _ _ ?_; first | rfl | (simp; done)) | with_reducible apply Blk.alloc | with_reducible apply Blk.drewN | with_reducible apply Blk.drew | with_reducible apply Blk.set_to | (with_reducible apply Blk.far_; (simp only [ne_eq]; omega)) | (with_reducible apply Blk.kept (hb := hbd)) | (with_reducible apply Blk.kept (hb := hbe)) | rfl))); intro gV hgV lV BV; rw [← hgV]; clear hgV) | (refine pick_block (wv := wx) (lo := wv.heap.size) (t := 24) (we.heap.size) #[.int .i64 v, .int .i64 v'] ?_ ?_ ?_; (focus omega); (focus (rw [hwx]; repeat (first | with_reducible exact Blk.new _ _ _ | (with_reducible refine Blk.newAt _ _ _ _ ?_; first | rfl | (simp; done)) | with_reducible apply Blk.alloc | with_reducible apply Blk.drewN | with_reducible apply Blk.drew | with_reducible apply Blk.set_to | (with_reducible apply Blk.far_; (simp only [ne_eq]; omega)) | (with_reducible apply Blk.kept (hb := hbd)) | (with_reducible apply Blk.kept (hb := hbe)) | rfl))); intro gV hgV lV BV; rw [← hgV]; clear hgV)); revert BV; revert lV; revert BU; revert lU; revert gV; revert gU; revert hB5; clear hwx; revert wx; exact main.out)
                  | (refine pick_two (lo := wv.heap.size) (t := 24) (z := .int .i64 0) (z' := .int .i64 0) (y := .int .i64 0) (y' := .int .i64 0) hwx ?_ ?_ ?_ ?_ ?_ ?_; (focus (simp only [ne_eq]; omega)); (focus (repeat (first | with_reducible exact Blk.new _ _ _ | (with_reducible refine Blk.newAt _ _ _ _ ?_; first | rfl | (simp; done)) | with_reducible assumption | with_reducible apply Blk.alloc | with_reducible apply Blk.drewN | with_reducible apply Blk.drew | with_reducible apply Blk.kept (hb := hbe) | with_reducible apply Blk.kept (hb := hbd)))); (focus (repeat (first | with_reducible exact Blk.new _ _ _ | (with_reducible refine Blk.newAt _ _ _ _ ?_; first | rfl | (simp; done)) | with_reducible assumption | with_reducible apply Blk.alloc | with_reducible apply Blk.drewN | with_reducible apply Blk.drew | with_reducible apply Blk.kept (hb := hbe) | with_reducible apply Blk.kept (hb := hbd)))); (focus omega); (focus omega); intro gU gV hU hV lU BU lV BV; first | (rw [← hV, ← hU]; revert BV; revert lV; revert BU; revert lU; clear hU hV; revert gV; revert gU; revert hB5; clear hwx; revert wx; exact main.out) | (rw [← hU, ← hV]; revert BV; revert lV; revert BU; revert lU; clear hU hV; revert gV; revert gU; revert hB5; clear hwx; revert wx; exact main.out))
            intro wx K5 gU gV lU rU lV rV
            replace K := below_call K K5
            clear e0 e1 n0 n1 f0 f1 t0 t1 zF zT rF rT rN zN lN K5 hab5
            have cU := rU.cell; have zU := rU.lt; have cV := rV.cell; have zV := rV.lt
            go_wp2_with fail
            refine (QC.out _).mono ?_
            rintro e w4 ⟨rfl, hb4⟩
            replace rU := rU.kept hb4; replace rV := rV.kept hb4
            replace cU := rU.cell; replace zU := rU.lt; replace cV := rV.cell; replace zV := rV.lt
            replace K := below_call K hb4
            clear hb4
            have hK := (bcell K).1
            rw [← hK _ _ hab] at g0 g1 g2 g3 g4 g5 g6 g7 g8 g9
            replace hab := Nat.lt_of_lt_of_le hab K.size
            clear hK
            have zU1 : gU < w4.heap.size + 1 := by omega
            have zV1 : gV < w4.heap.size + 1 := by omega
            by_cases hm0 : m < 0
            · have rX : Blk (w4.alloc (.cells #[.int .i64 a, .int .i64 a', .int .i64 d, .int .i64 d', .int .i64 p, .int .i64 q, .int .i64 r, .bool rst, .int .i64 sg, .int .i64 ps] 59)) w4.heap.size 59 #[.int .i64 a, .int .i64 a', .int .i64 d, .int .i64 d', .int .i64 p, .int .i64 q, .int .i64 r, .bool rst, .int .i64 sg, .int .i64 ps] := Blk.new _ _ _
              go_wp2_with fail
              refine (QS.out _).mono ?_
              rintro e w5 ⟨rfl, hb5⟩
              replace rX := rX.kept hb5
              have cX := rX.cell; have zX := rX.lt; have fX := rX.frozen
              have K5 := below_call (below_alloc K _) hb5
              have ho := O.out
              rw [if_pos (by simpa using hm0)] at ho
              have z4 := K.size
              clear hb5 K g0 g1 g2 g3 g4 g5 g6 g7 g8 g9
              by_cases hse : se = 0
              · subst hse
                rw [if_neg (fun h => h rfl)] at ho
                have O2 := Lib.hid ho; clear ho
                have K2 : Below wr.heap.size wr (((w5.setCell ⟨w4.heap.size, 2, none⟩ (.int .i64 s)).setCell ⟨w4.heap.size, 3, none⟩ (.int .i64 s')).alloc (.cells #[.int .i64 a, .int .i64 a', .int .i64 s, .int .i64 s', .int .i64 p, .int .i64 q, .int .i64 r, .bool rst, .int .i64 sg, .int .i64 ps] 59)) := by repeat (first | with_reducible exact Below.refl _ _ | with_reducible assumption | with_reducible refine below_drewN ?_ _ | with_reducible refine Below.drew ?_ | with_reducible refine below_alloc ?_ _ | (with_reducible refine Below.setCell ?_ ?_ _; rotate_left; ((try simp only); omega)))
                have hw5 : Hid (w5.heap.size = ((w5.setCell ⟨w4.heap.size, 2, none⟩ (.int .i64 s)).setCell ⟨w4.heap.size, 3, none⟩ (.int .i64 s')).heap.size) := Lib.hid (by simp [World.setCell])
                go_wp2_with (at_builtin; (refine wpList_append_any _ rfl (.tmp 101) (.tmp 103) 22 rfl (w.heap.size + 1 + 1) 59 i0 _ 10 80 Try.underlying22 hi0 hz0 hz1 hz2 rfl (by omega) (.slice A3 done.length c3) done.length (csE done) rfl (own_call hown K2) (w5.heap.size + 1) (some ⟨w5.heap.size, 0, none⟩) 1 1 (csE [⟨(a, a'), (s, s'), (p, q, r), rst, sg, ps⟩]) rfl (Reads.newAt _ _ _ 1 10 _ hw5.out rfl) (one_csE _) (by simp only [maxLen]; omega) (by omega) (by have := K2.size; have := k0.size; omega) ?_); intro v6 w6 hown6 hg6 hat6)
                go_roundw
                case rel =>
                  have K6 : Below w.heap.size w w6 := (below_call k0 K2).grown hg6 (by have := K2.size; have := k0.size; omega) (fun j hj => by have := (hown.lt j hj).1; omega)
                  have nF : some w.heap.size ≠ (Value.slice A3 done.length c3).ownBlock := fun e => by have := (hown.lt _ e.symm).1; omega
                  have nT : some (w.heap.size + 1) ≠ (Value.slice A3 done.length c3).ownBlock := fun e => by have := (hown.lt _ e.symm).1; omega
                  refine ⟨k + 1, done ++ [⟨(a, a'), (s, s'), (p, q, r), rst, sg, ps⟩], by omega, by go_num, by simp; omega, ?_, ?_, K6, Blk.grown_ (rF0.kept K2) hg6 nF, Blk.grown_ (rT0.kept K2) hg6 nT⟩
                  · have hr := hs.out
                    rw [HD.out, cutAt_ok _ _ _ _ _ (by rw [O2.out]), O2.out] at hr
                    exact Lib.hid hr
                  · rw [csE_append, List.length_append]
                    exact hown6
                case measure => simp [intOf]; omega
              · have hse' : (se != 0) = true := by simpa using hse
                rw [if_pos hse] at ho
                have O2 := Lib.hid ho; clear ho hse
                go_wp2_with fail
                go_ret2
                have hr := hs.out
                have hse : se ≠ 0 := by simpa using hse'
                rw [HD.out, cutAt_bad _ _ _ _ _ (by rw [O2.out]; exact hse), O2.out] at hr
                have e1 : cutS l (f, f') (t, t') = ([], se) := by rw [E.out, ← hr, if_pos hse]
                rw [e1]
                exact ⟨none, 0, rfl, OwnE.nil_ _ _, below_call k0 (by repeat (first | with_reducible exact Below.refl _ _ | with_reducible assumption | with_reducible refine below_drewN ?_ _ | with_reducible refine Below.drew ?_ | with_reducible refine below_alloc ?_ _ | (with_reducible refine Below.setCell ?_ ?_ _; rotate_left; ((try simp only); omega))))⟩
            · have hm1 : 0 ≤ m := by omega
              have ho := O.out
              rw [if_neg (by simpa using hm1)] at ho
              have O2 := Lib.hid ho; clear ho hm0
              go_wp2_with fail
              go_roundw
              case rel =>
                refine ⟨k + 1, done, by omega, by go_num, by omega, ?_, own_call hown K, below_call k0 K, rF0.kept K, rT0.kept K⟩
                have hr := hs.out
                rw [HD.out, cutAt_ok _ _ _ _ _ (by rw [O2.out]), O2.out, List.append_nil] at hr
                exact Lib.hid hr
              case measure => simp [intOf]; omega
          · have hr := hs.out
            rw [List.drop_eq_nil_of_le (by have := HL.out; omega), cutAt_end] at hr
            have e1 : cutS l (f, f') (t, t') = chainS done := by rw [E.out, ← hr]; rfl
            have E2 := Lib.hid e1
            clear hr e1
            obtain ⟨A3, c3, rfl, hown3⟩ := ownE_form hown
            go_wp2_with fail
            refine (chain_any A3 done.length c3 done _ _ hown3.2.1 (Nat.le_refl _) (by omega)).mono ?_
            rintro e w4 ⟨A4, c4, rfl, ho4, hb4⟩
            have k4 : Below w.heap.size w w4 := below_call k0 hb4
            go_wp2_with fail
            go_ret2
            rw [E2.out]
            exact ⟨A4, c4, rfl, ho4.lower k0.size, k4⟩
    · have hzc' : (ce != 0) = true := by simpa using hzc
      rw [if_pos hzc] at hE0
      have E := Lib.hid hE0; clear hE0 hzc
      go_enter Try.func18, Try.ntmps18
      go_wp2_with fail
      refine hc.mono ?_
      rintro e w1 ⟨rfl, hb1⟩
      replace rF := rF.kept hb1
      replace rT := rT.kept hb1
      have cF := rF.cell; have zF := rF.lt; have cT := rT.cell; have zT := rT.lt
      have mF : w.heap.size < w1.heap.size + 1 := by omega
      have mT : w.heap.size + 1 < w1.heap.size + 1 := by omega
      have k1 := below_call k0 hb1
      go_wp2_with fail
      refine (Q1.out _).mono ?_
      rintro e w2 ⟨rfl, hb2⟩
      have k2 := below_call (below_alloc k1 _) hb2
      go_wp2_with fail
      go_ret2
      rw [E.out]
      exact ⟨none, 0, rfl, OwnE.nil_ _ _, k2⟩
  · have hee' : (ee != 0) = true := by simpa using hee
    have E := Lib.hid (show cutS l (f, f') (t, t') = ([], ee) by rw [cutS_v, ← he, if_pos hee])
    clear he
    go_enter Try.func18, Try.ntmps18
    go_wp2_with fail
    refine hc.mono ?_
    rintro e w1 ⟨rfl, hb1⟩
    have k1 := below_call k0 hb1
    go_wp2_with fail
    go_ret2
    rw [E.out]
    exact ⟨none, 0, rfl, OwnE.nil_ _ _, by repeat (first | with_reducible exact Below.refl _ _ | with_reducible assumption | with_reducible refine below_drewN ?_ _ | with_reducible refine Below.drew ?_ | with_reducible refine below_alloc ?_ _ | (with_reducible refine Below.setCell ?_ ?_ _; rotate_left; ((try simp only); omega)))⟩
end Go.Proofs.Ytiphacmmglohaaa
