/- Stretched voices: the reference's walk; the chain in place of a slice with another capacity. -/
import Derived.Test.YtiphacmmglohaaaRefMove
import Derived.Test.YtiphacmmglohaaaMove
namespace Go.Proofs.Ytiphacmmglohaaa
open Go.RowKit

/-- The error of a voice and of a time above 0. -/
def vabove (l : List Ev) (t : Int × Int) : Int := if (checkS l).1 ≠ 0 then (checkS l).1 else aboveS t
theorem stretch_v (l : List Ev) (t : Int × Int) : stretchS l t = if vabove l t ≠ 0 then ([], vabove l t) else allS (stretchedS t) l := by
  unfold stretchS vabove
  by_cases h : (checkS l).1 = 0
  · rw [h]; rfl
  · simp [h]
theorem delay_v (l : List Ev) (t : Int × Int) : delayS l t = if vabove l t ≠ 0 then ([], vabove l t) else if 2000 ≤ l.length then ([], 11) else chainS (restEv t :: l) := by
  unfold delayS vabove
  by_cases h : (checkS l).1 = 0
  · rw [h]; rfl
  · simp [h]
set_option maxRecDepth 100000 in
set_option maxHeartbeats 1000000 in
theorem refAbove_any (A : Option Addr) (n c : Nat) (l : List Ev) (t : Int × Int) (B : Nat) (w : World) (h : Reads w B 10 A n (csE l)) (hB : B ≤ w.heap.size) (hn : n ≤ 9223372036854775807) :
    Calls Try.prog 42 #[.slice A n c, vTm t] w fun e w' => e = .returned (.int .i64 (vabove l t)) ∧ Below w.heap.size w w' := by
  obtain ⟨t, t'⟩ := t
  have r0 : Blk (w.alloc (.cells #[.int .i64 t, .int .i64 t'] 24)) w.heap.size 24 #[.int .i64 t, .int .i64 t'] := Blk.new _ _ _
  have k0 : Below w.heap.size w (w.alloc (.cells #[.int .i64 t, .int .i64 t'] 24)) := by repeat (first | exact Below.refl _ _ | refine below_drewN ?_ _ | refine Below.drew ?_ | refine below_alloc ?_ _ | (refine below_call ?_ (by assumption)) | (refine Below.setCell ?_ ?_ _; rotate_left; (simp; try omega)))
  have hc := refEvCheck_any A n c l B _ (h.below hB k0) (by simp; omega) (by omega)
  obtain ⟨⟨y, yy⟩, hy⟩ : ∃ y, y = checkS l := ⟨_, rfl⟩
  rw [← hy] at hc
  have E := Lib.hid (show vabove l (t, t') = if y ≠ 0 then y else aboveS (t, t') by unfold vabove; rw [← hy])
  clear hy
  go_enter Try.func42, Try.ntmps42
  go_wp2_with (first | (go_at_call 57; refine (hc).mono ?_; rintro e wn ⟨rfl, hbn⟩; replace rn := Blk.kept (by with_reducible first | exact rn | exact r0 | exact rn.alloc _ | exact r0.alloc _ | exact (rn.alloc _).alloc _ | exact (r0.alloc _).alloc _) hbn; replace en := rn.cell; replace gn := rn.frozen; replace zn := rn.lt; replace kn := below_call (by with_reducible first | exact kn | exact k0 | exact below_alloc kn _ | exact below_alloc k0 _ | exact below_alloc (below_alloc kn _) _ | exact below_alloc (below_alloc k0 _) _) hbn; clear hbn) | (go_at_call 72; refine (refCheck_any _ _ _).mono ?_; rintro e wn ⟨rfl, hbn⟩; replace rn := Blk.kept (by with_reducible first | exact rn | exact r0 | exact rn.alloc _ | exact r0.alloc _ | exact (rn.alloc _).alloc _ | exact (r0.alloc _).alloc _) hbn; replace en := rn.cell; replace gn := rn.frozen; replace zn := rn.lt; replace kn := below_call (by with_reducible first | exact kn | exact k0 | exact below_alloc kn _ | exact below_alloc k0 _ | exact below_alloc (below_alloc kn _) _ | exact below_alloc (below_alloc k0 _) _) hbn; clear hbn))
  all_goals
    go_ret
    refine ⟨ret_int ?_, by repeat (first | with_reducible exact Below.refl _ _ | with_reducible assumption | with_reducible refine below_drewN ?_ _ | with_reducible refine Below.drew ?_ | with_reducible refine below_alloc ?_ _ | (with_reducible refine Below.setCell ?_ ?_ _; rotate_left; ((try simp only); omega)))⟩
    clear r0 k0 rn en gn zn kn
    rw [E.out]
    unfold aboveS
    grind
set_option maxRecDepth 100000 in
set_option maxHeartbeats 1000000 in
theorem chained_cap (g n c c2 : Nat) (l : List Ev) (B : Nat) (w : World) (h : w.ownsRow B 59 10 (.slice (some ⟨g, 0, none⟩) n c) n (csE l)) (hn : n ≤ 5000) :
    Calls Try.prog 45 #[.slice (some ⟨g, 0, none⟩) n c2] w fun e w' => ∃ A' c', e = .returned (.tuple #[.slice A' (chainS l).1.length c', .int .i64 (chainS l).2]) ∧ Reads w' w'.heap.size 10 A' (chainS l).1.length (csE (chainS l).1) ∧ Below B w w' := by
  have HL : Hid (l.length = n) := Lib.hid (by have := h.1; rw [csE_len] at this; omega)
  have hgz := h.lt g rfl
  go_enter Try.func45, Try.ntmps45
  go_wp2
  go_loopw [5, 6, 7, 11] (fun _ _ _ i wr => ∃ (k : Nat) (t t' : Int) (done : List Ev), k ≤ n ∧ i = .int .i64 k ∧ done.length = k ∧ Hid (chainAt done (t, t') (l.drop k) = chainS l) ∧ wr.ownsRow B 59 10 (.slice (some ⟨g, 0, none⟩) n c) n (csE (done ++ l.drop k)) ∧ Below B w wr ∧ Blk wr w.heap.size 24 #[.int .i64 t, .int .i64 t']) (fun _ _ _ i _ => n - (intOf i).toNat)
  case atStart => exact ⟨0, 0, 1, [], by omega, rfl, rfl, Lib.hid (chainAt_nil _ _), own_call h (by repeat (first | exact Below.refl _ _ | refine below_drewN ?_ _ | refine Below.drew ?_ | refine below_alloc ?_ _ | (refine below_call ?_ (by assumption)) | (refine Below.setCell ?_ ?_ _; rotate_left; (simp; try omega)))), (show Below w.heap.size w _ by repeat (first | exact Below.refl _ _ | refine below_drewN ?_ _ | refine Below.drew ?_ | refine below_alloc ?_ _ | (refine below_call ?_ (by assumption)) | (refine Below.setCell ?_ ?_ _; rotate_left; (simp; try omega)))).mono (by omega), Blk.new _ _ _⟩
  case round =>
    obtain ⟨k, t, t', done, hk, rfl, hdn, hs, hown, k0, r0⟩ := hrel
    by_cases hlt : k < n
    · have hlt' : (k : Int) < (n : Int) := by omega
      obtain ⟨x, hx⟩ := get_some (l := l) (k := k) (by have := HL.out; omega)
      have HD := drop_get hx
      rw [HD] at hown
      have HDH := Lib.hid HD; clear HD
      have hcs := own_elem hown hdn hlt
      obtain ⟨⟨a, a'⟩, ⟨d, d'⟩, ⟨p, q, r⟩, rst, sg, ps⟩ := x
      have c0 : wr.cell? ⟨g, k * 10, none⟩ = some (.int .i64 a) := hcs 0 (by omega)
      have c1 : wr.cell? ⟨g, k * 10 + 1, none⟩ = some (.int .i64 a') := hcs 1 (by omega)
      have c2 : wr.cell? ⟨g, k * 10 + 2, none⟩ = some (.int .i64 d) := hcs 2 (by omega)
      have c3 : wr.cell? ⟨g, k * 10 + 3, none⟩ = some (.int .i64 d') := hcs 3 (by omega)
      have fz := hown.frozenAt
      have hgr : g < wr.heap.size := (hown.lt g rfl).2
      have hne : w.heap.size ≠ g := by omega
      have en := r0.cell; have gn := r0.frozen; have zn := r0.lt
      clear hcs
      go_wp2_with fail
      have ow := ((hown.stored (k * 10) (.int .i64 t)).1.stored (k * 10 + 1) (.int .i64 t')).1
      rw [← hdn, csE_set_at, hdn] at ow
      have r1 := (r0.far (p := ⟨g, k * 10, none⟩) hne (.int .i64 t)).far (p := ⟨g, k * 10 + 1, none⟩) hne (.int .i64 t')
      have kq : Below B w ((wr.setCell ⟨g, k * 10, none⟩ (.int .i64 t)).setCell ⟨g, k * 10 + 1, none⟩ (.int .i64 t')) := (k0.setCell hgz.1 _).setCell hgz.1 _
      have hsz := k0.size
      generalize hwq : (wr.setCell ⟨g, k * 10, none⟩ (.int .i64 t)).setCell ⟨g, k * 10 + 1, none⟩ (.int .i64 t') = wq at *
      have hcq := own_elem ow hdn hlt
      have d2 : wq.cell? ⟨g, k * 10 + 2, none⟩ = some (.int .i64 d) := hcq 2 (by omega)
      have d3 : wq.cell? ⟨g, k * 10 + 3, none⟩ = some (.int .i64 d') := hcq 3 (by omega)
      have e0 : wq.cell? ⟨w.heap.size, 0, none⟩ = some (.int .i64 t) := r1.cell 0
      have e1 : wq.cell? ⟨w.heap.size, 1, none⟩ = some (.int .i64 t') := r1.cell 1
      clear c0 c1 c2 c3 fz hgr en gn zn hcq hown r0 k0 hwq
      have hgq : g < wq.heap.size := (ow.lt g rfl).2
      have hzq : w.heap.size < wq.heap.size := r1.lt
      go_region_held3 (fun w' => w'.cell? ⟨w.heap.size, 0, none⟩ = some (.int .i64 t) ∧ w'.cell? ⟨w.heap.size, 1, none⟩ = some (.int .i64 t') ∧ w'.cell? ⟨g, k * 10 + 2, none⟩ = some (.int .i64 d) ∧ w'.cell? ⟨g, k * 10 + 3, none⟩ = some (.int .i64 d') ∧ Below wq.heap.size wq w') ((refine (fun hb => ⟨(hb.cell (p := ⟨_, _, none⟩) hzq).trans e0, (hb.cell (p := ⟨_, _, none⟩) hzq).trans e1, (hb.cell (p := ⟨_, _, none⟩) hgq).trans d2, (hb.cell (p := ⟨_, _, none⟩) hgq).trans d3, hb⟩) ?_; repeat (first | exact Below.refl _ _ | exact hBd | exact (show _ ∧ _ ∧ _ ∧ _ ∧ Below wq.heap.size wq _ by assumption).2.2.2.2 | refine Below.drew ?_ | refine below_alloc ?_ _ | (refine Below.setCell ?_ ?_ _; rotate_left; (first | (have hz := hBd.size; show wq.heap.size ≤ _; simp only; omega) | (show wq.heap.size ≤ _; simp only; omega)))))) (first | (go_at_call 48; refine (add_any (t, t') (d, d') _).mono ?_; rintro e wd ⟨rfl, hbd⟩; have hBd := below_call (show _ ∧ _ ∧ _ ∧ _ ∧ Below wq.heap.size wq _ by assumption).2.2.2.2 hbd; have hcd := (bcell hbd).1; have hfd := (bcell hbd).2; try (have hzd : wq.heap.size < wd.heap.size := by have hz := hbd.size; simp at hz; omega)))
      all_goals
        have hB5 := (show _ ∧ _ ∧ _ ∧ _ ∧ Below wq.heap.size wq _ by assumption).2.2.2.2
        obtain ⟨wv, hwv⟩ := name_world hB5
        first
          | (refine pick_block (wv := wv) (lo := wq.heap.size) (t := 24) wd.heap.size #[.int .i64 (addS (t, t') (d, d')).1, .int .i64 (addS (t, t') (d, d')).2.1] ?_ ?_ ?_; (focus (have hz := hBd.size; omega)); (focus (rw [hwv]; repeat (first | with_reducible exact Blk.new _ _ _ | (with_reducible refine Blk.newAt _ _ _ _ ?_; first | rfl | (simp; done)) | with_reducible apply Blk.alloc | with_reducible apply Blk.drewN | with_reducible apply Blk.drew | with_reducible apply Blk.set_to | (with_reducible apply Blk.far_; (simp only [ne_eq]; omega)) | (with_reducible apply Blk.kept (hb := hbd)) | rfl))); intro gx hgx hgq5 BX5)
          | (refine pick_block (wv := wv) (lo := wq.heap.size) (t := 24) wq.heap.size #[.int .i64 (addS (t, t') (d, d')).1, .int .i64 (addS (t, t') (d, d')).2.1] ?_ ?_ ?_; (focus omega); (focus (rw [hwv]; repeat (first | with_reducible exact Blk.new _ _ _ | (with_reducible refine Blk.newAt _ _ _ _ ?_; first | rfl | (simp; done)) | with_reducible apply Blk.alloc | with_reducible apply Blk.drewN | with_reducible apply Blk.drew | with_reducible apply Blk.set_to | (with_reducible apply Blk.far_; (simp only [ne_eq]; omega)) | (with_reducible apply Blk.kept (hb := hbd)) | rfl))); intro gx hgx hgq5 BX5)
        rw [← hwv] at hB5 ⊢
        rw [← hgx]
        clear hwv hgx
        try clear hbd hBd hcd hfd hzd
        clear e0 e1 d2 d3
        have r5 := r1.below hB5 hzq
        have ow5 := own_call ow hB5
        have k5 : Below B w wv := kq.trans (hB5.mono (by omega))
        have s5 := hB5.size
        have e0 := r5.cell 0; have e1 := r5.cell 1; have f0 := r5.frozen 0; have f1 := r5.frozen 1
        have x0 := BX5.cell 0; have x1 := BX5.cell 1
        have hzw : w.heap.size < wv.heap.size := r5.lt
        have hgw : gx < wv.heap.size := BX5.lt
        have hgn : g ≠ w.heap.size := fun e => hne e.symm
        simp only [List.getElem?_toArray, List.getElem?_cons_zero, List.getElem?_cons_succ] at e0 e1 x0 x1
        clear kq hB5 hgq hzq r1 ow
        obtain ⟨y, hy⟩ : ∃ y, y = addS (t, t') (d, d') := ⟨_, rfl⟩
        have Y := Lib.hid hy.symm
        rw [← hy] at x0 x1 ⊢
        clear hy
        go_wp2_with fail
        · go_ret2
          have h0 : (y.2.2 != 0) = true := by assumption
          have hr := hs.out
          rw [HDH.out, chainAt_bad _ _ _ _ (by rw [Y.out]; simpa using h0), Y.out] at hr
          rw [← hr]
          exact ⟨none, 0, rfl, Reads.none_, k5⟩
        · go_roundw
          case rel =>
            refine ⟨k + 1, y.1, y.2.1, done ++ [⟨(t, t'), (d, d'), (p, q, r), rst, sg, ps⟩], by omega, by go_num, by simp [hdn], ?_, ?_, (k5.setCell (by simp only; omega) _).setCell (by simp only; omega) _, (r5.set_to rfl).set_to rfl⟩
            · have hr := hs.out
              have h0 : (y.2.2 != 0) = false := by assumption
              rw [HDH.out, chainAt_ok _ _ _ _ (by rw [Y.out]; simpa using h0), Y.out] at hr
              exact Lib.hid hr
            · rw [List.append_assoc]
              exact ownsRow_setCell_other (ownsRow_setCell_other ow5 (by simp [Value.ownBlock]; exact hgn) _) (by simp [Value.ownBlock]; exact hgn) _
          case measure => simp [intOf]; omega
    · have hr := hs.out
      rw [List.drop_eq_nil_of_le (by have := HL.out; omega), chainAt_end] at hr
      rw [List.drop_eq_nil_of_le (by have := HL.out; omega), List.append_nil] at hown
      have hkn : k = n := by omega
      subst hkn
      go_wp2
      go_ret2
      rw [← hr]
      obtain ⟨A', c', e, ho⟩ := ownE_form hown
      subst hdn
      cases e
      exact ⟨_, _, rfl, ho.2.1, k0⟩
set_option maxRecDepth 100000 in
set_option maxHeartbeats 2000000 in
theorem refStretchE_any (A : Option Addr) (n c : Nat) (l : List Ev) (t : Int × Int) (B : Nat) (w : World) (h : Reads w B 10 A n (csE l)) (hB : B ≤ w.heap.size) (hn : n ≤ 5000) :
    Calls Try.prog 13 #[.slice A n c, vTm t] w fun e w' => ∃ A' c', e = .returned (.tuple #[.slice A' (stretchS l t).1.length c', .int .i64 (stretchS l t).2]) ∧ OwnE w' w.heap.size (stretchS l t).1.length A' c' (stretchS l t).1 ∧ Below w.heap.size w w' := by
  have HL : Hid (l.length = n) := Lib.hid h.evlen
  obtain ⟨i0, hi0, hz0, hz1, hz2⟩ := info_parts event_info
  obtain ⟨xa, xb⟩ := t
  have r0 : Blk (w.alloc (.cells #[.int .i64 xa, .int .i64 xb] 24)) w.heap.size 24 #[.int .i64 xa, .int .i64 xb] := Blk.new _ _ _
  have k0 : Below w.heap.size w (w.alloc (.cells #[.int .i64 xa, .int .i64 xb] 24)) := by repeat (first | exact Below.refl _ _ | refine below_drewN ?_ _ | refine Below.drew ?_ | refine below_alloc ?_ _ | (refine below_call ?_ (by assumption)) | (refine Below.setCell ?_ ?_ _; rotate_left; (simp; try omega)))
  have hc := refAbove_any A n c l (xa, xb) B _ (h.below hB k0) (by simp; omega) (by omega)
  obtain ⟨y, hy⟩ : ∃ y, y = vabove l (xa, xb) := ⟨_, rfl⟩
  rw [← hy] at hc
  by_cases hz : y = 0
  · subst hz
    have E := Lib.hid (show stretchS l (xa, xb) = allS (stretchedS (xa, xb)) l by rw [stretch_v, ← hy, if_neg (fun h => h rfl)])
    clear hy
    generalize hf : stretchedS (xa, xb) = f at E
    have F := Lib.hid hf; clear hf
    go_enter Try.func13, Try.ntmps13
    go_wp2_with fail
    refine hc.mono ?_
    rintro e w2 ⟨rfl, hb2⟩
    have r2 := r0.kept hb2
    have k2 := below_call k0 hb2
    go_wp2_with (at_builtin; (refine wpList_append_any _ rfl (.tmp 15) (.tmp 16) _ rfl w2.heap.size 59 i0 _ 10 80 Try.underlying22 hi0 hz0 hz1 hz2 rfl (by omega) (.slice (some ⟨w2.heap.size, 0, none⟩) 0 0) 0 [] rfl (lit_row w2) w.heap.size A n c (csE l) rfl ((h.below hB (below_alloc k2 _)).more hB) (one_csE l) (by simp only [maxLen]; omega) (by omega) (by simp) ?_); intro v1 w3 hown1 hg1 hat1)
    have hne : some w.heap.size ≠ (Value.slice (some ⟨w2.heap.size, 0, none⟩) 0 0).ownBlock := by simp [Value.ownBlock]; have := r2.lt; omega
    have r3 := Blk.grown_ (r2.alloc _) hg1 hne
    have k3 : Below w.heap.size w w3 := grown_lit k2 k2.size hg1
    simp only [Nat.zero_add, List.nil_append] at hown1
    obtain ⟨A1, c1, hv, ho1⟩ := ownE_form hown1
    subst hv
    have hs2 := k2.size
    go_loopw [6, 8] (fun _ i wr => ∃ (k : Nat) (done : List Ev), k ≤ n ∧ i = .int .i64 k ∧ done.length = k ∧ Hid (mapAt (f) done (l.drop k) = mapS (f) l) ∧ wr.ownsRow (w2.heap.size) 59 10 (.slice A1 n c1) n (csE (done ++ l.drop k)) ∧ Below w.heap.size w wr ∧ Blk wr w.heap.size 24 #[.int .i64 xa, .int .i64 xb]) (fun _ i _ => n - (intOf i).toNat)
    case atStart => exact ⟨0, [], by omega, rfl, rfl, Lib.hid (mapAt_nil _ _), ho1.1, k3, r3⟩
    case round =>
      obtain ⟨k, done, hk, rfl, hdn, hs, hown, k0, r4⟩ := hrel
      by_cases hlt : k < n
      · have hlt' : (k : Int) < (n : Int) := by omega
        obtain ⟨x, hx⟩ := get_some (l := l) (k := k) (by have := HL.out; omega)
        have HD := drop_get hx
        rw [HD] at hown
        have HDH := Lib.hid HD; clear HD
        obtain ⟨g, cap, he, hgb, hgr⟩ := hown.form (by omega)
        cases he
        have hcs := own_elem hown hdn hlt
        obtain ⟨⟨a, a'⟩, ⟨d, d'⟩, ⟨p, q, r⟩, rst, sg, ps⟩ := x
        have c2 : wr.cell? ⟨g, k * 10 + 2, none⟩ = some (.int .i64 d) := hcs 2 (by omega)
        have c3 : wr.cell? ⟨g, k * 10 + 3, none⟩ = some (.int .i64 d') := hcs 3 (by omega)
        have er := r4.cell; have zr := r4.lt
        clear hcs hx
        obtain ⟨⟨yp, yq, ye⟩, hy⟩ : ∃ y, y = mulS (d, d') (xa, xb) := ⟨_, rfl⟩
        have hq := refMul_any (d, d') (xa, xb)
        rw [← hy] at hq
        have Y := Lib.hid (show f ⟨(a, a'), (d, d'), (p, q, r), rst, sg, ps⟩ = (⟨(a, a'), (yp, yq), (p, q, r), rst, sg, ps⟩, ye) by rw [← F.out]; unfold stretchedS; rw [← hy])
        clear hy
        have HQ := Lib.hid hq; clear hq
        go_wp2_with fail
        have r4z := r2.lt
        go_region_with ((go_at_call 43; refine (HQ.out _).mono ?_; rintro e w4 ⟨rfl, hb4'⟩; have hb4 := undrew hb4'; have ho2 := own_call hown hb4; have k4 := below_call k0 hb4; have r5 := r4.kept hb4; have zr5 := r5.lt; have hcs := own_elem ho2 hdn hlt; have c2 : w4.cell? ⟨g, k * 10 + 2, none⟩ = some (.int .i64 d) := hcs 2 (by omega); have c3 : w4.cell? ⟨g, k * 10 + 3, none⟩ = some (.int .i64 d') := hcs 3 (by omega); have fz := ho2.frozenAt; have OW := Lib.hid (own_dur ho2 k hdn yp yq); have BW := Lib.hid ((k4.setCell (p := ⟨g, k * 10 + 2, none⟩) (by simp only; omega) (.int .i64 yp)).setCell (p := ⟨g, k * 10 + 3, none⟩) (by simp only; omega) (.int .i64 yq)); clear hcs hb4' ho2))
        all_goals clear hown
        all_goals
         go_wp2_with fail
         · go_ret2
           have h0 : (ye != 0) = true := by assumption
           have hr := hs.out
           rw [HDH.out, mapAt_bad _ _ _ _ (by rw [Y.out]; simpa using h0), Y.out] at hr
           have e1 : allS f l = ([], ye) := by unfold allS; rw [← hr, if_pos (by simpa using h0)]
           rw [E.out, e1]
           exact ⟨none, 0, rfl, OwnE.nil_ _ _, BW.out⟩
         · go_roundw
           case rel =>
             have h0 : (ye != 0) = false := by assumption
             refine ⟨k + 1, done ++ [⟨(a, a'), (yp, yq), (p, q, r), rst, sg, ps⟩], by omega, by go_num, by simp [hdn], ?_, ?_, BW.out, (r5.far (show _ ≠ _ by simp only; omega) _).far (show _ ≠ _ by simp only; omega) _⟩
             · have hr := hs.out
               rw [HDH.out, mapAt_ok _ _ _ _ (by rw [Y.out]; simpa using h0), Y.out] at hr
               exact Lib.hid hr
             · rw [List.append_assoc]
               exact OW.out
           case measure => simp [intOf]; omega
      · have hr := hs.out
        rw [List.drop_eq_nil_of_le (by have := HL.out; omega), mapAt_end] at hr
        rw [List.drop_eq_nil_of_le (by have := HL.out; omega), List.append_nil] at hown
        have e1 : allS f l = chainS done := by unfold allS; rw [← hr]; rfl
        have E1 := Lib.hid e1
        clear hr e1
        obtain ⟨A', c', e, ho⟩ := ownE_form hown
        cases e
        go_wp2_with fail
        refine (chain_any _ n _ done _ _ ho.2.1 (Nat.le_refl _) hn).mono ?_
        rintro e w4 ⟨A4, c4, rfl, ho4, hb4⟩
        have k4 := below_call k0 hb4
        go_wp2_with fail
        go_ret2
        rw [E.out, E1.out]
        exact ⟨A4, c4, rfl, ho4.lower k0.size, k4⟩
  · have hz' : (y != 0) = true := by simpa using hz
    have E := Lib.hid (show stretchS l (xa, xb) = ([], y) by rw [stretch_v, ← hy, if_pos hz])
    clear hy
    go_enter Try.func13, Try.ntmps13
    go_wp2_with fail
    refine hc.mono ?_
    rintro e w1 ⟨rfl, hb1⟩
    have k1 := below_call k0 hb1
    go_wp2_with fail
    go_ret2
    rw [E.out]
    exact ⟨none, 0, rfl, OwnE.nil_ _ _, by repeat (first | with_reducible exact Below.refl _ _ | with_reducible assumption | with_reducible refine below_drewN ?_ _ | with_reducible refine Below.drew ?_ | with_reducible refine below_alloc ?_ _ | (with_reducible refine Below.setCell ?_ ?_ _; rotate_left; ((try simp only); omega)))⟩
end Go.Proofs.Ytiphacmmglohaaa
