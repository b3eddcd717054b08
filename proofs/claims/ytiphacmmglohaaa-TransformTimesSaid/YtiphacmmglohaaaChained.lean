/- The chain in place, the program's walk. -/
import Derived.Test.YtiphacmmglohaaaInPlace
import Derived.Laws.OwnMore
import Derived.Deep.AppendLies
namespace Go.Proofs.Ytiphacmmglohaaa
open Go.RowKit
theorem own_elem {w : World} {base n cap g : Nat} {done rest : List Ev} {x : Ev} (h : w.ownsRow base 59 10 (.slice (some ⟨g, 0, none⟩) n cap) n (csE (done ++ x :: rest))) {k : Nat} (hk : done.length = k) (hkn : k < n) :
    ∀ j, j < 10 → w.cell? ⟨g, k * 10 + j, none⟩ = (cE x)[j]? := by
  intro j hj
  rw [h.cellAt _ (by omega), csE_append, List.getElem?_append_right (by rw [csE_len, hk]; omega), csE_len, hk, show k * 10 + j - k * 10 = j by omega]
  show (cE x ++ csE rest)[j]? = _
  rw [List.getElem?_append_left (by simp [cE]; omega)]
set_option maxRecDepth 100000 in
set_option maxHeartbeats 1000000 in
theorem chained_some (g n c : Nat) (l : List Ev) (B : Nat) (w : World) (h : w.ownsRow B 59 10 (.slice (some ⟨g, 0, none⟩) n c) n (csE l)) (hn : n ≤ 5000) :
    Calls Try.prog 45 #[.slice (some ⟨g, 0, none⟩) n c] w fun e w' => ∃ A' c', e = .returned (.tuple #[.slice A' (chainS l).1.length c', .int .i64 (chainS l).2]) ∧ OwnE w' B (chainS l).1.length A' c' (chainS l).1 ∧ Below B w w' := by
  have HL : Hid (l.length = n) := Lib.hid (by have := h.1; rw [csE_len] at this; omega)
  have hgz := h.lt g rfl
  go_enter Try.func45, Try.ntmps45
  go_wp2
  go_loopw [5, 6, 7, 11] (fun _ _ _ i wr => ∃ (k : Nat) (t t' : Int) (done : List Ev), k ≤ n ∧ i = .int .i64 k ∧ done.length = k ∧ Hid (chainAt done (t, t') (l.drop k) = chainS l) ∧ wr.ownsRow B 59 10 (.slice (some ⟨g, 0, none⟩) n c) n (csE (done ++ l.drop k)) ∧ Below B w wr ∧ Blk wr w.heap.size 24 #[.int .i64 t, .int .i64 t']) (fun _ _ _ i _ => n - (intOf i).toNat)
  case atStart => exact ⟨0, 0, 1, [], by omega, rfl, rfl, Lib.hid (chainAt_nil _ _), own_call h (by repeat (first | exact Below.refl _ _ | refine below_drewN ?_ _ | refine Below.drew ?_ | refine below_alloc ?_ _ | (refine below_call ?_ (by assumption)) | (refine Below.setCell ?_ ?_ _; rotate_left; (simp; try omega)))), (show Below w.heap.size w _ by repeat (first | exact Below.refl _ _ | refine below_drewN ?_ _ | refine Below.drew ?_ | refine below_alloc ?_ _ | (refine below_call ?_ (by assumption)) | (refine Below.setCell ?_ ?_ _; rotate_left; (simp; try omega)))).mono (by omega), Blk.new _ _ _⟩
  case round =>
    obtain ⟨k, t, t', done, hk, rfl, hdn, hs, hown, k0, r0⟩ := hrel
    by_cases hlt : k < n
    · have hlt' : (k : Int) < (n : Int) := by omega
      obtain ⟨x, hx⟩ := get_some (l := l) (k := k) (by have := HL.out; omega)
      have HD := drop_get hx
      rw [HD] at hown
      have HDH := Lib.hid HD; clear HD
      have hcs := own_elem hown hdn hlt
      obtain ⟨⟨a, a'⟩, ⟨d, d'⟩, ⟨p, q, r⟩, rst, sg, ps⟩ := x
      have c0 : wr.cell? ⟨g, k * 10, none⟩ = some (.int .i64 a) := hcs 0 (by omega)
      have c1 : wr.cell? ⟨g, k * 10 + 1, none⟩ = some (.int .i64 a') := hcs 1 (by omega)
      have c2 : wr.cell? ⟨g, k * 10 + 2, none⟩ = some (.int .i64 d) := hcs 2 (by omega)
      have c3 : wr.cell? ⟨g, k * 10 + 3, none⟩ = some (.int .i64 d') := hcs 3 (by omega)
      have fz := hown.frozenAt
      have hgr : g < wr.heap.size := (hown.lt g rfl).2
      have hne : w.heap.size ≠ g := by omega
      have en := r0.cell; have gn := r0.frozen; have zn := r0.lt
      clear hcs
      go_wp2_with fail
      have ow := ((hown.stored (k * 10) (.int .i64 t)).1.stored (k * 10 + 1) (.int .i64 t')).1
      rw [← hdn, csE_set_at, hdn] at ow
      have r1 := (r0.far (p := ⟨g, k * 10, none⟩) hne (.int .i64 t)).far (p := ⟨g, k * 10 + 1, none⟩) hne (.int .i64 t')
      have kq : Below B w ((wr.setCell ⟨g, k * 10, none⟩ (.int .i64 t)).setCell ⟨g, k * 10 + 1, none⟩ (.int .i64 t')) := (k0.setCell hgz.1 _).setCell hgz.1 _
      have hsz := k0.size
      generalize hwq : (wr.setCell ⟨g, k * 10, none⟩ (.int .i64 t)).setCell ⟨g, k * 10 + 1, none⟩ (.int .i64 t') = wq at *
      have hcq := own_elem ow hdn hlt
      have d2 : wq.cell? ⟨g, k * 10 + 2, none⟩ = some (.int .i64 d) := hcq 2 (by omega)
      have d3 : wq.cell? ⟨g, k * 10 + 3, none⟩ = some (.int .i64 d') := hcq 3 (by omega)
      have e0 : wq.cell? ⟨w.heap.size, 0, none⟩ = some (.int .i64 t) := r1.cell 0
      have e1 : wq.cell? ⟨w.heap.size, 1, none⟩ = some (.int .i64 t') := r1.cell 1
      clear c0 c1 c2 c3 fz hgr en gn zn hcq hown r0 k0 hwq
      have hgq : g < wq.heap.size := (ow.lt g rfl).2
      have hzq : w.heap.size < wq.heap.size := r1.lt
      go_region_held3 (fun w' => w'.cell? ⟨w.heap.size, 0, none⟩ = some (.int .i64 t) ∧ w'.cell? ⟨w.heap.size, 1, none⟩ = some (.int .i64 t') ∧ w'.cell? ⟨g, k * 10 + 2, none⟩ = some (.int .i64 d) ∧ w'.cell? ⟨g, k * 10 + 3, none⟩ = some (.int .i64 d') ∧ Below wq.heap.size wq w') ((refine (fun hb => ⟨(hb.cell (p := ⟨_, _, none⟩) hzq).trans e0, (hb.cell (p := ⟨_, _, none⟩) hzq).trans e1, (hb.cell (p := ⟨_, _, none⟩) hgq).trans d2, (hb.cell (p := ⟨_, _, none⟩) hgq).trans d3, hb⟩) ?_; repeat (first | exact Below.refl _ _ | exact hBd | exact (show _ ∧ _ ∧ _ ∧ _ ∧ Below wq.heap.size wq _ by assumption).2.2.2.2 | refine Below.drew ?_ | refine below_alloc ?_ _ | (refine Below.setCell ?_ ?_ _; rotate_left; (first | (have hz := hBd.size; show wq.heap.size ≤ _; simp only; omega) | (show wq.heap.size ≤ _; simp only; omega)))))) (first | (go_at_call 48; refine (add_any (t, t') (d, d') _).mono ?_; rintro e wd ⟨rfl, hbd⟩; have hBd := below_call (show _ ∧ _ ∧ _ ∧ _ ∧ Below wq.heap.size wq _ by assumption).2.2.2.2 hbd; have hcd := (bcell hbd).1; have hfd := (bcell hbd).2; try (have hzd : wq.heap.size < wd.heap.size := by have hz := hbd.size; simp at hz; omega)))
      all_goals
        have hB5 := (show _ ∧ _ ∧ _ ∧ _ ∧ Below wq.heap.size wq _ by assumption).2.2.2.2
        obtain ⟨wv, hwv⟩ := name_world hB5
        first
          | (refine pick_block (wv := wv) (lo := wq.heap.size) (t := 24) wd.heap.size #[.int .i64 (addS (t, t') (d, d')).1, .int .i64 (addS (t, t') (d, d')).2.1] ?_ ?_ ?_; (focus (have hz := hBd.size; omega)); (focus (rw [hwv]; repeat (first | with_reducible exact Blk.new _ _ _ | (with_reducible refine Blk.newAt _ _ _ _ ?_; first | rfl | (simp; done)) | with_reducible apply Blk.alloc | with_reducible apply Blk.drewN | with_reducible apply Blk.drew | with_reducible apply Blk.set_to | (with_reducible apply Blk.far_; (simp only [ne_eq]; omega)) | (with_reducible apply Blk.kept (hb := hbd)) | rfl))); intro gx hgx hgq5 BX5)
          | (refine pick_block (wv := wv) (lo := wq.heap.size) (t := 24) wq.heap.size #[.int .i64 (addS (t, t') (d, d')).1, .int .i64 (addS (t, t') (d, d')).2.1] ?_ ?_ ?_; (focus omega); (focus (rw [hwv]; repeat (first | with_reducible exact Blk.new _ _ _ | (with_reducible refine Blk.newAt _ _ _ _ ?_; first | rfl | (simp; done)) | with_reducible apply Blk.alloc | with_reducible apply Blk.drewN | with_reducible apply Blk.drew | with_reducible apply Blk.set_to | (with_reducible apply Blk.far_; (simp only [ne_eq]; omega)) | (with_reducible apply Blk.kept (hb := hbd)) | rfl))); intro gx hgx hgq5 BX5)
        rw [← hwv] at hB5 ⊢
        rw [← hgx]
        clear hwv hgx
        try clear hbd hBd hcd hfd hzd
        clear e0 e1 d2 d3
        have r5 := r1.below hB5 hzq
        have ow5 := own_call ow hB5
        have k5 : Below B w wv := kq.trans (hB5.mono (by omega))
        have s5 := hB5.size
        have e0 := r5.cell 0; have e1 := r5.cell 1; have f0 := r5.frozen 0; have f1 := r5.frozen 1
        have x0 := BX5.cell 0; have x1 := BX5.cell 1
        have hzw : w.heap.size < wv.heap.size := r5.lt
        have hgw : gx < wv.heap.size := BX5.lt
        have hgn : g ≠ w.heap.size := fun e => hne e.symm
        simp only [List.getElem?_toArray, List.getElem?_cons_zero, List.getElem?_cons_succ] at e0 e1 x0 x1
        clear kq hB5 hgq hzq r1 ow
        obtain ⟨y, hy⟩ : ∃ y, y = addS (t, t') (d, d') := ⟨_, rfl⟩
        have Y := Lib.hid hy.symm
        rw [← hy] at x0 x1 ⊢
        clear hy
        go_wp2_with fail
        · go_ret2
          have h0 : (y.2.2 != 0) = true := by assumption
          have hr := hs.out
          rw [HDH.out, chainAt_bad _ _ _ _ (by rw [Y.out]; simpa using h0), Y.out] at hr
          rw [← hr]
          exact ⟨none, 0, rfl, OwnE.nil_ _ _, k5⟩
        · go_roundw
          case rel =>
            refine ⟨k + 1, y.1, y.2.1, done ++ [⟨(t, t'), (d, d'), (p, q, r), rst, sg, ps⟩], by omega, by go_num, by simp [hdn], ?_, ?_, (k5.setCell (by simp only; omega) _).setCell (by simp only; omega) _, (r5.set_to rfl).set_to rfl⟩
            · have hr := hs.out
              have h0 : (y.2.2 != 0) = false := by assumption
              rw [HDH.out, chainAt_ok _ _ _ _ (by rw [Y.out]; simpa using h0), Y.out] at hr
              exact Lib.hid hr
            · rw [List.append_assoc]
              exact ownsRow_setCell_other (ownsRow_setCell_other ow5 (by simp [Value.ownBlock]; exact hgn) _) (by simp [Value.ownBlock]; exact hgn) _
          case measure => simp [intOf]; omega
    · have hr := hs.out
      rw [List.drop_eq_nil_of_le (by have := HL.out; omega), chainAt_end] at hr
      rw [List.drop_eq_nil_of_le (by have := HL.out; omega), List.append_nil] at hown
      have hkn : k = n := by omega
      subst hkn
      go_wp2
      go_ret2
      rw [← hr]
      obtain ⟨A', c', e, ho⟩ := ownE_form hown
      subst hdn
      cases e
      exact ⟨_, _, rfl, ho, k0⟩
set_option maxHeartbeats 400000 in
theorem chained_any (v : Value) (n : Nat) (l : List Ev) (B : Nat) (w : World) (h : w.ownsRow B 59 10 v n (csE l)) (hn : n ≤ 5000) (hB : B ≤ w.heap.size) :
    Calls Try.prog 45 #[v] w fun e w' => ∃ A' c', e = .returned (.tuple #[.slice A' (chainS l).1.length c', .int .i64 (chainS l).2]) ∧ OwnE w' B (chainS l).1.length A' c' (chainS l).1 ∧ Below B w w' := by
  have h0 := h
  obtain ⟨h1, h2⟩ := h
  rcases h2 with ⟨rfl, rfl⟩ | ⟨g, cap, cur, rfl, _⟩
  · obtain rfl : l = [] := List.eq_nil_of_length_eq_zero (by have := h1; rw [csE_len] at this; omega)
    go_enter Try.func45, Try.ntmps45
    go_wp2
    go_loopw [11] (fun i wr => i = .int .i64 0 ∧ Below w.heap.size w wr) (fun _ _ => 0)
    case atStart => exact ⟨rfl, by repeat (first | exact Below.refl _ _ | refine below_drewN ?_ _ | refine Below.drew ?_ | refine below_alloc ?_ _ | (refine below_call ?_ (by assumption)) | (refine Below.setCell ?_ ?_ _; rotate_left; (simp; try omega)))⟩
    case round =>
      obtain ⟨rfl, k0⟩ := hrel
      go_wp2
      go_ret2
      exact ⟨none, 0, rfl, OwnE.nil_ _ _, k0.mono hB⟩
  · exact chained_some g n cap l B w h0 hn
end Go.Proofs.Ytiphacmmglohaaa
