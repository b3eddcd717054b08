
/- Chain, Retro, InPlace, Chained, Mirror, Reverse, Change, All, Move, BackFacts: one text. -/
import Derived.Test.YtigfcbofbcpiaaaDoorEvents
import Derived.Laws.OwnMore
import Derived.Deep.AppendLies
import Derived.BigRegion
import Derived.Test.YtigfcbofbcpiaaaDoorPlain
/- The chain of events, the reference's walk. -/

namespace Go.Proofs.YtigfcbofbcpiaaaDoor
open Go.RowKit
/-- What is chained so far, and what follows. -/
def chainAt (done : List Ev) (now : Int × Int) (l : List Ev) : List Ev × Int := if (chainFrom now l).2 ≠ 0 then ([], (chainFrom now l).2) else (done ++ (chainFrom now l).1, 0)
theorem chainFrom_err (now : Int × Int) (l : List Ev) (h : (chainFrom now l).2 ≠ 0) : (chainFrom now l).1 = [] := by
  cases l with
  | nil => rfl
  | cons x l =>
    rw [chainFrom] at h ⊢
    split
    · rfl
    · rename_i h1
      rw [if_neg h1] at h
      split
      · rfl
      · rename_i h2; rw [if_neg h2] at h; exact absurd rfl h
theorem chainAt_nil (now : Int × Int) (l : List Ev) : chainAt [] now l = chainFrom now l := by
  unfold chainAt
  split
  · rename_i h; rw [← chainFrom_err now l h]
  · rename_i h
    have h2 : (chainFrom now l).2 = 0 := Decidable.byContradiction h
    rw [List.nil_append, ← h2]
theorem chainAt_end (done : List Ev) (now : Int × Int) : chainAt done now [] = (done, 0) := by simp [chainAt, chainFrom]
theorem chainAt_bad (done : List Ev) (now : Int × Int) (x : Ev) (l : List Ev) (h : (addS now x.dur).2.2 ≠ 0) : chainAt done now (x :: l) = ([], (addS now x.dur).2.2) := by
  unfold chainAt
  rw [chainFrom, if_pos h, if_pos h]
theorem chainAt_ok (done : List Ev) (now : Int × Int) (x : Ev) (l : List Ev) (h : (addS now x.dur).2.2 = 0) : chainAt done now (x :: l) = chainAt (done ++ [{ x with at_ := now }]) ((addS now x.dur).1, (addS now x.dur).2.1) l := by
  unfold chainAt
  rw [chainFrom, if_neg (show ¬ ((addS now x.dur).2.2 ≠ 0) from fun hn => hn h)]
  generalize chainFrom ((addS now x.dur).1, (addS now x.dur).2.1) l = z
  obtain ⟨r, e⟩ := z
  by_cases h2 : e = 0
  · subst h2; simp
  · simp [h2]
theorem Blk.grown_ {w w' : World} {g : Nat} {t : TypeId} {cs : Array Value} {row : Option Nat} (h : Blk w g t cs) (hg : w.grownBy w' row) (hne : some g ≠ row) : Blk w' g t cs := (hg.block g h.lt hne).trans h
theorem own_farC {w : World} {base size n : Nat} {e : TypeId} {v u : Value} {xs : List Value} {p : Addr} (h : w.ownsRow base e size v n xs) (hp : p.block < base) : (w.setCell p u).ownsRow base e size v n xs := by
  have hl := h.lt
  obtain ⟨h1, h2⟩ := h
  refine ⟨h1, ?_⟩
  rcases h2 with h2 | ⟨g, cap, cur, h2, h3, h4, h5⟩
  · exact .inl h2
  · refine .inr ⟨g, cap, cur, h2, h3, ?_, h5⟩
    rw [Below.heap_setCell _ _ _ g (by omega)]; exact h4
theorem OwnE.lower {w : World} {base base' n c : Nat} {A : Option Addr} {l : List Ev} (h : OwnE w base n A c l) (hb : base' ≤ base) : OwnE w base' n A c l := by
  obtain ⟨⟨h1, h2⟩, h3⟩ := h
  refine ⟨⟨h1, ?_⟩, h3⟩
  rcases h2 with h2 | ⟨g, cap, cur, h2, h4, h5⟩
  · exact .inl h2
  · exact .inr ⟨g, cap, cur, h2, Nat.le_trans hb h4, h5⟩
theorem OwnE.nil_ (w : World) (base : Nat) : OwnE w base 0 none 0 [] := ⟨⟨rfl, .inl ⟨rfl, rfl⟩⟩, Reads.none_, Nat.le_refl _⟩
end Go.Proofs.YtigfcbofbcpiaaaDoor

/- The retrograde, the reference's walk; the copy of a list of events. -/
namespace Go.Proofs.YtigfcbofbcpiaaaDoor
open Go.RowKit
@[go_sem] theorem eql_nilE (w : World) (A : Option Addr) (n c : Nat) : (binOp .eql 23 (.slice A n c) (.slice none 0 0)).run Tryd.prog w = .ok (.bool A.isNone) w := by
  unfold binOp
  simp [run_equal_slice_nil w _ _ A n c Tryd.underlying23]
set_option maxRecDepth 100000 in
set_option maxHeartbeats 1000000 in
theorem cloneE_any (A : Option Addr) (n c : Nat) (l : List Ev) (B : Nat) (w : World) (h : Reads w B 10 A n (csE l)) (hB : B ≤ w.heap.size) (hn : n ≤ 5000) :
    Calls Tryd.prog 51 #[.slice A n c] w fun e w' => ∃ A' c', e = .returned (.slice A' n c') ∧ OwnE w' w.heap.size n A' c' l ∧ Below w.heap.size w w' := by
  obtain ⟨i0, hi0, hz0, hz1, hz2⟩ := info_parts event_info
  cases A with
  | none =>
    have h0 := h.none_len rfl
    subst h0
    have hl : l = [] := List.eq_nil_of_length_eq_zero h.evlen
    subst hl
    go_enter Tryd.func51, Tryd.ntmps51
    go_wp2
    go_ret
    exact ⟨none, 0, rfl, OwnE.nil_ _ _, Below.refl _ _⟩
  | some ad =>
    go_enter Tryd.func51, Tryd.ntmps51
    go_wp2_with (at_builtin; (refine wpList_append_any _ rfl (.tmp 5) (.tmp 6) _ rfl w.heap.size 70 i0 _ 10 80 Tryd.underlying23 hi0 hz0 hz1 hz2 rfl (by omega) (.slice (some ⟨w.heap.size, 0, none⟩) 0 0) 0 [] rfl (World.ownsRow_lit w #[] 0 (Nat.le_refl _) (by simp [maxLen]) rfl) B (some ad) n c (csE l) rfl (h.below hB (below_alloc (Below.refl _ _) _)) (one_csE l) (by simp only [maxLen]; omega) (by omega) (by simp) ?_); intro v1 w1 hown1 hg1 hat1)
    go_ret
    simp only [Nat.zero_add, List.nil_append] at hown1
    obtain ⟨A', c', e, ho⟩ := ownE_form hown1
    subst e
    exact ⟨A', c', rfl, ho, (below_alloc (Below.refl _ _) _).grown hg1 (by simp) (fun k hk => by simp [Value.ownBlock] at hk; omega)⟩
end Go.Proofs.YtigfcbofbcpiaaaDoor

/- Events changed in place in a row of the call's own. -/
namespace Go.Proofs.YtigfcbofbcpiaaaDoor
open Go.RowKit
theorem set_append_two {α : Type} (p : List α) (a b : α) (r : List α) (u v : α) : ((p ++ a :: b :: r).set p.length u).set (p.length + 1) v = p ++ u :: v :: r := by
  simp
/-- The two cells of an event's time are stored to. -/
theorem csE_set_at (done rest : List Ev) (x : Ev) (t t' : Int) : ((csE (done ++ x :: rest)).set (done.length * 10) (.int .i64 t)).set (done.length * 10 + 1) (.int .i64 t') = csE (done ++ { x with at_ := (t, t') } :: rest) := by
  have e : ∀ y : Ev, csE (done ++ y :: rest) = csE done ++ .int .i64 y.at_.1 :: .int .i64 y.at_.2 :: ([.int .i64 y.dur.1, .int .i64 y.dur.2, .int .i64 y.pit.1, .int .i64 y.pit.2.1, .int .i64 y.pit.2.2, .bool y.rest, .int .i64 y.sign, .int .i64 y.pass] ++ csE rest) := by
    intro y
    rw [csE_append]
    rfl
  rw [e, e, ← csE_len done, set_append_two]
end Go.Proofs.YtigfcbofbcpiaaaDoor

/- The chain in place, the program's walk. -/

namespace Go.Proofs.YtigfcbofbcpiaaaDoor
open Go.RowKit
theorem own_elem {w : World} {base n cap g : Nat} {done rest : List Ev} {x : Ev} (h : w.ownsRow base 70 10 (.slice (some ⟨g, 0, none⟩) n cap) n (csE (done ++ x :: rest))) {k : Nat} (hk : done.length = k) (hkn : k < n) :
    ∀ j, j < 10 → w.cell? ⟨g, k * 10 + j, none⟩ = (cE x)[j]? := by
  intro j hj
  rw [h.cellAt _ (by omega), csE_append, List.getElem?_append_right (by rw [csE_len, hk]; omega), csE_len, hk, show k * 10 + j - k * 10 = j by omega]
  show (cE x ++ csE rest)[j]? = _
  rw [List.getElem?_append_left (by simp [cE]; omega)]
set_option maxRecDepth 100000 in
set_option maxHeartbeats 1000000 in
theorem chained_some (g n c : Nat) (l : List Ev) (B : Nat) (w : World) (h : w.ownsRow B 70 10 (.slice (some ⟨g, 0, none⟩) n c) n (csE l)) (hn : n ≤ 5000) :
    Calls Tryd.prog 53 #[.slice (some ⟨g, 0, none⟩) n c] w fun e w' => ∃ A' c', e = .returned (.tuple #[.slice A' (chainS l).1.length c', .int .i64 (chainS l).2]) ∧ OwnE w' B (chainS l).1.length A' c' (chainS l).1 ∧ Below B w w' := by
  have HL : Hid (l.length = n) := Lib.hid (by have := h.1; rw [csE_len] at this; omega)
  have hgz := h.lt g rfl
  go_enter Tryd.func53, Tryd.ntmps53
  go_wp2
  go_loopw [5, 6, 7, 11] (fun _ _ _ i wr => ∃ (k : Nat) (t t' : Int) (done : List Ev), k ≤ n ∧ i = .int .i64 k ∧ done.length = k ∧ Hid (chainAt done (t, t') (l.drop k) = chainS l) ∧ wr.ownsRow B 70 10 (.slice (some ⟨g, 0, none⟩) n c) n (csE (done ++ l.drop k)) ∧ Below B w wr ∧ Blk wr w.heap.size 66 #[.int .i64 t, .int .i64 t']) (fun _ _ _ i _ => n - (intOf i).toNat)
  case atStart => exact ⟨0, 0, 1, [], by omega, rfl, rfl, Lib.hid (chainAt_nil _ _), own_call h (by repeat (first | exact Below.refl _ _ | refine below_drewN ?_ _ | refine Below.drew ?_ | refine below_alloc ?_ _ | (refine below_call ?_ (by assumption)) | (refine Below.setCell ?_ ?_ _; rotate_left; (simp; try omega)))), (show Below w.heap.size w _ by repeat (first | exact Below.refl _ _ | refine below_drewN ?_ _ | refine Below.drew ?_ | refine below_alloc ?_ _ | (refine below_call ?_ (by assumption)) | (refine Below.setCell ?_ ?_ _; rotate_left; (simp; try omega)))).mono (by omega), Blk.new _ _ _⟩
  case round =>
    obtain ⟨k, t, t', done, hk, rfl, hdn, hs, hown, k0, r0⟩ := hrel
    by_cases hlt : k < n
    · have hlt' : (k : Int) < (n : Int) := by omega
      obtain ⟨x, hx⟩ := get_some (l := l) (k := k) (by have := HL.out; omega)
      have HD := drop_get hx
      rw [HD] at hown
      have HDH := Lib.hid HD; clear HD
      have hcs := own_elem hown hdn hlt
      obtain ⟨⟨a, a'⟩, ⟨d, d'⟩, ⟨p, q, r⟩, rst, sg, ps⟩ := x
      have c0 : wr.cell? ⟨g, k * 10, none⟩ = some (.int .i64 a) := hcs 0 (by omega)
      have c1 : wr.cell? ⟨g, k * 10 + 1, none⟩ = some (.int .i64 a') := hcs 1 (by omega)
      have c2 : wr.cell? ⟨g, k * 10 + 2, none⟩ = some (.int .i64 d) := hcs 2 (by omega)
      have c3 : wr.cell? ⟨g, k * 10 + 3, none⟩ = some (.int .i64 d') := hcs 3 (by omega)
      have fz := hown.frozenAt
      have hgr : g < wr.heap.size := (hown.lt g rfl).2
      have hne : w.heap.size ≠ g := by omega
      have en := r0.cell; have gn := r0.frozen; have zn := r0.lt
      clear hcs
      go_wp2_with fail
      have ow := ((hown.stored (k * 10) (.int .i64 t)).1.stored (k * 10 + 1) (.int .i64 t')).1
      rw [← hdn, csE_set_at, hdn] at ow
      have r1 := (r0.far (p := ⟨g, k * 10, none⟩) hne (.int .i64 t)).far (p := ⟨g, k * 10 + 1, none⟩) hne (.int .i64 t')
      have kq : Below B w ((wr.setCell ⟨g, k * 10, none⟩ (.int .i64 t)).setCell ⟨g, k * 10 + 1, none⟩ (.int .i64 t')) := (k0.setCell hgz.1 _).setCell hgz.1 _
      have hsz := k0.size
      generalize hwq : (wr.setCell ⟨g, k * 10, none⟩ (.int .i64 t)).setCell ⟨g, k * 10 + 1, none⟩ (.int .i64 t') = wq at *
      have hcq := own_elem ow hdn hlt
      have d2 : wq.cell? ⟨g, k * 10 + 2, none⟩ = some (.int .i64 d) := hcq 2 (by omega)
      have d3 : wq.cell? ⟨g, k * 10 + 3, none⟩ = some (.int .i64 d') := hcq 3 (by omega)
      have e0 : wq.cell? ⟨w.heap.size, 0, none⟩ = some (.int .i64 t) := r1.cell 0
      have e1 : wq.cell? ⟨w.heap.size, 1, none⟩ = some (.int .i64 t') := r1.cell 1
      clear c0 c1 c2 c3 fz hgr en gn zn hcq hown r0 k0 hwq
      have hgq : g < wq.heap.size := (ow.lt g rfl).2
      have hzq : w.heap.size < wq.heap.size := r1.lt
      go_region_held3 (fun w' => w'.cell? ⟨w.heap.size, 0, none⟩ = some (.int .i64 t) ∧ w'.cell? ⟨w.heap.size, 1, none⟩ = some (.int .i64 t') ∧ w'.cell? ⟨g, k * 10 + 2, none⟩ = some (.int .i64 d) ∧ w'.cell? ⟨g, k * 10 + 3, none⟩ = some (.int .i64 d') ∧ Below wq.heap.size wq w') ((refine (fun hb => ⟨(hb.cell (p := ⟨_, _, none⟩) hzq).trans e0, (hb.cell (p := ⟨_, _, none⟩) hzq).trans e1, (hb.cell (p := ⟨_, _, none⟩) hgq).trans d2, (hb.cell (p := ⟨_, _, none⟩) hgq).trans d3, hb⟩) ?_; repeat (first | exact Below.refl _ _ | exact hBd | exact (show _ ∧ _ ∧ _ ∧ _ ∧ Below wq.heap.size wq _ by assumption).2.2.2.2 | refine Below.drew ?_ | refine below_alloc ?_ _ | (refine Below.setCell ?_ ?_ _; rotate_left; (first | (have hz := hBd.size; show wq.heap.size ≤ _; simp only; omega) | (show wq.heap.size ≤ _; simp only; omega)))))) (first | (go_at_call 77; refine (add_any (t, t') (d, d') _).mono ?_; rintro e wd ⟨rfl, hbd⟩; have hBd := below_call (show _ ∧ _ ∧ _ ∧ _ ∧ Below wq.heap.size wq _ by assumption).2.2.2.2 hbd; have hcd := (bcell hbd).1; have hfd := (bcell hbd).2; try (have hzd : wq.heap.size < wd.heap.size := by have hz := hbd.size; simp at hz; omega)))
      all_goals
        have hB5 := (show _ ∧ _ ∧ _ ∧ _ ∧ Below wq.heap.size wq _ by assumption).2.2.2.2
        obtain ⟨wv, hwv⟩ := name_world hB5
        first
          | (refine pick_block (wv := wv) (lo := wq.heap.size) (t := 66) wd.heap.size #[.int .i64 (addS (t, t') (d, d')).1, .int .i64 (addS (t, t') (d, d')).2.1] ?_ ?_ ?_; (focus (have hz := hBd.size; omega)); (focus (rw [hwv]; repeat (first | with_reducible exact Blk.new _ _ _ | (with_reducible refine Blk.newAt _ _ _ _ ?_; first | rfl | (simp; done)) | with_reducible apply Blk.alloc | with_reducible apply Blk.drewN | with_reducible apply Blk.drew | with_reducible apply Blk.set_to | (with_reducible apply Blk.far_; (simp only [ne_eq]; omega)) | (with_reducible apply Blk.kept (hb := hbd)) | rfl))); intro gx hgx hgq5 BX5)
          | (refine pick_block (wv := wv) (lo := wq.heap.size) (t := 66) wq.heap.size #[.int .i64 (addS (t, t') (d, d')).1, .int .i64 (addS (t, t') (d, d')).2.1] ?_ ?_ ?_; (focus omega); (focus (rw [hwv]; repeat (first | with_reducible exact Blk.new _ _ _ | (with_reducible refine Blk.newAt _ _ _ _ ?_; first | rfl | (simp; done)) | with_reducible apply Blk.alloc | with_reducible apply Blk.drewN | with_reducible apply Blk.drew | with_reducible apply Blk.set_to | (with_reducible apply Blk.far_; (simp only [ne_eq]; omega)) | (with_reducible apply Blk.kept (hb := hbd)) | rfl))); intro gx hgx hgq5 BX5)
        rw [← hwv] at hB5 ⊢
        rw [← hgx]
        clear hwv hgx
        try clear hbd hBd hcd hfd hzd
        clear e0 e1 d2 d3
        have r5 := r1.below hB5 hzq
        have ow5 := own_call ow hB5
        have k5 : Below B w wv := kq.trans (hB5.mono (by omega))
        have s5 := hB5.size
        have e0 := r5.cell 0; have e1 := r5.cell 1; have f0 := r5.frozen 0; have f1 := r5.frozen 1
        have x0 := BX5.cell 0; have x1 := BX5.cell 1
        have hzw : w.heap.size < wv.heap.size := r5.lt
        have hgw : gx < wv.heap.size := BX5.lt
        have hgn : g ≠ w.heap.size := fun e => hne e.symm
        simp only [List.getElem?_toArray, List.getElem?_cons_zero, List.getElem?_cons_succ] at e0 e1 x0 x1
        clear kq hB5 hgq hzq r1 ow
        obtain ⟨y, hy⟩ : ∃ y, y = addS (t, t') (d, d') := ⟨_, rfl⟩
        have Y := Lib.hid hy.symm
        rw [← hy] at x0 x1 ⊢
        clear hy
        go_wp2_with fail
        · go_ret2
          have h0 : (y.2.2 != 0) = true := by assumption
          have hr := hs.out
          rw [HDH.out, chainAt_bad _ _ _ _ (by rw [Y.out]; simpa using h0), Y.out] at hr
          rw [← hr]
          exact ⟨none, 0, rfl, OwnE.nil_ _ _, k5⟩
        · go_roundw
          case rel =>
            refine ⟨k + 1, y.1, y.2.1, done ++ [⟨(t, t'), (d, d'), (p, q, r), rst, sg, ps⟩], by omega, by go_num, by simp [hdn], ?_, ?_, (k5.setCell (by simp only; omega) _).setCell (by simp only; omega) _, (r5.set_to rfl).set_to rfl⟩
            · have hr := hs.out
              have h0 : (y.2.2 != 0) = false := by assumption
              rw [HDH.out, chainAt_ok _ _ _ _ (by rw [Y.out]; simpa using h0), Y.out] at hr
              exact Lib.hid hr
            · rw [List.append_assoc]
              exact ownsRow_setCell_other (ownsRow_setCell_other ow5 (by simp [Value.ownBlock]; exact hgn) _) (by simp [Value.ownBlock]; exact hgn) _
          case measure => simp [intOf]; omega
    · have hr := hs.out
      rw [List.drop_eq_nil_of_le (by have := HL.out; omega), chainAt_end] at hr
      rw [List.drop_eq_nil_of_le (by have := HL.out; omega), List.append_nil] at hown
      have hkn : k = n := by omega
      subst hkn
      go_wp2
      go_ret2
      rw [← hr]
      obtain ⟨A', c', e, ho⟩ := ownE_form hown
      subst hdn
      cases e
      exact ⟨_, _, rfl, ho, k0⟩
set_option maxHeartbeats 400000 in
theorem chained_any (v : Value) (n : Nat) (l : List Ev) (B : Nat) (w : World) (h : w.ownsRow B 70 10 v n (csE l)) (hn : n ≤ 5000) (hB : B ≤ w.heap.size) :
    Calls Tryd.prog 53 #[v] w fun e w' => ∃ A' c', e = .returned (.tuple #[.slice A' (chainS l).1.length c', .int .i64 (chainS l).2]) ∧ OwnE w' B (chainS l).1.length A' c' (chainS l).1 ∧ Below B w w' := by
  have h0 := h
  obtain ⟨h1, h2⟩ := h
  rcases h2 with ⟨rfl, rfl⟩ | ⟨g, cap, cur, rfl, _⟩
  · obtain rfl : l = [] := List.eq_nil_of_length_eq_zero (by have := h1; rw [csE_len] at this; omega)
    go_enter Tryd.func53, Tryd.ntmps53
    go_wp2
    go_loopw [11] (fun i wr => i = .int .i64 0 ∧ Below w.heap.size w wr) (fun _ _ => 0)
    case atStart => exact ⟨rfl, by repeat (first | exact Below.refl _ _ | refine below_drewN ?_ _ | refine Below.drew ?_ | refine below_alloc ?_ _ | (refine below_call ?_ (by assumption)) | (refine Below.setCell ?_ ?_ _; rotate_left; (simp; try omega)))⟩
    case round =>
      obtain ⟨rfl, k0⟩ := hrel
      go_wp2
      go_ret2
      exact ⟨none, 0, rfl, OwnE.nil_ _ _, k0.mono hB⟩
  · exact chained_some g n cap l B w h0 hn
end Go.Proofs.YtigfcbofbcpiaaaDoor

/- The walks through the mirrored pitches, the program's and the reference's. -/

namespace Go.Proofs.YtigfcbofbcpiaaaDoor
open Go.RowKit
theorem mirror_both (p q : Int × Int × Int) (h : pchk p = 0) (h' : pchk q = 0) : mirrorP p q = ofP (2 * numP q - numP p) (-p.2.2) := by
  unfold mirrorP; rw [h, h', if_neg (fun h => h rfl), if_neg (fun h => h rfl)]
theorem mirror_first (p q : Int × Int × Int) (h : pchk p ≠ 0) : mirrorP p q = ((0, 0, 0), pchk p) := by unfold mirrorP; rw [if_pos h]
theorem mirror_second (p q : Int × Int × Int) (h : pchk p = 0) (h' : pchk q ≠ 0) : mirrorP p q = ((0, 0, 0), pchk q) := by
  unfold mirrorP; rw [h, if_neg (fun h => h rfl), if_pos h']
set_option maxRecDepth 100000 in
set_option maxHeartbeats 1000000 in
theorem pmirror_any (p q : Int × Int × Int) (w : World) :
    Calls Tryd.prog 58 #[vP p, vP q] w fun e w' => e = .returned (vPE (mirrorP p q)) ∧ Below w.heap.size w w' := by
  obtain ⟨a, b, c⟩ := p
  obtain ⟨a', b', c'⟩ := q
  have i0 : ∀ w, (Instr.index 124 (.agg #[.int .i64 a, .int .i64 b, .int .i64 c, .int .i64 a', .int .i64 b', .int .i64 c']) (.int .i64 0)).run Tryd.prog w = .ok (.agg #[.int .i64 a, .int .i64 b, .int .i64 c]) w := fun _ => by kernel_rfl
  have i1 : ∀ w, (Instr.index 124 (.agg #[.int .i64 a, .int .i64 b, .int .i64 c, .int .i64 a', .int .i64 b', .int .i64 c']) (.int .i64 1)).run Tryd.prog w = .ok (.agg #[.int .i64 a', .int .i64 b', .int .i64 c']) w := fun _ => by kernel_rfl
  go_enter Tryd.func58, Tryd.ntmps58
  go_wp2
  go_loopw [7, 8, 13] (fun _ _ i wr => ∃ k : Nat, k ≤ 2 ∧ i = .int .i64 k ∧ Hid (1 ≤ k → pchk (a, b, c) = 0) ∧ Hid (2 ≤ k → pchk (a', b', c') = 0) ∧ Below w.heap.size w wr ∧ Blk wr w.heap.size 57 #[.int .i64 a, .int .i64 b, .int .i64 c] ∧ Blk wr (w.heap.size + 1) 57 #[.int .i64 a', .int .i64 b', .int .i64 c'] ∧ Blk wr (w.heap.size + 1 + 1) 57 #[.int .i64 0, .int .i64 0, .int .i64 0]) (fun _ _ i _ => 2 - (intOf i).toNat)
  case atStart => exact ⟨0, by omega, rfl, Lib.hid (fun h => absurd h (by omega)), Lib.hid (fun h => absurd h (by omega)), by repeat (first | exact Below.refl _ _ | refine below_drewN ?_ _ | refine Below.drew ?_ | refine below_alloc ?_ _ | (refine below_call ?_ (by assumption)) | (refine Below.setCell ?_ ?_ _; rotate_left; (simp; try omega))), ((Blk.new _ _ _).alloc _).alloc _, Blk.alloc (Blk.newAt _ _ _ _ (by simp)) _, Blk.newAt _ _ _ _ (by simp)⟩
  case round =>
    obtain ⟨k, hk, rfl, g0, g1, k0, r0, s0, q0⟩ := hrel
    have en := r0.cell; have gn := r0.frozen; have zn := r0.lt
    have fn := s0.cell; have hn := s0.frozen; have yn := s0.lt
    have qn := q0.cell; have un := q0.frozen; have vn := q0.lt
    match k, hk with
    | 0, _ =>
      rw [show ((0 : Nat) : Int) = 0 by rfl]
      go_wp2_with (go_at_call 55; refine (pcheck_any (_, _, _) _).mono ?_; rintro e w1 ⟨rfl, hb1⟩; have r2 := (r0.alloc _).kept hb1; have s2 := (s0.alloc _).kept hb1; have q2 := (q0.alloc _).kept hb1; have k2 := below_call (below_alloc k0 _) hb1; have cq := q2.cell; have fq := q2.frozen; have vq := q2.lt)
      · refine ret_of (by simp [results, Tryd.results58, go_sem, *]; repeat' (first | rfl | apply And.intro)) rfl ⟨vPE_ret ?_, by repeat (first | exact Below.refl _ _ | assumption | refine below_drewN ?_ _ | refine Below.drew ?_ | refine below_alloc ?_ _ | (refine below_call ?_ (by assumption)) | (refine Below.setCell ?_ ?_ _; rotate_left; (simp; try omega)))⟩
        have h0 : (pchk (a, b, c) != 0) = true := by assumption
        rw [mirror_first _ _ (by simpa using h0)]
      · go_roundw
        case rel =>
          have h0 : (pchk (a, b, c) != 0) = false := by assumption
          exact ⟨1, by omega, rfl, Lib.hid (fun _ => by simpa using h0), Lib.hid (fun h => absurd h (by omega)), by repeat (first | exact Below.refl _ _ | assumption | refine below_drewN ?_ _ | refine Below.drew ?_ | refine below_alloc ?_ _ | (refine below_call ?_ (by assumption)) | (refine Below.setCell ?_ ?_ _; rotate_left; (simp; try omega))), r2, s2, q2⟩
        case measure => simp [intOf]
    | 1, _ =>
      rw [show ((1 : Nat) : Int) = 1 by rfl]
      have g0' := g0.out (by omega)
      have G0 := Lib.hid g0'; clear g0'
      go_wp2_with (go_at_call 55; refine (pcheck_any (_, _, _) _).mono ?_; rintro e w1 ⟨rfl, hb1⟩; have r2 := (r0.alloc _).kept hb1; have s2 := (s0.alloc _).kept hb1; have q2 := (q0.alloc _).kept hb1; have k2 := below_call (below_alloc k0 _) hb1; have cq := q2.cell; have fq := q2.frozen; have vq := q2.lt)
      · refine ret_of (by simp [results, Tryd.results58, go_sem, *]; repeat' (first | rfl | apply And.intro)) rfl ⟨vPE_ret ?_, by repeat (first | exact Below.refl _ _ | assumption | refine below_drewN ?_ _ | refine Below.drew ?_ | refine below_alloc ?_ _ | (refine below_call ?_ (by assumption)) | (refine Below.setCell ?_ ?_ _; rotate_left; (simp; try omega)))⟩
        have h0 : (pchk (a', b', c') != 0) = true := by assumption
        rw [mirror_second _ _ G0.out (by simpa using h0)]
      · go_roundw
        case rel =>
          have h0 : (pchk (a', b', c') != 0) = false := by assumption
          exact ⟨2, by omega, rfl, Lib.hid (fun _ => G0.out), Lib.hid (fun _ => by simpa using h0), by repeat (first | exact Below.refl _ _ | assumption | refine below_drewN ?_ _ | refine Below.drew ?_ | refine below_alloc ?_ _ | (refine below_call ?_ (by assumption)) | (refine Below.setCell ?_ ?_ _; rotate_left; (simp; try omega))), r2, s2, q2⟩
        case measure => simp [intOf]
    | 2, _ =>
      rw [show ((2 : Nat) : Int) = 2 by rfl]
      have E := Lib.hid (mirror_both _ _ (g0.out (by omega)) (g1.out (by omega)))
      obtain ⟨h0, h1, h2, h3, h4, h5⟩ := pchk_ok (g0.out (by omega))
      obtain ⟨h0', h1', h2', h3', _, _⟩ := pchk_ok (g1.out (by omega))
      simp only at h0 h1 h2 h3 h4 h5 h0' h1' h2' h3'
      go_wp2_with (go_at_call 79; refine (of_any' _ _ _ _ h0 h1 h2 h3).mono ?_; rintro e w1 ⟨rfl, hb1⟩; have r2 := r0.kept hb1; have s2 := s0.kept hb1; have q2 := q0.kept hb1; have k2 := below_call k0 hb1)
      have t2 : Blk (w1.alloc (.cells #[.int .i64 (7 * b + a), .int .i64 c] 95)) w1.heap.size 95 #[.int .i64 (7 * b + a), .int .i64 c] := Blk.new _ _ _
      have cs := s2.cell; have fs := s2.frozen; have vs := s2.lt
      have vs' : w.heap.size + 1 < w1.heap.size + 1 := by omega
      have e1 : IntKind.i64.wrap (2 * (7 * b' + a')) = 2 * (7 * b' + a') := IntWalk.i64_in _ (by omega)
      have e2 : IntKind.i64.wrap (2 * (7 * b' + a') - (7 * b + a)) = 2 * (7 * b' + a') - (7 * b + a) := IntWalk.i64_in _ (by omega)
      have e3 : IntKind.i64.wrap (-c) = -c := IntWalk.i64_in _ (by omega)
      have hfd : ∀ (w : World) (x y : Value), (Instr.field 95 (.agg #[x, y]) 0).run Tryd.prog w = .ok x w := fun _ _ _ => by kernel_rfl
      refine wp_region_calm_tail 14 (by kernel_rfl) (by kernel_rfl) ?_
      simp only [List.take_succ_cons, List.take_zero, List.drop_succ_cons, List.drop_zero]
      repeat (go_big_quiet_step ((first | (go_at_call 79; exact calm_call (of_any' _ _ _ _ h0' h1' h2' h3')) | (go_at_call 54; exact calm_call (tone_any _ _ _)))))
      refine wpQuiet_nil ?_
      intro w2 hb2
      have q3 := (q2.alloc _).kept hb2
      have cq := q3.cell; have fq := q3.frozen; have vq := q3.lt
      go_wp2
      refine ret_of (by simp [results, Tryd.results58, go_sem, *]; repeat' (first | rfl | apply And.intro)) rfl ⟨?_, by repeat (first | exact Below.refl _ _ | assumption | refine below_drewN ?_ _ | refine Below.drew ?_ | refine below_alloc ?_ _ | (refine below_call ?_ (by assumption)) | (refine Below.setCell ?_ ?_ _; rotate_left; (simp; try omega)))⟩
      rw [E.out]
      rfl
    | k + 3, h => exact absurd h (by omega)
end Go.Proofs.YtigfcbofbcpiaaaDoor

/- Events turned round in place, and the program's retrograde. -/

namespace Go.Proofs.YtigfcbofbcpiaaaDoor
open Go.RowKit
theorem set_append_ten {α : Type} (p : List α) (a0 a1 a2 a3 a4 a5 a6 a7 a8 a9 : α) (r : List α) (u0 u1 u2 u3 u4 u5 u6 u7 u8 u9 : α) :
    ((((((((((p ++ a0 :: a1 :: a2 :: a3 :: a4 :: a5 :: a6 :: a7 :: a8 :: a9 :: r).set p.length u0).set (p.length + 1) u1).set (p.length + 2) u2).set (p.length + 3) u3).set (p.length + 4) u4).set (p.length + 5) u5).set (p.length + 6) u6).set (p.length + 7) u7).set (p.length + 8) u8).set (p.length + 9) u9 = p ++ u0 :: u1 :: u2 :: u3 :: u4 :: u5 :: u6 :: u7 :: u8 :: u9 :: r := by
  simp
/-- The cells of one event are stored to. -/
def setsE (xs : List Value) (i : Nat) (x : Ev) : List Value :=
  ((((((((((xs.set i (.int .i64 x.at_.1)).set (i + 1) (.int .i64 x.at_.2)).set (i + 2) (.int .i64 x.dur.1)).set (i + 3) (.int .i64 x.dur.2)).set (i + 4) (.int .i64 x.pit.1)).set (i + 5) (.int .i64 x.pit.2.1)).set (i + 6) (.int .i64 x.pit.2.2)).set (i + 7) (.bool x.rest)).set (i + 8) (.int .i64 x.sign)).set (i + 9) (.int .i64 x.pass))
theorem csE_set (l : List Ev) (i : Nat) (x : Ev) (h : i < l.length) : setsE (csE l) (i * 10) x = csE (l.set i x) := by
  have e : l = l.take i ++ l[i] :: l.drop (i + 1) := by rw [← List.drop_eq_getElem_cons h, List.take_append_drop]
  have hl : (l.take i).length = i := by rw [List.length_take]; omega
  have e2 : l.set i x = l.take i ++ x :: l.drop (i + 1) := by rw [List.set_eq_take_append_cons_drop, if_pos h]
  have e3 : ∀ y : Ev, csE (l.take i ++ y :: l.drop (i + 1)) = csE (l.take i) ++ .int .i64 y.at_.1 :: .int .i64 y.at_.2 :: .int .i64 y.dur.1 :: .int .i64 y.dur.2 :: .int .i64 y.pit.1 :: .int .i64 y.pit.2.1 :: .int .i64 y.pit.2.2 :: .bool y.rest :: .int .i64 y.sign :: .int .i64 y.pass :: csE (l.drop (i + 1)) := by
    intro y; rw [csE_append]; rfl
  rw [e2, e3]
  conv => lhs; rw [e, e3]
  have hc : (csE (l.take i)).length = i * 10 := by rw [csE_len, hl]
  unfold setsE
  rw [← hc, set_append_ten]
/-- The world behind the stores. -/
def storeE (w : World) (g i : Nat) (x : Ev) : World :=
  ((((((((((w.setCell ⟨g, i, none⟩ (.int .i64 x.at_.1)).setCell ⟨g, i + 1, none⟩ (.int .i64 x.at_.2)).setCell ⟨g, i + 2, none⟩ (.int .i64 x.dur.1)).setCell ⟨g, i + 3, none⟩ (.int .i64 x.dur.2)).setCell ⟨g, i + 4, none⟩ (.int .i64 x.pit.1)).setCell ⟨g, i + 5, none⟩ (.int .i64 x.pit.2.1)).setCell ⟨g, i + 6, none⟩ (.int .i64 x.pit.2.2)).setCell ⟨g, i + 7, none⟩ (.bool x.rest)).setCell ⟨g, i + 8, none⟩ (.int .i64 x.sign)).setCell ⟨g, i + 9, none⟩ (.int .i64 x.pass))
theorem own_storeE {w : World} {base n cap g : Nat} {l : List Ev} (h : w.ownsRow base 70 10 (.slice (some ⟨g, 0, none⟩) n cap) n (csE l)) (i : Nat) (x : Ev) (hi : i < l.length) :
    (storeE w g (i * 10) x).ownsRow base 70 10 (.slice (some ⟨g, 0, none⟩) n cap) n (csE (l.set i x)) := by
  rw [← csE_set l i x hi]
  unfold storeE setsE
  exact ((((((((((h.stored _ _).1.stored _ _).1.stored _ _).1.stored _ _).1.stored _ _).1.stored _ _).1.stored _ _).1.stored _ _).1.stored _ _).1.stored _ _).1
theorem below_storeE {B : Nat} {a w : World} {g : Nat} (h : Below B a w) (i : Nat) (x : Ev) (hg : B ≤ g) : Below B a (storeE w g i x) := by
  unfold storeE
  exact (((((((((h.setCell hg _).setCell hg _).setCell hg _).setCell hg _).setCell hg _).setCell hg _).setCell hg _).setCell hg _).setCell hg _).setCell hg _
theorem own_at {w : World} {base n cap g : Nat} {l : List Ev} {x : Ev} (h : w.ownsRow base 70 10 (.slice (some ⟨g, 0, none⟩) n cap) n (csE l)) {k : Nat} (hx : l[k]? = some x) (hkn : k < n) :
    ∀ j, j < 10 → w.cell? ⟨g, k * 10 + j, none⟩ = (cE x)[j]? := by
  intro j hj
  rw [h.cellAt _ (by omega)]
  exact flat_get cE 10 (fun _ => rfl) l k j x hx hj
/-- The list behind k exchanges. -/
def turned (l : List Ev) (n k : Nat) (m : List Ev) : Prop := m.length = n ∧ ∀ i, i < n → m[i]? = if i < k ∨ n - k ≤ i then l[n - 1 - i]? else l[i]?
theorem turned_zero (l : List Ev) (n : Nat) (h : l.length = n) : turned l n 0 l := ⟨h, fun i hi => by rw [if_neg (by omega)]⟩
theorem turned_end {l m : List Ev} {n k : Nat} (hl : l.length = n) (h : turned l n k m) (hk : n ≤ k + k + 1) : m = l.reverse := by
  refine List.ext_getElem? fun i => ?_
  by_cases hi : i < n
  · rw [h.2 i hi, List.getElem?_reverse (by omega), hl]
    split
    · rfl
    · congr 1; omega
  · rw [List.getElem?_eq_none (by rw [h.1]; omega), List.getElem?_eq_none (by rw [List.length_reverse]; omega)]
theorem turned_next {l m : List Ev} {n k j : Nat} {x y : Ev} (h : turned l n k m) (hj : j + 1 + k = n) (hkj : k < j) (hx : m[k]? = some x) (hy : m[j]? = some y) : turned l n (k + 1) ((m.set k y).set j x) := by
  have hx' : l[k]? = some x := by rw [← hx, h.2 k (by omega), if_neg (by omega)]
  have hy' : l[j]? = some y := by rw [← hy, h.2 j (by omega), if_neg (by omega)]
  refine ⟨by simp [h.1], fun i hi => ?_⟩
  rw [List.getElem?_set, List.getElem?_set]
  by_cases h1 : j = i
  · subst h1
    rw [if_pos rfl, if_pos (by simp [h.1]; omega), if_pos (by omega), show n - 1 - j = k by omega, hx']
  · rw [if_neg h1]
    by_cases h2 : k = i
    · subst h2
      rw [if_pos rfl, if_pos (by rw [h.1]; omega), if_pos (by omega), show n - 1 - k = j by omega, hy']
    · rw [if_neg h2, h.2 i hi]
      by_cases h3 : i < k ∨ n - k ≤ i
      · rw [if_pos h3, if_pos (by omega)]
      · rw [if_neg h3, if_neg (by omega)]
set_option maxRecDepth 100000 in
set_option maxHeartbeats 1000000 in
theorem reverse_some (g n c : Nat) (l : List Ev) (B : Nat) (w : World) (h : w.ownsRow B 70 10 (.slice (some ⟨g, 0, none⟩) n c) n (csE l)) (hn : n ≤ 5000) :
    Calls Tryd.prog 52 #[.slice (some ⟨g, 0, none⟩) n c] w fun e w' => e = .returned (.tuple #[]) ∧ w'.ownsRow B 70 10 (.slice (some ⟨g, 0, none⟩) n c) n (csE l.reverse) ∧ Below B w w' := by
  have hl : l.length = n := by have := h.1; rw [csE_len] at this; omega
  have HL := Lib.hid hl; clear hl
  have hgz := h.lt g rfl
  have hn' : (n : Int) ≤ 5000 := by omega
  go_enter Tryd.func52, Tryd.ntmps52
  go_wp2
  go_loopw [2, 3] (fun i j wr => ∃ (k : Nat) (m : List Ev), k + k ≤ n + 1 ∧ i = .int .i64 k ∧ j = .int .i64 ((n : Int) - 1 - k) ∧ Hid (turned l n k m) ∧ wr.ownsRow B 70 10 (.slice (some ⟨g, 0, none⟩) n c) n (csE m) ∧ Below B w wr) (fun i j _ => (intOf j + 1 - intOf i).toNat)
  case atStart => exact ⟨0, l, by omega, rfl, by simp, Lib.hid (turned_zero _ _ HL.out), h, Below.refl _ _⟩
  case round =>
    obtain ⟨k, m, hk, rfl, rfl, ht, hown, k0⟩ := hrel
    by_cases hlt : (k : Int) < (n : Int) - 1 - k
    · obtain ⟨j, hj⟩ : ∃ j : Nat, (j : Int) = (n : Int) - 1 - k := ⟨((n : Int) - 1 - k).toNat, by omega⟩
      rw [← hj] at hlt ⊢
      have hjn : j + 1 + k = n := by omega
      have hkj : k < j := by omega
      have hml := ht.out.1
      obtain ⟨x, hx⟩ := get_some (l := m) (k := k) (by omega)
      obtain ⟨y, hy⟩ := get_some (l := m) (k := j) (by omega)
      have hcx := own_at hown hx (by omega)
      have hcy := own_at hown hy (by omega)
      have HT := Lib.hid (turned_next ht.out hjn hkj hx hy)
      have ow := own_storeE (own_storeE hown k y (by omega)) j x (by rw [List.length_set]; omega)
      have bw : Below B w (storeE (storeE wr g (k * 10) y) g (j * 10) x) := below_storeE (below_storeE k0 _ _ hgz.1) _ _ hgz.1
      unfold storeE at ow bw
      have OW := Lib.hid ow; have BW := Lib.hid bw
      clear hx hy hml ht ow bw hj
      obtain ⟨⟨a, a'⟩, ⟨d, d'⟩, ⟨p, q, r⟩, rst, sg, ps⟩ := x
      obtain ⟨⟨xa, xa'⟩, ⟨xd, xd'⟩, ⟨xp, xq, xr⟩, xrst, xsg, xps⟩ := y
      have c0 : wr.cell? ⟨g, k * 10, none⟩ = some (.int .i64 a) := hcx 0 (by omega)
      have c1 : wr.cell? ⟨g, k * 10 + 1, none⟩ = some (.int .i64 a') := hcx 1 (by omega)
      have c2 : wr.cell? ⟨g, k * 10 + 2, none⟩ = some (.int .i64 d) := hcx 2 (by omega)
      have c3 : wr.cell? ⟨g, k * 10 + 3, none⟩ = some (.int .i64 d') := hcx 3 (by omega)
      have c4 : wr.cell? ⟨g, k * 10 + 4, none⟩ = some (.int .i64 p) := hcx 4 (by omega)
      have c5 : wr.cell? ⟨g, k * 10 + 5, none⟩ = some (.int .i64 q) := hcx 5 (by omega)
      have c6 : wr.cell? ⟨g, k * 10 + 6, none⟩ = some (.int .i64 r) := hcx 6 (by omega)
      have c7 : wr.cell? ⟨g, k * 10 + 7, none⟩ = some (.bool rst) := hcx 7 (by omega)
      have c8 : wr.cell? ⟨g, k * 10 + 8, none⟩ = some (.int .i64 sg) := hcx 8 (by omega)
      have c9 : wr.cell? ⟨g, k * 10 + 9, none⟩ = some (.int .i64 ps) := hcx 9 (by omega)
      have d0 : wr.cell? ⟨g, j * 10, none⟩ = some (.int .i64 xa) := hcy 0 (by omega)
      have d1 : wr.cell? ⟨g, j * 10 + 1, none⟩ = some (.int .i64 xa') := hcy 1 (by omega)
      have d2 : wr.cell? ⟨g, j * 10 + 2, none⟩ = some (.int .i64 xd) := hcy 2 (by omega)
      have d3 : wr.cell? ⟨g, j * 10 + 3, none⟩ = some (.int .i64 xd') := hcy 3 (by omega)
      have d4 : wr.cell? ⟨g, j * 10 + 4, none⟩ = some (.int .i64 xp) := hcy 4 (by omega)
      have d5 : wr.cell? ⟨g, j * 10 + 5, none⟩ = some (.int .i64 xq) := hcy 5 (by omega)
      have d6 : wr.cell? ⟨g, j * 10 + 6, none⟩ = some (.int .i64 xr) := hcy 6 (by omega)
      have d7 : wr.cell? ⟨g, j * 10 + 7, none⟩ = some (.bool xrst) := hcy 7 (by omega)
      have d8 : wr.cell? ⟨g, j * 10 + 8, none⟩ = some (.int .i64 xsg) := hcy 8 (by omega)
      have d9 : wr.cell? ⟨g, j * 10 + 9, none⟩ = some (.int .i64 xps) := hcy 9 (by omega)
      have fz := hown.frozenAt
      have hkn : (k : Int) < (n : Int) := by omega
      have hjn' : (j : Int) < (n : Int) := by omega
      clear hcx hcy
      go_wp2_with fail
      go_region
      go_wp2
      go_roundw
      case rel => 
        have ow := OW.out
        have bw := BW.out
        refine ⟨k + 1, _, by omega, by go_num, congrArg (Value.int .i64) (by omega), HT, ?_, ?_⟩
        · exact ow.drew
        · exact bw.drew
      case measure => simp [intOf]; omega
    · have hr := turned_end HL.out ht.out (by omega)
      rw [hr] at hown
      clear hr
      go_wp2
      go_end0
      exact ⟨rfl, hown, k0⟩
set_option maxHeartbeats 400000 in
theorem reverse_any (v : Value) (n : Nat) (l : List Ev) (B : Nat) (w : World) (h : w.ownsRow B 70 10 v n (csE l)) (hn : n ≤ 5000) :
    Calls Tryd.prog 52 #[v] w fun e w' => e = .returned (.tuple #[]) ∧ w'.ownsRow B 70 10 v n (csE l.reverse) ∧ Below B w w' := by
  have h0 := h
  obtain ⟨h1, h2⟩ := h
  rcases h2 with ⟨rfl, rfl⟩ | ⟨g, cap, cur, rfl, _⟩
  · obtain rfl : l = [] := List.eq_nil_of_length_eq_zero (by have := h1; rw [csE_len] at this; omega)
    go_enter Tryd.func52, Tryd.ntmps52
    go_wp2
    go_loopw [2, 3] (fun i j wr => i = .int .i64 0 ∧ j = .int .i64 (-1) ∧ wr = w) (fun _ _ _ => 0)
    case atStart => exact ⟨rfl, rfl, rfl⟩
    case round =>
      obtain ⟨rfl, rfl, rfl⟩ := hrel
      go_wp2
      go_end0
      exact ⟨rfl, h0, Below.refl _ _⟩
  · exact reverse_some g n cap l B w h0 hn
set_option maxHeartbeats 400000 in
theorem valid_any (A : Option Addr) (n c : Nat) (l : List Ev) (B : Nat) (w : World) (h : Reads w B 10 A n (csE l)) (hB : B ≤ w.heap.size) (hn : n ≤ 9223372036854775807) :
    Calls Tryd.prog 50 #[.slice A n c] w fun e w' => e = .returned (.int .i64 (checkS l).1) ∧ Below w.heap.size w w' := by
  have hc := evCheck_any A n c l B w h hB hn
  go_enter Tryd.func50, Tryd.ntmps50
  go_wp2_with (go_at_call 76; refine hc.mono ?_; rintro e w1 ⟨rfl, hb1⟩)
  go_ret
  exact ⟨rfl, hb1⟩
set_option maxRecDepth 100000 in
set_option maxHeartbeats 1000000 in
theorem retro_any (A : Option Addr) (n c : Nat) (l : List Ev) (B : Nat) (w : World) (h : Reads w B 10 A n (csE l)) (hB : B ≤ w.heap.size) (hn : n ≤ 5000) :
    Calls Tryd.prog 30 #[.slice A n c] w fun e w' => ∃ A' c', e = .returned (.tuple #[.slice A' (retroS l).1.length c', .int .i64 (retroS l).2]) ∧ OwnE w' w.heap.size (retroS l).1.length A' c' (retroS l).1 ∧ Below w.heap.size w w' := by
  have hc := valid_any A n c l B w h hB (by omega)
  obtain ⟨y, hy⟩ : ∃ y, y = (checkS l).1 := ⟨_, rfl⟩
  rw [← hy] at hc
  by_cases hz : y = 0
  · subst hz
    have E := Lib.hid (show retroS l = chainS l.reverse by unfold retroS; rw [← hy, if_neg (fun h => h rfl)])
    clear hy
    go_enter Tryd.func30, Tryd.ntmps30
    go_wp2_with fail
    refine hc.mono ?_
    rintro e w1 ⟨rfl, hb1⟩
    go_wp2_with fail
    refine (cloneE_any A n c l B _ (h.below hB hb1) (by have := hb1.size; omega) hn).mono ?_
    rintro e w2 ⟨A2, c2, rfl, ho2, hb2⟩
    go_wp2_with fail
    refine (reverse_any _ n l w1.heap.size _ ho2.1 hn).mono ?_
    rintro e w3 ⟨rfl, ho3, hb3⟩
    have k3 : Below w.heap.size w w3 := (below_call hb1 hb2).trans (hb3.mono hb1.size)
    go_wp2_with fail
    refine (chained_any _ n l.reverse w1.heap.size _ ho3 hn (by have := hb3.size; have := hb2.size; omega)).mono ?_
    rintro e w4 ⟨A4, c4, rfl, ho4, hb4⟩
    have k4 : Below w.heap.size w w4 := k3.trans (hb4.mono hb1.size)
    go_wp2_with fail
    go_ret2
    rw [E.out]
    exact ⟨A4, c4, rfl, ho4.lower hb1.size, k4⟩
  · have hz' : (y != 0) = true := by simpa using hz
    have E := Lib.hid (show retroS l = ([], y) by unfold retroS; rw [← hy, if_pos hz])
    clear hy
    go_enter Tryd.func30, Tryd.ntmps30
    go_wp2_with (go_at_call 50; refine hc.mono ?_; rintro e w1 ⟨rfl, hb1⟩)
    go_ret2
    rw [E.out]
    exact ⟨none, 0, rfl, OwnE.nil_ _ _, by repeat (first | exact Below.refl _ _ | assumption | refine below_drewN ?_ _ | refine Below.drew ?_ | refine below_alloc ?_ _ | (refine below_call ?_ (by assumption)) | (refine Below.setCell ?_ ?_ _; rotate_left; (simp; try omega)))⟩
end Go.Proofs.YtigfcbofbcpiaaaDoor

/- Changes of events: the closures, and the change of all events. -/
namespace Go.Proofs.YtigfcbofbcpiaaaDoor
open Go.RowKit
@[reducible] def vEE (x : Ev × Int) : Value := .tuple #[vE x.1, .int .i64 x.2]
theorem vEE_ret {x y : Ev × Int} (h : y = x) : Ending.returned (.tuple #[vE y.1, .int .i64 y.2]) = .returned (vEE x) := by subst h; rfl
/-- The box with a function of pitches, and what a call of it does from a world on. -/
def PFun (w : World) (F : Value) (f : Int × Int × Int → (Int × Int × Int) × Int) : Prop :=
  ∃ k gc, (k = 57 ∨ k = 60) ∧ F = .func (.func k) #[] #[.pointer (some ⟨gc, 0, none⟩)] ∧ ∀ p w', Below w.heap.size w w' → Calls Tryd.prog k #[vP p, .pointer (some ⟨gc, 0, none⟩)] w' fun e w'' => e = .returned (vPE (f p)) ∧ Below w'.heap.size w' w''
/-- A function of events, by its number and what it captured. -/
def EFun (w : World) (F : Value) (f : Ev → Ev × Int) : Prop :=
  ∃ k gc, (k = 78 ∨ k = 78) ∧ F = .func (.func k) #[] #[.pointer (some ⟨gc, 0, none⟩)] ∧ ∀ x w', Below w.heap.size w w' → Calls Tryd.prog k #[vE x, .pointer (some ⟨gc, 0, none⟩)] w' fun e w'' => e = .returned (vEE (f x)) ∧ Below w'.heap.size w' w''
set_option maxHeartbeats 1000000 in
theorem mirrorf_any (p axis : Int × Int × Int) (gc : Nat) (w : World) (h : Blk w gc 57 #[.int .i64 axis.1, .int .i64 axis.2.1, .int .i64 axis.2.2]) :
    Calls Tryd.prog 57 #[vP p, .pointer (some ⟨gc, 0, none⟩)] w fun e w' => e = .returned (vPE (mirrorP p axis)) ∧ Below w.heap.size w w' := by
  obtain ⟨a, b, c⟩ := p
  obtain ⟨a', b', c'⟩ := axis
  have cg := h.cell; have zg := h.lt
  have r0 : Blk ((w.alloc (.cells #[.int .i64 a, .int .i64 b, .int .i64 c] 57)).alloc (.cells #[.int .i64 0, .int .i64 0, .int .i64 0] 57)) (w.heap.size + 1) 57 #[.int .i64 0, .int .i64 0, .int .i64 0] := Blk.newAt _ _ _ _ (by simp)
  have k0 : Below w.heap.size w ((w.alloc (.cells #[.int .i64 a, .int .i64 b, .int .i64 c] 57)).alloc (.cells #[.int .i64 0, .int .i64 0, .int .i64 0] 57)) := by repeat (first | exact Below.refl _ _ | refine below_drewN ?_ _ | refine Below.drew ?_ | refine below_alloc ?_ _ | (refine below_call ?_ (by assumption)) | (refine Below.setCell ?_ ?_ _; rotate_left; (simp; try omega)))
  go_enter Tryd.func57, Tryd.ntmps57
  go_wp2_with (first | (go_at_call 58; refine (pmirror_any (_, _, _) (_, _, _) _).mono ?_; rintro e wn ⟨rfl, hbn⟩; replace rn := Blk.kept (by with_reducible first | exact rn | exact r0 | exact rn.alloc _ | exact r0.alloc _ | exact (rn.alloc _).alloc _ | exact (r0.alloc _).alloc _) hbn; replace en := rn.cell; replace gn := rn.frozen; replace zn := rn.lt; replace kn := below_call (by with_reducible first | exact kn | exact k0 | exact below_alloc kn _ | exact below_alloc k0 _ | exact below_alloc (below_alloc kn _) _ | exact below_alloc (below_alloc k0 _) _) hbn; clear hbn))
  refine ret_of (by simp [results, Tryd.results57, go_sem, *]; repeat' (first | rfl | apply And.intro)) rfl ⟨rfl, by repeat (first | with_reducible exact Below.refl _ _ | with_reducible assumption | with_reducible refine below_drewN ?_ _ | with_reducible refine Below.drew ?_ | with_reducible refine below_alloc ?_ _ | (with_reducible refine Below.setCell ?_ ?_ _; rotate_left; ((try simp only); omega)))⟩
set_option maxHeartbeats 1000000 in
theorem movef_any (p : Int × Int × Int) (steps : Int) (gc : Nat) (w : World) (h : Blk w gc 3 #[.int .i64 steps]) :
    Calls Tryd.prog 60 #[vP p, .pointer (some ⟨gc, 0, none⟩)] w fun e w' => e = .returned (vPE (moveP p steps)) ∧ Below w.heap.size w w' := by
  obtain ⟨a, b, c⟩ := p
  have cg := h.cell; have zg := h.lt
  have r0 : Blk ((w.alloc (.cells #[.int .i64 a, .int .i64 b, .int .i64 c] 57)).alloc (.cells #[.int .i64 0, .int .i64 0, .int .i64 0] 57)) (w.heap.size + 1) 57 #[.int .i64 0, .int .i64 0, .int .i64 0] := Blk.newAt _ _ _ _ (by simp)
  have k0 : Below w.heap.size w ((w.alloc (.cells #[.int .i64 a, .int .i64 b, .int .i64 c] 57)).alloc (.cells #[.int .i64 0, .int .i64 0, .int .i64 0] 57)) := by repeat (first | exact Below.refl _ _ | refine below_drewN ?_ _ | refine Below.drew ?_ | refine below_alloc ?_ _ | (refine below_call ?_ (by assumption)) | (refine Below.setCell ?_ ?_ _; rotate_left; (simp; try omega)))
  go_enter Tryd.func60, Tryd.ntmps60
  go_wp2_with (first | (go_at_call 61; refine (pmove_any (_, _, _) _ _).mono ?_; rintro e wn ⟨rfl, hbn⟩; replace rn := Blk.kept (by with_reducible first | exact rn | exact r0 | exact rn.alloc _ | exact r0.alloc _ | exact (rn.alloc _).alloc _ | exact (r0.alloc _).alloc _) hbn; replace en := rn.cell; replace gn := rn.frozen; replace zn := rn.lt; replace kn := below_call (by with_reducible first | exact kn | exact k0 | exact below_alloc kn _ | exact below_alloc k0 _ | exact below_alloc (below_alloc kn _) _ | exact below_alloc (below_alloc k0 _) _) hbn; clear hbn))
  refine ret_of (by simp [results, Tryd.results60, go_sem, *]; repeat' (first | rfl | apply And.intro)) rfl ⟨rfl, by repeat (first | with_reducible exact Below.refl _ _ | with_reducible assumption | with_reducible refine below_drewN ?_ _ | with_reducible refine Below.drew ?_ | with_reducible refine below_alloc ?_ _ | (with_reducible refine Below.setCell ?_ ?_ _; rotate_left; ((try simp only); omega)))⟩
set_option maxRecDepth 100000 in
set_option maxHeartbeats 1000000 in
theorem pitchedf_any (x : Ev) (F : Value) (f : Int × Int × Int → (Int × Int × Int) × Int) (w0 : World) (hf : PFun w0 F f) (gc : Nat) (w : World) (hw : Below w0.heap.size w0 w) (h : Blk w gc 102 #[F]) :
    Calls Tryd.prog 78 #[vE x, .pointer (some ⟨gc, 0, none⟩)] w fun e w' => e = .returned (vEE (pitchedS f x)) ∧ Below w.heap.size w w' := by
  obtain ⟨⟨a, a'⟩, ⟨d, d'⟩, ⟨p, q, r⟩, rst, sg, ps⟩ := x
  have cg := h.cell; have zg := h.lt
  have r0 : Blk ((w.alloc (.cells #[.int .i64 a, .int .i64 a', .int .i64 d, .int .i64 d', .int .i64 p, .int .i64 q, .int .i64 r, .bool rst, .int .i64 sg, .int .i64 ps] 70)).alloc (.cells #[.int .i64 0, .int .i64 0, .int .i64 0, .int .i64 0, .int .i64 0, .int .i64 0, .int .i64 0, .bool false, .int .i64 0, .int .i64 0] 70)) w.heap.size 70 #[.int .i64 a, .int .i64 a', .int .i64 d, .int .i64 d', .int .i64 p, .int .i64 q, .int .i64 r, .bool rst, .int .i64 sg, .int .i64 ps] := (Blk.new _ _ _).alloc _
  have s0 : Blk ((w.alloc (.cells #[.int .i64 a, .int .i64 a', .int .i64 d, .int .i64 d', .int .i64 p, .int .i64 q, .int .i64 r, .bool rst, .int .i64 sg, .int .i64 ps] 70)).alloc (.cells #[.int .i64 0, .int .i64 0, .int .i64 0, .int .i64 0, .int .i64 0, .int .i64 0, .int .i64 0, .bool false, .int .i64 0, .int .i64 0] 70)) (w.heap.size + 1) 70 #[.int .i64 0, .int .i64 0, .int .i64 0, .int .i64 0, .int .i64 0, .int .i64 0, .int .i64 0, .bool false, .int .i64 0, .int .i64 0] := Blk.newAt _ _ _ _ (by simp)
  have k0 : Below w.heap.size w ((w.alloc (.cells #[.int .i64 a, .int .i64 a', .int .i64 d, .int .i64 d', .int .i64 p, .int .i64 q, .int .i64 r, .bool rst, .int .i64 sg, .int .i64 ps] 70)).alloc (.cells #[.int .i64 0, .int .i64 0, .int .i64 0, .int .i64 0, .int .i64 0, .int .i64 0, .int .i64 0, .bool false, .int .i64 0, .int .i64 0] 70)) := by repeat (first | exact Below.refl _ _ | refine below_drewN ?_ _ | refine Below.drew ?_ | refine below_alloc ?_ _ | (refine below_call ?_ (by assumption)) | (refine Below.setCell ?_ ?_ _; rotate_left; (simp; try omega)))
  have b0 : Below w0.heap.size w0 ((w.alloc (.cells #[.int .i64 a, .int .i64 a', .int .i64 d, .int .i64 d', .int .i64 p, .int .i64 q, .int .i64 r, .bool rst, .int .i64 sg, .int .i64 ps] 70)).alloc (.cells #[.int .i64 0, .int .i64 0, .int .i64 0, .int .i64 0, .int .i64 0, .int .i64 0, .int .i64 0, .bool false, .int .i64 0, .int .i64 0] 70)) := below_call hw k0
  obtain ⟨k, gf, hkk, rfl, hk⟩ := hf
  have hq := hk (p, q, r) _ b0
  dsimp only [vE]
  cases rst with
  | true =>
    go_enter Tryd.func78, Tryd.ntmps78
    go_wp2
    refine ret_of (by simp [results, Tryd.results78, go_sem, *]; repeat' (first | rfl | apply And.intro)) rfl ⟨rfl, by repeat (first | with_reducible exact Below.refl _ _ | with_reducible assumption | with_reducible refine below_drewN ?_ _ | with_reducible refine Below.drew ?_ | with_reducible refine below_alloc ?_ _ | (with_reducible refine Below.setCell ?_ ?_ _; rotate_left; ((try simp only); omega)))⟩
  | false =>
    clear hk
    have HQ := Lib.hid hq; clear hq
    obtain ⟨y, hy⟩ : ∃ y, y = f (p, q, r) := ⟨_, rfl⟩
    have E := Lib.hid (show pitchedS f ⟨(a, a'), (d, d'), (p, q, r), false, sg, ps⟩ = (⟨(a, a'), (d, d'), y.1, false, sg, ps⟩, y.2) by unfold pitchedS; rw [hy]; rfl)
    have hq := HQ.out
    rw [← hy] at hq
    clear hy HQ
    have HQ := Lib.hid hq; clear hq
    rcases hkk with rfl | rfl
    all_goals
     go_enter Tryd.func78, Tryd.ntmps78
     go_wp2_with fail
     refine HQ.out.mono ?_
     rintro e wn ⟨rfl, hbn⟩
     have rn := r0.kept hbn
     have en := rn.cell; have gn := rn.frozen; have zn := rn.lt
     have sn := s0.kept hbn
     have fn := sn.cell; have hn := sn.frozen; have yn := sn.lt
     have kn := below_call k0 hbn
     clear hbn
     go_wp2
     refine ret_of (by simp [results, Tryd.results78, go_sem, *]; repeat' (first | rfl | apply And.intro)) rfl ⟨?_, by repeat (first | with_reducible exact Below.refl _ _ | with_reducible assumption | with_reducible refine below_drewN ?_ _ | with_reducible refine Below.drew ?_ | with_reducible refine below_alloc ?_ _ | (with_reducible refine Below.setCell ?_ ?_ _; rotate_left; ((try simp only); omega)))⟩
     rw [E.out]
set_option maxHeartbeats 400000 in
theorem pitched_any (fn : Fn) (cap : Array Value) (w : World) :
    Calls Tryd.prog 56 #[.func fn #[] cap] w fun e w' => e = .returned (.func (.func 78) #[] #[.pointer (some ⟨w.heap.size, 0, none⟩)]) ∧ w' = w.alloc (.cells #[.func fn #[] cap] 102) := by
  have hmf : ∀ (fn : Fn) (first cap : Array Value) (w : World), (Instr.makeFunc fn first cap).run Tryd.prog w = .ok (.func fn first cap) w := fun _ _ _ _ => rfl
  go_enter Tryd.func56, Tryd.ntmps56
  go_wp2
  go_ret
  exact ⟨rfl, rfl⟩
end Go.Proofs.YtigfcbofbcpiaaaDoor

/- All events changed, and chained; voices upside down, moved, stretched: the program's walks. -/
namespace Go.Proofs.YtigfcbofbcpiaaaDoor
open Go.RowKit
def mapAt (g : Ev → Ev × Int) (done l : List Ev) : List Ev × Int := if (mapS g l).2 ≠ 0 then ([], (mapS g l).2) else (done ++ (mapS g l).1, 0)
theorem mapS_err (g : Ev → Ev × Int) (l : List Ev) (h : (mapS g l).2 ≠ 0) : (mapS g l).1 = [] := by
  cases l with
  | nil => rfl
  | cons x l =>
    rw [mapS] at h ⊢
    split
    · rfl
    · rename_i h1
      rw [if_neg h1] at h
      split
      · rfl
      · rename_i h2; rw [if_neg h2] at h; exact absurd rfl h
theorem mapAt_nil (g : Ev → Ev × Int) (l : List Ev) : mapAt g [] l = mapS g l := by
  unfold mapAt
  split
  · rename_i h; rw [← mapS_err g l h]
  · rename_i h
    have h2 : (mapS g l).2 = 0 := Decidable.byContradiction h
    rw [List.nil_append, ← h2]
theorem mapAt_end (g : Ev → Ev × Int) (done : List Ev) : mapAt g done [] = (done, 0) := by simp [mapAt, mapS]
theorem mapAt_bad (g : Ev → Ev × Int) (done : List Ev) (x : Ev) (l : List Ev) (h : (g x).2 ≠ 0) : mapAt g done (x :: l) = ([], (g x).2) := by
  unfold mapAt
  rw [mapS, if_pos h, if_pos h]
theorem mapAt_ok (g : Ev → Ev × Int) (done : List Ev) (x : Ev) (l : List Ev) (h : (g x).2 = 0) : mapAt g done (x :: l) = mapAt g (done ++ [(g x).1]) l := by
  unfold mapAt
  rw [mapS, if_neg (show ¬ ((g x).2 ≠ 0) from fun hn => hn h)]
  generalize mapS g l = z
  obtain ⟨r, e⟩ := z
  by_cases h2 : e = 0
  · subst h2; simp
  · simp [h2]
theorem set_mid {α : Type} (p : List α) (a b : α) (r : List α) : (p ++ a :: r).set p.length b = p ++ b :: r := by simp
set_option maxRecDepth 100000 in
set_option maxHeartbeats 2000000 in
theorem all_any (F : Value) (f : Ev → Ev × Int) (A : Option Addr) (n c : Nat) (l : List Ev) (B : Nat) (w : World) (hF : EFun w F f) (h : Reads w B 10 A n (csE l)) (hB : B ≤ w.heap.size) (hn : n ≤ 5000) :
    Calls Tryd.prog 59 #[F, .slice A n c] w fun e w' => ∃ A' c', e = .returned (.tuple #[.slice A' (allS f l).1.length c', .int .i64 (allS f l).2]) ∧ OwnE w' w.heap.size (allS f l).1.length A' c' (allS f l).1 ∧ Below w.heap.size w w' := by
  have HL : Hid (l.length = n) := Lib.hid h.evlen
  obtain ⟨kf, gc, hkk, rfl, hK⟩ := hF
  have HK := Lib.hid hK; clear hK
  rcases hkk with rfl | rfl
  all_goals
    go_enter Tryd.func59, Tryd.ntmps59
    go_wp2_with fail
    refine (cloneE_any A n c l B _ h hB hn).mono ?_
    rintro e w1 ⟨A1, c1, rfl, ho1, hb1⟩
    go_wp2_with fail
    go_loopw [7, 8, 9, 14] (fun _ _ _ i wr => ∃ (k : Nat) (done : List Ev), k ≤ n ∧ i = .int .i64 k ∧ done.length = k ∧ Hid (mapAt f done (l.drop k) = mapS f l) ∧ wr.ownsRow w.heap.size 70 10 (.slice A1 n c1) n (csE (done ++ l.drop k)) ∧ Below w.heap.size w wr) (fun _ _ _ i _ => n - (intOf i).toNat)
    case atStart => exact ⟨0, [], by omega, rfl, rfl, Lib.hid (mapAt_nil _ _), ho1.1, hb1⟩
    case round =>
      obtain ⟨k, done, hk, rfl, hdn, hs, hown, k0⟩ := hrel
      by_cases hlt : k < n
      · have hlt' : (k : Int) < (n : Int) := by omega
        obtain ⟨x, hx⟩ := get_some (l := l) (k := k) (by have := HL.out; omega)
        have HD := drop_get hx
        rw [HD] at hown
        have HDH := Lib.hid HD; clear HD
        obtain ⟨g, cap, he, hgb, hgr⟩ := hown.form (by omega)
        cases he
        have hcs := own_elem hown hdn hlt
        have hq := HK.out x wr k0
        obtain ⟨⟨⟨⟨ya, ya'⟩, ⟨yd, yd'⟩, ⟨yp, yq, yr⟩, yrst, ysg, yps⟩, ye⟩, hy⟩ : ∃ y, y = f x := ⟨_, rfl⟩
        rw [← hy] at hq
        have Y := Lib.hid hy.symm; clear hy
        obtain ⟨⟨a, a'⟩, ⟨d, d'⟩, ⟨p, q, r⟩, rst, sg, ps⟩ := x
        have c0 : wr.cell? ⟨g, k * 10, none⟩ = some (.int .i64 a) := hcs 0 (by omega)
        have c1 : wr.cell? ⟨g, k * 10 + 1, none⟩ = some (.int .i64 a') := hcs 1 (by omega)
        have c2 : wr.cell? ⟨g, k * 10 + 2, none⟩ = some (.int .i64 d) := hcs 2 (by omega)
        have c3 : wr.cell? ⟨g, k * 10 + 3, none⟩ = some (.int .i64 d') := hcs 3 (by omega)
        have c4 : wr.cell? ⟨g, k * 10 + 4, none⟩ = some (.int .i64 p) := hcs 4 (by omega)
        have c5 : wr.cell? ⟨g, k * 10 + 5, none⟩ = some (.int .i64 q) := hcs 5 (by omega)
        have c6 : wr.cell? ⟨g, k * 10 + 6, none⟩ = some (.int .i64 r) := hcs 6 (by omega)
        have c7 : wr.cell? ⟨g, k * 10 + 7, none⟩ = some (.bool rst) := hcs 7 (by omega)
        have c8 : wr.cell? ⟨g, k * 10 + 8, none⟩ = some (.int .i64 sg) := hcs 8 (by omega)
        have c9 : wr.cell? ⟨g, k * 10 + 9, none⟩ = some (.int .i64 ps) := hcs 9 (by omega)
        clear hcs hx
        have HQ := Lib.hid hq; clear hq
        go_wp2_with fail
        refine HQ.out.mono ?_
        rintro e w2 ⟨rfl, hb2⟩
        clear c0 c1 c2 c3 c4 c5 c6 c7 c8 c9
        have ho2 := own_call hown hb2
        have k2 := below_call k0 hb2
        have fz := ho2.frozenAt
        have z2 := hb2.size
        have hg2 : g < w2.heap.size := by omega
        have hg3 : g < w2.heap.size + 1 := by omega
        have hgn : g ≠ w2.heap.size := by omega
        have ow := own_storeE ho2 k ⟨(ya, ya'), (yd, yd'), (yp, yq, yr), yrst, ysg, yps⟩ (by rw [List.length_append, hdn]; simp)
        have bw := below_storeE k2 (k * 10) ⟨(ya, ya'), (yd, yd'), (yp, yq, yr), yrst, ysg, yps⟩ hgb
        rw [← hdn, set_mid, hdn] at ow
        unfold storeE at ow bw
        have OW := Lib.hid ow; have BW := Lib.hid bw
        have cl : ∀ j, j < 10 → ∃ u, w2.cell? ⟨g, k * 10 + j, none⟩ = some u := by
          intro j hj
          have := own_elem ho2 hdn hlt j hj
          rw [this]
          match j, hj with
          | 0, _ | 1, _ | 2, _ | 3, _ | 4, _ | 5, _ | 6, _ | 7, _ | 8, _ | 9, _ => exact ⟨_, rfl⟩
          | j + 10, h => omega
        obtain ⟨u0, l0⟩ := cl 0 (by omega)
        obtain ⟨u1, l1⟩ := cl 1 (by omega)
        obtain ⟨u2, l2⟩ := cl 2 (by omega)
        obtain ⟨u3, l3⟩ := cl 3 (by omega)
        obtain ⟨u4, l4⟩ := cl 4 (by omega)
        obtain ⟨u5, l5⟩ := cl 5 (by omega)
        obtain ⟨u6, l6⟩ := cl 6 (by omega)
        obtain ⟨u7, l7⟩ := cl 7 (by omega)
        obtain ⟨u8, l8⟩ := cl 8 (by omega)
        obtain ⟨u9, l9⟩ := cl 9 (by omega)
        simp only [Nat.add_zero] at l0
        clear cl ow bw hown ho2
        go_wp2_with fail
        · go_ret2
          have h0 : (ye != 0) = true := by assumption
          have hr := hs.out
          have h1 : (f ⟨(a, a'), (d, d'), (p, q, r), rst, sg, ps⟩).2 = ye := by rw [Y.out]
          rw [HDH.out, mapAt_bad _ _ _ _ (by rw [h1]; simpa using h0), h1] at hr
          have e1 : allS f l = ([], ye) := by unfold allS; rw [← hr, if_pos (by simpa using h0)]
          rw [e1]
          exact ⟨none, 0, rfl, OwnE.nil_ _ _, by repeat (first | with_reducible exact Below.refl _ _ | with_reducible assumption | with_reducible refine below_drewN ?_ _ | with_reducible refine Below.drew ?_ | with_reducible refine below_alloc ?_ _ | (with_reducible refine Below.setCell ?_ ?_ _; rotate_left; ((try simp only); omega)))⟩
        · go_roundw
          case rel =>
            have h0 : (ye != 0) = false := by assumption
            have ow := OW.out
            have bw := BW.out
            refine ⟨k + 1, done ++ [⟨(ya, ya'), (yd, yd'), (yp, yq, yr), yrst, ysg, yps⟩], by omega, by go_num, by simp [hdn], ?_, ?_, below_alloc bw _⟩
            · have hr := hs.out
              rw [HDH.out, mapAt_ok _ _ _ _ (by rw [Y.out]; simpa using h0), Y.out] at hr
              exact Lib.hid hr
            · rw [List.append_assoc]
              exact own_call ow (below_alloc (Below.refl _ _) _)
          case measure => simp [intOf]; omega
      · have hr := hs.out
        rw [List.drop_eq_nil_of_le (by have := HL.out; omega), mapAt_end] at hr
        rw [List.drop_eq_nil_of_le (by have := HL.out; omega), List.append_nil] at hown
        have e1 : allS f l = chainS done := by unfold allS; rw [← hr]; rfl
        have E := Lib.hid e1
        clear hr e1
        go_wp2_with fail
        refine (chained_any _ n done w.heap.size _ hown hn k0.size).mono ?_
        rintro e w4 ⟨A4, c4, rfl, ho4, hb4⟩
        have k4 : Below w.heap.size w w4 := k0.trans hb4
        go_wp2_with fail
        go_ret2
        rw [E.out]
        exact ⟨A4, c4, rfl, ho4, k4⟩
end Go.Proofs.YtigfcbofbcpiaaaDoor

/- Voices upside down, moved and stretched: the program's walks. -/
namespace Go.Proofs.YtigfcbofbcpiaaaDoor
open Go.RowKit
theorem pitched_efun (k gc : Nat) (_ : k = 57 ∨ k = 60) (f : Int × Int × Int → (Int × Int × Int) × Int) (w0 w : World) (hw0 : Below w0.heap.size w0 w) (hf : PFun w0 (.func (.func k) #[] #[.pointer (some ⟨gc, 0, none⟩)]) f) :
    EFun (w.alloc (.cells #[.func (.func k) #[] #[.pointer (some ⟨gc, 0, none⟩)]] 102)) (.func (.func 78) #[] #[.pointer (some ⟨w.heap.size, 0, none⟩)]) (pitchedS f) :=
  ⟨_, w.heap.size, .inl rfl, rfl, fun x w' hb => pitchedf_any x _ f w0 hf w.heap.size w' (below_call (below_alloc hw0 _) hb) ((Blk.new w _ _).kept hb)⟩

set_option maxRecDepth 100000 in
set_option maxHeartbeats 1000000 in
theorem mirror_any (A : Option Addr) (n c : Nat) (l : List Ev) (axis : Int × Int × Int) (B : Nat) (w : World) (h : Reads w B 10 A n (csE l)) (hB : B ≤ w.heap.size) (hn : n ≤ 5000) :
    Calls Tryd.prog 34 #[.slice A n c, vP axis] w fun e w' => ∃ A' c', e = .returned (.tuple #[.slice A' (mirrorS l axis).1.length c', .int .i64 (mirrorS l axis).2]) ∧ OwnE w' w.heap.size (mirrorS l axis).1.length A' c' (mirrorS l axis).1 ∧ Below w.heap.size w w' := by
  obtain ⟨a, b, cc⟩ := axis
  have hmf : ∀ (fn : Fn) (first cap : Array Value) (w : World), (Instr.makeFunc fn first cap).run Tryd.prog w = .ok (.func fn first cap) w := fun _ _ _ _ => rfl
  have r0 : Blk (w.alloc (.cells #[.int .i64 a, .int .i64 b, .int .i64 cc] 57)) w.heap.size 57 #[.int .i64 a, .int .i64 b, .int .i64 cc] := Blk.new _ _ _
  have k0 : Below w.heap.size w (w.alloc (.cells #[.int .i64 a, .int .i64 b, .int .i64 cc] 57)) := by repeat (first | exact Below.refl _ _ | refine below_drewN ?_ _ | refine Below.drew ?_ | refine below_alloc ?_ _ | (refine below_call ?_ (by assumption)) | (refine Below.setCell ?_ ?_ _; rotate_left; (simp; try omega)))
  have hc := valid_any A n c l B _ (h.below hB k0) (by simp; omega) (by omega)
  obtain ⟨y, hy⟩ : ∃ y, y = (checkS l).1 := ⟨_, rfl⟩
  rw [← hy] at hc
  by_cases hz : y = 0
  · subst hz
    obtain ⟨z, hz⟩ : ∃ z, z = pchk (a, b, cc) := ⟨_, rfl⟩
    have hp := pcheck_any (a, b, cc)
    rw [← hz] at hp
    by_cases h0 : z = 0
    · subst h0
      have E := Lib.hid (show mirrorS l (a, b, cc) = allS (pitchedS fun p => mirrorP p (a, b, cc)) l by unfold mirrorS; rw [← hy, if_neg (fun h => h rfl), ← hz, if_neg (fun h => h rfl)])
      clear hy hz
      go_enter Tryd.func34, Tryd.ntmps34
      go_wp2_with fail
      refine hc.mono ?_
      rintro e w1 ⟨rfl, hb1⟩
      have r1 := r0.kept hb1
      have e1 := r1.cell; have z1 := r1.lt; have f1 := r1.frozen
      have k1 := below_call k0 hb1
      go_wp2_with fail
      refine (hp _).mono ?_
      rintro e w2 ⟨rfl, hb2⟩
      have r2 := r1.kept hb2
      have k2 := below_call k1 hb2
      go_wp2_with fail
      refine (pitched_any _ _ _).mono ?_
      rintro e w3 ⟨rfl, rfl⟩
      have k3 := below_alloc k2 (.cells #[.func (.func 57) #[] #[.pointer (some ⟨w.heap.size, 0, none⟩)]] 102)
      have hE := pitched_efun 57 w.heap.size (.inl rfl) (fun p => mirrorP p (a, b, cc)) w2 w2 (Below.refl _ _) ⟨_, _, .inl rfl, rfl, fun p w' hb => mirrorf_any p (a, b, cc) _ w' (r2.kept hb)⟩
      go_wp2_with fail
      refine (all_any _ _ A n c l w.heap.size _ hE ((h.below hB k3).more hB) (by have := k2.size; simp; omega) hn).mono ?_
      rintro e w4 ⟨A4, c4, rfl, ho4, hb4⟩
      go_wp2_with fail
      go_ret2
      rw [E.out]
      exact ⟨A4, c4, rfl, ho4.lower k3.size, below_call k3 hb4⟩
    · have hz' : (z != 0) = true := by simpa using h0
      have E := Lib.hid (show mirrorS l (a, b, cc) = ([], z) by unfold mirrorS; rw [← hy, if_neg (fun h => h rfl), ← hz, if_pos h0])
      clear hy hz
      go_enter Tryd.func34, Tryd.ntmps34
      go_wp2_with fail
      refine hc.mono ?_
      rintro e w1 ⟨rfl, hb1⟩
      have r1 := r0.kept hb1
      have e1 := r1.cell; have z1 := r1.lt; have f1 := r1.frozen
      have k1 := below_call k0 hb1
      go_wp2_with fail
      refine (hp _).mono ?_
      rintro e w2 ⟨rfl, hb2⟩
      have k2 := below_call k1 hb2
      go_wp2_with fail
      go_ret2
      rw [E.out]
      exact ⟨none, 0, rfl, OwnE.nil_ _ _, by repeat (first | with_reducible exact Below.refl _ _ | with_reducible assumption | with_reducible refine below_drewN ?_ _ | with_reducible refine Below.drew ?_ | with_reducible refine below_alloc ?_ _ | (with_reducible refine Below.setCell ?_ ?_ _; rotate_left; ((try simp only); omega)))⟩
  · have hz' : (y != 0) = true := by simpa using hz
    have E := Lib.hid (show mirrorS l (a, b, cc) = ([], y) by unfold mirrorS; rw [← hy, if_pos hz])
    clear hy
    go_enter Tryd.func34, Tryd.ntmps34
    go_wp2_with fail
    refine hc.mono ?_
    rintro e w1 ⟨rfl, hb1⟩
    have r1 := r0.kept hb1
    have e1 := r1.cell; have z1 := r1.lt; have f1 := r1.frozen
    have k1 := below_call k0 hb1
    go_wp2_with fail
    go_ret2
    rw [E.out]
    exact ⟨none, 0, rfl, OwnE.nil_ _ _, by repeat (first | with_reducible exact Below.refl _ _ | with_reducible assumption | with_reducible refine below_drewN ?_ _ | with_reducible refine Below.drew ?_ | with_reducible refine below_alloc ?_ _ | (with_reducible refine Below.setCell ?_ ?_ _; rotate_left; ((try simp only); omega)))⟩
set_option maxRecDepth 100000 in
set_option maxHeartbeats 1000000 in
theorem move_any (A : Option Addr) (n c : Nat) (l : List Ev) (steps : Int) (B : Nat) (w : World) (h : Reads w B 10 A n (csE l)) (hB : B ≤ w.heap.size) (hn : n ≤ 5000) :
    Calls Tryd.prog 36 #[.slice A n c, .int .i64 steps] w fun e w' => ∃ A' c', e = .returned (.tuple #[.slice A' (moveS l steps).1.length c', .int .i64 (moveS l steps).2]) ∧ OwnE w' w.heap.size (moveS l steps).1.length A' c' (moveS l steps).1 ∧ Below w.heap.size w w' := by
  have hmf : ∀ (fn : Fn) (first cap : Array Value) (w : World), (Instr.makeFunc fn first cap).run Tryd.prog w = .ok (.func fn first cap) w := fun _ _ _ _ => rfl
  have r0 : Blk (w.alloc (.cells #[.int .i64 steps] 3)) w.heap.size 3 #[.int .i64 steps] := Blk.new _ _ _
  have k0 : Below w.heap.size w (w.alloc (.cells #[.int .i64 steps] 3)) := by repeat (first | exact Below.refl _ _ | refine below_drewN ?_ _ | refine Below.drew ?_ | refine below_alloc ?_ _ | (refine below_call ?_ (by assumption)) | (refine Below.setCell ?_ ?_ _; rotate_left; (simp; try omega)))
  have hc := valid_any A n c l B _ (h.below hB k0) (by simp; omega) (by omega)
  obtain ⟨y, hy⟩ : ∃ y, y = (checkS l).1 := ⟨_, rfl⟩
  rw [← hy] at hc
  by_cases hz : y = 0
  · subst hz
    have E := Lib.hid (show moveS l steps = allS (pitchedS fun p => moveP p steps) l by unfold moveS; rw [← hy, if_neg (fun h => h rfl)])
    clear hy
    go_enter Tryd.func36, Tryd.ntmps36
    go_wp2_with fail
    refine hc.mono ?_
    rintro e w1 ⟨rfl, hb1⟩
    have r1 := r0.kept hb1
    have e1 := r1.cell; have z1 := r1.lt; have f1 := r1.frozen
    have k1 := below_call k0 hb1
    go_wp2_with fail
    refine (pitched_any _ _ _).mono ?_
    rintro e w3 ⟨rfl, rfl⟩
    have k3 := below_alloc k1 (.cells #[.func (.func 60) #[] #[.pointer (some ⟨w.heap.size, 0, none⟩)]] 102)
    have hE := pitched_efun 60 w.heap.size (.inr rfl) (fun p => moveP p steps) w1 w1 (Below.refl _ _) ⟨_, _, .inr rfl, rfl, fun p w' hb => movef_any p steps _ w' (r1.kept hb)⟩
    go_wp2_with fail
    refine (all_any _ _ A n c l w.heap.size _ hE ((h.below hB k3).more hB) (by have := k1.size; simp; omega) hn).mono ?_
    rintro e w4 ⟨A4, c4, rfl, ho4, hb4⟩
    go_wp2_with fail
    go_ret2
    rw [E.out]
    exact ⟨A4, c4, rfl, ho4.lower k3.size, below_call k3 hb4⟩
  · have hz' : (y != 0) = true := by simpa using hz
    have E := Lib.hid (show moveS l steps = ([], y) by unfold moveS; rw [← hy, if_pos hz])
    clear hy
    go_enter Tryd.func36, Tryd.ntmps36
    go_wp2_with fail
    refine hc.mono ?_
    rintro e w1 ⟨rfl, hb1⟩
    have r1 := r0.kept hb1
    have e1 := r1.cell; have z1 := r1.lt; have f1 := r1.frozen
    have k1 := below_call k0 hb1
    go_wp2_with fail
    go_ret2
    rw [E.out]
    exact ⟨none, 0, rfl, OwnE.nil_ _ _, by repeat (first | with_reducible exact Below.refl _ _ | with_reducible assumption | with_reducible refine below_drewN ?_ _ | with_reducible refine Below.drew ?_ | with_reducible refine below_alloc ?_ _ | (with_reducible refine Below.setCell ?_ ?_ _; rotate_left; ((try simp only); omega)))⟩
end Go.Proofs.YtigfcbofbcpiaaaDoor

/- Plain mathematics: what the statements Back, Order and Parts of layer 25 say of voices made of numbers. -/

namespace Go.Proofs.YtigfcbofbcpiaaaDoor
theorem z_small (most : Nat) (l : List Int) : ∀ z ∈ voiceZ 0 (l.take most), small z := voice_small _ 0 (by omega)
theorem z_len (most : Nat) (l : List Int) : (voiceZ 0 (l.take most)).length ≤ most := by rw [voice_len, List.length_take]; omega
theorem voice_le (most : Nat) (l : List Int) : (voiceS most l).length ≤ most := by unfold voiceS; rw [lay_len]; exact z_len most l
theorem ax_ok {k : Int} (h : 0 ≤ k) (h' : k < 7) : pchk (k, 4, 0) = 0 ∧ numP (k, 4, 0) = 28 + k := by
  constructor
  · unfold pchk; rw [if_neg (by simp only; omega)]
  · unfold numP; simp only; omega
theorem len_onZ (g : Int × Int × Int → Int × Int × Int) (l : List (Int × Pay)) : (onZ g l).length = l.length := by unfold onZ; rw [List.length_map]
theorem len_times (k : Int) (l : List (Int × Pay)) : (times k l).length = l.length := by unfold times; rw [List.length_map]
theorem good_pit {z : Int × Pay} (h : small z) (hr : z.2.rest = false) : pchk z.2.pit = 0 ∧ 21 ≤ numP z.2.pit ∧ numP z.2.pit ≤ 41 := ⟨h.2.2.1.2.1 hr, h.2.2.2 hr⟩
theorem onZ_all {g : Int × Int × Int → Int × Int × Int} {l : List (Int × Pay)} {p : Int × Int × Int → Prop} (h : ∀ z ∈ l, z.2.rest = false → p (g z.2.pit)) : ∀ z ∈ onZ g l, z.2.rest = false → p z.2.pit := by
  intro z hz hr
  obtain ⟨y, hy, rfl⟩ := onZ_mem hz
  simp only at hr ⊢
  unfold onPay at hr ⊢
  by_cases h1 : y.2.rest = true
  · rw [if_pos h1] at hr; rw [h1] at hr; cases hr
  · rw [if_neg h1]; exact h y hy (by simpa using h1)
section
variable {l : List (Int × Pay)} (hs : ∀ z ∈ l, small z) (hl : l.length ≤ 60)
include hs hl
theorem sfit : fit l := small_fit hs (by omega)
theorem mirror_small {k : Int} (h : 0 ≤ k) (h' : k < 7) : mirrorS (lay 24 0 l) (k, 4, 0) = (lay 24 0 (onZ (mirG (k, 4, 0)) l), 0) ∧ mirrorS (lay 24 0 (onZ (mirG (k, 4, 0)) l)) (k, 4, 0) = (lay 24 0 l, 0) := by
  obtain ⟨a1, a2⟩ := ax_ok h h'
  have hf := sfit hs hl
  have hg : ∀ z ∈ l, z.2.rest = false → mirrorP z.2.pit (k, 4, 0) = (mirG (k, 4, 0) z.2.pit, 0) := fun z hz hr => by
    obtain ⟨g1, g2, g3⟩ := good_pit (hs z hz) hr
    exact mirror_g g1 a1 (by omega) (by omega)
  have hp : ∀ z ∈ l, z.2.rest = false → pchk (mirG (k, 4, 0) z.2.pit) = 0 ∧ numP (mirG (k, 4, 0) z.2.pit) = 2 * (28 + k) - numP z.2.pit := fun z hz hr => by
    obtain ⟨g1, g2, g3⟩ := good_pit (hs z hz) hr
    have := pchk_bd g1
    unfold mirG
    rw [a2]
    exact ⟨pchk_gP (by omega) (by omega) (by omega) (by omega), numP_gP _ _⟩
  refine ⟨mirror_lay okq24 hf a1 hg, ?_⟩
  have h2 := mirror_lay okq24 (onZ_fit hf fun z hz hr => (hp z hz hr).1) (ax := (k, 4, 0)) a1 (g := mirG (k, 4, 0)) (onZ_all (p := fun p => mirrorP p (k, 4, 0) = (mirG (k, 4, 0) p, 0)) fun z hz hr => by
    obtain ⟨g1, g2, g3⟩ := good_pit (hs z hz) hr
    obtain ⟨p1, p2⟩ := hp z hz hr
    exact mirror_g p1 a1 (by rw [p2]; omega) (by rw [p2]; omega))
  rw [h2, onZ_comp, onZ_id fun z hz hr => mir_mir (good_pit (hs z hz) hr).1]
theorem move_small {s : Int} (h : -20 ≤ s) (h' : s ≤ 20) : moveS (lay 24 0 l) s = (lay 24 0 (onZ (movG s) l), 0) ∧ moveS (lay 24 0 (onZ (movG s) l)) (-s) = (lay 24 0 l, 0) := by
  have hf := sfit hs hl
  have hg : ∀ z ∈ l, z.2.rest = false → moveP z.2.pit s = (movG s z.2.pit, 0) := fun z hz hr => by
    obtain ⟨g1, g2, g3⟩ := good_pit (hs z hz) hr
    exact move_g g1 (by omega) (by omega) (by omega) (by omega)
  have hp : ∀ z ∈ l, z.2.rest = false → pchk (movG s z.2.pit) = 0 ∧ numP (movG s z.2.pit) = numP z.2.pit + s := fun z hz hr => by
    obtain ⟨g1, g2, g3⟩ := good_pit (hs z hz) hr
    have := pchk_bd g1
    unfold movG
    exact ⟨pchk_gP (by omega) (by omega) (by omega) (by omega), numP_gP _ _⟩
  refine ⟨move_lay okq24 hf hg, ?_⟩
  have h2 := move_lay okq24 (onZ_fit hf fun z hz hr => (hp z hz hr).1) (st := -s) (g := movG (-s)) (onZ_all (p := fun p => moveP p (-s) = (movG (-s) p, 0)) fun z hz hr => by
    obtain ⟨g1, g2, g3⟩ := good_pit (hs z hz) hr
    obtain ⟨p1, p2⟩ := hp z hz hr
    exact move_g p1 (by omega) (by omega) (by rw [p2]; omega) (by rw [p2]; omega))
  rw [h2, onZ_comp, onZ_id fun z hz hr => mov_mov s (good_pit (hs z hz) hr).1]
theorem sum_small : 0 ≤ sumM l ∧ sumM l ≤ 8640 := by
  have := small_sum l hs
  exact ⟨sumM_nonneg (sfit hs hl).1, by omega⟩
theorem stretch_small (n : Int) : stretchS (lay 24 0 l) (spS n) = (lay (24 * (spS n).2) 0 (times (spS n).1 l), 0) ∧ stretchS (lay (24 * (spS n).2) 0 (times (spS n).1 l)) ((spS n).2, (spS n).1) = (lay 24 0 l, 0) := by
  obtain ⟨k1, k2, k3, k4⟩ := spS_ok n
  have hf := sfit hs hl
  obtain ⟨s0, s1⟩ := sum_small hs hl
  generalize spS n = b at *
  obtain ⟨N, D⟩ := b
  have hD := k1.2.2.1
  simp only at k2 k3 k4 hD ⊢
  have hq2 : okq (24 * D) := ⟨by omega, by omega⟩
  have hb := mul_bd s0 (show 0 ≤ N by omega) s1 k3
  have hz : ∀ z ∈ l, inq 24 z.1 ∧ inq (24 * D) (z.1 * N) ∧ 0 < z.1 := fun z hz => by
    have h1 := (hs z hz).1; have h2 := (hs z hz).2.1
    have := mul_bd (show 0 ≤ z.1 by omega) (show 0 ≤ N by omega) h2 k3
    exact ⟨inq_of okq24 (by omega) (by omega), inq_of hq2 (by omega) (by omega), by omega⟩
  have h1 := stretch_lay okq24 hq2 hf (k := N) k2 (by omega) (by_ := (N, D)) k1 (by simp only; omega) (fun z hz' => mul_cq (hz z hz').1 (hz z hz').2.1 k1)
  refine ⟨h1, ?_⟩
  have k1' : ok (D, N) := ⟨by simp only; omega, by simp only; omega, by simp only; omega, by simp only; omega, by simp only; rw [gg_comm]; exact k1.2.2.2.2⟩
  have hDN := mul_bd (show 0 ≤ 24 * D by omega) (show 0 ≤ N by omega) (show 24 * D ≤ 192 by omega) k3
  have hDN1 : 1 ≤ 24 * D * N := by have := Int.mul_le_mul (show 1 ≤ 24 * D by omega) k2 (by omega) (by omega); omega
  have hq3 : okq (24 * D * N) := ⟨hDN1, by omega⟩
  have hb2 := mul_bd hb.1 (show 0 ≤ D by omega) hb.2 k4
  have h2 := stretch_lay hq2 hq3 (times_fit k2 hf (by omega)) (k := D) hD (by rw [times_sum]; omega) (by_ := (D, N)) k1' (by simp only; omega) (fun z hz' => by
    obtain ⟨y, hy, rfl⟩ := List.mem_map.1 hz'
    have e1 := (hz y hy).2.1
    have e2 := mul_bd e1.2.2.1 (show 0 ≤ D by omega) (show y.1 * N ≤ 144 * 24 from (mul_bd (by have := (hz y hy).2.2; omega) (by omega) (hs y hy).2.1 k3).2) k4
    have e3 := e2.2
    have e4 : y.1 * N * D ≤ 1099511627776 := by omega
    exact mul_cq e1 (inq_of hq3 e2.1 e4) k1')
  rw [h2, times_times]
  have hND : 1 ≤ N * D := by have := Int.mul_le_mul k2 hD (by omega) (by omega); omega
  have h3 := lay_scale okq24 hND l 0 (by omega) hf.1 (by omega)
  rw [Int.zero_mul] at h3
  rw [show 24 * D * N = 24 * (N * D) by rw [Int.mul_assoc, Int.mul_comm D N], h3]
end
/-- What TransformBack meets. -/
theorem back_facts25 (l : List Int) (k s n : Int) (hk : 0 ≤ k) (hk' : k < 7) (hs : -20 ≤ s) (hs' : s ≤ 20) : ∃ R M W S : List Ev, R.length ≤ 20 ∧ M.length ≤ 20 ∧ W.length ≤ 20 ∧ S.length ≤ 20 ∧
    retroS (voiceS 20 l) = (R, 0) ∧ retroS R = (voiceS 20 l, 0) ∧ mirrorS (voiceS 20 l) (k, 4, 0) = (M, 0) ∧ mirrorS M (k, 4, 0) = (voiceS 20 l, 0) ∧ moveS (voiceS 20 l) s = (W, 0) ∧ moveS W (-s) = (voiceS 20 l, 0) ∧
    stretchS (voiceS 20 l) (spS n) = (S, 0) ∧ stretchS S ((spS n).2, (spS n).1) = (voiceS 20 l, 0) := by
  have z1 := z_small 20 l
  have z2 := z_len 20 l
  have hf := sfit z1 (by omega)
  obtain ⟨m1, m2⟩ := mirror_small z1 (by omega) hk hk'
  obtain ⟨v1, v2⟩ := move_small z1 (by omega) hs hs'
  obtain ⟨t1, t2⟩ := stretch_small z1 (by omega) n
  have r1 := retro_lay okq24 hf
  have r2 := retro_lay okq24 (fit_reverse hf)
  rw [List.reverse_reverse] at r2
  exact ⟨_, _, _, _, by rw [lay_len, List.length_reverse]; exact z2, by rw [lay_len, len_onZ]; exact z2, by rw [lay_len, len_onZ]; exact z2, by rw [lay_len, len_times]; exact z2, r1, r2, m1, m2, v1, v2, t1, t2⟩
/-- What TransformOrder meets. -/
theorem order_facts25 (l : List Int) (k s n : Int) (hk : 0 ≤ k) (hk' : k < 7) (hs : -10 ≤ s) (hs' : s ≤ 10) : ∃ R S RS W RW MW M : List Ev, R.length ≤ 20 ∧ S.length ≤ 20 ∧ RS.length ≤ 20 ∧ W.length ≤ 20 ∧ RW.length ≤ 20 ∧ MW.length ≤ 20 ∧ M.length ≤ 20 ∧
    retroS (voiceS 20 l) = (R, 0) ∧ stretchS R (spS n) = (RS, 0) ∧ stretchS (voiceS 20 l) (spS n) = (S, 0) ∧ retroS S = (RS, 0) ∧
    moveS R s = (RW, 0) ∧ moveS (voiceS 20 l) s = (W, 0) ∧ retroS W = (RW, 0) ∧ mirrorS W (k, 4, 0) = (MW, 0) ∧ mirrorS (voiceS 20 l) (k, 4, 0) = (M, 0) ∧ moveS M (-s) = (MW, 0) := by
  have z1 := z_small 20 l
  have z2 := z_len 20 l
  have z1r : ∀ z ∈ (voiceZ 0 (l.take 20)).reverse, small z := fun z hz => z1 z (by simpa using hz)
  have z2r : (voiceZ 0 (l.take 20)).reverse.length ≤ 20 := by rw [List.length_reverse]; exact z2
  have hf := sfit z1 (by omega)
  obtain ⟨a1, a2⟩ := ax_ok hk hk'
  obtain ⟨m1, _⟩ := mirror_small z1 (by omega) hk hk'
  obtain ⟨v1, _⟩ := move_small z1 (by omega) (show -20 ≤ s by omega) (by omega)
  obtain ⟨v1r, _⟩ := move_small z1r (by omega) (show -20 ≤ s by omega) (by omega)
  obtain ⟨t1, _⟩ := stretch_small z1 (by omega) n
  obtain ⟨t1r, _⟩ := stretch_small z1r (by omega) n
  have r1 := retro_lay okq24 hf
  -- the stretched voice, backwards
  obtain ⟨k1, k2, k3, k4⟩ := spS_ok n
  obtain ⟨s0, s1⟩ := sum_small z1 (by omega)
  have hD := k1.2.2.1
  have hq2 : okq (24 * (spS n).2) := ⟨by omega, by omega⟩
  have hb := mul_bd s0 (show 0 ≤ (spS n).1 by omega) s1 k3
  have r2 := retro_lay hq2 (times_fit k2 hf (by omega))
  rw [← times_reverse] at r2
  -- the moved voice, backwards and upside down
  have hpm : ∀ z ∈ voiceZ 0 (l.take 20), z.2.rest = false → pchk (movG s z.2.pit) = 0 ∧ numP (movG s z.2.pit) = numP z.2.pit + s := fun z hz hr => by
    obtain ⟨g1, g2, g3⟩ := good_pit (z1 z hz) hr
    have := pchk_bd g1
    unfold movG
    exact ⟨pchk_gP (by omega) (by omega) (by omega) (by omega), numP_gP _ _⟩
  have fm := onZ_fit hf (g := movG s) fun z hz hr => (hpm z hz hr).1
  have r3 := retro_lay okq24 fm
  rw [← onZ_reverse] at r3
  have e1 := mirror_lay okq24 fm (ax := (k, 4, 0)) a1 (g := mirG (k, 4, 0)) (onZ_all (p := fun p => mirrorP p (k, 4, 0) = (mirG (k, 4, 0) p, 0)) fun z hz hr => by
    obtain ⟨g1, g2, g3⟩ := good_pit (z1 z hz) hr
    obtain ⟨p1, p2⟩ := hpm z hz hr
    exact mirror_g p1 a1 (by rw [p2, a2]; omega) (by rw [p2, a2]; omega))
  have hpi : ∀ z ∈ voiceZ 0 (l.take 20), z.2.rest = false → pchk (mirG (k, 4, 0) z.2.pit) = 0 ∧ numP (mirG (k, 4, 0) z.2.pit) = 2 * (28 + k) - numP z.2.pit := fun z hz hr => by
    obtain ⟨g1, g2, g3⟩ := good_pit (z1 z hz) hr
    have := pchk_bd g1
    unfold mirG
    rw [a2]
    exact ⟨pchk_gP (by omega) (by omega) (by omega) (by omega), numP_gP _ _⟩
  have e2 := move_lay okq24 (onZ_fit hf (g := mirG (k, 4, 0)) fun z hz hr => (hpi z hz hr).1) (st := -s) (g := movG (-s)) (onZ_all (p := fun p => moveP p (-s) = (movG (-s) p, 0)) fun z hz hr => by
    obtain ⟨g1, g2, g3⟩ := good_pit (z1 z hz) hr
    obtain ⟨p1, p2⟩ := hpi z hz hr
    exact move_g p1 (by omega) (by omega) (by rw [p2]; omega) (by rw [p2]; omega))
  rw [onZ_comp] at e1 e2
  have e3 : (fun p => mirG (k, 4, 0) (movG s p)) = fun p => movG (-s) (mirG (k, 4, 0) p) := funext fun p => mir_mov (k, 4, 0) s p
  rw [e3] at e1
  refine ⟨_, _, _, _, _, _, _, ?_, ?_, ?_, ?_, ?_, ?_, ?_, r1, t1r, t1, r2, v1r, v1, r3, e1, m1, e2⟩ <;> (rw [lay_len]; first | exact z2 | exact z2r | (rw [len_onZ]; first | exact z2 | exact z2r) | (rw [len_times]; first | exact z2 | exact z2r))
end Go.Proofs.YtigfcbofbcpiaaaDoor

