/- The place of a time among slices, by halves. -/
import Derived.Test.YtbljfaocmeeljaaAlSlMem
import Derived.Test.YtbljfaocmeeljaaPlain
import Derived.Deep.LoopGhost
namespace Go.Proofs.Ytbljfaocmeeljaa
open Go.RowKit
theorem ReadsS.el {w W : World} {B n : Nat} {A : Option Addr} {l : List Sl} (h : ReadsS w B A n l) (hB : B ≤ w.heap.size) (hb : Below w.heap.size w W) {k : Nat} {s : Sl} (hk : k < n) (hs : l[k]? = some s) :
    ∃ b off p q c, A = some ⟨b, off, none⟩ ∧ b < W.heap.size ∧ s.evs.length = q ∧ Reads W W.heap.size 1 p q (csN s.evs) ∧ W.cell? ⟨b, off + k * 5, none⟩ = some (.int .i64 s.at_.1) ∧ W.cell? ⟨b, off + k * 5 + 1, none⟩ = some (.int .i64 s.at_.2) ∧
      W.cell? ⟨b, off + k * 5 + 2, none⟩ = some (.int .i64 s.dur.1) ∧ W.cell? ⟨b, off + k * 5 + 3, none⟩ = some (.int .i64 s.dur.2) ∧ W.cell? ⟨b, off + k * 5 + 4, none⟩ = some (.slice p q c) := by
  obtain ⟨ps, h1, h2, h3⟩ := h
  have hp : ∃ x, ps[k]? = some x ∧ x.1 = s := by
    rw [← h1, List.getElem?_map] at hs
    cases hx : ps[k]? with
    | none => rw [hx] at hs; cases hs
    | some x => rw [hx] at hs; exact ⟨x, rfl, by simpa using hs⟩
  obtain ⟨⟨s', p, q, c⟩, hx, rfl⟩ := hp
  obtain ⟨b, off, hA, hbB, hc⟩ := Reads.elem (f := cS) (fun _ => rfl) h2 hk hx
  obtain ⟨e1, e2⟩ := h3 _ (List.mem_of_getElem? hx)
  have hz := hb.size
  have hall : ∀ j u, (cS (s', p, q, c))[j]? = some u → W.cell? ⟨b, off + k * 5 + j, none⟩ = some u := fun j u hj => by
    rw [hb.cell (by simp; omega), Nat.add_assoc]
    exact hc j u hj
  exact ⟨b, off, p, q, c, hA, by omega, e1, (e2.below hB hb).more (by omega), hall 0 _ rfl, hall 1 _ rfl, hall 2 _ rfl, hall 3 _ rfl, hall 4 _ rfl⟩
set_option maxHeartbeats 400000 in
theorem at1_any (a d t : Tm) (s : Value) (hs : ∃ A n c, s = .slice A n c) (w : World) :
    Calls Try.prog 58 #[.agg #[.int .i64 a.1, .int .i64 a.2, .int .i64 d.1, .int .i64 d.2, s], .agg #[.int .i64 t.1, .int .i64 t.2]] w fun e w' => e = .returned (.int .i64 (cmpS a t).1) ∧ Below w.heap.size w w' := by
  obtain ⟨A, n, c, rfl⟩ := hs
  have q1 := compare_any a t
  obtain ⟨⟨x, r⟩, hx⟩ : ∃ y, y = cmpS a t := ⟨_, rfl⟩
  rw [← hx] at q1 ⊢
  clear hx
  obtain ⟨a0, a1⟩ := a
  obtain ⟨d0, d1⟩ := d
  obtain ⟨t0, t1⟩ := t
  go_enter Try.func58, Try.ntmps58
  go_wp2_with fail
  refine (q1 _).mono ?_
  rintro e w1 ⟨rfl, hb1⟩
  have kb : Below w.heap.size w w1 := by repeat (first | exact Below.refl _ _ | refine below_drewN ?_ _ | refine Below.drew ?_ | refine below_alloc ?_ _ | (refine below_call ?_ (by assumption)) | (refine Below.setCell ?_ ?_ _; rotate_left; (simp; try omega)))
  go_wp2
  go_ret
  exact ⟨rfl, by repeat (first | with_reducible exact Below.refl _ _ | with_reducible assumption | with_reducible refine below_drewN ?_ _ | with_reducible refine Below.drew ?_ | with_reducible refine below_alloc ?_ _ | (with_reducible refine Below.setCell ?_ ?_ _; rotate_left; ((try simp only); omega)))⟩
/-- What is known between two rounds. -/
def Halves (m : List Tm) (t : Tm) (i j : Nat) : Prop := (∀ (k : Nat) x, k < i → m[k]? = some x → ltT x t) ∧ (∀ (k : Nat) x, j ≤ k → m[k]? = some x → ¬ ltT x t)
theorem halves_right {m : List Tm} (hs : SA m) (ho : OkL m) {t x : Tm} (ht : ok t) {i j h : Nat} (hh : Halves m t i j) (hx : m[h]? = some x) (hl : ltT x t) : Halves m t (h + 1) j := by
  refine ⟨fun k y hk hy => ?_, hh.2⟩
  rcases Nat.lt_or_ge k h with h1 | h1
  · have := List.pairwise_iff_getElem.1 hs k h (List.getElem?_eq_some_iff.1 hy).1 (List.getElem?_eq_some_iff.1 hx).1 h1
    rw [(List.getElem?_eq_some_iff.1 hy).2, (List.getElem?_eq_some_iff.1 hx).2] at this
    exact ltT_trans (ho _ (List.mem_of_getElem? hy)) (ho _ (List.mem_of_getElem? hx)) ht this hl
  · obtain rfl : k = h := by omega
    rw [hx] at hy; cases hy; exact hl
theorem halves_left {m : List Tm} (hs : SA m) (ho : OkL m) {t x : Tm} (ht : ok t) {i j h : Nat} (hh : Halves m t i j) (hx : m[h]? = some x) (hl : ¬ ltT x t) : Halves m t i h := by
  refine ⟨hh.1, fun k y hk hy => ?_⟩
  rcases Nat.lt_or_ge h k with h1 | h1
  · have := List.pairwise_iff_getElem.1 hs h k (List.getElem?_eq_some_iff.1 hx).1 (List.getElem?_eq_some_iff.1 hy).1 h1
    rw [(List.getElem?_eq_some_iff.1 hy).2, (List.getElem?_eq_some_iff.1 hx).2] at this
    exact leT_trans ht (ho _ (List.mem_of_getElem? hx)) (ho _ (List.mem_of_getElem? hy)) hl (ltT_asym this)
  · obtain rfl : k = h := by omega
    rw [hx] at hy; cases hy; exact hl
theorem halves_end {m : List Tm} {t : Tm} {i : Nat} (hh : Halves m t i i) (hi : i ≤ m.length) : posW m t = i := posW_is hh.1 hi (fun x hx => hh.2 i x (Nat.le_refl _) hx)
set_option maxRecDepth 100000 in
set_option maxHeartbeats 8000000 in
theorem bin_any (A : Option Addr) (n c : Nat) (l : List Sl) (t : Tm) (B : Nat) (w : World) (h : ReadsS w B A n l) (hB : B ≤ w.heap.size) (hn : n ≤ 32000) (hs : SA (l.map (·.at_))) (ho : OkL (l.map (·.at_))) (ht : ok t) :
    Calls Try.prog 57 #[.slice A n c, .agg #[.int .i64 t.1, .int .i64 t.2], .func (.func 58) #[] #[]] w fun e w' =>
      e = .returned (.tuple #[.int .i64 (posW (l.map (·.at_)) t : Nat), .bool (decide ((l.map (·.at_))[posW (l.map (·.at_)) t]? = some t))]) ∧ Below w.heap.size w w' := by
  have HL := Lib.hid h.len
  have HS := Lib.hid hs
  have HO := Lib.hid ho
  have HT := Lib.hid ht
  clear hs ho ht
  obtain ⟨t0, t1⟩ := t
  go_enter Try.func57, Try.ntmps57
  go_wp2
  go_loopg [9, 10, 11] n (fun g i j _ wr => ∃ a b : Nat, a + g = b ∧ b ≤ n ∧ i = .int .i64 a ∧ j = .int .i64 b ∧ Hid (Halves (l.map (·.at_)) (t0, t1) a b) ∧ Below w.heap.size w wr ∧ Blk wr w.heap.size 34 #[.int .i64 t0, .int .i64 t1])
  case atStart =>
    refine ⟨0, n, by omega, by omega, by simp, rfl, Lib.hid ⟨fun k x hk _ => by omega, fun k x hk hx => ?_⟩, by repeat (first | with_reducible exact Below.refl _ _ | with_reducible assumption | with_reducible refine below_drewN ?_ _ | with_reducible refine Below.drew ?_ | with_reducible refine below_alloc ?_ _ | (with_reducible refine Below.setCell ?_ ?_ _; rotate_left; ((try simp only); omega))), by with_reducible exact Blk.new _ _ _⟩
    have := (List.getElem?_eq_some_iff.1 hx).1
    rw [List.length_map] at this
    have := HL.out
    omega
  case round =>
    obtain ⟨a, b, hab, hbn, rfl, rfl, hH, k0, bT⟩ := hrel
    have t0c : wr.cell? ⟨w.heap.size, 0, none⟩ = some (.int .i64 t0) := bT.cell 0
    have t1c : wr.cell? ⟨w.heap.size, 1, none⟩ = some (.int .i64 t1) := bT.cell 1
    have lT := bT.lt
    cases gk with
    | zero =>
      obtain rfl : a = b := by omega
      have HP := Lib.hid (halves_end hH.out (by rw [List.length_map]; have := HL.out; omega))
      clear hH
      by_cases han : a < n
      · have hlt : (a : Int) < (n : Int) := by omega
        obtain ⟨s, hs⟩ := get_some (l := l) (k := a) (by have := HL.out; omega)
        have hm : (l.map (·.at_))[a]? = some s.at_ := by rw [List.getElem?_map, hs]; rfl
        have hso := HO.out _ (List.mem_of_getElem? hm)
        obtain ⟨bb, off, p, q, c', rfl, hbb, hq, hr, e0, e1, e2, e3, e4⟩ := h.el hB k0 han hs
        have q1 := fun W => at1_any s.at_ s.dur (t0, t1) (.slice p q c') ⟨_, _, _, rfl⟩ W
        have D := Lib.hid (show ((cmpS s.at_ (t0, t1)).1 == 0) = decide (s.at_ = (t0, t1)) by
          show decide _ = _
          rw [cmp_ok hso HT.out]
          by_cases e : s.at_ = (t0, t1)
          · rw [e]; simp [sgn]
          · have : ¬ (s.at_.1 * t1 - t0 * s.at_.2 = 0) := fun h0 => e (ok_eq hso HT.out (by simp only; omega))
            simp only [sgn]
            rw [decide_eq_false e, decide_eq_false_iff_not]
            split <;> (try split) <;> omega)
        have HM := Lib.hid hm
        obtain ⟨⟨a0, a1⟩, ⟨d0, d1⟩, ev⟩ := s
        obtain ⟨⟨x, r⟩, hx⟩ : ∃ y, y = cmpS (a0, a1) (t0, t1) := ⟨_, rfl⟩
        simp only at q1 D e0 e1 e2 e3 e4
        rw [← hx] at q1 D
        clear hx hso hs hm
        go_wp2_with fail
        refine wp_region_calm (by kernel_rfl) (by kernel_rfl) ?_
        repeat (go_big_quiet_step ((go_at_call 58; with_reducible exact calm_call (q1 _))))
        refine wpQuiet_nil ?_
        intro w6 g6
        go_wp2
        go_ret2
        rw [HP.out, HM.out, D.out]
        exact ⟨by simp, below_call k0 g6⟩
      · have han' : a = n := by omega
        subst han'
        have HM := Lib.hid (show (l.map (·.at_))[a]? = none by rw [List.getElem?_eq_none]; rw [List.length_map]; have := HL.out; omega)
        go_wp2_with fail
        refine wp_region_calm (by kernel_rfl) (by kernel_rfl) ?_
        repeat (go_big_quiet_step (fail))
        refine wpQuiet_nil ?_
        intro w6 g6
        go_wp2
        go_ret2
        rw [HP.out, HM.out]
        exact ⟨by simp, below_call k0 g6⟩
    | succ g =>
      have hlt : (a : Int) < (b : Int) := by omega
      have w1 : IntKind.i64.wrap ((a : Int) + (b : Int)) = (a : Int) + (b : Int) := IntWalk.i64_in _ (by omega)
      have w2 : IntKind.u64.wrap ((a : Int) + (b : Int)) = (a : Int) + (b : Int) := IntWalk.u64_in _ (by omega)
      obtain ⟨h0, hh0⟩ : ∃ h0 : Nat, h0 = (a + b) / 2 := ⟨_, rfl⟩
      have hd : ((a : Int) + (b : Int)) / 2 = (h0 : Int) := by omega
      have hh1 : a ≤ h0 ∧ h0 < b := by omega
      clear hh0
      obtain ⟨s, hs⟩ := get_some (l := l) (k := h0) (by have := HL.out; omega)
      have hm : (l.map (·.at_))[h0]? = some s.at_ := by rw [List.getElem?_map, hs]; rfl
      have hso := HO.out _ (List.mem_of_getElem? hm)
      have hh2 : h0 < n := by omega
      have hh3 : (h0 : Int) < (n : Int) := by omega
      have hh4 : (0 : Int) ≤ (h0 : Int) := by omega
      obtain ⟨bb, off, p, q, c', hA, hbb, hq, hr, e0, e1, e2, e3, e4⟩ := h.el hB k0 hh2 hs
      have q1 := fun W => at1_any s.at_ s.dur (t0, t1) (.slice p q c') ⟨_, _, _, rfl⟩ W
      have D : decide ((cmpS s.at_ (t0, t1)).1 < 0) = decide (ltT s.at_ (t0, t1)) := cmp_lt hso HT.out
      have HM := Lib.hid hm
      have w3 : IntKind.i64.wrap ((h0 : Int) + 1) = (h0 : Int) + 1 := IntWalk.i64_in _ (by omega)
      go_wp2_with fail
      obtain ⟨⟨a0, a1⟩, ⟨d0, d1⟩, ev⟩ := s
      obtain ⟨⟨x, r⟩, hx⟩ : ∃ y, y = cmpS (a0, a1) (t0, t1) := ⟨_, rfl⟩
      simp only at q1 D e0 e1 e2 e3 e4 HM
      rw [← hx] at q1 D
      clear hx hso hs hm
      subst hA
      by_cases hl : ltT (a0, a1) (t0, t1)
      · have HN := Lib.hid (halves_right HS.out HO.out HT.out hH.out HM.out hl)
        rw [decide_eq_true hl] at D
        clear hl hH
        refine wp_region_calm (by kernel_rfl) (by kernel_rfl) ?_
        repeat (go_big_quiet_step ((go_at_call 58; with_reducible exact calm_call (q1 _))))
        refine wpQuiet_nil ?_
        intro w6 g6
        go_wp2
        go_roundg (b - (h0 + 1))
        case measure => omega
        case rel => exact ⟨h0 + 1, b, by omega, hbn, by go_num, rfl, HN, below_call k0 g6, bT.kept g6⟩
      · have HN := Lib.hid (halves_left HS.out HO.out HT.out hH.out HM.out hl)
        rw [decide_eq_false hl] at D
        clear hl hH
        refine wp_region_calm (by kernel_rfl) (by kernel_rfl) ?_
        repeat (go_big_quiet_step ((go_at_call 58; with_reducible exact calm_call (q1 _))))
        refine wpQuiet_nil ?_
        intro w6 g6
        go_wp2
        go_roundg (h0 - a)
        case measure => omega
        case rel => exact ⟨a, h0, by omega, by omega, rfl, rfl, HN, below_call k0 g6, bT.kept g6⟩
end Go.Proofs.Ytbljfaocmeeljaa
