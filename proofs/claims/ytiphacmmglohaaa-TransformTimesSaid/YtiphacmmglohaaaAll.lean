/- All events changed, and chained; voices upside down, moved, stretched: the program's walks. -/
import Derived.Test.YtiphacmmglohaaaChange
namespace Go.Proofs.Ytiphacmmglohaaa
open Go.RowKit
def mapAt (g : Ev → Ev × Int) (done l : List Ev) : List Ev × Int := if (mapS g l).2 ≠ 0 then ([], (mapS g l).2) else (done ++ (mapS g l).1, 0)
theorem mapS_err (g : Ev → Ev × Int) (l : List Ev) (h : (mapS g l).2 ≠ 0) : (mapS g l).1 = [] := by
  cases l with
  | nil => rfl
  | cons x l =>
    rw [mapS] at h ⊢
    split
    · rfl
    · rename_i h1
      rw [if_neg h1] at h
      split
      · rfl
      · rename_i h2; rw [if_neg h2] at h; exact absurd rfl h
theorem mapAt_nil (g : Ev → Ev × Int) (l : List Ev) : mapAt g [] l = mapS g l := by
  unfold mapAt
  split
  · rename_i h; rw [← mapS_err g l h]
  · rename_i h
    have h2 : (mapS g l).2 = 0 := Decidable.byContradiction h
    rw [List.nil_append, ← h2]
theorem mapAt_end (g : Ev → Ev × Int) (done : List Ev) : mapAt g done [] = (done, 0) := by simp [mapAt, mapS]
theorem mapAt_bad (g : Ev → Ev × Int) (done : List Ev) (x : Ev) (l : List Ev) (h : (g x).2 ≠ 0) : mapAt g done (x :: l) = ([], (g x).2) := by
  unfold mapAt
  rw [mapS, if_pos h, if_pos h]
theorem mapAt_ok (g : Ev → Ev × Int) (done : List Ev) (x : Ev) (l : List Ev) (h : (g x).2 = 0) : mapAt g done (x :: l) = mapAt g (done ++ [(g x).1]) l := by
  unfold mapAt
  rw [mapS, if_neg (show ¬ ((g x).2 ≠ 0) from fun hn => hn h)]
  generalize mapS g l = z
  obtain ⟨r, e⟩ := z
  by_cases h2 : e = 0
  · subst h2; simp
  · simp [h2]
theorem set_mid {α : Type} (p : List α) (a b : α) (r : List α) : (p ++ a :: r).set p.length b = p ++ b :: r := by simp
set_option maxRecDepth 100000 in
set_option maxHeartbeats 2000000 in
theorem all_any (F : Value) (f : Ev → Ev × Int) (A : Option Addr) (n c : Nat) (l : List Ev) (B : Nat) (w : World) (hF : EFun w F f) (h : Reads w B 10 A n (csE l)) (hB : B ≤ w.heap.size) (hn : n ≤ 5000) :
    Calls Try.prog 41 #[F, .slice A n c] w fun e w' => ∃ A' c', e = .returned (.tuple #[.slice A' (allS f l).1.length c', .int .i64 (allS f l).2]) ∧ OwnE w' w.heap.size (allS f l).1.length A' c' (allS f l).1 ∧ Below w.heap.size w w' := by
  have HL : Hid (l.length = n) := Lib.hid h.evlen
  obtain ⟨kf, gc, hkk, rfl, hK⟩ := hF
  have HK := Lib.hid hK; clear hK
  rcases hkk with rfl | rfl
  all_goals
    go_enter Try.func41, Try.ntmps41
    go_wp2_with fail
    refine (cloneE_any A n c l B _ h hB hn).mono ?_
    rintro e w1 ⟨A1, c1, rfl, ho1, hb1⟩
    go_wp2_with fail
    go_loopw [7, 8, 9, 14] (fun _ _ _ i wr => ∃ (k : Nat) (done : List Ev), k ≤ n ∧ i = .int .i64 k ∧ done.length = k ∧ Hid (mapAt f done (l.drop k) = mapS f l) ∧ wr.ownsRow w.heap.size 59 10 (.slice A1 n c1) n (csE (done ++ l.drop k)) ∧ Below w.heap.size w wr) (fun _ _ _ i _ => n - (intOf i).toNat)
    case atStart => exact ⟨0, [], by omega, rfl, rfl, Lib.hid (mapAt_nil _ _), ho1.1, hb1⟩
    case round =>
      obtain ⟨k, done, hk, rfl, hdn, hs, hown, k0⟩ := hrel
      by_cases hlt : k < n
      · have hlt' : (k : Int) < (n : Int) := by omega
        obtain ⟨x, hx⟩ := get_some (l := l) (k := k) (by have := HL.out; omega)
        have HD := drop_get hx
        rw [HD] at hown
        have HDH := Lib.hid HD; clear HD
        obtain ⟨g, cap, he, hgb, hgr⟩ := hown.form (by omega)
        cases he
        have hcs := own_elem hown hdn hlt
        have hq := HK.out x wr k0
        obtain ⟨⟨⟨⟨ya, ya'⟩, ⟨yd, yd'⟩, ⟨yp, yq, yr⟩, yrst, ysg, yps⟩, ye⟩, hy⟩ : ∃ y, y = f x := ⟨_, rfl⟩
        rw [← hy] at hq
        have Y := Lib.hid hy.symm; clear hy
        obtain ⟨⟨a, a'⟩, ⟨d, d'⟩, ⟨p, q, r⟩, rst, sg, ps⟩ := x
        have c0 : wr.cell? ⟨g, k * 10, none⟩ = some (.int .i64 a) := hcs 0 (by omega)
        have c1 : wr.cell? ⟨g, k * 10 + 1, none⟩ = some (.int .i64 a') := hcs 1 (by omega)
        have c2 : wr.cell? ⟨g, k * 10 + 2, none⟩ = some (.int .i64 d) := hcs 2 (by omega)
        have c3 : wr.cell? ⟨g, k * 10 + 3, none⟩ = some (.int .i64 d') := hcs 3 (by omega)
        have c4 : wr.cell? ⟨g, k * 10 + 4, none⟩ = some (.int .i64 p) := hcs 4 (by omega)
        have c5 : wr.cell? ⟨g, k * 10 + 5, none⟩ = some (.int .i64 q) := hcs 5 (by omega)
        have c6 : wr.cell? ⟨g, k * 10 + 6, none⟩ = some (.int .i64 r) := hcs 6 (by omega)
        have c7 : wr.cell? ⟨g, k * 10 + 7, none⟩ = some (.bool rst) := hcs 7 (by omega)
        have c8 : wr.cell? ⟨g, k * 10 + 8, none⟩ = some (.int .i64 sg) := hcs 8 (by omega)
        have c9 : wr.cell? ⟨g, k * 10 + 9, none⟩ = some (.int .i64 ps) := hcs 9 (by omega)
        clear hcs hx
        have HQ := Lib.hid hq; clear hq
        go_wp2_with fail
        refine HQ.out.mono ?_
        rintro e w2 ⟨rfl, hb2⟩
        clear c0 c1 c2 c3 c4 c5 c6 c7 c8 c9
        have ho2 := own_call hown hb2
        have k2 := below_call k0 hb2
        have fz := ho2.frozenAt
        have z2 := hb2.size
        have hg2 : g < w2.heap.size := by omega
        have hg3 : g < w2.heap.size + 1 := by omega
        have hgn : g ≠ w2.heap.size := by omega
        have ow := own_storeE ho2 k ⟨(ya, ya'), (yd, yd'), (yp, yq, yr), yrst, ysg, yps⟩ (by rw [List.length_append, hdn]; simp)
        have bw := below_storeE k2 (k * 10) ⟨(ya, ya'), (yd, yd'), (yp, yq, yr), yrst, ysg, yps⟩ hgb
        rw [← hdn, set_mid, hdn] at ow
        unfold storeE at ow bw
        have OW := Lib.hid ow; have BW := Lib.hid bw
        have cl : ∀ j, j < 10 → ∃ u, w2.cell? ⟨g, k * 10 + j, none⟩ = some u := by
          intro j hj
          have := own_elem ho2 hdn hlt j hj
          rw [this]
          match j, hj with
          | 0, _ | 1, _ | 2, _ | 3, _ | 4, _ | 5, _ | 6, _ | 7, _ | 8, _ | 9, _ => exact ⟨_, rfl⟩
          | j + 10, h => omega
        obtain ⟨u0, l0⟩ := cl 0 (by omega)
        obtain ⟨u1, l1⟩ := cl 1 (by omega)
        obtain ⟨u2, l2⟩ := cl 2 (by omega)
        obtain ⟨u3, l3⟩ := cl 3 (by omega)
        obtain ⟨u4, l4⟩ := cl 4 (by omega)
        obtain ⟨u5, l5⟩ := cl 5 (by omega)
        obtain ⟨u6, l6⟩ := cl 6 (by omega)
        obtain ⟨u7, l7⟩ := cl 7 (by omega)
        obtain ⟨u8, l8⟩ := cl 8 (by omega)
        obtain ⟨u9, l9⟩ := cl 9 (by omega)
        simp only [Nat.add_zero] at l0
        clear cl ow bw hown ho2
        go_wp2_with fail
        · go_ret2
          have h0 : (ye != 0) = true := by assumption
          have hr := hs.out
          have h1 : (f ⟨(a, a'), (d, d'), (p, q, r), rst, sg, ps⟩).2 = ye := by rw [Y.out]
          rw [HDH.out, mapAt_bad _ _ _ _ (by rw [h1]; simpa using h0), h1] at hr
          have e1 : allS f l = ([], ye) := by unfold allS; rw [← hr, if_pos (by simpa using h0)]
          rw [e1]
          exact ⟨none, 0, rfl, OwnE.nil_ _ _, by repeat (first | with_reducible exact Below.refl _ _ | with_reducible assumption | with_reducible refine below_drewN ?_ _ | with_reducible refine Below.drew ?_ | with_reducible refine below_alloc ?_ _ | (with_reducible refine Below.setCell ?_ ?_ _; rotate_left; ((try simp only); omega)))⟩
        · go_roundw
          case rel =>
            have h0 : (ye != 0) = false := by assumption
            have ow := OW.out
            have bw := BW.out
            refine ⟨k + 1, done ++ [⟨(ya, ya'), (yd, yd'), (yp, yq, yr), yrst, ysg, yps⟩], by omega, by go_num, by simp [hdn], ?_, ?_, below_alloc bw _⟩
            · have hr := hs.out
              rw [HDH.out, mapAt_ok _ _ _ _ (by rw [Y.out]; simpa using h0), Y.out] at hr
              exact Lib.hid hr
            · rw [List.append_assoc]
              exact own_call ow (below_alloc (Below.refl _ _) _)
          case measure => simp [intOf]; omega
      · have hr := hs.out
        rw [List.drop_eq_nil_of_le (by have := HL.out; omega), mapAt_end] at hr
        rw [List.drop_eq_nil_of_le (by have := HL.out; omega), List.append_nil] at hown
        have e1 : allS f l = chainS done := by unfold allS; rw [← hr]; rfl
        have E := Lib.hid e1
        clear hr e1
        go_wp2_with fail
        refine (chained_any _ n done w.heap.size _ hown hn k0.size).mono ?_
        rintro e w4 ⟨A4, c4, rfl, ho4, hb4⟩
        have k4 : Below w.heap.size w w4 := k0.trans hb4
        go_wp2_with fail
        go_ret2
        rw [E.out]
        exact ⟨A4, c4, rfl, ho4, k4⟩
end Go.Proofs.Ytiphacmmglohaaa
