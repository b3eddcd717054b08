
/- The walks through the reference's on and moments. -/
import Derived.Test.YtmlcnmnpkemdpaaDoorAlWith
import Derived.Deep.LoopGhost
namespace Go.Proofs.YtmlcnmnpkemdpaaDoor
open Go.RowKit
set_option maxRecDepth 100000 in
set_option maxHeartbeats 4000000 in
theorem on_any (A : Option Addr) (n c : Nat) (v : List Ev) (t : Tm) (B : Nat) (w : World) (h : Reads w B 10 A n (csE v)) (hB : B ≤ w.heap.size) (hn : n ≤ 9223372036854775807) (hv : Val v) (ht : ok t) :
    Calls Tryd.prog 50 #[.slice A n c, .agg #[.int .i64 t.1, .int .i64 t.2]] w fun e w' => e = .returned (.int .i64 (onS v t)) ∧ Below w.heap.size w w' := by
  have HL := Lib.hid h.evlen
  have HV := Lib.hid hv
  have HT := Lib.hid ht
  clear hv ht
  obtain ⟨t0, t1⟩ := t
  go_enter Tryd.func50, Tryd.ntmps50
  go_wp2
  go_loopw [5] (fun i wr => ∃ k : Nat, k ≤ n ∧ i = .int .i64 k ∧ Hid (onFrom k (v.drop k) (t0, t1) = onS v (t0, t1)) ∧ Below w.heap.size w wr ∧ Blk wr w.heap.size 52 #[.int .i64 t0, .int .i64 t1]) (fun i _ => n - (intOf i).toNat)
  case atStart => exact ⟨0, by omega, rfl, Lib.hid rfl, by repeat (first | with_reducible exact Below.refl _ _ | with_reducible assumption | with_reducible refine below_drewN ?_ _ | with_reducible refine Below.drew ?_ | with_reducible refine below_alloc ?_ _ | (with_reducible refine Below.setCell ?_ ?_ _; rotate_left; ((try simp only); omega))), by with_reducible exact Blk.new _ _ _⟩
  case round =>
    obtain ⟨k, hk, rfl, hs, k0, bT⟩ := hrel
    have t0c : wr.cell? ⟨w.heap.size, 0, none⟩ = some (.int .i64 t0) := bT.cell 0
    have t1c : wr.cell? ⟨w.heap.size, 1, none⟩ = some (.int .i64 t1) := bT.cell 1
    have lT := bT.lt
    by_cases hkn : k < n
    · have hkn' : (k : Int) < (n : Int) := by omega
      obtain ⟨x, hx⟩ := get_some (l := v) (k := k) (by have := HL.out; omega)
      have ex := HV.out.each k x hx
      have HD := Lib.hid (onFrom_drop (t := (t0, t1)) hx)
      have q1 := fun W => before_any (t0, t1) x.at_ W
      have q2 := fun W => refEndOf_any x W
      have q3 := fun W => before_any (t0, t1) (nextS x) W
      have l1 : lessB (t0, t1) x.at_ = decide (ltT (t0, t1) x.at_) := by unfold lessB; exact cmp_lt HT.out ex.1
      have l2 : lessB (t0, t1) (nextS x) = decide (ltT (t0, t1) (nextS x)) := by unfold lessB; exact cmp_lt HT.out ex.2.1
      have hh : holdB x (t0, t1) = (!lessB (t0, t1) x.at_ && lessB (t0, t1) (nextS x)) := by rw [l1, l2]; unfold holdB; simp
      clear l1 l2
      obtain ⟨b, off, rfl, hab, hc⟩ := h.ev hB k0 hkn hx
      obtain ⟨b1, hb1⟩ : ∃ b, b = lessB (t0, t1) x.at_ := ⟨_, rfl⟩
      obtain ⟨b2, hb2⟩ : ∃ b, b = lessB (t0, t1) (nextS x) := ⟨_, rfl⟩
      rw [← hb1] at q1 hh
      rw [← hb2] at q3 hh
      obtain ⟨⟨e0, e1⟩, he⟩ : ∃ e, e = nextS x := ⟨_, rfl⟩
      rw [← he] at q2 q3
      obtain ⟨⟨a, a'⟩, ⟨d, d'⟩, ⟨p, q, r⟩, rst, sg, ps⟩ := x
      obtain ⟨c0, c1, c2, c3, c4, c5, c6, c7, c8, c9⟩ := ten hc
      unfold cE at q2
      simp only [List.toArray] at q2
      clear hc hx hb1 hb2 he ex
      simp only at c0 c1 c2 c3 c4 c5 c6 c7 c8 c9 q1 q2 q3
      cases b1
      · cases b2
        · have HN := Lib.hid (show onFrom ((k + 1 : Nat) : Int) (v.drop (k + 1)) (t0, t1) = onS v (t0, t1) by rw [← hs.out, HD.out, hh, if_neg (by simp)])
          clear hh hs
          go_wp2_with fail
          refine wp_region_calm (by kernel_rfl) (by kernel_rfl) ?_
          repeat (go_big_quiet_step ((first | (go_at_call 72; with_reducible (first | exact calm_call (q1 _) | exact calm_call (q3 _))) | (go_at_call 69; with_reducible exact calm_call (q2 _)))))
          refine wpQuiet_nil ?_
          intro w2 g2
          go_wp2
          go_roundw
          case rel => exact ⟨k + 1, by omega, by go_num, HN, below_call k0 g2, bT.kept g2⟩
          case measure => simp [intOf]; omega
        · have HE := Lib.hid (show onS v (t0, t1) = (k : Int) by rw [← hs.out, HD.out, hh, if_pos (by simp)])
          clear hh hs
          go_wp2_with fail
          refine wp_region_calm (by kernel_rfl) (by kernel_rfl) ?_
          repeat (go_big_quiet_step ((first | (go_at_call 72; with_reducible (first | exact calm_call (q1 _) | exact calm_call (q3 _))) | (go_at_call 69; with_reducible exact calm_call (q2 _)))))
          refine wpQuiet_nil ?_
          intro w2 g2
          go_wp2
          go_ret
          rw [HE.out]
          exact ⟨rfl, below_call k0 g2⟩
      · have HN := Lib.hid (show onFrom ((k + 1 : Nat) : Int) (v.drop (k + 1)) (t0, t1) = onS v (t0, t1) by rw [← hs.out, HD.out, hh, if_neg (by simp)])
        clear hh hs
        go_wp2_with fail
        refine wp_region_calm (by kernel_rfl) (by kernel_rfl) ?_
        repeat (go_big_quiet_step ((go_at_call 72; with_reducible exact calm_call (q1 _))))
        refine wpQuiet_nil ?_
        intro w2 g2
        go_wp2
        go_roundw
        case rel => exact ⟨k + 1, by omega, by go_num, HN, below_call k0 g2, bT.kept g2⟩
        case measure => simp [intOf]; omega
    · have hke : k = n := by omega
      subst hke
      have HE := Lib.hid (show onS v (t0, t1) = -1 by rw [← hs.out, List.drop_of_length_le (by have := HL.out; omega)]; rfl)
      go_wp2
      go_ret
      rw [HE.out]
      exact ⟨rfl, k0⟩
/-- The moments of the first voices, and of the first events of the next one. -/
theorem momV_take {v : List Ev} {o : List Tm} {k : Nat} {x : Ev} (h : v[k]? = some x) : momV o (v.take (k + 1)) = withS (withS (momV o (v.take k)) x.at_) (nextS x) := by
  unfold momV
  rw [take_get h, List.foldl_append]; rfl
theorem momL_take {l : List (List Ev)} {i : Nat} {v : List Ev} (h : l[i]? = some v) : (l.take (i + 1)).foldl momV [] = momV ((l.take i).foldl momV []) v := by
  rw [take_get h, List.foldl_append]; rfl
/-- Lists that are valid, and not long. -/
def Fine (l : List Tm) (k : Nat) : Prop := OkL l ∧ l.length ≤ k
theorem fine_with {l : List Tm} {t : Tm} {k : Nat} (h : Fine l k) (ht : ok t) : Fine (withS l t) (k + 1) := by
  refine ⟨with_ok h.1 ht, ?_⟩
  have h2 : ∀ o : List Tm, (withS o t).length ≤ o.length + 1 := fun o => by
    induction o with
    | nil => simp [withS]
    | cons y o ih => unfold withS; split <;> (try split) <;> simp <;> omega
  have := h2 l
  have := h.2
  omega
set_option maxRecDepth 100000 in
set_option maxHeartbeats 4000000 in
theorem refMoments_any (A : Option Addr) (n c : Nat) (l : List (List Ev)) (B : Nat) (w : World) (h : ReadsV w B A n l) (hB : B ≤ w.heap.size) (hn : n ≤ 8) (hv : ∀ v ∈ l, Val v ∧ v.length ≤ 2000) :
    Calls Tryd.prog 48 #[.slice A n c] w fun e w' => ∃ v, e = .returned v ∧ ReadsT w' v (momS l) ∧ Below w.heap.size w w' := by
  have HL := Lib.hid h.len
  have HV := Lib.hid hv
  clear hv
  go_enter Tryd.func48, Tryd.ntmps48
  go_wp2
  go_loopg [3, 4, 5] n (fun g v i _ wr => ∃ k : Nat, k + g = n ∧ i = .int .i64 k ∧ ReadsT wr v ((l.take k).foldl momV []) ∧ Hid (Fine ((l.take k).foldl momV []) (4000 * k)) ∧ Below w.heap.size w wr)
  case atStart => exact ⟨0, by omega, rfl, ReadsT.nil_ _, Lib.hid ⟨(fun t h => by simp at h), by simp⟩, Below.refl _ _⟩
  case round =>
    obtain ⟨k, hkg, rfl, hT, hF, k0⟩ := hrel
    cases gk with
    | zero =>
      have hkn : k = n := by omega
      subst hkn
      have E := Lib.hid (show (l.take k).foldl momV [] = momS l by rw [List.take_of_length_le (by have := HL.out; omega)]; rfl)
      go_wp2
      go_ret
      rw [E.out] at hT
      exact ⟨_, rfl, hT, k0⟩
    | succ g =>
      have hkn : k < n := by omega
      have hkn' : (k : Int) < (n : Int) := by omega
      obtain ⟨v, hvk⟩ := get_some (l := l) (k := k) (by have := HL.out; omega)
      obtain ⟨hval, hvl⟩ := HV.out v (List.mem_of_getElem? hvk)
      have HVal := Lib.hid hval
      have HM := Lib.hid (momL_take hvk)
      obtain ⟨o, ho⟩ : ∃ o, o = (l.take k).foldl momV [] := ⟨_, rfl⟩
      rw [← ho] at hT hF HM
      have HO := Lib.hid ho
      obtain ⟨wo, rfl⟩ : ∃ wo : World, wo = wr := ⟨_, rfl⟩
      obtain ⟨b, off, A', n', c', hA, hab, cv, hr, hn', hvn⟩ := h.voice hB k0 hkn hvk
      have hr0 := hr
      clear ho hvk hval
      go_wp2
      go_loopg [3, 5] n' (fun g2 u j wy => ∃ m : Nat, m + g2 = n' ∧ j = .int .i64 m ∧ ReadsT wy u (momV o (v.take m)) ∧ Hid (Fine (momV o (v.take m)) (4000 * k + 2 * m)) ∧ Below wo.heap.size wo wy)
      case atStart => exact ⟨0, by omega, rfl, hT, Lib.hid (by simpa [momV] using hF.out), Below.refl _ _⟩
      case round =>
        obtain ⟨m, hmg, rfl, hT, hF2, m0⟩ := hrel
        have cv2 := (m0.cell (p := ⟨b, off + k, none⟩) hab).trans cv
        have hab2 : b < wr.heap.size := Nat.lt_of_lt_of_le hab m0.size
        cases gk with
        | zero =>
          have hmn : m = n' := by omega
          subst hmn
          have E := Lib.hid (show momV o (v.take m) = (l.take (k + 1)).foldl momV [] by rw [List.take_of_length_le (by omega), HM.out])
          rw [E.out] at hT hF2
          subst hA
          go_wp2
          go_roundg g
          case measure => omega
          case rel => exact ⟨k + 1, by omega, rfl, hT, Lib.hid ⟨hF2.out.1, by have := hF2.out.2; omega⟩, below_call k0 m0⟩
        | succ g2 =>
          have hmn : m < n' := by omega
          have hmn' : (m : Int) < (n' : Int) := by omega
          obtain ⟨x, hx⟩ := get_some (l := v) (k := m) (by omega)
          have ex := HVal.out.each m x hx
          have HX := Lib.hid (momV_take (o := o) hx)
          have F1 := fine_with hF2.out ex.1
          have F2 := fine_with F1 ex.2.1
          have q1 := fun W u (hu : ReadsT W u (momV o (v.take m))) => with_any u _ x.at_ W hu (by have := hF2.out.2; omega) hF2.out.1 ex.1
          have q2 := fun W => refEndOf_any x W
          have q3 := fun W u (hu : ReadsT W u (withS (momV o (v.take m)) x.at_)) => with_any u _ (nextS x) W hu (by have := F1.2; omega) F1.1 ex.2.1
          rw [← HX.out] at q3 F2
          obtain ⟨o1, ho1⟩ : ∃ o1, o1 = momV o (v.take m) := ⟨_, rfl⟩
          obtain ⟨o2, ho2⟩ : ∃ o2, o2 = withS o1 x.at_ := ⟨_, rfl⟩
          rw [← ho1, ← ho2] at q1 q3
          rw [← ho1] at hT
          have HF2 := Lib.hid F2
          obtain ⟨b', off', rfl, hab', hc⟩ := hr.ev (Nat.le_trans hB k0.size) m0 hmn hx
          obtain ⟨⟨e0, e1⟩, he⟩ : ∃ e, e = nextS x := ⟨_, rfl⟩
          rw [← he] at q2 q3
          obtain ⟨⟨a, a'⟩, ⟨d, d'⟩, ⟨p, q, r⟩, rst, sg, ps⟩ := x
          obtain ⟨c0, c1, c2, c3, c4, c5, c6, c7, c8, c9⟩ := ten hc
          unfold cE at q2
          simp only [List.toArray] at q2
          clear hc hx ho1 ho2 he ex F1 F2 hF2
          simp only at c0 c1 c2 c3 c4 c5 c6 c7 c8 c9 q1 q2 q3
          subst hA
          go_wp2_with fail
          refine (q1 _ _ hT).mono ?_
          rintro e w1 ⟨u1, rfl, hT1, f1⟩
          obtain ⟨hcc, hff⟩ := bcell f1
          go_wp2_with fail
          refine (q2 _).mono ?_
          rintro e w2 ⟨rfl, f2⟩
          go_wp2_with fail
          refine (q3 _ _ (hT1.kept f2)).mono ?_
          rintro e w3 ⟨u3, rfl, hT3, f3⟩
          go_wp2
          go_roundg g2
          case measure => omega
          case rel => exact ⟨m + 1, by omega, rfl, hT3, Lib.hid ⟨HF2.out.1, by have := HF2.out.2; omega⟩, below_call (below_call (below_call m0 f1) f2) f3⟩
end Go.Proofs.YtmlcnmnpkemdpaaDoor
