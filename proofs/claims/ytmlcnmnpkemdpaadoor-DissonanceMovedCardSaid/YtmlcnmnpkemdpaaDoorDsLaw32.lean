
/- The law's own functions: which settings are light, two rows alike, a voice by pairs of numbers, a setting of two, whether it has one dissonance. -/
import Derived.Test.YtmlcnmnpkemdpaaDoorDsCount
import Derived.Test.YtmlcnmnpkemdpaaDoorAlLight
import Derived.Test.YtmlcnmnpkemdpaaDoorVoices
import Derived.Deep.LoopGhost
namespace Go.Proofs.YtmlcnmnpkemdpaaDoor
open Go.RowKit
set_option maxRecDepth 100000 in
set_option maxHeartbeats 1000000 in
theorem sameDis_any (A A' : Option Addr) (n c c' : Nat) (l : List Dis) (w : World) (h : Reads w w.heap.size 5 A n (csDis l)) (h' : Reads w w.heap.size 5 A' n (csDis l)) (hn : n ≤ 9223372036854775807) :
    Calls Tryd.prog 26 #[.slice A n c, .slice A' n c'] w fun e w' => e = .returned (.bool true) ∧ Below w.heap.size w w' := by
  have HL := Lib.hid h.dlen
  go_enter Tryd.func26, Tryd.ntmps26
  go_wp2
  go_loopg [5] n (fun gh i wr => ∃ k : Nat, k + gh = n ∧ i = .int .i64 k ∧ Below w.heap.size w wr)
  case atStart => exact ⟨0, by omega, rfl, Below.refl _ _⟩
  case round =>
    obtain ⟨k, hkg, rfl, k0⟩ := hrel
    have wk : k + 1 ≤ n → IntKind.i64.wrap ((k : Int) + 1) = (k : Int) + 1 := fun _ => IntWalk.i64_in _ (by omega)
    cases gk with
    | zero =>
      have hk : k = n := by omega
      have d0 : ¬ ((k : Int) < (n : Int)) := by omega
      clear hk hkg
      go_wp2
      go_ret
      exact ⟨rfl, k0⟩
    | succ g =>
      have hk : k < n := by omega
      have wk2 := wk (by omega)
      have hlt' : (k : Int) < (n : Int) := by omega
      obtain ⟨x, hx⟩ := get_some (l := l) (k := k) (by have := HL.out; omega)
      obtain ⟨b, off, rfl, hab, c0, c1, c2, c3, c4⟩ := h.dis (Nat.le_refl _) k0 hk hx
      obtain ⟨b', off', rfl, hab', e0, e1, e2, e3, e4⟩ := h'.dis (Nat.le_refl _) k0 hk hx
      clear hx wk
      go_wp2_with fail
      refine wp_region_calm (by kernel_rfl) (by kernel_rfl) ?_
      repeat (go_big_quiet_step (fail))
      refine wpQuiet_nil ?_
      intro wd gd
      go_wp2
      go_roundg g
      case measure => omega
      case rel => exact ⟨k + 1, by omega, by go_num, below_call k0 gd⟩
/-- Which settings are light. -/
def lightE (l : List (List Ev)) : Bool := decide (l.length ≤ 5 ∨ l.length = 9) && l.all fun v => decide (v.length ≤ 24)
set_option maxRecDepth 100000 in
set_option maxHeartbeats 4000000 in
theorem light32_any (A : Option Addr) (n c : Nat) (l : List (List Ev)) (w : World) (h : ReadsV w w.heap.size A n l) (hn : n ≤ 9223372036854775807) :
    Calls Tryd.prog 9 #[.slice A n c] w fun e w' => e = .returned (.bool (lightE l)) ∧ Below w.heap.size w w' := by
  have HL := Lib.hid h.len
  by_cases hb : n ≤ 5 ∨ n = 9
  · have hn9 : n ≤ 9 := by omega
    have HE := Lib.hid (show lightE l = l.all fun v => decide (v.length ≤ 24) by unfold lightE; rw [HL.out, decide_eq_true hb]; rfl)
    have dd : (decide ((5 : Int) < (n : Int)) = false) ∨ (decide ((5 : Int) < (n : Int)) = true ∧ ((n : Int) != 9) = false) := by
      rcases hb with h1 | h1
      · exact .inl (by simp; omega)
      · subst h1; exact .inr ⟨by simp, by simp⟩
    rcases dd with dd | ⟨dd, dd2⟩
    all_goals
      clear hb
      go_enter Tryd.func9, Tryd.ntmps9
      go_wp2
      go_loopg [3] n (fun gh i wr => ∃ k : Nat, k + gh = n ∧ i = .int .i64 (k : Int) ∧ Below w.heap.size w wr ∧ Hid (∀ v ∈ l.take k, v.length ≤ 24))
      case atStart => exact ⟨0, by omega, by simp, Below.refl _ _, Lib.hid (fun v hv => by simp at hv)⟩
      case round =>
        obtain ⟨k, hkg, rfl, kr, hs⟩ := hrel
        have wk : IntKind.i64.wrap ((k : Int) + 1) = (k : Int) + 1 := IntWalk.i64_in _ (by omega)
        cases gk with
        | zero =>
          have hk : k = n := by omega
          have d0 : ¬ ((k : Int) < (n : Int)) := by omega
          have E := Lib.hid (show lightE l = true by
            rw [HE.out, List.all_eq_true]
            intro v hv
            exact decide_eq_true (hs.out v (by rw [List.take_of_length_le (by rw [HL.out]; omega)]; exact hv)))
          clear hk hkg hs
          go_wp2
          go_ret
          rw [E.out]
          exact ⟨rfl, kr⟩
        | succ g =>
          have hk : k < n := by omega
          have d0 : (k : Int) < (n : Int) := by omega
          obtain ⟨v, hv⟩ := get_some (l := l) (k := k) (by have := HL.out; omega)
          obtain ⟨ba, oa, A', n', c', hA, hba, cv, _, _, hvn⟩ := h.voice (Nat.le_refl _) kr hk hv
          subst hA
          by_cases h24 : 24 < n'
          · have d1 : decide ((24 : Int) < (n' : Int)) = true := by simp; omega
            have E := Lib.hid (show lightE l = false by
              rw [HE.out, List.all_eq_false]
              exact ⟨v, List.mem_of_getElem? hv, by simp; omega⟩)
            clear hv hvn h24 hs
            go_wp2
            go_ret
            rw [E.out]
            exact ⟨rfl, kr⟩
          · have d1 : decide ((24 : Int) < (n' : Int)) = false := by simp; omega
            have HN := Lib.hid (show ∀ u ∈ l.take (k + 1), u.length ≤ 24 from fun u hu => by
              rw [take_get hv] at hu
              rcases List.mem_append.1 hu with hu | hu
              · exact hs.out u hu
              · rw [List.mem_singleton] at hu; subst hu; omega)
            clear hv hvn h24 hs
            go_wp2_with fail
            go_roundg g
            case measure => omega
            case rel => exact ⟨k + 1, by omega, by go_num, kr, HN⟩
  · have E := Lib.hid (show lightE l = false by unfold lightE; rw [HL.out, decide_eq_false hb]; rfl)
    have d1 : decide ((5 : Int) < (n : Int)) = true := by simp; omega
    have d2 : ((n : Int) != 9) = true := by simp; omega
    clear hb
    go_enter Tryd.func9, Tryd.ntmps9
    go_wp2
    go_ret
    rw [E.out]
    exact ⟨rfl, Below.refl _ _⟩
/-! ### A voice by pairs of numbers -/
def flatP (l : List (Int × Int)) : List Int := l.flatMap fun p => [p.1, p.2]
def vpEv (i s : Int) (p : Int × Int) : Ev := ⟨(s, 1), (p.2, 1), (p.1 % 7, p.1 / 7, 0), false, i, 0⟩
def vpL (i s : Int) : List (Int × Int) → List Ev
  | [] => []
  | p :: l => vpEv i s p :: vpL (i + 2) (s + p.2) l
def sumP (l : List (Int × Int)) : Int := (l.map (·.2)).sum
theorem vp_append (l m : List (Int × Int)) : ∀ i s, vpL i s (l ++ m) = vpL i s l ++ vpL (i + 2 * l.length) (s + sumP l) m := by
  induction l with
  | nil => intro i s; simp [vpL, sumP]
  | cons p l ih =>
    intro i s
    rw [List.cons_append, vpL, vpL, ih, List.cons_append]
    congr 2
    · congr 1
      · simp only [List.length_cons]; push_cast; omega
      · simp [sumP]; omega
theorem vp_next {l : List (Int × Int)} {k : Nat} {p : Int × Int} (h : l[k]? = some p) : vpL 0 0 (l.take (k + 1)) = vpL 0 0 (l.take k) ++ [vpEv (2 * k) (sumP (l.take k)) p] := by
  have hk := (List.getElem?_eq_some_iff.1 h).1
  rw [take_get h, vp_append, List.length_take, show min k l.length = k by omega, Int.zero_add, Int.zero_add]
  rfl
theorem sumP_next {l : List (Int × Int)} {k : Nat} {p : Int × Int} (h : l[k]? = some p) : sumP (l.take (k + 1)) = sumP (l.take k) + p.2 := by
  rw [take_get h]; simp [sumP]
theorem flatP_at {l : List (Int × Int)} : ∀ {k : Nat} {p : Int × Int}, l[k]? = some p → (flatP l)[2 * k]? = some p.1 ∧ (flatP l)[2 * k + 1]? = some p.2 := by
  induction l with
  | nil => intro k p h; simp at h
  | cons q l ih =>
    intro k p h
    have e : flatP (q :: l) = q.1 :: q.2 :: flatP l := rfl
    rw [e]
    cases k with
    | zero => simp at h; subst h; simp
    | succ k =>
      have := ih (k := k) (p := p) (by simpa using h)
      rw [show 2 * (k + 1) = 2 * k + 1 + 1 by omega]
      simpa using this
theorem sumP_bd {l : List (Int × Int)} (h : ∀ p ∈ l, 1 ≤ p.2 ∧ p.2 ≤ 1000) (k : Nat) : 0 ≤ sumP (l.take k) ∧ sumP (l.take k) ≤ 1000 * (l.length : Int) := by
  have key : ∀ m : List (Int × Int), (∀ p ∈ m, 1 ≤ p.2 ∧ p.2 ≤ 1000) → 0 ≤ sumP m ∧ sumP m ≤ 1000 * (m.length : Int) := by
    intro m
    induction m with
    | nil => intro _; simp [sumP]
    | cons p m ih =>
      intro h
      have h1 := h p (by simp)
      have h2 := ih (fun q hq => h q (by simp [hq]))
      have e : sumP (p :: m) = p.2 + sumP m := by simp [sumP]
      rw [e, List.length_cons]
      push_cast
      omega
  have h1 := key (l.take k) (fun p hp => h p (List.mem_of_mem_take hp))
  have h2 : (l.take k).length ≤ l.length := by rw [List.length_take]; omega
  omega
theorem tS_one (n : Int) : tS n 1 = (n, 1) := by
  have e : gg n 1 = 1 := by unfold gg; simp
  unfold tS
  rw [e, if_neg (by omega)]; simp
set_option maxRecDepth 100000 in
set_option maxHeartbeats 8000000 in
theorem vp_any (A : Option Addr) (n c m : Nat) (l : List (Int × Int)) (w : World) (h : Reads w w.heap.size 1 A n (csN (flatP l))) (hm : l.length = m) (hnm : n = 2 * m) (hm9 : m ≤ 1000) (hl : ∀ p ∈ l, 0 ≤ p.1 ∧ p.1 ≤ 1000 ∧ 1 ≤ p.2 ∧ p.2 ≤ 1000) :
    Calls Tryd.prog 18 #[.slice A n c] w fun e w' => ∃ v, e = .returned v ∧ w'.ownsRow w.heap.size 54 10 v m (csE (vpL 0 0 l)) ∧ Below w.heap.size w w' := by
  have HL := Lib.hid hm
  have HB := Lib.hid hl
  have HS := Lib.hid (fun k => sumP_bd (fun p hp => (hl p hp).2.2) k)
  clear hl
  obtain ⟨i0, hi0, hz0, hz1, hz2⟩ := info_parts event_info
  have HNM := Lib.hid hnm
  clear hnm
  go_enter Tryd.func18, Tryd.ntmps18
  go_wp2
  go_loopg [3, 4, 5] m (fun gh o s i wr => ∃ k : Nat, k + gh = m ∧ i = .int .i64 ((2 * k : Nat) : Int) ∧ s = .int .i64 (sumP (l.take k)) ∧ wr.ownsRow w.heap.size 54 10 o k (csE (vpL 0 0 (l.take k))) ∧ Below w.heap.size w wr)
  case atStart => exact ⟨0, by omega, by simp, by simp [sumP], ⟨rfl, .inl ⟨rfl, rfl⟩⟩, Below.refl _ _⟩
  case round =>
    obtain ⟨k, hkg, rfl, rfl, hown, kr⟩ := hrel
    have hnm := HNM.out
    obtain ⟨k2, hk2⟩ : ∃ z, z = 2 * k := ⟨_, rfl⟩
    rw [← hk2]
    obtain ⟨k3, hk3⟩ : ∃ z, z = 2 * k + 1 := ⟨_, rfl⟩
    have wk : IntKind.i64.wrap ((k2 : Int) + 1) = (k3 : Int) := by rw [IntWalk.i64_in _ (by omega)]; omega
    have wk2 : IntKind.i64.wrap ((k2 : Int) + 2) = ((2 * (k + 1) : Nat) : Int) := by rw [IntWalk.i64_in _ (by omega)]; omega
    cases gk with
    | zero =>
      have hk : k = m := by omega
      have d0 : decide (k3 < n) = false := by simp; omega
      have HF := Lib.hid (show l.take k = l from List.take_of_length_le (by have := HL.out; omega))
      rw [HF.out, hk] at hown
      clear hkg hk2 hk3 hk hnm
      go_wp2
      go_ret
      exact ⟨u3, rfl, hown, kr⟩
    | succ g =>
      have hk : k < m := by omega
      have d0 : decide (k3 < n) = true := by simp; omega
      obtain ⟨p, hp⟩ := get_some (l := l) (k := k) (by have := HL.out; omega)
      have hpb := HB.out p (List.mem_of_getElem? hp)
      have HN := Lib.hid (vp_next hp)
      have HSN := Lib.hid (sumP_next hp)
      have hsb := HS.out k
      rw [HL.out] at hsb
      obtain ⟨f1, f2⟩ := flatP_at hp
      rw [← hk2] at f1
      rw [← hk3] at f2
      obtain ⟨b, off, hA, hab, hc⟩ := Reads.elem (f := cI) (fun _ => rfl) h (k := k2) (by omega) f1
      obtain ⟨b', off', hA', hab', hc'⟩ := Reads.elem (f := cI) (fun _ => rfl) h (k := k3) (by omega) f2
      subst hA
      cases hA'
      have c0' := hc 0 _ rfl
      have c1' := hc' 0 _ rfl
      simp only [Nat.mul_one, Nat.add_zero] at c0' c1'
      have lb : b < wr.heap.size := by have := kr.size; omega
      have c0 := (kr.cell (p := ⟨b, off + k2, none⟩) hab).trans c0'
      have c1 := (kr.cell (p := ⟨b, off + k3, none⟩) hab).trans c1'
      obtain ⟨p1, p2⟩ := p
      simp only at c0 c1 c1' hpb HN HSN
      obtain ⟨s, hs⟩ : ∃ s, s = sumP (l.take k) := ⟨_, rfl⟩
      rw [← hs] at HN HSN hsb ⊢
      have HEV := Lib.hid (show vpEv (2 * k) s (p1, p2) = ⟨(s, 1), (p2, 1), (p1 % 7, p1 / 7, 0), false, (k2 : Int), 0⟩ by unfold vpEv; simp only [hk2]; push_cast; rfl)
      have q1 := fun W => t_any s 1 W (by omega) (by omega) (by omega) (by omega)
      have q2 := fun W => t_any p2 1 W (by omega) (by omega) (by omega) (by omega)
      rw [tS_one] at q1 q2
      have hmE : p1.tmod 7 = p1 % 7 := Int.tmod_eq_emod_of_nonneg (by omega)
      have hdE : p1.tdiv 7 = p1 / 7 := Int.tdiv_eq_ediv_of_nonneg (by omega)
      have wm : IntKind.i64.wrap (p1 % 7) = p1 % 7 := IntWalk.i64_in _ (by omega)
      have wq : IntKind.i64.wrap (p1 / 7) = p1 / 7 := IntWalk.i64_in _ (by omega)
      have wm' : IntKind.i64.wrap (p1.tmod 7) = p1 % 7 := by rw [hmE]; exact wm
      have wq' : IntKind.i64.wrap (p1.tdiv 7) = p1 / 7 := by rw [hdE]; exact wq
      have ws : IntKind.i64.wrap (s + p2) = s + p2 := IntWalk.i64_in _ (by omega)
      have dk2 : (k2 : Int) < (n : Int) := by omega
      have dk3 : (k3 : Int) < (n : Int) := by omega
      have k1000 : k ≤ 1000 := by omega
      clear hnm hc hc' hp f1 f2 hs hab' hpb hsb hk2 hk3 c0'
      go_wp2_with fail
      refine wp_region_calm_move 22 (by kernel_rfl) (.tmp 3) rfl rfl (by omega) (by kernel_rfl) ?_
      simp only [Nat.reduceSub, List.take_succ_cons, List.take_zero, List.drop_succ_cons, List.drop_zero]
      go_simp
      repeat (go_big_quiet_step ((go_at_call 25; with_reducible (first | exact calm_call (q1 _) | exact calm_call (q2 _)))))
      refine wpQuiet_nil ?_
      intro wd gd
      have kd := below_call kr gd
      have zd := kd.size
      go_wp2_with (at_builtin; (refine wpList_append_any _ rfl (.tmp 13) (.tmp 35) 37 rfl w.heap.size 54 i0 _ 10 80 Tryd.underlying37 hi0 hz0 hz1 hz2 rfl (by omega) u3 k (csE (vpL 0 0 (l.take k))) rfl (own_call (own_call hown gd) (below_alloc (Below.refl _ _) _)) (wd.heap.size + 1) (some ⟨wd.heap.size, 0, none⟩) 1 1 (csE [⟨(s, 1), (p2, 1), (p1 % 7, p1 / 7, 0), false, (k2 : Int), 0⟩]) rfl (Reads.newAt _ _ _ 1 10 _ rfl rfl) (one_csE _) (by simp only [maxLen]; omega) (by omega) (by simp; omega) ?_); intro v4 w4 hown4 hg4 hat4)
      have hB4 : Below w.heap.size w w4 := Below.grown (B := w.heap.size) (kd.alloc (by omega) _) hg4 (by simp; omega) (fun x hx => (hown.lt x hx).1)
      try refine NoPanic.normal ?_
      have c4 := (hB4.cell (p := ⟨b, off + k3, none⟩) hab).trans c1'
      have l4 : b < w4.heap.size := by have := hB4.size; omega
      clear c0 c1 c1'
      go_wp2_with fail
      go_roundg g
      case measure => omega
      case rel => exact ⟨k + 1, by omega, by go_num, by rw [HSN.out], by rw [HN.out, csE_append, HEV.out]; exact hown4, hB4⟩
/-! ### A setting of two voices; whether it has one dissonance -/
def PairRet (l : List (List Ev)) (m : Nat) (w : World) (e : Ending) (w' : World) : Prop := ∃ A c, e = .returned (.slice A m c) ∧ ReadsV w' w'.heap.size A m l ∧ Below w.heap.size w w'
theorem readsV_two {w : World} {B g : Nat} {v1 v2 : List Ev} {d1 d2 : Pl} (h : Reads w B 1 (some ⟨g, 0, none⟩) 2 (csV [d1, d2])) (h1 : Reads w B 10 d1.1 d1.2.1 (csE v1)) (h2 : Reads w B 10 d2.1 d2.2.1 (csE v2)) (l1 : d1.2.1 ≤ 9223372036854775807) (l2 : d2.2.1 ≤ 9223372036854775807) : ReadsV w B (some ⟨g, 0, none⟩) 2 [v1, v2] := by
  refine ⟨[d1, d2], rfl, h, fun k d v hd hv => ?_⟩
  match k with
  | 0 => simp at hd hv; subst hd hv; exact ⟨h1, l1⟩
  | 1 => simp at hd hv; subst hd hv; exact ⟨h2, l2⟩
  | k + 2 => simp at hd
set_option maxRecDepth 100000 in
set_option maxHeartbeats 1000000 in
theorem pair_any (A A' : Option Addr) (n c n' c' : Nat) (v v' : List Ev) (w : World) (h : Reads w w.heap.size 10 A n (csE v)) (h' : Reads w w.heap.size 10 A' n' (csE v')) (hn : n ≤ 1000) (hn' : n' ≤ 1000) :
    Calls Tryd.prog 17 #[.slice A n c, .slice A' n' c'] w fun e w' => PairRet [v, v'] 2 w e w' := by
  go_enter Tryd.func17, Tryd.ntmps17
  go_wp2_with fail
  refine ret_of (by simp [results, Tryd.results17, go_sem, *]; repeat' (first | rfl | apply And.intro)) rfl ?_
  have kb : Below w.heap.size w (w.alloc (.cells #[.slice A n c, .slice A' n' c'] 37)) := below_alloc (Below.refl _ _) _
  exact ⟨some ⟨w.heap.size, 0, none⟩, 2, rfl, readsV_two (d1 := (A, n, c)) (d2 := (A', n', c')) ((Reads.newAt _ _ _ 2 1 _ rfl rfl).more (by simp)) (rd1 h kb) (rd1 h' kb) (by show n ≤ _; omega) (by show n' ≤ _; omega), kb⟩
set_option maxRecDepth 100000 in
set_option maxHeartbeats 1000000 in
theorem oneDis_any (A : Option Addr) (n c : Nat) (l : List (List Ev)) (w : World) (h : ReadsV w w.heap.size A n l) (hn : n ≤ 9223372036854775807) (ht : Tabs w) (s k t : Int) (hE : dissE l = ([⟨s, 0, 1, k, t⟩], 0)) :
    Calls Tryd.prog 16 #[.slice A n c, .int .i64 s, .int .i64 k, .int .i64 t] w fun e w' => e = .returned (.bool true) ∧ Below w.heap.size w w' := by
  have q1 := diss_any A n c l w h hn ht
  rw [hE] at q1
  clear h ht hE
  go_enter Tryd.func16, Tryd.ntmps16
  go_wp2_with fail
  refine q1.mono ?_
  rintro e w1 ⟨A1, c1, rfl, r1, k1⟩
  simp only [List.length_singleton] at r1 ⊢
  go_wp2_with fail
  obtain ⟨w2, hw2⟩ : ∃ z, z = w1.alloc (.cells #[.int .i64 s, .int .i64 0, .int .i64 1, .int .i64 k, .int .i64 t] 48) := ⟨_, rfl⟩
  have b2 : Below w1.heap.size w1 w2 := by rw [hw2]; exact below_alloc (Below.refl _ _) _
  have r2 : Reads w2 w2.heap.size 5 (some ⟨w1.heap.size, 0, none⟩) 1 (csDis [⟨s, 0, 1, k, t⟩]) := by rw [hw2]; exact (Reads.newAt _ _ _ 1 5 _ rfl rfl).more (by simp)
  rw [← hw2]
  have q2 := sameDis_any A1 (some ⟨w1.heap.size, 0, none⟩) 1 c1 1 [⟨s, 0, 1, k, t⟩] w2 (rd1 r1 b2) r2 (by omega)
  have k2 := below_call k1 b2
  clear hw2 b2 r1 r2 q1
  refine q2.mono ?_
  rintro e w3 ⟨rfl, k3⟩
  go_wp2
  refine ret_of (by simp [results, Tryd.results16, go_sem, *]; repeat' (first | rfl | apply And.intro)) rfl ⟨rfl, below_call k2 k3⟩
end Go.Proofs.YtmlcnmnpkemdpaaDoor
