/- Parts of the proofs of layer 31: AlMerge, AlSlMem. -/
import Derived.Test.YtpkmiegccfhpnaaGreatDoorK08
import Derived.Deep.LoopGhost
namespace Go.Proofs.YtpkmiegccfhpnaaGreatDoor
open Go.RowKit
/-- A slice of times below block B, and its capacity. -/
def ReadsB (w : World) (B : Nat) (v : Value) (l : List Tm) : Prop := ∃ A c, v = .slice A l.length c ∧ Reads w B 2 A l.length (csT l) ∧ l.length ≤ c ∧ c ≤ 9223372036854775807
theorem ReadsT.at {w : World} {v : Value} {l : List Tm} (h : ReadsT w v l) : ReadsB w w.heap.size v l := h
theorem ReadsB.below {w w' : World} {B : Nat} {v : Value} {l : List Tm} (h : ReadsB w B v l) (hb : Below B w w') : ReadsB w' B v l := by
  obtain ⟨A, c, e, hr, h1, h2⟩ := h
  exact ⟨A, c, e, hr.keep fun b o hbo => hb.cell (p := ⟨b, o, none⟩) hbo, h1, h2⟩
theorem ReadsB.nil_form {w : World} {B : Nat} {v : Value} (h : ReadsB w B v []) : ∃ A c, v = .slice A 0 c := by
  obtain ⟨A, c, e, _⟩ := h
  exact ⟨A, c, e⟩
/-- The head of a list in memory, and its tail. -/
theorem ReadsB.cons_form {w : World} {B : Nat} {v : Value} {x : Tm} {l : List Tm} (h : ReadsB w B v (x :: l)) :
    ∃ b off n c, n = l.length + 1 ∧ v = .slice (some ⟨b, off, none⟩) n c ∧ b < B ∧ w.cell? ⟨b, off, none⟩ = some (.int .i64 x.1) ∧ w.cell? ⟨b, off + 1, none⟩ = some (.int .i64 x.2) ∧
      ∃ A' c', ReadsB w B (.slice A' l.length c') l ∧ ∀ W : World, (Instr.slice 88 v (some (.int .i64 1)) none none).run Tryz.prog W = .ok (.slice A' l.length c') W := by
  obtain ⟨A, c, e, hr, h1, h2⟩ := h
  obtain ⟨b, off, hA, hb, hc⟩ := hr.elem (f := cT) (fun _ => rfl) (k := 0) (by simp) rfl
  subst hA
  obtain ⟨A', hA', hs⟩ := tm_tail (some ⟨b, off, none⟩) 1 (x :: l).length c (by simp) h1
  refine ⟨b, off, _, c, rfl, e, hb, by simpa using hc 0 _ rfl, by simpa using hc 1 _ rfl, A', c - 1, ⟨A', c - 1, rfl, ?_, by simp at h1; omega, by omega⟩, fun W => by rw [e]; exact hs W⟩
  have := reads_drop2 hr (k := 1) (by simp) A' hA'
  simpa using this
/-- The last time of a row of the call's own. -/
theorem own_last {w : World} {base n : Nat} {v : Value} {o : List Tm} (h : w.ownsRow base 45 2 v (n + 1) (csT o)) : ∃ b off c z, v = .slice (some ⟨b, off, none⟩) (n + 1) c ∧ b < w.heap.size ∧ o.getLast? = some z ∧ w.cell? ⟨b, off + n * 2, none⟩ = some (.int .i64 z.1) ∧ w.cell? ⟨b, off + n * 2 + 1, none⟩ = some (.int .i64 z.2) := by
  obtain ⟨A, c, e, hr, _, _⟩ := own_reads h
  have hl := hr.tlen
  obtain ⟨z, hz⟩ : ∃ z, o[n]? = some z := ⟨_, List.getElem?_eq_getElem (by omega)⟩
  obtain ⟨b, off, hA, hb, h0, h1⟩ := hr.tm (Nat.le_refl _) (Below.refl _ _) (k := n) (by omega) hz
  subst hA
  exact ⟨b, off, c, z, e, hb, by rw [List.getLast?_eq_getElem?, hl]; simpa using hz, h0, h1⟩
theorem two_parts (a b a' b' : Int) : (a = a' ∧ b = b') ∨ a ≠ a' ∨ (a = a' ∧ b ≠ b') := by omega
theorem mrg_swap {n : Nat} {o a b : List Tm} (h : swapB a b = true) : mrg (n + 1) o a b = mrg n (addE o (b.headD (0, 1))) b.tail a := by
  conv => lhs; unfold mrg
  rw [if_pos h]
theorem mrg_stay {n : Nat} {o a b : List Tm} (h : swapB a b = false) : mrg (n + 1) o a b = mrg n (addE o (a.headD (0, 1))) a.tail b := by
  conv => lhs; unfold mrg
  rw [if_neg (by rw [h]; simp)]
set_option maxRecDepth 100000 in
set_option maxHeartbeats 8000000 in
theorem merged_any (va vb : Value) (a b : List Tm) (w : World) (ha : ReadsT w va a) (hb : ReadsT w vb b) (hoa : OkL a) (hob : OkL b) (hl : a.length + b.length ≤ 40000) :
    Calls Tryz.prog 99 #[va, vb, .func (.func 74) #[] #[]] w fun e w' => ∃ v, e = .returned v ∧ w'.ownsRow w.heap.size 45 2 v (mrgS a b).length (csT (mrgS a b)) ∧ Below w.heap.size w w' := by
  have h1 : ReadsB w w.heap.size va a := ha
  have h2 : ReadsB w w.heap.size vb b := hb
  have HO := Lib.hid (And.intro hoa (And.intro hob hl))
  clear ha hb hoa hob hl
  obtain ⟨i0, hi0, hz0, hz1, hz2⟩ := info_parts tm_info
  obtain ⟨A1, c1, rfl, _, _, _⟩ := id h1
  obtain ⟨A2, c2, rfl, _, _, _⟩ := id h2
  go_enter Tryz.func99, Tryz.ntmps99
  go_wp2
  go_loopg [0, 1, 7] (a.length + b.length) (fun g ua ub v wr => ∃ o a' b' : List Tm, a'.length + b'.length = g ∧ ReadsB wr w.heap.size ua a' ∧ ReadsB wr w.heap.size ub b' ∧ wr.ownsRow w.heap.size 45 2 v o.length (csT o) ∧ Hid (mrg g o a' b' = mrgS a b) ∧ Hid (OkL a' ∧ OkL b' ∧ o.length + g ≤ 40000) ∧ Below w.heap.size w wr)
  case atStart => exact ⟨[], a, b, rfl, h1, h2, ⟨rfl, .inl ⟨rfl, rfl⟩⟩, Lib.hid rfl, Lib.hid ⟨HO.out.1, HO.out.2.1, by simpa using HO.out.2.2⟩, Below.refl _ _⟩
  case round =>
    clear h1 h2
    obtain ⟨o, a', b', hg, r1, r2, hown, hm, hok, k0⟩ := hrel
    have hlen := hok.out.2.2
    obtain ⟨N, hN⟩ : ∃ N, N = o.length := ⟨_, rfl⟩
    rw [← hN] at hown hlen
    have HN := Lib.hid hN.symm
    clear hN
    cases gk with
    | zero =>
      obtain rfl : a' = [] := List.eq_nil_of_length_eq_zero (by omega)
      obtain rfl : b' = [] := List.eq_nil_of_length_eq_zero (by omega)
      obtain ⟨A3, c3, rfl⟩ := r1.nil_form
      obtain ⟨A4, c4, rfl⟩ := r2.nil_form
      have E := Lib.hid (show mrgS a b = o from hm.out.symm)
      clear hm
      go_wp2
      go_ret
      rw [E.out, HN.out]
      exact ⟨_, rfl, hown, k0⟩
    | succ g =>
      cases a' with
      | nil =>
        cases b' with
        | nil => simp at hg
        | cons y b' =>
          obtain ⟨A3, c3, rfl⟩ := r1.nil_form
          obtain ⟨bp, op, np, cp, hnp, rfl, hbp, d0, d1, A', c', rT, sT⟩ := r2.cons_form
          have HM := Lib.hid (show mrg g (addE o y) b' [] = mrgS a b by rw [← hm.out, mrg_swap rfl]; rfl)
          have hQ := r1
          obtain ⟨y0, y1⟩ := y
          have dn : ((np : Int) == 0) = false := beq_eq_false_iff_ne.2 (by omega)
          have dg : decide ((0 : Int) < (np : Int)) = true := decide_eq_true (by omega)
          have dt : (1 : Int) ≤ (np : Int) := by omega
          have dnb : (np : Int) ≤ 40001 := by simp only [List.length_cons, List.length_nil] at hg; omega
          simp only at d0 d1
          clear hm hnp r1 r2
          by_cases ho0 : N = 0
          · subst ho0
            have o0 : o = [] := List.eq_nil_of_length_eq_zero HN.out
            subst o0
            obtain ⟨Ao, co, hov, _, _, _⟩ := own_reads hown
            subst hov
            go_wp2_with fail
            refine wp_region_calm (by kernel_rfl) (by kernel_rfl) ?_
            repeat (go_big_quiet_step (fail))
            refine wpQuiet_nil ?_
            intro w3 g3
            have gB3 : Below w.heap.size wr w3 := g3.mono k0.size
            have ka := k0.size
            have m0 := (gB3.cell (p := ⟨bp, op, none⟩) hbp).trans d0
            have m1 := (gB3.cell (p := ⟨bp, op + 1, none⟩) hbp).trans d1
            have lb3 : bp < w3.heap.size := by have := g3.size; omega
            go_wp2_with fail
            refine wp_region_calm (by kernel_rfl) (by kernel_rfl) ?_
            repeat (go_big_quiet_step (fail))
            refine wpQuiet_nil ?_
            intro w4 g4
            have gB4 : Below w.heap.size wr w4 := gB3.trans (g4.mono (by have := g3.size; omega))
            have f0 := (gB4.cell (p := ⟨bp, op, none⟩) hbp).trans d0
            have f1 := (gB4.cell (p := ⟨bp, op + 1, none⟩) hbp).trans d1
            have lb4 : bp < w4.heap.size := by have := k0.size; have := g3.size; have := g4.size; omega
            have k4 := below_call (below_call k0 g3) g4
            have own4 := own_call (own_call hown g3) g4
            have hEA := Lib.hid (show addE [] (y0, y1) = [] ++ [(y0, y1)] by rfl)
            go_wp2_with (at_builtin; (refine wpList_append_any _ rfl (.tmp 50) (.tmp 54) 88 rfl w.heap.size 45 i0 _ 2 16 Tryz.underlying88 hi0 hz0 hz1 hz2 rfl (by omega) _ 0 (csT []) rfl (own_call own4 (below_alloc (Below.refl _ _) _)) (w4.heap.size + 1) (some ⟨w4.heap.size, 0, none⟩) 1 1 (csT [(y0, y1)]) rfl (Reads.newAt _ _ _ 1 2 _ rfl rfl) (one_csT _) (by simp only [maxLen]; omega) (by omega) (by have := k4.size; simp; omega) ?_); intro v5 w5 hown5 hg5 hat5)
            have k5 : Below w.heap.size w w5 := Below.grown (B := w.heap.size) (a := w) (below_alloc k4 _) hg5 (by have := k4.size; simp; omega) (fun q hq => (hown.lt q hq).1)
            have gB5 : Below w.heap.size wr w5 := Below.grown (B := w.heap.size) (a := wr) (gB4.alloc (by have := k4.size; omega) _) hg5 (by have := k4.size; simp; omega) (fun q hq => (hown.lt q hq).1)
            go_roundg g
            case measure => omega
            case rel => exact ⟨[] ++ [(y0, y1)], b', [], by simp only [List.length_cons, List.length_nil] at hg ⊢; omega, rT.below gB5, hQ.below gB5, by rw [csT_append]; exact hown5, Lib.hid (by rw [← hEA.out]; exact HM.out), Lib.hid ⟨(fun u hu => hok.out.2.1 u (List.mem_cons_of_mem _ hu)), (fun u hu => by cases hu), by simp; omega⟩, k5⟩
          · obtain ⟨no, rfl⟩ : ∃ no, N = no + 1 := ⟨N - 1, by omega⟩
            have dz : ((no : Int) + 1 == 0) = false := beq_eq_false_iff_ne.2 (by omega)
            obtain ⟨bo, oo, co, ⟨z0, z1⟩, hov, hbo, hlast, e0, e1⟩ := own_last hown
            subst hov
            have t2 : IntKind.i64.wrap (no : Int) = (no : Int) := IntWalk.i64_in _ (by omega)
            have t4 : (no : Int) < (no : Int) + 1 := by omega
            have t5 : (no : Int) ≤ 40000 := by omega
            simp only at e0 e1
            rcases two_parts z0 z1 y0 y1 with ⟨rfl, rfl⟩ | hz
            · go_wp2_with fail
              refine wp_region_calm (by kernel_rfl) (by kernel_rfl) ?_
              repeat (go_big_quiet_step (fail))
              refine wpQuiet_nil ?_
              intro w3 g3
              have gB3 : Below w.heap.size wr w3 := g3.mono k0.size
              have ka := k0.size
              have m0 := (gB3.cell (p := ⟨bp, op, none⟩) hbp).trans d0
              have m1 := (gB3.cell (p := ⟨bp, op + 1, none⟩) hbp).trans d1
              have lb3 : bp < w3.heap.size := by have := g3.size; omega
              have j0 := (g3.cell (p := ⟨bo, oo + no * 2, none⟩) hbo).trans e0
              have j1 := (g3.cell (p := ⟨bo, oo + no * 2 + 1, none⟩) hbo).trans e1
              have lo3 : bo < w3.heap.size := by have := g3.size; omega
              go_wp2_with fail
              refine wp_region_calm (by kernel_rfl) (by kernel_rfl) ?_
              repeat (go_big_quiet_step (fail))
              refine wpQuiet_nil ?_
              intro w4 g4
              have gB4 : Below w.heap.size wr w4 := gB3.trans (g4.mono (by have := g3.size; omega))
              clear t2 t4 t5
              have k4 := below_call (below_call k0 g3) g4
              have own4 := own_call (own_call hown g3) g4
              have hEA := Lib.hid (show addE o (z0, z1) = o by unfold addE; rw [hlast, if_pos rfl])
              go_wp2_with fail
              go_roundg g
              case measure => omega
              case rel => exact ⟨o, b', [], by simp only [List.length_cons, List.length_nil] at hg ⊢; omega, rT.below gB4, hQ.below gB4, by rw [HN.out]; exact own4, Lib.hid (by rw [← hEA.out]; exact HM.out), Lib.hid ⟨(fun u hu => hok.out.2.1 u (List.mem_cons_of_mem _ hu)), (fun u hu => by cases hu), by rw [HN.out]; omega⟩, k4⟩
            · have hne : ¬ ((z0, z1) : Tm) = (y0, y1) := by rcases hz with h | ⟨_, h⟩ <;> intro e <;> cases e <;> exact h rfl
              have hd : (z0 == y0) = false ∨ ((z0 == y0) = true ∧ (z1 == y1) = false) := by rcases hz with h | ⟨h, h'⟩; exact .inl (by simpa using h); exact .inr ⟨by simpa using h, by simpa using h'⟩
              clear hz
              rcases hd with v0 | ⟨v0, v1⟩
              all_goals
                go_wp2_with fail
                refine wp_region_calm (by kernel_rfl) (by kernel_rfl) ?_
                repeat (go_big_quiet_step (fail))
                refine wpQuiet_nil ?_
                intro w3 g3
                have gB3 : Below w.heap.size wr w3 := g3.mono k0.size
                have ka := k0.size
                have m0 := (gB3.cell (p := ⟨bp, op, none⟩) hbp).trans d0
                have m1 := (gB3.cell (p := ⟨bp, op + 1, none⟩) hbp).trans d1
                have lb3 : bp < w3.heap.size := by have := g3.size; omega
                have j0 := (g3.cell (p := ⟨bo, oo + no * 2, none⟩) hbo).trans e0
                have j1 := (g3.cell (p := ⟨bo, oo + no * 2 + 1, none⟩) hbo).trans e1
                have lo3 : bo < w3.heap.size := by have := g3.size; omega
                go_wp2_with fail
                refine wp_region_calm (by kernel_rfl) (by kernel_rfl) ?_
                repeat (go_big_quiet_step (fail))
                refine wpQuiet_nil ?_
                intro w4 g4
                have gB4 : Below w.heap.size wr w4 := gB3.trans (g4.mono (by have := g3.size; omega))
                clear t2 t4 t5
                have f0 := (gB4.cell (p := ⟨bp, op, none⟩) hbp).trans d0
                have f1 := (gB4.cell (p := ⟨bp, op + 1, none⟩) hbp).trans d1
                have lb4 : bp < w4.heap.size := by have := k0.size; have := g3.size; have := g4.size; omega
                have k4 := below_call (below_call k0 g3) g4
                have own4 := own_call (own_call hown g3) g4
                have hEA := Lib.hid (show addE o (y0, y1) = o ++ [(y0, y1)] by unfold addE; rw [hlast, if_neg (fun h => hne (Option.some.inj h))])
                go_wp2_with (at_builtin; (refine wpList_append_any _ rfl (.tmp 50) (.tmp 54) 88 rfl w.heap.size 45 i0 _ 2 16 Tryz.underlying88 hi0 hz0 hz1 hz2 rfl (by omega) _ (no + 1) (csT o) rfl (own_call own4 (below_alloc (Below.refl _ _) _)) (w4.heap.size + 1) (some ⟨w4.heap.size, 0, none⟩) 1 1 (csT [(y0, y1)]) rfl (Reads.newAt _ _ _ 1 2 _ rfl rfl) (one_csT _) (by simp only [maxLen]; omega) (by omega) (by have := k4.size; simp; omega) ?_); intro v5 w5 hown5 hg5 hat5)
                have k5 : Below w.heap.size w w5 := Below.grown (B := w.heap.size) (a := w) (below_alloc k4 _) hg5 (by have := k4.size; simp; omega) (fun q hq => (hown.lt q hq).1)
                have gB5 : Below w.heap.size wr w5 := Below.grown (B := w.heap.size) (a := wr) (gB4.alloc (by have := k4.size; omega) _) hg5 (by have := k4.size; simp; omega) (fun q hq => (hown.lt q hq).1)
                go_roundg g
                case measure => omega
                case rel => exact ⟨o ++ [(y0, y1)], b', [], by simp only [List.length_cons, List.length_nil] at hg ⊢; omega, rT.below gB5, hQ.below gB5, by rw [List.length_append, HN.out, csT_append]; exact hown5, Lib.hid (by rw [← hEA.out]; exact HM.out), Lib.hid ⟨(fun u hu => hok.out.2.1 u (List.mem_cons_of_mem _ hu)), (fun u hu => by cases hu), by rw [List.length_append, HN.out]; simp; omega⟩, k5⟩
      | cons x a' =>
        cases b' with
        | nil =>
          obtain ⟨A3, c3, rfl⟩ := r2.nil_form
          obtain ⟨bp, op, np, cp, hnp, rfl, hbp, d0, d1, A', c', rT, sT⟩ := r1.cons_form
          have HM := Lib.hid (show mrg g (addE o x) a' [] = mrgS a b by rw [← hm.out, mrg_stay rfl]; rfl)
          have hQ := r2
          obtain ⟨x0, x1⟩ := x
          have dn : ((np : Int) == 0) = false := beq_eq_false_iff_ne.2 (by omega)
          have dg : decide ((0 : Int) < (np : Int)) = true := decide_eq_true (by omega)
          have dt : (1 : Int) ≤ (np : Int) := by omega
          have dnb : (np : Int) ≤ 40001 := by simp only [List.length_cons, List.length_nil] at hg; omega
          simp only at d0 d1
          clear hm hnp r1 r2
          by_cases ho0 : N = 0
          · subst ho0
            have o0 : o = [] := List.eq_nil_of_length_eq_zero HN.out
            subst o0
            obtain ⟨Ao, co, hov, _, _, _⟩ := own_reads hown
            subst hov
            go_wp2_with fail
            refine wp_region_calm (by kernel_rfl) (by kernel_rfl) ?_
            repeat (go_big_quiet_step (fail))
            refine wpQuiet_nil ?_
            intro w3 g3
            have gB3 : Below w.heap.size wr w3 := g3.mono k0.size
            have ka := k0.size
            have m0 := (gB3.cell (p := ⟨bp, op, none⟩) hbp).trans d0
            have m1 := (gB3.cell (p := ⟨bp, op + 1, none⟩) hbp).trans d1
            have lb3 : bp < w3.heap.size := by have := g3.size; omega
            go_wp2_with fail
            refine wp_region_calm (by kernel_rfl) (by kernel_rfl) ?_
            repeat (go_big_quiet_step (fail))
            refine wpQuiet_nil ?_
            intro w4 g4
            have gB4 : Below w.heap.size wr w4 := gB3.trans (g4.mono (by have := g3.size; omega))
            have f0 := (gB4.cell (p := ⟨bp, op, none⟩) hbp).trans d0
            have f1 := (gB4.cell (p := ⟨bp, op + 1, none⟩) hbp).trans d1
            have lb4 : bp < w4.heap.size := by have := k0.size; have := g3.size; have := g4.size; omega
            have k4 := below_call (below_call k0 g3) g4
            have own4 := own_call (own_call hown g3) g4
            have hEA := Lib.hid (show addE [] (x0, x1) = [] ++ [(x0, x1)] by rfl)
            go_wp2_with (at_builtin; (refine wpList_append_any _ rfl (.tmp 50) (.tmp 54) 88 rfl w.heap.size 45 i0 _ 2 16 Tryz.underlying88 hi0 hz0 hz1 hz2 rfl (by omega) _ 0 (csT []) rfl (own_call own4 (below_alloc (Below.refl _ _) _)) (w4.heap.size + 1) (some ⟨w4.heap.size, 0, none⟩) 1 1 (csT [(x0, x1)]) rfl (Reads.newAt _ _ _ 1 2 _ rfl rfl) (one_csT _) (by simp only [maxLen]; omega) (by omega) (by have := k4.size; simp; omega) ?_); intro v5 w5 hown5 hg5 hat5)
            have k5 : Below w.heap.size w w5 := Below.grown (B := w.heap.size) (a := w) (below_alloc k4 _) hg5 (by have := k4.size; simp; omega) (fun q hq => (hown.lt q hq).1)
            have gB5 : Below w.heap.size wr w5 := Below.grown (B := w.heap.size) (a := wr) (gB4.alloc (by have := k4.size; omega) _) hg5 (by have := k4.size; simp; omega) (fun q hq => (hown.lt q hq).1)
            go_roundg g
            case measure => omega
            case rel => exact ⟨[] ++ [(x0, x1)], a', [], by simp only [List.length_cons, List.length_nil] at hg ⊢; omega, rT.below gB5, hQ.below gB5, by rw [csT_append]; exact hown5, Lib.hid (by rw [← hEA.out]; exact HM.out), Lib.hid ⟨(fun u hu => hok.out.1 u (List.mem_cons_of_mem _ hu)), (fun u hu => by cases hu), by simp; omega⟩, k5⟩
          · obtain ⟨no, rfl⟩ : ∃ no, N = no + 1 := ⟨N - 1, by omega⟩
            have dz : ((no : Int) + 1 == 0) = false := beq_eq_false_iff_ne.2 (by omega)
            obtain ⟨bo, oo, co, ⟨z0, z1⟩, hov, hbo, hlast, e0, e1⟩ := own_last hown
            subst hov
            have t2 : IntKind.i64.wrap (no : Int) = (no : Int) := IntWalk.i64_in _ (by omega)
            have t4 : (no : Int) < (no : Int) + 1 := by omega
            have t5 : (no : Int) ≤ 40000 := by omega
            simp only at e0 e1
            rcases two_parts z0 z1 x0 x1 with ⟨rfl, rfl⟩ | hz
            · go_wp2_with fail
              refine wp_region_calm (by kernel_rfl) (by kernel_rfl) ?_
              repeat (go_big_quiet_step (fail))
              refine wpQuiet_nil ?_
              intro w3 g3
              have gB3 : Below w.heap.size wr w3 := g3.mono k0.size
              have ka := k0.size
              have m0 := (gB3.cell (p := ⟨bp, op, none⟩) hbp).trans d0
              have m1 := (gB3.cell (p := ⟨bp, op + 1, none⟩) hbp).trans d1
              have lb3 : bp < w3.heap.size := by have := g3.size; omega
              have j0 := (g3.cell (p := ⟨bo, oo + no * 2, none⟩) hbo).trans e0
              have j1 := (g3.cell (p := ⟨bo, oo + no * 2 + 1, none⟩) hbo).trans e1
              have lo3 : bo < w3.heap.size := by have := g3.size; omega
              go_wp2_with fail
              refine wp_region_calm (by kernel_rfl) (by kernel_rfl) ?_
              repeat (go_big_quiet_step (fail))
              refine wpQuiet_nil ?_
              intro w4 g4
              have gB4 : Below w.heap.size wr w4 := gB3.trans (g4.mono (by have := g3.size; omega))
              clear t2 t4 t5
              have k4 := below_call (below_call k0 g3) g4
              have own4 := own_call (own_call hown g3) g4
              have hEA := Lib.hid (show addE o (z0, z1) = o by unfold addE; rw [hlast, if_pos rfl])
              go_wp2_with fail
              go_roundg g
              case measure => omega
              case rel => exact ⟨o, a', [], by simp only [List.length_cons, List.length_nil] at hg ⊢; omega, rT.below gB4, hQ.below gB4, by rw [HN.out]; exact own4, Lib.hid (by rw [← hEA.out]; exact HM.out), Lib.hid ⟨(fun u hu => hok.out.1 u (List.mem_cons_of_mem _ hu)), (fun u hu => by cases hu), by rw [HN.out]; omega⟩, k4⟩
            · have hne : ¬ ((z0, z1) : Tm) = (x0, x1) := by rcases hz with h | ⟨_, h⟩ <;> intro e <;> cases e <;> exact h rfl
              have hd : (z0 == x0) = false ∨ ((z0 == x0) = true ∧ (z1 == x1) = false) := by rcases hz with h | ⟨h, h'⟩; exact .inl (by simpa using h); exact .inr ⟨by simpa using h, by simpa using h'⟩
              clear hz
              rcases hd with v0 | ⟨v0, v1⟩
              all_goals
                go_wp2_with fail
                refine wp_region_calm (by kernel_rfl) (by kernel_rfl) ?_
                repeat (go_big_quiet_step (fail))
                refine wpQuiet_nil ?_
                intro w3 g3
                have gB3 : Below w.heap.size wr w3 := g3.mono k0.size
                have ka := k0.size
                have m0 := (gB3.cell (p := ⟨bp, op, none⟩) hbp).trans d0
                have m1 := (gB3.cell (p := ⟨bp, op + 1, none⟩) hbp).trans d1
                have lb3 : bp < w3.heap.size := by have := g3.size; omega
                have j0 := (g3.cell (p := ⟨bo, oo + no * 2, none⟩) hbo).trans e0
                have j1 := (g3.cell (p := ⟨bo, oo + no * 2 + 1, none⟩) hbo).trans e1
                have lo3 : bo < w3.heap.size := by have := g3.size; omega
                go_wp2_with fail
                refine wp_region_calm (by kernel_rfl) (by kernel_rfl) ?_
                repeat (go_big_quiet_step (fail))
                refine wpQuiet_nil ?_
                intro w4 g4
                have gB4 : Below w.heap.size wr w4 := gB3.trans (g4.mono (by have := g3.size; omega))
                clear t2 t4 t5
                have f0 := (gB4.cell (p := ⟨bp, op, none⟩) hbp).trans d0
                have f1 := (gB4.cell (p := ⟨bp, op + 1, none⟩) hbp).trans d1
                have lb4 : bp < w4.heap.size := by have := k0.size; have := g3.size; have := g4.size; omega
                have k4 := below_call (below_call k0 g3) g4
                have own4 := own_call (own_call hown g3) g4
                have hEA := Lib.hid (show addE o (x0, x1) = o ++ [(x0, x1)] by unfold addE; rw [hlast, if_neg (fun h => hne (Option.some.inj h))])
                go_wp2_with (at_builtin; (refine wpList_append_any _ rfl (.tmp 50) (.tmp 54) 88 rfl w.heap.size 45 i0 _ 2 16 Tryz.underlying88 hi0 hz0 hz1 hz2 rfl (by omega) _ (no + 1) (csT o) rfl (own_call own4 (below_alloc (Below.refl _ _) _)) (w4.heap.size + 1) (some ⟨w4.heap.size, 0, none⟩) 1 1 (csT [(x0, x1)]) rfl (Reads.newAt _ _ _ 1 2 _ rfl rfl) (one_csT _) (by simp only [maxLen]; omega) (by omega) (by have := k4.size; simp; omega) ?_); intro v5 w5 hown5 hg5 hat5)
                have k5 : Below w.heap.size w w5 := Below.grown (B := w.heap.size) (a := w) (below_alloc k4 _) hg5 (by have := k4.size; simp; omega) (fun q hq => (hown.lt q hq).1)
                have gB5 : Below w.heap.size wr w5 := Below.grown (B := w.heap.size) (a := wr) (gB4.alloc (by have := k4.size; omega) _) hg5 (by have := k4.size; simp; omega) (fun q hq => (hown.lt q hq).1)
                go_roundg g
                case measure => omega
                case rel => exact ⟨o ++ [(x0, x1)], a', [], by simp only [List.length_cons, List.length_nil] at hg ⊢; omega, rT.below gB5, hQ.below gB5, by rw [List.length_append, HN.out, csT_append]; exact hown5, Lib.hid (by rw [← hEA.out]; exact HM.out), Lib.hid ⟨(fun u hu => hok.out.1 u (List.mem_cons_of_mem _ hu)), (fun u hu => by cases hu), by rw [List.length_append, HN.out]; simp; omega⟩, k5⟩
        | cons y b' =>
          have hox := hok.out.1 x (by simp)
          have hoy := hok.out.2.1 y (by simp)
          have q1 := fun W => compare_any y x W
          have hc := cmp_lt hoy hox
          obtain ⟨r, hr⟩ : ∃ r, r = (cmpS y x).1 := ⟨_, rfl⟩
          rw [← hr] at q1 hc
          by_cases hyx : ltT y x
          · have dr : decide (r < 0) = true := by rw [hc]; simpa using hyx
            have HM := Lib.hid (show mrg g (addE o y) b' (x :: a') = mrgS a b by rw [← hm.out, mrg_swap (by simpa [swapB] using hyx)]; rfl)
            have hQ := r1
            obtain ⟨bq, oq, nq, cq, hnq, rfl, hbq, z0c, z1c, _, _, _, _⟩ := r1.cons_form
            obtain ⟨bp, op, np, cp, hnp, rfl, hbp, d0, d1, A', c', rT, sT⟩ := r2.cons_form
            obtain ⟨y0, y1⟩ := y
            obtain ⟨x0, x1⟩ := x
            have dn : ((np : Int) == 0) = false := beq_eq_false_iff_ne.2 (by omega)
            have dg : decide ((0 : Int) < (np : Int)) = true := decide_eq_true (by omega)
            have hbp2 : bp < wr.heap.size := Nat.lt_of_lt_of_le hbp k0.size
            have hbq2 : bq < wr.heap.size := Nat.lt_of_lt_of_le hbq k0.size
            have dgn : decide (0 < np) = true := decide_eq_true (by omega)
            have dgqn : decide (0 < nq) = true := decide_eq_true (by omega)
            have dnq : ((nq : Int) == 0) = false := beq_eq_false_iff_ne.2 (by omega)
            have dgq : decide ((0 : Int) < (nq : Int)) = true := decide_eq_true (by omega)
            have dt : (1 : Int) ≤ (np : Int) := by omega
            have dnb : (np : Int) + (nq : Int) ≤ 40002 := by simp only [List.length_cons] at hg; omega
            have dnc : (0 : Int) ≤ (np : Int) ∧ (np : Int) ≤ 40002 ∧ (nq : Int) ≤ 40002 := by omega
            have dtq : (0 : Int) < (nq : Int) := by omega
            simp only at d0 d1 z0c z1c q1
            clear hm hnp hnq r1 r2 hc hr hyx hox hoy
            by_cases ho0 : N = 0
            · subst ho0
              have o0 : o = [] := List.eq_nil_of_length_eq_zero HN.out
              subst o0
              obtain ⟨Ao, co, hov, _, _, _⟩ := own_reads hown
              subst hov
              go_wp2_with fail
              refine wp_region_calm (by kernel_rfl) (by kernel_rfl) ?_
              repeat (go_big_quiet_step ((go_at_call 74; exact calm_call (q1 _))))
              refine wpQuiet_nil ?_
              intro w3 g3
              have gB3 : Below w.heap.size wr w3 := g3.mono k0.size
              have ka := k0.size
              have m0 := (gB3.cell (p := ⟨bp, op, none⟩) hbp).trans d0
              have m1 := (gB3.cell (p := ⟨bp, op + 1, none⟩) hbp).trans d1
              have lb3 : bp < w3.heap.size := by have := g3.size; omega
              go_wp2_with fail
              refine wp_region_calm (by kernel_rfl) (by kernel_rfl) ?_
              repeat (go_big_quiet_step (fail))
              refine wpQuiet_nil ?_
              intro w4 g4
              have gB4 : Below w.heap.size wr w4 := gB3.trans (g4.mono (by have := g3.size; omega))
              have f0 := (gB4.cell (p := ⟨bp, op, none⟩) hbp).trans d0
              have f1 := (gB4.cell (p := ⟨bp, op + 1, none⟩) hbp).trans d1
              have lb4 : bp < w4.heap.size := by have := k0.size; have := g3.size; have := g4.size; omega
              have k4 := below_call (below_call k0 g3) g4
              have own4 := own_call (own_call hown g3) g4
              have hEA := Lib.hid (show addE [] (y0, y1) = [] ++ [(y0, y1)] by rfl)
              go_wp2_with (at_builtin; (refine wpList_append_any _ rfl (.tmp 50) (.tmp 54) 88 rfl w.heap.size 45 i0 _ 2 16 Tryz.underlying88 hi0 hz0 hz1 hz2 rfl (by omega) _ 0 (csT []) rfl (own_call own4 (below_alloc (Below.refl _ _) _)) (w4.heap.size + 1) (some ⟨w4.heap.size, 0, none⟩) 1 1 (csT [(y0, y1)]) rfl (Reads.newAt _ _ _ 1 2 _ rfl rfl) (one_csT _) (by simp only [maxLen]; omega) (by omega) (by have := k4.size; simp; omega) ?_); intro v5 w5 hown5 hg5 hat5)
              have k5 : Below w.heap.size w w5 := Below.grown (B := w.heap.size) (a := w) (below_alloc k4 _) hg5 (by have := k4.size; simp; omega) (fun q hq => (hown.lt q hq).1)
              have gB5 : Below w.heap.size wr w5 := Below.grown (B := w.heap.size) (a := wr) (gB4.alloc (by have := k4.size; omega) _) hg5 (by have := k4.size; simp; omega) (fun q hq => (hown.lt q hq).1)
              go_roundg g
              case measure => omega
              case rel => exact ⟨[] ++ [(y0, y1)], b', ((x0, x1) :: a'), by simp only [List.length_cons] at hg ⊢; omega, rT.below gB5, hQ.below gB5, by rw [csT_append]; exact hown5, Lib.hid (by rw [← hEA.out]; exact HM.out), Lib.hid ⟨(fun u hu => hok.out.2.1 u (List.mem_cons_of_mem _ hu)), hok.out.1, by simp; omega⟩, k5⟩
            · obtain ⟨no, rfl⟩ : ∃ no, N = no + 1 := ⟨N - 1, by omega⟩
              have dz : ((no : Int) + 1 == 0) = false := beq_eq_false_iff_ne.2 (by omega)
              obtain ⟨bo, oo, co, ⟨z0, z1⟩, hov, hbo, hlast, e0, e1⟩ := own_last hown
              subst hov
              have t2 : IntKind.i64.wrap (no : Int) = (no : Int) := IntWalk.i64_in _ (by omega)
              have t4 : (no : Int) < (no : Int) + 1 := by omega
              have t5 : (no : Int) ≤ 40000 := by omega
              simp only at e0 e1
              rcases two_parts z0 z1 y0 y1 with ⟨rfl, rfl⟩ | hz
              · go_wp2_with fail
                refine wp_region_calm (by kernel_rfl) (by kernel_rfl) ?_
                repeat (go_big_quiet_step ((go_at_call 74; exact calm_call (q1 _))))
                refine wpQuiet_nil ?_
                intro w3 g3
                have gB3 : Below w.heap.size wr w3 := g3.mono k0.size
                have ka := k0.size
                have m0 := (gB3.cell (p := ⟨bp, op, none⟩) hbp).trans d0
                have m1 := (gB3.cell (p := ⟨bp, op + 1, none⟩) hbp).trans d1
                have lb3 : bp < w3.heap.size := by have := g3.size; omega
                have j0 := (g3.cell (p := ⟨bo, oo + no * 2, none⟩) hbo).trans e0
                have j1 := (g3.cell (p := ⟨bo, oo + no * 2 + 1, none⟩) hbo).trans e1
                have lo3 : bo < w3.heap.size := by have := g3.size; omega
                go_wp2_with fail
                refine wp_region_calm (by kernel_rfl) (by kernel_rfl) ?_
                repeat (go_big_quiet_step (fail))
                refine wpQuiet_nil ?_
                intro w4 g4
                have gB4 : Below w.heap.size wr w4 := gB3.trans (g4.mono (by have := g3.size; omega))
                clear t2 t4 t5
                have k4 := below_call (below_call k0 g3) g4
                have own4 := own_call (own_call hown g3) g4
                have hEA := Lib.hid (show addE o (z0, z1) = o by unfold addE; rw [hlast, if_pos rfl])
                go_wp2_with fail
                go_roundg g
                case measure => omega
                case rel => exact ⟨o, b', ((x0, x1) :: a'), by simp only [List.length_cons] at hg ⊢; omega, rT.below gB4, hQ.below gB4, by rw [HN.out]; exact own4, Lib.hid (by rw [← hEA.out]; exact HM.out), Lib.hid ⟨(fun u hu => hok.out.2.1 u (List.mem_cons_of_mem _ hu)), hok.out.1, by rw [HN.out]; omega⟩, k4⟩
              · have hne : ¬ ((z0, z1) : Tm) = (y0, y1) := by rcases hz with h | ⟨_, h⟩ <;> intro e <;> cases e <;> exact h rfl
                have hd : (z0 == y0) = false ∨ ((z0 == y0) = true ∧ (z1 == y1) = false) := by rcases hz with h | ⟨h, h'⟩; exact .inl (by simpa using h); exact .inr ⟨by simpa using h, by simpa using h'⟩
                clear hz
                rcases hd with v0 | ⟨v0, v1⟩
                all_goals
                  go_wp2_with fail
                  refine wp_region_calm (by kernel_rfl) (by kernel_rfl) ?_
                  repeat (go_big_quiet_step ((go_at_call 74; exact calm_call (q1 _))))
                  refine wpQuiet_nil ?_
                  intro w3 g3
                  have gB3 : Below w.heap.size wr w3 := g3.mono k0.size
                  have ka := k0.size
                  have m0 := (gB3.cell (p := ⟨bp, op, none⟩) hbp).trans d0
                  have m1 := (gB3.cell (p := ⟨bp, op + 1, none⟩) hbp).trans d1
                  have lb3 : bp < w3.heap.size := by have := g3.size; omega
                  have j0 := (g3.cell (p := ⟨bo, oo + no * 2, none⟩) hbo).trans e0
                  have j1 := (g3.cell (p := ⟨bo, oo + no * 2 + 1, none⟩) hbo).trans e1
                  have lo3 : bo < w3.heap.size := by have := g3.size; omega
                  go_wp2_with fail
                  refine wp_region_calm (by kernel_rfl) (by kernel_rfl) ?_
                  repeat (go_big_quiet_step (fail))
                  refine wpQuiet_nil ?_
                  intro w4 g4
                  have gB4 : Below w.heap.size wr w4 := gB3.trans (g4.mono (by have := g3.size; omega))
                  clear t2 t4 t5
                  have f0 := (gB4.cell (p := ⟨bp, op, none⟩) hbp).trans d0
                  have f1 := (gB4.cell (p := ⟨bp, op + 1, none⟩) hbp).trans d1
                  have lb4 : bp < w4.heap.size := by have := k0.size; have := g3.size; have := g4.size; omega
                  have k4 := below_call (below_call k0 g3) g4
                  have own4 := own_call (own_call hown g3) g4
                  have hEA := Lib.hid (show addE o (y0, y1) = o ++ [(y0, y1)] by unfold addE; rw [hlast, if_neg (fun h => hne (Option.some.inj h))])
                  go_wp2_with (at_builtin; (refine wpList_append_any _ rfl (.tmp 50) (.tmp 54) 88 rfl w.heap.size 45 i0 _ 2 16 Tryz.underlying88 hi0 hz0 hz1 hz2 rfl (by omega) _ (no + 1) (csT o) rfl (own_call own4 (below_alloc (Below.refl _ _) _)) (w4.heap.size + 1) (some ⟨w4.heap.size, 0, none⟩) 1 1 (csT [(y0, y1)]) rfl (Reads.newAt _ _ _ 1 2 _ rfl rfl) (one_csT _) (by simp only [maxLen]; omega) (by omega) (by have := k4.size; simp; omega) ?_); intro v5 w5 hown5 hg5 hat5)
                  have k5 : Below w.heap.size w w5 := Below.grown (B := w.heap.size) (a := w) (below_alloc k4 _) hg5 (by have := k4.size; simp; omega) (fun q hq => (hown.lt q hq).1)
                  have gB5 : Below w.heap.size wr w5 := Below.grown (B := w.heap.size) (a := wr) (gB4.alloc (by have := k4.size; omega) _) hg5 (by have := k4.size; simp; omega) (fun q hq => (hown.lt q hq).1)
                  go_roundg g
                  case measure => omega
                  case rel => exact ⟨o ++ [(y0, y1)], b', ((x0, x1) :: a'), by simp only [List.length_cons] at hg ⊢; omega, rT.below gB5, hQ.below gB5, by rw [List.length_append, HN.out, csT_append]; exact hown5, Lib.hid (by rw [← hEA.out]; exact HM.out), Lib.hid ⟨(fun u hu => hok.out.2.1 u (List.mem_cons_of_mem _ hu)), hok.out.1, by rw [List.length_append, HN.out]; simp; omega⟩, k5⟩
          · have dr : decide (r < 0) = false := by rw [hc]; simpa using hyx
            have HM := Lib.hid (show mrg g (addE o x) a' (y :: b') = mrgS a b by rw [← hm.out, mrg_stay (by simpa [swapB] using hyx)]; rfl)
            have hQ := r2
            obtain ⟨bq, oq, nq, cq, hnq, rfl, hbq, z0c, z1c, _, _, _, _⟩ := r2.cons_form
            obtain ⟨bp, op, np, cp, hnp, rfl, hbp, d0, d1, A', c', rT, sT⟩ := r1.cons_form
            obtain ⟨y0, y1⟩ := y
            obtain ⟨x0, x1⟩ := x
            have dn : ((np : Int) == 0) = false := beq_eq_false_iff_ne.2 (by omega)
            have dg : decide ((0 : Int) < (np : Int)) = true := decide_eq_true (by omega)
            have hbp2 : bp < wr.heap.size := Nat.lt_of_lt_of_le hbp k0.size
            have hbq2 : bq < wr.heap.size := Nat.lt_of_lt_of_le hbq k0.size
            have dgn : decide (0 < np) = true := decide_eq_true (by omega)
            have dgqn : decide (0 < nq) = true := decide_eq_true (by omega)
            have dnq : ((nq : Int) == 0) = false := beq_eq_false_iff_ne.2 (by omega)
            have dgq : decide ((0 : Int) < (nq : Int)) = true := decide_eq_true (by omega)
            have dt : (1 : Int) ≤ (np : Int) := by omega
            have dnb : (np : Int) + (nq : Int) ≤ 40002 := by simp only [List.length_cons] at hg; omega
            have dnc : (0 : Int) ≤ (np : Int) ∧ (np : Int) ≤ 40002 ∧ (nq : Int) ≤ 40002 := by omega
            have dtq : (0 : Int) < (nq : Int) := by omega
            simp only at d0 d1 z0c z1c q1
            clear hm hnp hnq r1 r2 hc hr hyx hox hoy
            by_cases ho0 : N = 0
            · subst ho0
              have o0 : o = [] := List.eq_nil_of_length_eq_zero HN.out
              subst o0
              obtain ⟨Ao, co, hov, _, _, _⟩ := own_reads hown
              subst hov
              go_wp2_with fail
              refine wp_region_calm (by kernel_rfl) (by kernel_rfl) ?_
              repeat (go_big_quiet_step ((go_at_call 74; exact calm_call (q1 _))))
              refine wpQuiet_nil ?_
              intro w3 g3
              have gB3 : Below w.heap.size wr w3 := g3.mono k0.size
              have ka := k0.size
              have m0 := (gB3.cell (p := ⟨bp, op, none⟩) hbp).trans d0
              have m1 := (gB3.cell (p := ⟨bp, op + 1, none⟩) hbp).trans d1
              have lb3 : bp < w3.heap.size := by have := g3.size; omega
              go_wp2_with fail
              refine wp_region_calm (by kernel_rfl) (by kernel_rfl) ?_
              repeat (go_big_quiet_step (fail))
              refine wpQuiet_nil ?_
              intro w4 g4
              have gB4 : Below w.heap.size wr w4 := gB3.trans (g4.mono (by have := g3.size; omega))
              have f0 := (gB4.cell (p := ⟨bp, op, none⟩) hbp).trans d0
              have f1 := (gB4.cell (p := ⟨bp, op + 1, none⟩) hbp).trans d1
              have lb4 : bp < w4.heap.size := by have := k0.size; have := g3.size; have := g4.size; omega
              have k4 := below_call (below_call k0 g3) g4
              have own4 := own_call (own_call hown g3) g4
              have hEA := Lib.hid (show addE [] (x0, x1) = [] ++ [(x0, x1)] by rfl)
              go_wp2_with (at_builtin; (refine wpList_append_any _ rfl (.tmp 50) (.tmp 54) 88 rfl w.heap.size 45 i0 _ 2 16 Tryz.underlying88 hi0 hz0 hz1 hz2 rfl (by omega) _ 0 (csT []) rfl (own_call own4 (below_alloc (Below.refl _ _) _)) (w4.heap.size + 1) (some ⟨w4.heap.size, 0, none⟩) 1 1 (csT [(x0, x1)]) rfl (Reads.newAt _ _ _ 1 2 _ rfl rfl) (one_csT _) (by simp only [maxLen]; omega) (by omega) (by have := k4.size; simp; omega) ?_); intro v5 w5 hown5 hg5 hat5)
              have k5 : Below w.heap.size w w5 := Below.grown (B := w.heap.size) (a := w) (below_alloc k4 _) hg5 (by have := k4.size; simp; omega) (fun q hq => (hown.lt q hq).1)
              have gB5 : Below w.heap.size wr w5 := Below.grown (B := w.heap.size) (a := wr) (gB4.alloc (by have := k4.size; omega) _) hg5 (by have := k4.size; simp; omega) (fun q hq => (hown.lt q hq).1)
              go_roundg g
              case measure => omega
              case rel => exact ⟨[] ++ [(x0, x1)], a', ((y0, y1) :: b'), by simp only [List.length_cons] at hg ⊢; omega, rT.below gB5, hQ.below gB5, by rw [csT_append]; exact hown5, Lib.hid (by rw [← hEA.out]; exact HM.out), Lib.hid ⟨(fun u hu => hok.out.1 u (List.mem_cons_of_mem _ hu)), hok.out.2.1, by simp; omega⟩, k5⟩
            · obtain ⟨no, rfl⟩ : ∃ no, N = no + 1 := ⟨N - 1, by omega⟩
              have dz : ((no : Int) + 1 == 0) = false := beq_eq_false_iff_ne.2 (by omega)
              obtain ⟨bo, oo, co, ⟨z0, z1⟩, hov, hbo, hlast, e0, e1⟩ := own_last hown
              subst hov
              have t2 : IntKind.i64.wrap (no : Int) = (no : Int) := IntWalk.i64_in _ (by omega)
              have t4 : (no : Int) < (no : Int) + 1 := by omega
              have t5 : (no : Int) ≤ 40000 := by omega
              simp only at e0 e1
              rcases two_parts z0 z1 x0 x1 with ⟨rfl, rfl⟩ | hz
              · go_wp2_with fail
                refine wp_region_calm (by kernel_rfl) (by kernel_rfl) ?_
                repeat (go_big_quiet_step ((go_at_call 74; exact calm_call (q1 _))))
                refine wpQuiet_nil ?_
                intro w3 g3
                have gB3 : Below w.heap.size wr w3 := g3.mono k0.size
                have ka := k0.size
                have m0 := (gB3.cell (p := ⟨bp, op, none⟩) hbp).trans d0
                have m1 := (gB3.cell (p := ⟨bp, op + 1, none⟩) hbp).trans d1
                have lb3 : bp < w3.heap.size := by have := g3.size; omega
                have j0 := (g3.cell (p := ⟨bo, oo + no * 2, none⟩) hbo).trans e0
                have j1 := (g3.cell (p := ⟨bo, oo + no * 2 + 1, none⟩) hbo).trans e1
                have lo3 : bo < w3.heap.size := by have := g3.size; omega
                go_wp2_with fail
                refine wp_region_calm (by kernel_rfl) (by kernel_rfl) ?_
                repeat (go_big_quiet_step (fail))
                refine wpQuiet_nil ?_
                intro w4 g4
                have gB4 : Below w.heap.size wr w4 := gB3.trans (g4.mono (by have := g3.size; omega))
                clear t2 t4 t5
                have k4 := below_call (below_call k0 g3) g4
                have own4 := own_call (own_call hown g3) g4
                have hEA := Lib.hid (show addE o (z0, z1) = o by unfold addE; rw [hlast, if_pos rfl])
                go_wp2_with fail
                go_roundg g
                case measure => omega
                case rel => exact ⟨o, a', ((y0, y1) :: b'), by simp only [List.length_cons] at hg ⊢; omega, rT.below gB4, hQ.below gB4, by rw [HN.out]; exact own4, Lib.hid (by rw [← hEA.out]; exact HM.out), Lib.hid ⟨(fun u hu => hok.out.1 u (List.mem_cons_of_mem _ hu)), hok.out.2.1, by rw [HN.out]; omega⟩, k4⟩
              · have hne : ¬ ((z0, z1) : Tm) = (x0, x1) := by rcases hz with h | ⟨_, h⟩ <;> intro e <;> cases e <;> exact h rfl
                have hd : (z0 == x0) = false ∨ ((z0 == x0) = true ∧ (z1 == x1) = false) := by rcases hz with h | ⟨h, h'⟩; exact .inl (by simpa using h); exact .inr ⟨by simpa using h, by simpa using h'⟩
                clear hz
                rcases hd with v0 | ⟨v0, v1⟩
                all_goals
                  go_wp2_with fail
                  refine wp_region_calm (by kernel_rfl) (by kernel_rfl) ?_
                  repeat (go_big_quiet_step ((go_at_call 74; exact calm_call (q1 _))))
                  refine wpQuiet_nil ?_
                  intro w3 g3
                  have gB3 : Below w.heap.size wr w3 := g3.mono k0.size
                  have ka := k0.size
                  have m0 := (gB3.cell (p := ⟨bp, op, none⟩) hbp).trans d0
                  have m1 := (gB3.cell (p := ⟨bp, op + 1, none⟩) hbp).trans d1
                  have lb3 : bp < w3.heap.size := by have := g3.size; omega
                  have j0 := (g3.cell (p := ⟨bo, oo + no * 2, none⟩) hbo).trans e0
                  have j1 := (g3.cell (p := ⟨bo, oo + no * 2 + 1, none⟩) hbo).trans e1
                  have lo3 : bo < w3.heap.size := by have := g3.size; omega
                  go_wp2_with fail
                  refine wp_region_calm (by kernel_rfl) (by kernel_rfl) ?_
                  repeat (go_big_quiet_step (fail))
                  refine wpQuiet_nil ?_
                  intro w4 g4
                  have gB4 : Below w.heap.size wr w4 := gB3.trans (g4.mono (by have := g3.size; omega))
                  clear t2 t4 t5
                  have f0 := (gB4.cell (p := ⟨bp, op, none⟩) hbp).trans d0
                  have f1 := (gB4.cell (p := ⟨bp, op + 1, none⟩) hbp).trans d1
                  have lb4 : bp < w4.heap.size := by have := k0.size; have := g3.size; have := g4.size; omega
                  have k4 := below_call (below_call k0 g3) g4
                  have own4 := own_call (own_call hown g3) g4
                  have hEA := Lib.hid (show addE o (x0, x1) = o ++ [(x0, x1)] by unfold addE; rw [hlast, if_neg (fun h => hne (Option.some.inj h))])
                  go_wp2_with (at_builtin; (refine wpList_append_any _ rfl (.tmp 50) (.tmp 54) 88 rfl w.heap.size 45 i0 _ 2 16 Tryz.underlying88 hi0 hz0 hz1 hz2 rfl (by omega) _ (no + 1) (csT o) rfl (own_call own4 (below_alloc (Below.refl _ _) _)) (w4.heap.size + 1) (some ⟨w4.heap.size, 0, none⟩) 1 1 (csT [(x0, x1)]) rfl (Reads.newAt _ _ _ 1 2 _ rfl rfl) (one_csT _) (by simp only [maxLen]; omega) (by omega) (by have := k4.size; simp; omega) ?_); intro v5 w5 hown5 hg5 hat5)
                  have k5 : Below w.heap.size w w5 := Below.grown (B := w.heap.size) (a := w) (below_alloc k4 _) hg5 (by have := k4.size; simp; omega) (fun q hq => (hown.lt q hq).1)
                  have gB5 : Below w.heap.size wr w5 := Below.grown (B := w.heap.size) (a := wr) (gB4.alloc (by have := k4.size; omega) _) hg5 (by have := k4.size; simp; omega) (fun q hq => (hown.lt q hq).1)
                  go_roundg g
                  case measure => omega
                  case rel => exact ⟨o ++ [(x0, x1)], a', ((y0, y1) :: b'), by simp only [List.length_cons] at hg ⊢; omega, rT.below gB5, hQ.below gB5, by rw [List.length_append, HN.out, csT_append]; exact hown5, Lib.hid (by rw [← hEA.out]; exact HM.out), Lib.hid ⟨(fun u hu => hok.out.1 u (List.mem_cons_of_mem _ hu)), hok.out.2.1, by rw [List.length_append, HN.out]; simp; omega⟩, k5⟩
end Go.Proofs.YtpkmiegccfhpnaaGreatDoor
namespace Go.Proofs.YtpkmiegccfhpnaaGreatDoor
open Go.RowKit
def cI (n : Int) : List Value := [.int .i64 n]
def csN (l : List Int) : List Value := l.flatMap cI
theorem csN_append (l m : List Int) : csN (l ++ m) = csN l ++ csN m := by unfold csN; rw [List.flatMap_append]
theorem one_csN (l : List Int) : ∀ u ∈ csN l, u.oneCell' = true := by
  intro u hu
  obtain ⟨t, _, ht⟩ := List.mem_flatMap.1 hu
  simp [cI] at ht
  subst ht; rfl
set_option maxRecDepth 100000 in
theorem num_info : (Tryz.prog.info? 3).map (fun i => (i.zero, i.size, i.bytes)) = some (some (.int .i64 0), 1, 8) := by kernel_rfl
set_option maxRecDepth 100000 in
theorem sl_info : (Tryz.prog.info? 85).map (fun i => (i.zero, i.size, i.bytes)) = some (some (.agg #[.int .i64 0, .int .i64 0, .int .i64 0, .int .i64 0, .slice none 0 0]), 5, 56) := by kernel_rfl
/-- A slice in memory: its times, the place of its events. -/
def cS (p : Sl × Pl) : List Value := [.int .i64 p.1.at_.1, .int .i64 p.1.at_.2, .int .i64 p.1.dur.1, .int .i64 p.1.dur.2, .slice p.2.1 p.2.2.1 p.2.2.2]
def csS (l : List (Sl × Pl)) : List Value := l.flatMap cS
theorem csS_append (l m : List (Sl × Pl)) : csS (l ++ m) = csS l ++ csS m := by unfold csS; rw [List.flatMap_append]
/-- A row of another type stands where a row is appended to. -/
theorem own_far {w w' : World} {base base2 size size2 n n2 : Nat} {e e2 : TypeId} {v v2 : Value} {xs xs2 : List Value} (h : w.ownsRow base e size v n xs) (h2 : w.ownsRow base2 e2 size2 v2 n2 xs2) (hg : w.grownBy w' v2.ownBlock) (hne : e ≠ e2) : w'.ownsRow base e size v n xs := by
  have hl := h.lt
  obtain ⟨h1, h3⟩ := h
  refine ⟨h1, ?_⟩
  rcases h3 with h3 | ⟨g, cap, cur, hv, hb, hh, rest⟩
  · exact .inl h3
  · refine .inr ⟨g, cap, cur, hv, hb, ?_, rest⟩
    rw [hg.block g (hl g (by rw [hv]; rfl)).2 ?_]
    · exact hh
    · intro heq
      obtain ⟨_, h4⟩ := h2
      rcases h4 with ⟨rfl, _⟩ | ⟨g2, cap2, cur2, hv2, _, hh2, _⟩
      · cases heq
      · rw [hv2] at heq
        cases heq
        rw [hh] at hh2
        cases hh2
        exact hne rfl
/-- The events of slices lie where they are said to lie, in rows of the call's own. -/
def EvsAt (w : World) (base : Nat) (ps : List (Sl × Pl)) : Prop := ∀ p ∈ ps, p.1.evs.length = p.2.2.1 ∧ w.ownsRow base 3 1 (.slice p.2.1 p.2.2.1 p.2.2.2) p.2.2.1 (csN p.1.evs)
theorem EvsAt.kept {w W : World} {base : Nat} {ps : List (Sl × Pl)} (h : EvsAt w base ps) (hb : Below w.heap.size w W) : EvsAt W base ps := fun p hp => ⟨(h p hp).1, own_call (h p hp).2 hb⟩
theorem EvsAt.far {w W : World} {base base2 size2 n2 : Nat} {e2 : TypeId} {v2 : Value} {xs2 : List Value} {ps : List (Sl × Pl)} (h : EvsAt w base ps) (h2 : w.ownsRow base2 e2 size2 v2 n2 xs2) (hg : w.grownBy W v2.ownBlock) (hne : 3 ≠ e2) : EvsAt W base ps := fun p hp => ⟨(h p hp).1, own_far (h p hp).2 h2 hg hne⟩
theorem EvsAt.reads {w : World} {base : Nat} {ps : List (Sl × Pl)} (h : EvsAt w base ps) {p : Sl × Pl} (hp : p ∈ ps) : p.1.evs.length = p.2.2.1 ∧ Reads w w.heap.size 1 p.2.1 p.2.2.1 (csN p.1.evs) := by
  obtain ⟨h1, h2⟩ := h p hp
  obtain ⟨A, c, e, hr, _, _⟩ := own_reads h2
  cases e
  exact ⟨h1, hr⟩
/-- A value reads as a list of slices; the call's own row. -/
def EvsR (w : World) (B : Nat) (ps : List (Sl × Pl)) : Prop := ∀ p ∈ ps, p.1.evs.length = p.2.2.1 ∧ Reads w B 1 p.2.1 p.2.2.1 (csN p.1.evs)
def ReadsS (w : World) (B : Nat) (A : Option Addr) (n : Nat) (l : List Sl) : Prop := ∃ ps : List (Sl × Pl), ps.map (·.1) = l ∧ Reads w B 5 A n (csS ps) ∧ EvsR w B ps
def OwnS (w : World) (base : Nat) (v : Value) (l : List Sl) : Prop := ∃ ps : List (Sl × Pl), ps.map (·.1) = l ∧ w.ownsRow base 85 5 v l.length (csS ps) ∧ EvsAt w base ps
theorem OwnS.nil_ (w : World) (base : Nat) : OwnS w base (.slice none 0 0) [] := ⟨[], rfl, ⟨rfl, .inl ⟨rfl, rfl⟩⟩, fun p hp => by cases hp⟩
theorem OwnS.kept {w W : World} {base : Nat} {v : Value} {l : List Sl} (h : OwnS w base v l) (hb : Below w.heap.size w W) : OwnS W base v l := by
  obtain ⟨ps, h1, h2, h3⟩ := h
  exact ⟨ps, h1, own_call h2 hb, h3.kept hb⟩
theorem OwnS.reads {w : World} {base : Nat} {v : Value} {l : List Sl} (h : OwnS w base v l) : ∃ A c, v = .slice A l.length c ∧ ReadsS w w.heap.size A l.length l := by
  obtain ⟨ps, h1, h2, h3⟩ := h
  obtain ⟨A, c, e, hr, _, _⟩ := own_reads h2
  exact ⟨A, c, e, ps, h1, hr, fun p hp => h3.reads hp⟩
theorem ReadsS.below {w W : World} {B n : Nat} {A : Option Addr} {l : List Sl} (h : ReadsS w B A n l) (hB : B ≤ w.heap.size) (hb : Below w.heap.size w W) : ReadsS W B A n l := by
  obtain ⟨ps, h1, h2, h3⟩ := h
  exact ⟨ps, h1, h2.below hB hb, fun p hp => ⟨(h3 p hp).1, (h3 p hp).2.below hB hb⟩⟩
theorem ReadsS.len {w : World} {B n : Nat} {A : Option Addr} {l : List Sl} (h : ReadsS w B A n l) : l.length = n := by
  obtain ⟨ps, h1, h2, _⟩ := h
  rw [← h1, List.length_map]
  exact h2.len (size := 5) (l := ps) (f := cS) (fun _ => rfl) (by decide)
theorem own_lower {w : World} {base base2 size n : Nat} {e : TypeId} {v : Value} {xs : List Value} (h : w.ownsRow base e size v n xs) (hb : base2 ≤ base) : w.ownsRow base2 e size v n xs := by
  obtain ⟨h1, h2⟩ := h
  refine ⟨h1, ?_⟩
  rcases h2 with h2 | ⟨g, cap, cur, hv, hg, rest⟩
  · exact .inl h2
  · exact .inr ⟨g, cap, cur, hv, by omega, rest⟩
/-- A store ahead of the row. -/
theorem own_set {w : World} {base size n : Nat} {e : TypeId} {v u : Value} {xs : List Value} {p : Addr} (h : w.ownsRow base e size v n xs) (hp : p.block < base) : (w.setCell p u).ownsRow base e size v n xs := by
  obtain ⟨h1, h2⟩ := h
  refine ⟨h1, ?_⟩
  rcases h2 with h2 | ⟨g, cap, cur, hv, hg, hh, rest⟩
  · exact .inl h2
  · exact .inr ⟨g, cap, cur, hv, hg, by rw [Below.heap_setCell w p u g (by omega)]; exact hh, rest⟩
theorem OwnS.lower {w : World} {base base2 : Nat} {v : Value} {l : List Sl} (h : OwnS w base v l) (hb : base2 ≤ base) : OwnS w base2 v l := by
  obtain ⟨ps, h1, h2, h3⟩ := h
  exact ⟨ps, h1, own_lower h2 hb, fun p hp => ⟨(h3 p hp).1, own_lower (h3 p hp).2 hb⟩⟩
/-- One more slice behind a row of slices. -/
theorem OwnS.snoc {w w' : World} {base k : Nat} {v v' : Value} {l : List Sl} {ps : List (Sl × Pl)} {p : Sl × Pl} (hps : ps.map (·.1) = l) (hk : l.length = k) (hrow : w'.ownsRow base 85 5 v' (k + 1) (csS ps ++ csS [p])) (h0 : w.ownsRow base 85 5 v k (csS ps))
    (he : EvsAt w base ps) (hp : p.1.evs.length = p.2.2.1 ∧ w.ownsRow base 3 1 (.slice p.2.1 p.2.2.1 p.2.2.2) p.2.2.1 (csN p.1.evs)) (hg : w.grownBy w' v.ownBlock) : OwnS w' base v' (l ++ [p.1]) := by
  refine ⟨ps ++ [p], by simp [hps], by rw [List.length_append, hk, csS_append]; exact hrow, fun q hq => ?_⟩
  rcases List.mem_append.1 hq with hq | hq
  · exact ⟨(he q hq).1, own_far (he q hq).2 h0 hg (by decide)⟩
  · rw [List.mem_singleton.1 hq]
    exact ⟨hp.1, own_far hp.2 h0 hg (by decide)⟩
end Go.Proofs.YtpkmiegccfhpnaaGreatDoor
