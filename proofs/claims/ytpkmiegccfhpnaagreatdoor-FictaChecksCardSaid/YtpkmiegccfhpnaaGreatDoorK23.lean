/- Parts of the proofs of layer 31: FiChk, FiLaw, FiAwake. -/
import Derived.Test.YtpkmiegccfhpnaaGreatDoorK22
import Derived.Test.YtpkmiegccfhpnaaGreatDoorK03
namespace Go.Proofs.YtpkmiegccfhpnaaGreatDoor
open Go.RowKit Go.Maps
/-- The proposal ahead of number k. -/
def prevF (L : List Fic) (k : Nat) : Option Fic := if k = 0 then none else L[k - 1]?
theorem prevF_next {L : List Fic} {k : Nat} {x : Fic} (h : L[k]? = some x) : prevF L (k + 1) = some x := by unfold prevF; rw [if_neg (by omega), Nat.add_sub_cancel]; exact h
theorem chkF_bad {l : List (List Ev)} {p : Option Fic} {x : Fic} {i r : Int} {L : List Fic} (h : oneF l p x = r) (hr : r ≠ 0) : chkF l p i (x :: L) = (r, i) := by unfold chkF; rw [h, if_pos hr]
theorem chkF_next {l : List (List Ev)} {p : Option Fic} {x : Fic} {i : Int} {L : List Fic} (h : oneF l p x = 0) : chkF l p i (x :: L) = chkF l (some x) (i + 1) L := by
  conv => lhs; unfold chkF
  rw [if_neg (fun hh => hh h)]
theorem one_out {l : List (List Ev)} {p : Option Fic} {x : Fic} (h : inF l x = false) : oneF l p x = 2 := by unfold oneF; rw [if_pos h]
theorem one_form {l : List (List Ev)} {p : Option Fic} {x : Fic} (h : inF l x = true) (h2 : freeB l (x.1, x.2.1) = false ∨ (x.2.2.1 ≠ -1 ∧ x.2.2.1 ≠ 1)) : oneF l p x = 3 := by unfold oneF; rw [if_neg (by rw [h]; simp), if_pos h2]
theorem one_kind {l : List (List Ev)} {p : Option Fic} {x : Fic} (h : inF l x = true) (h2 : ¬ (freeB l (x.1, x.2.1) = false ∨ (x.2.2.1 ≠ -1 ∧ x.2.2.1 ≠ 1))) (h3 : x.2.2.2 < 1 ∨ 3 < x.2.2.2) : oneF l p x = 8 := by unfold oneF; rw [if_neg (by rw [h]; simp), if_neg h2, if_pos h3]
theorem one_last {l : List (List Ev)} {p : Option Fic} {x : Fic} (h : inF l x = true) (h2 : ¬ (freeB l (x.1, x.2.1) = false ∨ (x.2.2.1 ≠ -1 ∧ x.2.2.1 ≠ 1))) (h3 : ¬ (x.2.2.2 < 1 ∨ 3 < x.2.2.2)) : oneF l p x = match p with
    | some y => if lessF y x then 0 else 6
    | none => 0 := by unfold oneF; rw [if_neg (by rw [h]; simp), if_neg h2, if_neg h3]; cases p <;> rfl
theorem ord_less (a b c d : Int) : decide (0 ≤ orS [cmp3 a c, cmp3 b d]) = !decide (a < c ∨ a = c ∧ b < d) := by
  unfold orS orS orS cmp3
  rw [Bool.eq_iff_iff]
  simp only [decide_eq_true_eq, Bool.not_eq_true', decide_eq_false_iff_not]
  (repeat' split) <;> omega
set_option maxRecDepth 100000 in
set_option maxHeartbeats 8000000 in
theorem fcheck_ok {w : World} (A : Option Addr) (n c : Nat) (l : List (List Ev)) (B : Nat) (hV : ReadsV w B A n l) (hB : B ≤ w.heap.size) (hn : n ≤ 1000) (A2 : Option Addr) (m c2 : Nat) (L : List Fic) (B2 : Nat) (h2 : Reads w B2 4 A2 m (csFic L)) (hB2 : B2 ≤ w.heap.size) (hm : m ≤ 1000000) :
    Calls Tryz.prog 13 #[.slice A n c, .slice A2 m c2] w fun e w' => e = .returned (.tuple #[.int .i64 (checkF l L).1, .int .i64 (checkF l L).2]) ∧ Below w.heap.size w w' := by
  have qs := slices_any A n c l B w hV hB (by omega)
  by_cases hs : (slicesE l).2 = 0
  · have E := Lib.hid (show checkF l L = chkF l none 0 L by unfold checkF; rw [if_neg (fun h => h hs)])
    rw [hs] at qs
    rw [E.out]
    have HV := Lib.hid hV
    have HR2 := Lib.hid h2
    have HLN := Lib.hid hV.len
    have HLM := Lib.hid (show L.length = m from h2.len (size := 4) (l := L) (f := cFic) (fun _ => rfl) (by decide))
    clear hV h2 hs E
    go_enter Tryz.func13, Tryz.ntmps13
    go_wp2_with fail
    refine qs.mono ?_
    rintro e w1 ⟨v, rfl, ho, hb1⟩
    clear qs ho
    go_wp2_with fail
    go_loopg [8, 9, 20] m (fun gh _ _ i wr => ∃ k : Nat, k + gh = m ∧ i = .int .i64 (k : Int) ∧ Below w.heap.size w wr ∧ Hid (chkF l (prevF L k) (k : Int) (L.drop k) = chkF l none 0 L))
    case atStart => exact ⟨0, by omega, by simp, hb1, Lib.hid rfl⟩
    case round =>
      clear hb1
      obtain ⟨k, hkg, rfl, kr, hE⟩ := hrel
      have wk : IntKind.i64.wrap ((k : Int) + 1) = (k : Int) + 1 := IntWalk.i64_in _ (by omega)
      cases gk with
      | zero =>
        have hk : k = m := by omega
        have d0 : ¬ ((k : Int) < (m : Int)) := by omega
        have HB := Lib.hid (show chkF l none 0 L = (0, 0) by rw [← hE.out, List.drop_of_length_le (by have := HLM.out; omega)]; rfl)
        clear hE hkg hk
        go_wp2
        refine ret_of (by simp [results, Tryz.results13, go_sem, *]; repeat' (first | rfl | apply And.intro)) rfl ⟨?_, kr⟩
        rw [HB.out]
      | succ gh =>
        have hkm : k < m := by omega
        have d0 : (k : Int) < (m : Int) := by omega
        obtain ⟨⟨x1, x2, x3, x4⟩, hx⟩ := get_some (l := L) (k := k) (by have := HLM.out; omega)
        obtain ⟨bf, off, hA2, hbf, hcf⟩ := Reads.elem (f := cFic) (fun _ => rfl) (HR2.out.below hB2 kr) hkm hx
        subst hA2
        have e0 := hcf 0 _ rfl
        have e1 := hcf 1 _ rfl
        have e2 := hcf 2 _ rfl
        have e3 := hcf 3 _ rfl
        simp only [Nat.add_zero, ← Nat.add_assoc] at e0 e1 e2 e3
        have lbf : bf < wr.heap.size := by have := kr.size; omega
        have HD := Lib.hid (drop_get hx)
        have HX := Lib.hid hx
        clear hx hcf
        by_cases c1 : x1 < 0
        · have HOUT := Lib.hid (show inF l (x1, x2, x3, x4) = false by unfold inF; rw [decide_eq_false]; simp only; omega)
          have t1 : decide (x1 < 0) = true := decide_eq_true c1
          have HB := Lib.hid (show chkF l none 0 L = (2, (k : Int)) by rw [← hE.out, HD.out]; exact chkF_bad (one_out HOUT.out) (by decide))
          clear HOUT
          go_wp2_with fail
          obtain ⟨w5, hw5⟩ : ∃ z, z = wr.alloc (.cells #[.int .i64 x1, .int .i64 x2, .int .i64 x3, .int .i64 x4] 39) := ⟨_, rfl⟩
          have k5 : Below wr.heap.size wr w5 := by rw [hw5]; repeat (first | with_reducible exact Below.refl _ _ | with_reducible assumption | with_reducible refine below_drewN ?_ _ | with_reducible refine Below.drew ?_ | with_reducible refine below_alloc ?_ _ | (with_reducible refine Below.setCell ?_ ?_ _; rotate_left; ((try simp only); omega)))
          have b5 : Blk w5 wr.heap.size 39 #[.int .i64 x1, .int .i64 x2, .int .i64 x3, .int .i64 x4] := by rw [hw5]; exact Blk.new _ _ _
          have kr5 := below_call kr k5
          rw [← hw5]
          have f0 := b5.cell 0
          have f1 := b5.cell 1
          have lf := b5.lt
          simp only [List.getElem?_toArray, List.getElem?_cons_zero, List.getElem?_cons_succ] at f0 f1
          clear e0 e1 e2 e3 kr
          clear c1
          refine wp_region_calm (by kernel_rfl) (by kernel_rfl) ?_
          repeat (go_big_quiet_step (fail))
          refine wpQuiet_nil ?_
          intro wd gd
          have krd := below_call kr5 gd
          go_wp2
          refine ret_of (by simp [results, Tryz.results13, go_sem, *]; repeat' (first | rfl | apply And.intro)) rfl ⟨?_, by repeat (first | with_reducible exact Below.refl _ _ | with_reducible assumption | with_reducible refine below_drewN ?_ _ | with_reducible refine Below.drew ?_ | with_reducible refine below_alloc ?_ _ | (with_reducible refine Below.setCell ?_ ?_ _; rotate_left; ((try simp only); omega)))⟩
          rw [HB.out]
        · have t1 : decide (x1 < 0) = false := decide_eq_false c1
          by_cases c2 : (n : Int) ≤ x1
          · have HOUT := Lib.hid (show inF l (x1, x2, x3, x4) = false by unfold inF; rw [decide_eq_false]; simp only; have := HLN.out; omega)
            have t2 : decide ((n : Int) ≤ x1) = true := decide_eq_true c2
            have HB := Lib.hid (show chkF l none 0 L = (2, (k : Int)) by rw [← hE.out, HD.out]; exact chkF_bad (one_out HOUT.out) (by decide))
            clear HOUT
            go_wp2_with fail
            obtain ⟨w5, hw5⟩ : ∃ z, z = wr.alloc (.cells #[.int .i64 x1, .int .i64 x2, .int .i64 x3, .int .i64 x4] 39) := ⟨_, rfl⟩
            have k5 : Below wr.heap.size wr w5 := by rw [hw5]; repeat (first | with_reducible exact Below.refl _ _ | with_reducible assumption | with_reducible refine below_drewN ?_ _ | with_reducible refine Below.drew ?_ | with_reducible refine below_alloc ?_ _ | (with_reducible refine Below.setCell ?_ ?_ _; rotate_left; ((try simp only); omega)))
            have b5 : Blk w5 wr.heap.size 39 #[.int .i64 x1, .int .i64 x2, .int .i64 x3, .int .i64 x4] := by rw [hw5]; exact Blk.new _ _ _
            have kr5 := below_call kr k5
            rw [← hw5]
            have f0 := b5.cell 0
            have f1 := b5.cell 1
            have lf := b5.lt
            simp only [List.getElem?_toArray, List.getElem?_cons_zero, List.getElem?_cons_succ] at f0 f1
            clear e0 e1 e2 e3 kr
            clear c1 c2
            refine wp_region_calm (by kernel_rfl) (by kernel_rfl) ?_
            repeat (go_big_quiet_step (fail))
            refine wpQuiet_nil ?_
            intro wd gd
            have krd := below_call kr5 gd
            go_wp2
            refine ret_of (by simp [results, Tryz.results13, go_sem, *]; repeat' (first | rfl | apply And.intro)) rfl ⟨?_, by repeat (first | with_reducible exact Below.refl _ _ | with_reducible assumption | with_reducible refine below_drewN ?_ _ | with_reducible refine Below.drew ?_ | with_reducible refine below_alloc ?_ _ | (with_reducible refine Below.setCell ?_ ?_ _; rotate_left; ((try simp only); omega)))⟩
            rw [HB.out]
          · have t2 : decide ((n : Int) ≤ x1) = false := decide_eq_false c2
            obtain ⟨i, rfl⟩ : ∃ i : Nat, x1 = (i : Int) := ⟨x1.toNat, by omega⟩
            have hin : i < n := by omega
            have hin' : (i : Int) < (n : Int) := by omega
            have t2' : decide (n ≤ i) = false := decide_eq_false (by omega)
            obtain ⟨v, hv⟩ := get_some (l := l) (k := i) (by have := HLN.out; omega)
            obtain ⟨b, ob, A', n', c', rfl, hab, cv, rv, hn', hvn⟩ := HV.out.voice hB kr hin hv
            have HVV := Lib.hid hv
            have HVN := Lib.hid hvn
            clear c1 c2 hv hvn
            by_cases c3 : x2 < 0
            · have HOUT := Lib.hid (show inF l ((i : Int), x2, x3, x4) = false by unfold inF; rw [decide_eq_false]; simp only; omega)
              have t3 : decide (x2 < 0) = true := decide_eq_true c3
              have HB := Lib.hid (show chkF l none 0 L = (2, (k : Int)) by rw [← hE.out, HD.out]; exact chkF_bad (one_out HOUT.out) (by decide))
              clear HOUT
              go_wp2_with fail
              obtain ⟨w5, hw5⟩ : ∃ z, z = wr.alloc (.cells #[.int .i64 (i : Int), .int .i64 x2, .int .i64 x3, .int .i64 x4] 39) := ⟨_, rfl⟩
              have k5 : Below wr.heap.size wr w5 := by rw [hw5]; repeat (first | with_reducible exact Below.refl _ _ | with_reducible assumption | with_reducible refine below_drewN ?_ _ | with_reducible refine Below.drew ?_ | with_reducible refine below_alloc ?_ _ | (with_reducible refine Below.setCell ?_ ?_ _; rotate_left; ((try simp only); omega)))
              have b5 : Blk w5 wr.heap.size 39 #[.int .i64 (i : Int), .int .i64 x2, .int .i64 x3, .int .i64 x4] := by rw [hw5]; exact Blk.new _ _ _
              have kr5 := below_call kr k5
              rw [← hw5]
              have f0 := b5.cell 0
              have f1 := b5.cell 1
              have lf := b5.lt
              simp only [List.getElem?_toArray, List.getElem?_cons_zero, List.getElem?_cons_succ] at f0 f1
              clear e0 e1 e2 e3 kr
              clear c3
              refine wp_region_calm (by kernel_rfl) (by kernel_rfl) ?_
              repeat (go_big_quiet_step (fail))
              refine wpQuiet_nil ?_
              intro wd gd
              have krd := below_call kr5 gd
              go_wp2
              refine ret_of (by simp [results, Tryz.results13, go_sem, *]; repeat' (first | rfl | apply And.intro)) rfl ⟨?_, by repeat (first | with_reducible exact Below.refl _ _ | with_reducible assumption | with_reducible refine below_drewN ?_ _ | with_reducible refine Below.drew ?_ | with_reducible refine below_alloc ?_ _ | (with_reducible refine Below.setCell ?_ ?_ _; rotate_left; ((try simp only); omega)))⟩
              rw [HB.out]
            · have t3 : decide (x2 < 0) = false := decide_eq_false c3
              by_cases c4 : (n' : Int) ≤ x2
              · have HOUT := Lib.hid (show inF l ((i : Int), x2, x3, x4) = false by unfold inF; rw [decide_eq_false]; simp only [Int.toNat_natCast]; rw [getD_at HVV.out, HVN.out]; omega)
                have t4 : decide ((n' : Int) ≤ x2) = true := decide_eq_true c4
                have HB := Lib.hid (show chkF l none 0 L = (2, (k : Int)) by rw [← hE.out, HD.out]; exact chkF_bad (one_out HOUT.out) (by decide))
                clear HOUT
                go_wp2_with fail
                obtain ⟨w5, hw5⟩ : ∃ z, z = wr.alloc (.cells #[.int .i64 (i : Int), .int .i64 x2, .int .i64 x3, .int .i64 x4] 39) := ⟨_, rfl⟩
                have k5 : Below wr.heap.size wr w5 := by rw [hw5]; repeat (first | with_reducible exact Below.refl _ _ | with_reducible assumption | with_reducible refine below_drewN ?_ _ | with_reducible refine Below.drew ?_ | with_reducible refine below_alloc ?_ _ | (with_reducible refine Below.setCell ?_ ?_ _; rotate_left; ((try simp only); omega)))
                have b5 : Blk w5 wr.heap.size 39 #[.int .i64 (i : Int), .int .i64 x2, .int .i64 x3, .int .i64 x4] := by rw [hw5]; exact Blk.new _ _ _
                have kr5 := below_call kr k5
                rw [← hw5]
                have f0 := b5.cell 0
                have f1 := b5.cell 1
                have lf := b5.lt
                simp only [List.getElem?_toArray, List.getElem?_cons_zero, List.getElem?_cons_succ] at f0 f1
                clear e0 e1 e2 e3 kr
                have cv5 := (k5.cell (p := ⟨b, ob + i, none⟩) hab).trans cv
                have lb5 : b < w5.heap.size := by have := k5.size; omega
                clear c3 c4
                refine wp_region_calm (by kernel_rfl) (by kernel_rfl) ?_
                repeat (go_big_quiet_step (fail))
                refine wpQuiet_nil ?_
                intro wd gd
                have krd := below_call kr5 gd
                go_wp2
                refine ret_of (by simp [results, Tryz.results13, go_sem, *]; repeat' (first | rfl | apply And.intro)) rfl ⟨?_, by repeat (first | with_reducible exact Below.refl _ _ | with_reducible assumption | with_reducible refine below_drewN ?_ _ | with_reducible refine Below.drew ?_ | with_reducible refine below_alloc ?_ _ | (with_reducible refine Below.setCell ?_ ?_ _; rotate_left; ((try simp only); omega)))⟩
                rw [HB.out]
              · have t4 : decide ((n' : Int) ≤ x2) = false := decide_eq_false c4
                obtain ⟨j, rfl⟩ : ∃ j : Nat, x2 = (j : Int) := ⟨x2.toNat, by omega⟩
                have hjn : j < n' := by omega
                have t4' : decide (n' ≤ j) = false := decide_eq_false (by omega)
                have HIN := Lib.hid (show inF l ((i : Int), (j : Int), x3, x4) = true by unfold inF; rw [decide_eq_true_eq]; simp only [Int.toNat_natCast]; rw [getD_at HVV.out, HVN.out]; have := HLN.out; omega)
                obtain ⟨ev, hev⟩ := get_some (l := v) (k := j) (by have := HVN.out; omega)
                have qf := fun W (hW : Below w.heap.size w W) => free_ok (some ⟨b, ob, none⟩) n c l B W (HV.out.below hB hW) (Nat.le_trans hB hW.size) (evA_nat HVV.out hev)
                have hfd : ∀ d, freeB l ((i : Int), (j : Int)) = d → Hid (freeB l ((i : Int), (j : Int)) = d) := fun _ h => h
                clear c3 c4 hev
                go_wp2_with fail
                obtain ⟨w5, hw5⟩ : ∃ z, z = wr.alloc (.cells #[.int .i64 (i : Int), .int .i64 (j : Int), .int .i64 x3, .int .i64 x4] 39) := ⟨_, rfl⟩
                have k5 : Below wr.heap.size wr w5 := by rw [hw5]; repeat (first | with_reducible exact Below.refl _ _ | with_reducible assumption | with_reducible refine below_drewN ?_ _ | with_reducible refine Below.drew ?_ | with_reducible refine below_alloc ?_ _ | (with_reducible refine Below.setCell ?_ ?_ _; rotate_left; ((try simp only); omega)))
                have b5 : Blk w5 wr.heap.size 39 #[.int .i64 (i : Int), .int .i64 (j : Int), .int .i64 x3, .int .i64 x4] := by rw [hw5]; exact Blk.new _ _ _
                have kr5 := below_call kr k5
                rw [← hw5]
                have f0 := b5.cell 0
                have f1 := b5.cell 1
                have lf := b5.lt
                have cv5 := (k5.cell (p := ⟨b, ob + i, none⟩) hab).trans cv
                have lb5 : b < w5.heap.size := by have := k5.size; omega
                simp only [List.getElem?_toArray, List.getElem?_cons_zero, List.getElem?_cons_succ] at f0 f1
                clear e0 e1 e2 e3 kr cv hab k5 hw5
                refine wp_region_calm (by kernel_rfl) (by kernel_rfl) ?_
                repeat (go_big_quiet_step (fail))
                refine wpQuiet_nil ?_
                intro wd gd
                have krd := below_call kr5 gd
                have bd := b5.kept gd
                clear f0 f1 lf cv5 lb5 kr5 b5 gd
                have f0 := bd.cell 0
                have f1 := bd.cell 1
                have f2 := bd.cell 2
                have f3 := bd.cell 3
                have lf := bd.lt
                simp only [List.getElem?_toArray, List.getElem?_cons_zero, List.getElem?_cons_succ] at f0 f1 f2 f3
                go_wp2_with fail
                refine Calls.mono (qf _ krd) ?_
                rintro e w6 ⟨rfl, hb6⟩
                have kr6 := below_call krd hb6
                have b6 := bd.kept hb6
                clear f0 f1 f2 f3 lf qf bd krd hb6
                have f0 := b6.cell 0
                have f1 := b6.cell 1
                have f2 := b6.cell 2
                have f3 := b6.cell 3
                have lf := b6.lt
                simp only [List.getElem?_toArray, List.getElem?_cons_zero, List.getElem?_cons_succ] at f0 f1 f2 f3
                obtain ⟨fb, hfb⟩ : ∃ z, z = freeB l ((i : Int), (j : Int)) := ⟨_, rfl⟩
                have HFB := Lib.hid hfb.symm
                rw [← hfb]
                clear hfb
                by_cases g1 : fb = false ∨ (x3 ≠ -1 ∧ x3 ≠ 1)
                · have HB := Lib.hid (show chkF l none 0 L = (3, (k : Int)) by rw [← hE.out, HD.out]; exact chkF_bad (one_form HIN.out (by simp only; rw [HFB.out]; exact g1)) (by decide))
                  have hor : (fb = false) ∨ (fb = true ∧ (x3 != -1) = true ∧ (x3 != 1) = true) := by
                    rcases g1 with g1 | g1
                    · exact .inl g1
                    · cases fb
                      · exact .inl rfl
                      · exact .inr ⟨rfl, by simpa using g1.1, by simpa using g1.2⟩
                  clear g1
                  rcases hor with rfl | ⟨rfl, z1, z2⟩
                  · go_wp2
                    refine ret_of (by simp [results, Tryz.results13, go_sem, *]; repeat' (first | rfl | apply And.intro)) rfl ⟨?_, kr6⟩
                    rw [HB.out]
                  · go_wp2
                    refine ret_of (by simp [results, Tryz.results13, go_sem, *]; repeat' (first | rfl | apply And.intro)) rfl ⟨?_, kr6⟩
                    rw [HB.out]
                · have hg : fb = true ∧ (x3 = -1 ∨ x3 = 1) := by
                    cases fb
                    · exact absurd (.inl rfl) g1
                    · exact ⟨rfl, by omega⟩
                  obtain ⟨rfl, hx3⟩ := hg
                  have HG1 := Lib.hid (show ¬ (freeB l ((i : Int), (j : Int)) = false ∨ (x3 ≠ -1 ∧ x3 ≠ 1)) by rw [HFB.out]; exact g1)
                  clear g1
                  by_cases g2 : x4 < 1 ∨ 3 < x4
                  · have HB := Lib.hid (show chkF l none 0 L = (8, (k : Int)) by rw [← hE.out, HD.out]; exact chkF_bad (one_kind HIN.out HG1.out g2) (by decide))
                    rcases hx3 with rfl | rfl <;>
                    · by_cases g3 : x4 < 1
                      · have t5 : decide (x4 < 1) = true := decide_eq_true g3
                        clear g2 g3
                        go_wp2
                        refine ret_of (by simp [results, Tryz.results13, go_sem, *]; repeat' (first | rfl | apply And.intro)) rfl ⟨?_, kr6⟩
                        rw [HB.out]
                      · have t5 : decide (x4 < 1) = false := decide_eq_false g3
                        have t6 : decide (3 < x4) = true := decide_eq_true (by omega)
                        clear g2 g3
                        go_wp2
                        refine ret_of (by simp [results, Tryz.results13, go_sem, *]; repeat' (first | rfl | apply And.intro)) rfl ⟨?_, kr6⟩
                        rw [HB.out]
                  · have HONE := Lib.hid (one_last (p := prevF L k) HIN.out HG1.out g2)
                    have t5 : decide (x4 < 1) = false := decide_eq_false (by omega)
                    have t6 : decide (3 < x4) = false := decide_eq_false (by omega)
                    clear g2
                    by_cases hk0 : k = 0
                    · have HNX := Lib.hid (show chkF l (prevF L (k + 1)) (((k + 1 : Nat)) : Int) (L.drop (k + 1)) = chkF l none 0 L by
                        rw [prevF_next HX.out, ← hE.out, HD.out, chkF_next (HONE.out.trans (by rw [hk0]; rfl))]
                        rw [show (((k + 1 : Nat)) : Int) = (k : Int) + 1 by omega])
                      have t7 : decide (0 < k) = false := decide_eq_false (by omega)
                      have t7' : decide ((0 : Int) < (k : Int)) = false := decide_eq_false (by omega)
                      clear hk0
                      rcases hx3 with rfl | rfl <;>
                      · go_wp2_with fail
                        clear f0 f1 f2 f3 lf b6
                        refine wp_region_calm (by kernel_rfl) (by kernel_rfl) ?_
                        repeat (go_big_quiet_step (fail))
                        refine wpQuiet_nil ?_
                        intro w7 g7
                        have kr7 := below_call kr6 g7
                        go_wp2
                        go_roundg gh
                        case measure => omega
                        case rel => exact ⟨k + 1, by omega, by go_num, kr7, HNX⟩
                    · obtain ⟨kp, hkp⟩ : ∃ kp, k = kp + 1 := ⟨k - 1, by omega⟩
                      obtain ⟨⟨y1, y2, y3, y4⟩, hy⟩ := get_some (l := L) (k := kp) (by have := HLM.out; omega)
                      have HPV := Lib.hid (show prevF L k = some (y1, y2, y3, y4) by unfold prevF; rw [if_neg hk0, hkp]; exact hy)
                      obtain ⟨bf', off', hA2, hbf', hcf⟩ := Reads.elem (f := cFic) (fun _ => rfl) (HR2.out.below hB2 kr6) (show kp < m by omega) hy
                      cases hA2
                      have p0 := hcf 0 _ rfl
                      have p1 := hcf 1 _ rfl
                      simp only [Nat.add_zero, ← Nat.add_assoc] at p0 p1
                      have lbf6 : bf < w6.heap.size := by have := kr6.size; omega
                      have wk1 : IntKind.i64.wrap ((k : Int) - 1) = (kp : Int) := by rw [show (k : Int) - 1 = (kp : Int) by omega]; exact IntWalk.i64_in _ (by omega)
                      have hkpm : (kp : Int) < (m : Int) := by omega
                      have t7 : decide (0 < k) = true := decide_eq_true (by omega)
                      have t7' : decide ((0 : Int) < (k : Int)) = true := decide_eq_true (by omega)
                      obtain ⟨r, hr⟩ : ∃ z, z = orS [cmp3 y1 (i : Int), cmp3 y2 (j : Int)] := ⟨_, rfl⟩
                      have HOR := Lib.hid (show decide (0 ≤ r) = !decide (y1 < (i : Int) ∨ y1 = (i : Int) ∧ y2 < (j : Int)) by rw [hr]; exact ord_less _ _ _ _)
                      have qo := fun (W : World) => or_any (some ⟨W.heap.size, 0, none⟩) 2 2 [cmp3 y1 (i : Int), cmp3 y2 (j : Int)] (W.heap.size + 1) (W.alloc (.cells #[.int .i64 (cmp3 y1 (i : Int)), .int .i64 (cmp3 y2 (j : Int))] 3)) (Reads.newAt _ _ _ 2 1 _ rfl rfl) (by simp) (by omega)
                      simp only [← hr] at qo
                      have HKP := Lib.hid hkp
                      clear hcf hy hk0 hr hkp
                      by_cases hle : y1 < (i : Int) ∨ y1 = (i : Int) ∧ y2 < (j : Int)
                      · have t8 : decide (0 ≤ r) = false := by rw [HOR.out, decide_eq_true hle]; rfl
                        have HNX := Lib.hid (show chkF l (prevF L (k + 1)) (((k + 1 : Nat)) : Int) (L.drop (k + 1)) = chkF l none 0 L by
                          rw [prevF_next HX.out, ← hE.out, HD.out, chkF_next (HONE.out.trans (by rw [HPV.out]; exact if_pos hle))]
                          rw [show (((k + 1 : Nat)) : Int) = (k : Int) + 1 by omega])
                        clear hle
                        rcases hx3 with rfl | rfl <;>
                        · go_wp2_with fail
                          refine wp_region_calm_tail 21 (by kernel_rfl) (by kernel_rfl) ?_
                          simp only [List.take_succ_cons, List.take_zero, List.drop_succ_cons, List.drop_zero]
                          repeat (go_big_quiet_step ((go_at_call 32; with_reducible exact calm_call (cmpI_any _ _ _))))
                          refine wpQuiet_nil ?_
                          intro w7 hb7
                          have kr7 := below_call kr6 hb7
                          clear f0 f1 f2 f3 lf p0 p1 lbf6 b6 hb7
                          go_wp2_with fail
                          refine Calls.mono (qo w7) ?_
                          rintro e w8 ⟨rfl, hb8⟩
                          have kr8 := below_call (below_alloc kr7 (.cells #[.int .i64 (cmp3 y1 (i : Int)), .int .i64 (cmp3 y2 (j : Int))] 3)) hb8
                          clear qo hb8
                          go_wp2
                          go_roundg gh
                          case measure => omega
                          case rel => exact ⟨k + 1, by omega, by go_num, kr8, HNX⟩
                      · have t8 : decide (0 ≤ r) = true := by rw [HOR.out, decide_eq_false hle]; rfl
                        have HB := Lib.hid (show chkF l none 0 L = (6, (k : Int)) by rw [← hE.out, HD.out]; exact chkF_bad (HONE.out.trans (by rw [HPV.out]; exact if_neg hle)) (by decide))
                        clear hle
                        rcases hx3 with rfl | rfl <;>
                        · go_wp2_with fail
                          refine wp_region_calm_tail 21 (by kernel_rfl) (by kernel_rfl) ?_
                          simp only [List.take_succ_cons, List.take_zero, List.drop_succ_cons, List.drop_zero]
                          repeat (go_big_quiet_step ((go_at_call 32; with_reducible exact calm_call (cmpI_any _ _ _))))
                          refine wpQuiet_nil ?_
                          intro w7 hb7
                          have kr7 := below_call kr6 hb7
                          clear f0 f1 f2 f3 lf p0 p1 lbf6 b6 hb7
                          go_wp2_with fail
                          refine Calls.mono (qo w7) ?_
                          rintro e w8 ⟨rfl, hb8⟩
                          have kr8 := below_call (below_alloc kr7 (.cells #[.int .i64 (cmp3 y1 (i : Int)), .int .i64 (cmp3 y2 (j : Int))] 3)) hb8
                          clear qo hb8
                          go_wp2
                          refine ret_of (by simp [results, Tryz.results13, go_sem, *]; repeat' (first | rfl | apply And.intro)) rfl ⟨?_, kr8⟩
                          rw [HB.out]
  · have E := Lib.hid (show checkF l L = ((slicesE l).2, 0) by unfold checkF; rw [if_pos hs])
    obtain ⟨r, hr⟩ : ∃ z, z = (slicesE l).2 := ⟨_, rfl⟩
    rw [← hr] at qs hs E
    have b0 : (r != 0) = true := by simpa using hs
    rw [E.out]
    clear hV h2 hr hs
    go_enter Tryz.func13, Tryz.ntmps13
    go_wp2_with fail
    refine qs.mono ?_
    rintro e w1 ⟨v, rfl, ho, hb1⟩
    clear qs ho
    go_wp2
    refine ret_of (by simp [results, Tryz.results13, go_sem, *]; repeat' (first | rfl | apply And.intro)) rfl ⟨rfl, hb1⟩
/-- Voices and an error. -/
def VRet (l : List (List Ev)) (r : Int) (w : World) (e : Ending) (w' : World) : Prop := ∃ A m c, e = .returned (.tuple #[.slice A m c, .int .i64 r]) ∧ ReadsV w' w'.heap.size A m l ∧ Below w.heap.size w w'
theorem chkF_in {l : List (List Ev)} : ∀ {L : List Fic} {p : Option Fic} {i : Int}, (chkF l p i L).1 = 0 → ∀ y ∈ L, inF l y = true
  | [], _, _, _, y, hy => by cases hy
  | x :: L, p, i, h, y, hy => by
    have h0 : oneF l p x = 0 := by
      by_cases h0 : oneF l p x = 0
      · exact h0
      · rw [chkF_bad rfl h0] at h; exact absurd h h0
    rw [chkF_next h0] at h
    rcases List.mem_cons.1 hy with rfl | hy
    · cases hi : inF l y with
      | true => rfl
      | false => rw [one_out hi] at h0; cases h0
    · exact chkF_in h y hy
set_option maxRecDepth 100000 in
set_option maxHeartbeats 4000000 in
theorem fapply_ok {w : World} (A : Option Addr) (n c : Nat) (l : List (List Ev)) (B : Nat) (hV : ReadsV w B A n l) (hB : B ≤ w.heap.size) (hn : n ≤ 1000) (A2 : Option Addr) (m c2 : Nat) (L : List Fic) (B2 : Nat) (h2 : Reads w B2 4 A2 m (csFic L)) (hB2 : B2 ≤ w.heap.size) (hm : m ≤ 1000000) :
    Calls Tryz.prog 15 #[.slice A n c, .slice A2 m c2] w fun e w' => VRet (applyE l L).1 (applyE l L).2 w e w' := by
  have qs := fcheck_ok A n c l B hV hB hn A2 m c2 L B2 h2 hB2 hm
  by_cases hs : (checkF l L).1 = 0
  · have E := Lib.hid (show applyE l L = (withL l L, 0) by unfold applyE; rw [if_neg (fun h => h hs)])
    have hsl : (slicesE l).2 = 0 := by
      by_cases h0 : (slicesE l).2 = 0
      · exact h0
      · unfold checkF at hs; rw [if_pos h0] at hs; exact absurd hs h0
    have hl := set_of_slices hsl
    have hin : ∀ y ∈ L, inF l y = true := by
      unfold checkF at hs
      rw [if_neg (fun h => h hsl)] at hs
      exact chkF_in hs
    have qw := fun W (hW : Below w.heap.size w W) => fwith_ok A n c l B W (hV.below hB hW) (Nat.le_trans hB hW.size) (by have := hV.len; have := hl.len; omega) (fun v hv => by have := hl.few v hv; omega) A2 m c2 L B2 (h2.below hB2 hW) (Nat.le_trans hB2 hW.size) hm hin
    rw [hs] at qs
    obtain ⟨i, hi⟩ : ∃ z, z = (checkF l L).2 := ⟨_, rfl⟩
    rw [← hi] at qs
    clear hV h2 hs hsl hl hin hi
    go_enter Tryz.func15, Tryz.ntmps15
    go_wp2_with fail
    refine qs.mono ?_
    rintro e w1 ⟨rfl, hb1⟩
    clear qs
    go_wp2_with fail
    refine Calls.mono (qw _ ?_) ?_
    · repeat (first | with_reducible exact Below.refl _ _ | with_reducible assumption | with_reducible refine below_drewN ?_ _ | with_reducible refine Below.drew ?_ | with_reducible refine below_alloc ?_ _ | (with_reducible refine Below.setCell ?_ ?_ _; rotate_left; ((try simp only); omega)))
    rintro e w2 ⟨A5, c5, rfl, hr, hb2⟩
    have k2 := below_call hb1 hb2
    clear qw hb1 hb2
    have HX := Lib.hid (show VRet (applyE l L).1 (applyE l L).2 w (.returned (.tuple #[.slice A5 n c5, .int .i64 0])) w2 by rw [E.out]; exact ⟨A5, n, c5, rfl, hr, k2⟩)
    clear hr k2
    go_wp2
    refine ret_of (by simp [results, Tryz.results15, go_sem, *]; repeat' (first | rfl | apply And.intro)) rfl HX.out
  · have E := Lib.hid (show applyE l L = ([], (checkF l L).1) by unfold applyE; rw [if_pos hs])
    obtain ⟨⟨r, i⟩, hr⟩ : ∃ z, z = checkF l L := ⟨_, rfl⟩
    rw [← hr] at qs hs E
    simp only at qs hs E
    have b0 : (r != 0) = true := by simpa using hs
    clear hV h2 hr hs
    go_enter Tryz.func15, Tryz.ntmps15
    go_wp2_with fail
    refine qs.mono ?_
    rintro e w1 ⟨rfl, hb1⟩
    clear qs
    go_wp2
    refine ret_of (by simp [results, Tryz.results15, go_sem, *]; repeat' (first | rfl | apply And.intro)) rfl ?_
    rw [E.out]
    exact ⟨none, 0, 0, rfl, ⟨[], rfl, Reads.none_, fun k d v h => by simp at h⟩, hb1⟩
end Go.Proofs.YtpkmiegccfhpnaaGreatDoor
namespace Go.Proofs.YtpkmiegccfhpnaaGreatDoor
open Go.RowKit
set_option maxRecDepth 100000 in
set_option maxHeartbeats 4000000 in
theorem sameFicta_any (A A' : Option Addr) (n c c' : Nat) (l : List Fic) (B B' : Nat) (w : World) (h : Reads w B 4 A n (csFic l)) (hB : B ≤ w.heap.size) (h' : Reads w B' 4 A' n (csFic l)) (hB' : B' ≤ w.heap.size) (hn : n ≤ 1000000) :
    Calls Tryz.prog 18 #[.slice A n c, .slice A' n c'] w fun e w' => e = .returned (.bool true) ∧ Below w.heap.size w w' := by
  have HL := Lib.hid (show l.length = n from h.len (size := 4) (l := l) (f := cFic) (fun _ => rfl) (by decide))
  have HA := Lib.hid h
  have HB := Lib.hid h'
  clear h h'
  go_enter Tryz.func18, Tryz.ntmps18
  go_wp2
  go_loopg [5] n (fun gh i wr => ∃ k : Nat, k + gh = n ∧ i = .int .i64 (k : Int) ∧ Below w.heap.size w wr)
  case atStart => exact ⟨0, by omega, rfl, Below.refl _ _⟩
  case round =>
    obtain ⟨k, hkg, rfl, k0⟩ := hrel
    have wk : IntKind.i64.wrap ((k : Int) + 1) = (k : Int) + 1 := IntWalk.i64_in _ (by omega)
    cases gk with
    | zero =>
      have hk : k = n := by omega
      have d0 : ¬ ((k : Int) < (n : Int)) := by omega
      clear hk hkg
      go_wp2
      go_ret
      exact ⟨rfl, k0⟩
    | succ g =>
      have hk : k < n := by omega
      have hlt' : (k : Int) < (n : Int) := by omega
      obtain ⟨⟨x1, x2, x3, x4⟩, hx⟩ := get_some (l := l) (k := k) (by have := HL.out; omega)
      obtain ⟨b, off, rfl, hab, hc⟩ := Reads.elem (f := cFic) (fun _ => rfl) (HA.out.below hB k0) hk hx
      obtain ⟨b', off', rfl, hab', hc'⟩ := Reads.elem (f := cFic) (fun _ => rfl) (HB.out.below hB' k0) hk hx
      have e0 := hc 0 _ rfl
      have e1 := hc 1 _ rfl
      have e2 := hc 2 _ rfl
      have e3 := hc 3 _ rfl
      have f0 := hc' 0 _ rfl
      have f1 := hc' 1 _ rfl
      have f2 := hc' 2 _ rfl
      have f3 := hc' 3 _ rfl
      simp only [Nat.add_zero, ← Nat.add_assoc] at e0 e1 e2 e3 f0 f1 f2 f3
      have l1 : b < wr.heap.size := by have := k0.size; omega
      have l2 : b' < wr.heap.size := by have := k0.size; omega
      clear hx hc hc' hab hab'
      go_wp2_with fail
      refine wp_region_calm (by kernel_rfl) (by kernel_rfl) ?_
      repeat (go_big_quiet_step (fail))
      refine wpQuiet_nil ?_
      intro wd gd
      have kd := below_call k0 gd
      clear e0 e1 e2 e3 f0 f1 f2 f3 l1 l2 gd
      go_wp2
      go_roundg g
      case measure => omega
      case rel => exact ⟨k + 1, by omega, by go_num, kd⟩
/-! ### A voice of steps -/
def vEv (i : Nat) (x : Int) : Ev := ⟨(2 * (i : Int), 1), (2, 1), (x % 7, 3 + x / 7, 0), false, i, 0⟩
def vFrom : Nat → List Int → List Ev
  | _, [] => []
  | i, x :: l => vEv i x :: vFrom (i + 1) l
def vL (l : List Int) : List Ev := vFrom 0 l
theorem vFrom_append : ∀ (l m : List Int) (i : Nat), vFrom i (l ++ m) = vFrom i l ++ vFrom (i + l.length) m
  | [], m, i => by simp [vFrom]
  | x :: l, m, i => by
    show vEv i x :: vFrom (i + 1) (l ++ m) = vEv i x :: (vFrom (i + 1) l ++ vFrom (i + (l.length + 1)) m)
    rw [vFrom_append l m (i + 1), show i + 1 + l.length = i + (l.length + 1) by omega]
theorem vL_next {l : List Int} {k : Nat} {x : Int} (h : l[k]? = some x) : vL (l.take (k + 1)) = vL (l.take k) ++ [vEv k x] := by
  have hk := (List.getElem?_eq_some_iff.1 h).1
  unfold vL
  rw [take_get h, vFrom_append, List.length_take, Nat.zero_add, Nat.min_eq_left (by omega)]
  rfl
theorem tS_one (n : Int) : tS n 1 = (n, 1) := by
  have e : gg n 1 = 1 := by unfold gg; simp
  unfold tS
  rw [e, if_neg (by omega)]; simp
set_option maxRecDepth 100000 in
set_option maxHeartbeats 8000000 in
theorem fvoice_any (A : Option Addr) (n c : Nat) (l : List Int) (w : World) (h : Reads w w.heap.size 1 A n (csN l)) (hn : n ≤ 1000) (hl : ∀ x ∈ l, 0 ≤ x ∧ x ≤ 1000) :
    Calls Tryz.prog 20 #[.slice A n c] w fun e w' => ∃ v, e = .returned v ∧ w'.ownsRow w.heap.size 49 10 v n (csE (vL l)) ∧ Below w.heap.size w w' := by
  have HL := Lib.hid (show l.length = n from h.len (size := 1) (l := l) (f := cI) (fun _ => rfl) (by decide))
  have HB := Lib.hid hl
  have HR := Lib.hid h
  clear hl h
  obtain ⟨i0, hi0, hz0, hz1, hz2⟩ := info_parts event_info
  go_enter Tryz.func20, Tryz.ntmps20
  go_wp2
  go_loopg [3, 4] n (fun gh o i wr => ∃ k : Nat, k + gh = n ∧ i = .int .i64 (k : Int) ∧ wr.ownsRow w.heap.size 49 10 o k (csE (vL (l.take k))) ∧ Below w.heap.size w wr)
  case atStart => exact ⟨0, by omega, by simp, ⟨rfl, .inl ⟨rfl, rfl⟩⟩, Below.refl _ _⟩
  case round =>
    obtain ⟨k, hkg, rfl, hown, kr⟩ := hrel
    have wk : IntKind.i64.wrap ((k : Int) + 1) = (k : Int) + 1 := IntWalk.i64_in _ (by omega)
    cases gk with
    | zero =>
      have hk : k = n := by omega
      have d0 : ¬ ((k : Int) < (n : Int)) := by omega
      rw [List.take_of_length_le (by have := HL.out; omega)] at hown
      have HX := Lib.hid hown
      clear hkg hown
      subst hk
      go_wp2
      go_ret
      exact ⟨u3, rfl, HX.out, kr⟩
    | succ g =>
      have hk : k < n := by omega
      have d0 : (k : Int) < (n : Int) := by omega
      obtain ⟨x, hx⟩ := get_some (l := l) (k := k) (by have := HL.out; omega)
      have hxb := HB.out x (List.mem_of_getElem? hx)
      have HN := Lib.hid (vL_next hx)
      obtain ⟨b, off, hA, hab, hc⟩ := Reads.elem (f := cI) (fun _ => rfl) (HR.out.below (Nat.le_refl _) kr) hk hx
      subst hA
      have c0 := hc 0 _ rfl
      simp only [Nat.mul_one, Nat.add_zero] at c0
      have lb : b < wr.heap.size := by have := kr.size; omega
      have HEV := Lib.hid (show vEv k x = ⟨(2 * (k : Int), 1), (2, 1), (x % 7, 3 + x / 7, 0), false, (k : Int), 0⟩ from rfl)
      have w2k : IntKind.i64.wrap (2 * (k : Int)) = 2 * (k : Int) := IntWalk.i64_in _ (by omega)
      have q1 := fun W => t_any (2 * (k : Int)) 1 W (by omega) (by omega) (by omega) (by omega)
      have q2 := fun W => t_any 2 1 W (by omega) (by omega) (by omega) (by omega)
      rw [tS_one] at q1 q2
      have hmE : x.tmod 7 = x % 7 := Int.tmod_eq_emod_of_nonneg (by omega)
      have hdE : x.tdiv 7 = x / 7 := Int.tdiv_eq_ediv_of_nonneg (by omega)
      have wm : IntKind.i64.wrap (x % 7) = x % 7 := IntWalk.i64_in _ (by omega)
      have wq : IntKind.i64.wrap (x / 7) = x / 7 := IntWalk.i64_in _ (by omega)
      have wm' : IntKind.i64.wrap (x.tmod 7) = x % 7 := by rw [hmE]; exact wm
      have wq' : IntKind.i64.wrap (x.tdiv 7) = x / 7 := by rw [hdE]; exact wq
      have w3 : IntKind.i64.wrap (3 + x / 7) = 3 + x / 7 := IntWalk.i64_in _ (by omega)
      have k1000 : k ≤ 1000 := by omega
      clear hc hx hxb hab
      go_wp2_with fail
      refine wp_region_calm_move 19 (by kernel_rfl) (.tmp 3) rfl rfl (by omega) (by kernel_rfl) ?_
      simp only [Nat.reduceSub, List.take_succ_cons, List.take_zero, List.drop_succ_cons, List.drop_zero]
      go_simp
      repeat (go_big_quiet_step ((go_at_call 39; with_reducible (first | exact calm_call (q1 _) | exact calm_call (q2 _)))))
      refine wpQuiet_nil ?_
      intro wd gd
      have kd := below_call kr gd
      have zd := kd.size
      go_wp2_with (at_builtin; (refine wpList_append_any _ rfl (.tmp 11) (.tmp 30) 36 rfl w.heap.size 49 i0 _ 10 80 Tryz.underlying36 hi0 hz0 hz1 hz2 rfl (by omega) u3 k (csE (vL (l.take k))) rfl (own_call (own_call hown gd) (below_alloc (Below.refl _ _) _)) (wd.heap.size + 1) (some ⟨wd.heap.size, 0, none⟩) 1 1 (csE [⟨(2 * (k : Int), 1), (2, 1), (x % 7, 3 + x / 7, 0), false, (k : Int), 0⟩]) rfl (Reads.newAt _ _ _ 1 10 _ rfl rfl) (one_csE _) (by simp only [maxLen]; omega) (by omega) (by simp; omega) ?_); intro v4 w4 hown4 hg4 hat4)
      have hB4 : Below w.heap.size w w4 := Below.grown (B := w.heap.size) (kd.alloc (by omega) _) hg4 (by simp; omega) (fun x hx => (hown.lt x hx).1)
      try refine NoPanic.normal ?_
      clear c0 hown
      go_wp2_with fail
      go_roundg g
      case measure => omega
      case rel => exact ⟨k + 1, by omega, by go_num, by rw [HN.out, csE_append, HEV.out]; exact hown4, hB4⟩
end Go.Proofs.YtpkmiegccfhpnaaGreatDoor
namespace Go.Proofs.YtpkmiegccfhpnaaGreatDoor
open Go.RowKit
theorem ex_awake : allE [vL [11, 10, 11], vL [5, 5, 4]] = ([(0, 1, 1, 1)], 0) := of_decide_eq_true (by kernel_rfl)
theorem ex_one : allE [vL [10], vL [6]] = ([(1, 0, -1, 2)], 0) := of_decide_eq_true (by kernel_rfl)
theorem ex_two : allE [vL [5, 6, 5]] = ([(0, 1, -1, 3)], 0) := of_decide_eq_true (by kernel_rfl)
theorem ex_three : allE [vL [9, 10, 9], vL [7, 8, 7]] = ([], 0) := of_decide_eq_true (by kernel_rfl)
theorem ex_four : allE [vL [5, 6, 5], vL [3, 3, 3]] = ([(0, 1, -1, 2)], 0) := of_decide_eq_true (by kernel_rfl)
theorem ex_rounds : roundsE [vL [11, 10, 11], vL [5, 5, 4]] = (1, 0) := of_decide_eq_true (by kernel_rfl)
def exX : List (List Ev) := [[⟨(0, 1), (2, 1), (4, 4, 0), false, 0, 0⟩, ⟨(2, 1), (2, 1), (3, 4, 1), false, 1, 0⟩, ⟨(4, 1), (2, 1), (4, 4, 0), false, 2, 0⟩], vL [5, 5, 4]]
theorem ex_apply : applyE [vL [11, 10, 11], vL [5, 5, 4]] [(0, 1, 1, 1)] = (exX, 0) := by
  unfold applyE
  rw [if_neg (show ¬ (checkF [vL [11, 10, 11], vL [5, 5, 4]] [(0, 1, 1, 1)]).1 ≠ 0 from of_decide_eq_true (by kernel_rfl))]
  rfl
theorem readsV_one {w : World} {B g : Nat} {v1 : List Ev} {d1 : Pl} (h : Reads w B 1 (some ⟨g, 0, none⟩) 1 (csV [d1])) (h1 : Reads w B 10 d1.1 d1.2.1 (csE v1)) (l1 : d1.2.1 ≤ 9223372036854775807) : ReadsV w B (some ⟨g, 0, none⟩) 1 [v1] := by
  refine ⟨[d1], rfl, h, fun k d v hd hv => ?_⟩
  match k with
  | 0 => simp at hd hv; subst hd hv; exact ⟨h1, l1⟩
  | k + 1 => simp at hd
theorem readsV_two {w : World} {B g : Nat} {v1 v2 : List Ev} {d1 d2 : Pl} (h : Reads w B 1 (some ⟨g, 0, none⟩) 2 (csV [d1, d2])) (h1 : Reads w B 10 d1.1 d1.2.1 (csE v1)) (h2 : Reads w B 10 d2.1 d2.2.1 (csE v2)) (l1 : d1.2.1 ≤ 9223372036854775807) (l2 : d2.2.1 ≤ 9223372036854775807) : ReadsV w B (some ⟨g, 0, none⟩) 2 [v1, v2] := by
  refine ⟨[d1, d2], rfl, h, fun k d v hd hv => ?_⟩
  match k with
  | 0 => simp at hd hv; subst hd hv; exact ⟨h1, l1⟩
  | 1 => simp at hd hv; subst hd hv; exact ⟨h2, l2⟩
  | k + 2 => simp at hd
set_option maxRecDepth 100000 in
set_option maxHeartbeats 1000000 in
theorem proposes_any (A : Option Addr) (n c : Nat) (l : List (List Ev)) (A2 : Option Addr) (m c2 : Nat) (L : List Fic) (w : World) (h : ReadsV w w.heap.size A n l) (h2 : Reads w w.heap.size 4 A2 m (csFic L)) (hn : n ≤ 1000) (hm : m ≤ 1000) (ht : Tabs w) (hE : allE l = (L, 0)) :
    Calls Tryz.prog 19 #[.slice A n c, .slice A2 m c2] w fun e w' => e = .returned (.bool true) ∧ Below w.heap.size w w' := by
  have q1 := fall_ok A n c l w.heap.size h (Nat.le_refl _) hn ht
  rw [hE] at q1
  have hlm : L.length = m := h2.len (size := 4) (l := L) (f := cFic) (fun _ => rfl) (by decide)
  clear h ht hE
  go_enter Tryz.func19, Tryz.ntmps19
  go_wp2_with fail
  refine q1.mono ?_
  rintro e w1 ⟨u, rfl, how, k1⟩
  obtain ⟨A1, c1, rfl, r1, _, _⟩ := own_reads how
  simp only at r1 ⊢
  rw [hlm] at r1 ⊢
  have q2 := sameFicta_any A1 A2 m c1 c2 L w1.heap.size w.heap.size w1 r1 (Nat.le_refl _) (h2.below (Nat.le_refl _) k1) k1.size (by omega)
  clear how r1 q1 h2 hlm
  go_wp2_with fail
  refine q2.mono ?_
  rintro e w2 ⟨rfl, k2⟩
  go_wp2
  refine ret_of (by simp [results, Tryz.results19, go_sem, *]; repeat' (first | rfl | apply And.intro)) rfl ⟨rfl, below_call k1 k2⟩
set_option maxRecDepth 100000 in
set_option maxHeartbeats 16000000 in
theorem awake_any (w : World) (ht : Tabs w) : Calls Tryz.prog 11 #[] w fun e w' => e = .returned (.bool true) ∧ Below w.heap.size w w' := by
  go_enter Tryz.func11, Tryz.ntmps11
  go_wp2_with fail
  obtain ⟨w1, hw1⟩ : ∃ x, x = w.alloc (.cells #[.int .i64 11, .int .i64 10, .int .i64 11] 3) := ⟨_, rfl⟩
  have b1 : Below w.heap.size w w1 := by rw [hw1]; exact below_alloc (Below.refl _ _) _
  have i1 : Reads w1 w1.heap.size 1 (some ⟨w.heap.size, 0, none⟩) 3 (csN [11, 10, 11]) := by rw [hw1]; exact (Reads.newAt _ _ _ 3 1 _ rfl rfl).more (by simp)
  rw [← hw1]
  clear hw1
  have k1 := b1
  clear b1
  refine Calls.mono (fvoice_any _ 3 3 [11, 10, 11] _ i1 (by omega) (by decide)) ?_
  rintro e w2 ⟨v2, rfl, o2, b2⟩
  obtain ⟨A2, c2, rfl, r2, _, _⟩ := own_reads o2
  clear o2 i1
  have k2 := below_call k1 b2
  clear k1
  clear b2
  go_wp2_with fail
  obtain ⟨w3, hw3⟩ : ∃ x, x = w2.alloc (.cells #[.int .i64 5, .int .i64 5, .int .i64 4] 3) := ⟨_, rfl⟩
  have b3 : Below w2.heap.size w2 w3 := by rw [hw3]; exact below_alloc (Below.refl _ _) _
  have i3 : Reads w3 w3.heap.size 1 (some ⟨w2.heap.size, 0, none⟩) 3 (csN [5, 5, 4]) := by rw [hw3]; exact (Reads.newAt _ _ _ 3 1 _ rfl rfl).more (by simp)
  rw [← hw3]
  clear hw3
  have k3 := below_call k2 b3
  clear k2
  have R2_3 := rd1 r2 b3
  clear r2
  clear b3
  refine Calls.mono (fvoice_any _ 3 3 [5, 5, 4] _ i3 (by omega) (by decide)) ?_
  rintro e w4 ⟨v4, rfl, o4, b4⟩
  obtain ⟨A4, c4, rfl, r4, _, _⟩ := own_reads o4
  clear o4 i3
  have k4 := below_call k3 b4
  clear k3
  have R2_4 := rd1 R2_3 b4
  clear R2_3
  clear b4
  go_wp2_with fail
  obtain ⟨w5, hw5⟩ : ∃ x, x = w4.alloc (.cells #[.slice A2 3 c2, .slice A4 3 c4] 36) := ⟨_, rfl⟩
  have b5 : Below w4.heap.size w4 w5 := by rw [hw5]; exact below_alloc (Below.refl _ _) _
  have s5 := readsV_two (d1 := (A2, 3, c2)) (d2 := (A4, 3, c4)) (by rw [hw5]; exact (Reads.newAt _ _ _ 2 1 _ rfl rfl).more (by simp) : Reads w5 w5.heap.size 1 (some ⟨w4.heap.size, 0, none⟩) 2 (csV [(A2, 3, c2), (A4, 3, c4)])) (rd1 R2_4 b5) (rd1 r4 b5) (by show 3 ≤ 9223372036854775807; omega) (by show 3 ≤ 9223372036854775807; omega)
  have hz5 := Lib.hid (show w5.heap.size = w4.heap.size + 1 by rw [hw5]; simp)
  rw [← hw5]
  clear hw5 R2_4 r4
  have k5 := below_call k4 b5
  clear k4
  clear b5
  obtain ⟨w6, hw6⟩ : ∃ x, x = w5.alloc (.cells #[.int .i64 0, .int .i64 1, .int .i64 1, .int .i64 1] 39) := ⟨_, rfl⟩
  have b6 : Below w5.heap.size w5 w6 := by rw [hw6]; exact below_alloc (Below.refl _ _) _
  have f6 : Reads w6 w6.heap.size 4 (some ⟨w4.heap.size + 1, 0, none⟩) 1 (csFic [(0, 1, 1, 1)]) := by rw [hw6]; exact (Reads.newAt _ _ _ 1 4 _ hz5.out.symm rfl).more (by simp; have := hz5.out; omega)
  rw [← hw6]
  clear hw6
  have k6 := below_call k5 b6
  clear k5
  have S5_6 := rdV s5 b6
  clear s5
  clear b6
  have qa := fapply_ok _ 2 2 _ _ S5_6 (Nat.le_refl _) (by omega) _ 1 1 _ _ f6 (Nat.le_refl _) (by omega)
  rw [ex_apply] at qa
  refine Calls.mono (qa) ?_
  rintro e w7 ⟨X, mX, cX, rfl, rX, b7⟩
  clear qa f6
  have k7 := below_call k6 b7
  clear k6
  have S5_7 := rdV S5_6 b7
  clear S5_6
  clear b7
  go_wp2_with fail
  have qr := frounds_ok _ 2 2 _ _ S5_7 (Nat.le_refl _) (by omega) (ht.kept k7)
  rw [ex_rounds] at qr
  refine Calls.mono (qr) ?_
  rintro e w8 ⟨rfl, b8⟩
  clear qr
  have k8 := below_call k7 b8
  clear k7
  have S5_8 := rdV S5_7 b8
  clear S5_7
  have RX_8 := rdV rX b8
  clear rX
  clear b8
  go_wp2_with fail
  obtain ⟨w9, hw9⟩ : ∃ x, x = w8.alloc (.cells #[.int .i64 0, .int .i64 1, .int .i64 1, .int .i64 1] 39) := ⟨_, rfl⟩
  have b9 : Below w8.heap.size w8 w9 := by rw [hw9]; exact below_alloc (Below.refl _ _) _
  have f9 : Reads w9 w9.heap.size 4 (some ⟨w8.heap.size, 0, none⟩) 1 (csFic [(0, 1, 1, 1)]) := by rw [hw9]; exact (Reads.newAt _ _ _ 1 4 _ rfl rfl).more (by simp)
  rw [← hw9]
  clear hw9
  have k9 := below_call k8 b9
  clear k8
  have S5_9 := rdV S5_8 b9
  clear S5_8
  have RX_9 := rdV RX_8 b9
  clear RX_8
  clear b9
  refine Calls.mono (proposes_any _ 2 _ _ _ 1 _ _ _ S5_9 f9 (by omega) (by omega) (ht.kept k9) ex_awake) ?_
  rintro e w10 ⟨rfl, b10⟩
  clear S5_9 f9
  have k10 := below_call k9 b10
  clear k9
  have RX_10 := rdV RX_9 b10
  clear RX_9
  clear b10
  obtain rfl : 2 = mX := RX_10.len
  obtain ⟨bx, ox, A', n', c', rfl, hab, cx, rv, _, hvn⟩ := ReadsV.voice (k := 0) RX_10 (Nat.le_refl _) (Below.refl _ _) (by omega) rfl
  obtain rfl : 3 = n' := hvn
  obtain ⟨be, oe, rfl, hbe, hce⟩ := rv.ev (k := 1) (Nat.le_refl _) (Below.refl _ _) (by omega) rfl
  obtain ⟨_, _, _, _, y4, y5, y6, _, _, _⟩ := ten hce
  simp only [Nat.add_zero, Nat.one_mul] at cx y4 y5 y6
  clear hce rv RX_10
  go_wp2
  refine ret_of (by simp [results, Tryz.results11, go_sem, *]; repeat' (first | rfl | apply And.intro)) rfl ⟨?_, by repeat (first | with_reducible exact Below.refl _ _ | with_reducible assumption | with_reducible refine below_drewN ?_ _ | with_reducible refine Below.drew ?_ | with_reducible refine below_alloc ?_ _ | (with_reducible refine Below.setCell ?_ ?_ _; rotate_left; ((try simp only); omega)))⟩
  rfl
set_option maxRecDepth 100000 in
set_option maxHeartbeats 16000000 in
theorem known_any (w : World) (ht : Tabs w) : Calls Tryz.prog 4 #[] w fun e w' => e = .returned (.bool true) ∧ Below w.heap.size w w' := by
  go_enter Tryz.func4, Tryz.ntmps4
  go_wp2_with fail
  obtain ⟨w1, hw1⟩ : ∃ x, x = w.alloc (.cells #[.int .i64 10] 3) := ⟨_, rfl⟩
  have b1 : Below w.heap.size w w1 := by rw [hw1]; exact below_alloc (Below.refl _ _) _
  have i1 : Reads w1 w1.heap.size 1 (some ⟨w.heap.size, 0, none⟩) 1 (csN [10]) := by rw [hw1]; exact (Reads.newAt _ _ _ 1 1 _ rfl rfl).more (by simp)
  rw [← hw1]
  clear hw1
  have k1 := b1
  clear b1
  refine Calls.mono (fvoice_any _ 1 1 [10] _ i1 (by omega) (by decide)) ?_
  rintro e w2 ⟨v2, rfl, o2, b2⟩
  obtain ⟨A2, c2, rfl, r2, _, _⟩ := own_reads o2
  clear o2 i1
  have k2 := below_call k1 b2
  clear k1
  clear b2
  go_wp2_with fail
  obtain ⟨w3, hw3⟩ : ∃ x, x = w2.alloc (.cells #[.int .i64 6] 3) := ⟨_, rfl⟩
  have b3 : Below w2.heap.size w2 w3 := by rw [hw3]; exact below_alloc (Below.refl _ _) _
  have i3 : Reads w3 w3.heap.size 1 (some ⟨w2.heap.size, 0, none⟩) 1 (csN [6]) := by rw [hw3]; exact (Reads.newAt _ _ _ 1 1 _ rfl rfl).more (by simp)
  rw [← hw3]
  clear hw3
  have k3 := below_call k2 b3
  clear k2
  have R2_3 := rd1 r2 b3
  clear r2
  clear b3
  refine Calls.mono (fvoice_any _ 1 1 [6] _ i3 (by omega) (by decide)) ?_
  rintro e w4 ⟨v4, rfl, o4, b4⟩
  obtain ⟨A4, c4, rfl, r4, _, _⟩ := own_reads o4
  clear o4 i3
  have k4 := below_call k3 b4
  clear k3
  have R2_4 := rd1 R2_3 b4
  clear R2_3
  clear b4
  go_wp2_with fail
  obtain ⟨w5, hw5⟩ : ∃ x, x = w4.alloc (.cells #[.slice A2 1 c2, .slice A4 1 c4] 36) := ⟨_, rfl⟩
  have b5 : Below w4.heap.size w4 w5 := by rw [hw5]; exact below_alloc (Below.refl _ _) _
  have s5 := readsV_two (d1 := (A2, 1, c2)) (d2 := (A4, 1, c4)) (by rw [hw5]; exact (Reads.newAt _ _ _ 2 1 _ rfl rfl).more (by simp) : Reads w5 w5.heap.size 1 (some ⟨w4.heap.size, 0, none⟩) 2 (csV [(A2, 1, c2), (A4, 1, c4)])) (rd1 R2_4 b5) (rd1 r4 b5) (by show 1 ≤ 9223372036854775807; omega) (by show 1 ≤ 9223372036854775807; omega)
  have hz5 := Lib.hid (show w5.heap.size = w4.heap.size + 1 by rw [hw5]; simp)
  rw [← hw5]
  clear hw5 R2_4 r4
  have k5 := below_call k4 b5
  clear k4
  clear b5
  obtain ⟨w6, hw6⟩ : ∃ x, x = w5.alloc (.cells #[.int .i64 1, .int .i64 0, .int .i64 (-1), .int .i64 2] 39) := ⟨_, rfl⟩
  have b6 : Below w5.heap.size w5 w6 := by rw [hw6]; exact below_alloc (Below.refl _ _) _
  have f6 : Reads w6 w6.heap.size 4 (some ⟨w4.heap.size + 1, 0, none⟩) 1 (csFic [(1, 0, -1, 2)]) := by rw [hw6]; exact (Reads.newAt _ _ _ 1 4 _ hz5.out.symm rfl).more (by simp; have := hz5.out; omega)
  rw [← hw6]
  clear hw6
  have k6 := below_call k5 b6
  clear k5
  have S5_6 := rdV s5 b6
  clear s5
  clear b6
  refine Calls.mono (proposes_any _ 2 _ _ _ 1 _ _ _ S5_6 f6 (by omega) (by omega) (ht.kept k6) ex_one) ?_
  rintro e w7 ⟨rfl, b7⟩
  clear S5_6 f6
  have k7 := below_call k6 b7
  clear k6
  clear b7
  go_wp2_with fail
  obtain ⟨w8, hw8⟩ : ∃ x, x = w7.alloc (.cells #[.int .i64 5, .int .i64 6, .int .i64 5] 3) := ⟨_, rfl⟩
  have b8 : Below w7.heap.size w7 w8 := by rw [hw8]; exact below_alloc (Below.refl _ _) _
  have i8 : Reads w8 w8.heap.size 1 (some ⟨w7.heap.size, 0, none⟩) 3 (csN [5, 6, 5]) := by rw [hw8]; exact (Reads.newAt _ _ _ 3 1 _ rfl rfl).more (by simp)
  rw [← hw8]
  clear hw8
  have k8 := below_call k7 b8
  clear k7
  clear b8
  refine Calls.mono (fvoice_any _ 3 3 [5, 6, 5] _ i8 (by omega) (by decide)) ?_
  rintro e w9 ⟨v9, rfl, o9, b9⟩
  obtain ⟨A9, c9, rfl, r9, _, _⟩ := own_reads o9
  clear o9 i8
  have k9 := below_call k8 b9
  clear k8
  clear b9
  go_wp2_with fail
  obtain ⟨w10, hw10⟩ : ∃ x, x = w9.alloc (.cells #[.slice A9 3 c9] 36) := ⟨_, rfl⟩
  have b10 : Below w9.heap.size w9 w10 := by rw [hw10]; exact below_alloc (Below.refl _ _) _
  have s10 := readsV_one (d1 := (A9, 3, c9)) (by rw [hw10]; exact (Reads.newAt _ _ _ 1 1 _ rfl rfl).more (by simp) : Reads w10 w10.heap.size 1 (some ⟨w9.heap.size, 0, none⟩) 1 (csV [(A9, 3, c9)])) (rd1 r9 b10) (by show 3 ≤ 9223372036854775807; omega)
  have hz10 := Lib.hid (show w10.heap.size = w9.heap.size + 1 by rw [hw10]; simp)
  rw [← hw10]
  clear hw10 r9
  have k10 := below_call k9 b10
  clear k9
  clear b10
  obtain ⟨w11, hw11⟩ : ∃ x, x = w10.alloc (.cells #[.int .i64 0, .int .i64 1, .int .i64 (-1), .int .i64 3] 39) := ⟨_, rfl⟩
  have b11 : Below w10.heap.size w10 w11 := by rw [hw11]; exact below_alloc (Below.refl _ _) _
  have f11 : Reads w11 w11.heap.size 4 (some ⟨w9.heap.size + 1, 0, none⟩) 1 (csFic [(0, 1, -1, 3)]) := by rw [hw11]; exact (Reads.newAt _ _ _ 1 4 _ hz10.out.symm rfl).more (by simp; have := hz10.out; omega)
  rw [← hw11]
  clear hw11
  have k11 := below_call k10 b11
  clear k10
  have S10_11 := rdV s10 b11
  clear s10
  clear b11
  refine Calls.mono (proposes_any _ 1 _ _ _ 1 _ _ _ S10_11 f11 (by omega) (by omega) (ht.kept k11) ex_two) ?_
  rintro e w12 ⟨rfl, b12⟩
  clear S10_11 f11
  have k12 := below_call k11 b12
  clear k11
  clear b12
  go_wp2_with fail
  obtain ⟨w13, hw13⟩ : ∃ x, x = w12.alloc (.cells #[.int .i64 9, .int .i64 10, .int .i64 9] 3) := ⟨_, rfl⟩
  have b13 : Below w12.heap.size w12 w13 := by rw [hw13]; exact below_alloc (Below.refl _ _) _
  have i13 : Reads w13 w13.heap.size 1 (some ⟨w12.heap.size, 0, none⟩) 3 (csN [9, 10, 9]) := by rw [hw13]; exact (Reads.newAt _ _ _ 3 1 _ rfl rfl).more (by simp)
  rw [← hw13]
  clear hw13
  have k13 := below_call k12 b13
  clear k12
  clear b13
  refine Calls.mono (fvoice_any _ 3 3 [9, 10, 9] _ i13 (by omega) (by decide)) ?_
  rintro e w14 ⟨v14, rfl, o14, b14⟩
  obtain ⟨A14, c14, rfl, r14, _, _⟩ := own_reads o14
  clear o14 i13
  have k14 := below_call k13 b14
  clear k13
  clear b14
  go_wp2_with fail
  obtain ⟨w15, hw15⟩ : ∃ x, x = w14.alloc (.cells #[.int .i64 7, .int .i64 8, .int .i64 7] 3) := ⟨_, rfl⟩
  have b15 : Below w14.heap.size w14 w15 := by rw [hw15]; exact below_alloc (Below.refl _ _) _
  have i15 : Reads w15 w15.heap.size 1 (some ⟨w14.heap.size, 0, none⟩) 3 (csN [7, 8, 7]) := by rw [hw15]; exact (Reads.newAt _ _ _ 3 1 _ rfl rfl).more (by simp)
  rw [← hw15]
  clear hw15
  have k15 := below_call k14 b15
  clear k14
  have R14_15 := rd1 r14 b15
  clear r14
  clear b15
  refine Calls.mono (fvoice_any _ 3 3 [7, 8, 7] _ i15 (by omega) (by decide)) ?_
  rintro e w16 ⟨v16, rfl, o16, b16⟩
  obtain ⟨A16, c16, rfl, r16, _, _⟩ := own_reads o16
  clear o16 i15
  have k16 := below_call k15 b16
  clear k15
  have R14_16 := rd1 R14_15 b16
  clear R14_15
  clear b16
  go_wp2_with fail
  obtain ⟨w17, hw17⟩ : ∃ x, x = w16.alloc (.cells #[.slice A14 3 c14, .slice A16 3 c16] 36) := ⟨_, rfl⟩
  have b17 : Below w16.heap.size w16 w17 := by rw [hw17]; exact below_alloc (Below.refl _ _) _
  have s17 := readsV_two (d1 := (A14, 3, c14)) (d2 := (A16, 3, c16)) (by rw [hw17]; exact (Reads.newAt _ _ _ 2 1 _ rfl rfl).more (by simp) : Reads w17 w17.heap.size 1 (some ⟨w16.heap.size, 0, none⟩) 2 (csV [(A14, 3, c14), (A16, 3, c16)])) (rd1 R14_16 b17) (rd1 r16 b17) (by show 3 ≤ 9223372036854775807; omega) (by show 3 ≤ 9223372036854775807; omega)
  have hz17 := Lib.hid (show w17.heap.size = w16.heap.size + 1 by rw [hw17]; simp)
  rw [← hw17]
  clear hw17 R14_16 r16
  have k17 := below_call k16 b17
  clear k16
  clear b17
  try (go_wp2_with fail)
  refine Calls.mono (proposes_any _ 2 _ _ _ 0 _ _ _ s17 Reads.none_ (by omega) (by omega) (ht.kept k17) ex_three) ?_
  rintro e w18 ⟨rfl, b18⟩
  clear s17
  have k18 := below_call k17 b18
  clear k17
  clear b18
  go_wp2_with fail
  obtain ⟨w19, hw19⟩ : ∃ x, x = w18.alloc (.cells #[.int .i64 5, .int .i64 6, .int .i64 5] 3) := ⟨_, rfl⟩
  have b19 : Below w18.heap.size w18 w19 := by rw [hw19]; exact below_alloc (Below.refl _ _) _
  have i19 : Reads w19 w19.heap.size 1 (some ⟨w18.heap.size, 0, none⟩) 3 (csN [5, 6, 5]) := by rw [hw19]; exact (Reads.newAt _ _ _ 3 1 _ rfl rfl).more (by simp)
  rw [← hw19]
  clear hw19
  have k19 := below_call k18 b19
  clear k18
  clear b19
  refine Calls.mono (fvoice_any _ 3 3 [5, 6, 5] _ i19 (by omega) (by decide)) ?_
  rintro e w20 ⟨v20, rfl, o20, b20⟩
  obtain ⟨A20, c20, rfl, r20, _, _⟩ := own_reads o20
  clear o20 i19
  have k20 := below_call k19 b20
  clear k19
  clear b20
  go_wp2_with fail
  obtain ⟨w21, hw21⟩ : ∃ x, x = w20.alloc (.cells #[.int .i64 3, .int .i64 3, .int .i64 3] 3) := ⟨_, rfl⟩
  have b21 : Below w20.heap.size w20 w21 := by rw [hw21]; exact below_alloc (Below.refl _ _) _
  have i21 : Reads w21 w21.heap.size 1 (some ⟨w20.heap.size, 0, none⟩) 3 (csN [3, 3, 3]) := by rw [hw21]; exact (Reads.newAt _ _ _ 3 1 _ rfl rfl).more (by simp)
  rw [← hw21]
  clear hw21
  have k21 := below_call k20 b21
  clear k20
  have R20_21 := rd1 r20 b21
  clear r20
  clear b21
  refine Calls.mono (fvoice_any _ 3 3 [3, 3, 3] _ i21 (by omega) (by decide)) ?_
  rintro e w22 ⟨v22, rfl, o22, b22⟩
  obtain ⟨A22, c22, rfl, r22, _, _⟩ := own_reads o22
  clear o22 i21
  have k22 := below_call k21 b22
  clear k21
  have R20_22 := rd1 R20_21 b22
  clear R20_21
  clear b22
  go_wp2_with fail
  obtain ⟨w23, hw23⟩ : ∃ x, x = w22.alloc (.cells #[.slice A20 3 c20, .slice A22 3 c22] 36) := ⟨_, rfl⟩
  have b23 : Below w22.heap.size w22 w23 := by rw [hw23]; exact below_alloc (Below.refl _ _) _
  have s23 := readsV_two (d1 := (A20, 3, c20)) (d2 := (A22, 3, c22)) (by rw [hw23]; exact (Reads.newAt _ _ _ 2 1 _ rfl rfl).more (by simp) : Reads w23 w23.heap.size 1 (some ⟨w22.heap.size, 0, none⟩) 2 (csV [(A20, 3, c20), (A22, 3, c22)])) (rd1 R20_22 b23) (rd1 r22 b23) (by show 3 ≤ 9223372036854775807; omega) (by show 3 ≤ 9223372036854775807; omega)
  have hz23 := Lib.hid (show w23.heap.size = w22.heap.size + 1 by rw [hw23]; simp)
  rw [← hw23]
  clear hw23 R20_22 r22
  have k23 := below_call k22 b23
  clear k22
  clear b23
  obtain ⟨w24, hw24⟩ : ∃ x, x = w23.alloc (.cells #[.int .i64 0, .int .i64 1, .int .i64 (-1), .int .i64 2] 39) := ⟨_, rfl⟩
  have b24 : Below w23.heap.size w23 w24 := by rw [hw24]; exact below_alloc (Below.refl _ _) _
  have f24 : Reads w24 w24.heap.size 4 (some ⟨w22.heap.size + 1, 0, none⟩) 1 (csFic [(0, 1, -1, 2)]) := by rw [hw24]; exact (Reads.newAt _ _ _ 1 4 _ hz23.out.symm rfl).more (by simp; have := hz23.out; omega)
  rw [← hw24]
  clear hw24
  have k24 := below_call k23 b24
  clear k23
  have S23_24 := rdV s23 b24
  clear s23
  clear b24
  refine Calls.mono (proposes_any _ 2 _ _ _ 1 _ _ _ S23_24 f24 (by omega) (by omega) (ht.kept k24) ex_four) ?_
  rintro e w25 ⟨rfl, b25⟩
  clear S23_24 f24
  have k25 := below_call k24 b25
  clear k24
  clear b25
  go_wp2_with fail
  refine Calls.mono (awake_any _ (ht.kept k25)) ?_
  rintro e w26 ⟨rfl, b26⟩
  have k26 := below_call k25 b26
  clear k25
  clear b26
  go_wp2
  refine ret_of (by simp [results, Tryz.results4, go_sem, *]; repeat' (first | rfl | apply And.intro)) rfl ⟨rfl, k26⟩
end Go.Proofs.YtpkmiegccfhpnaaGreatDoor
