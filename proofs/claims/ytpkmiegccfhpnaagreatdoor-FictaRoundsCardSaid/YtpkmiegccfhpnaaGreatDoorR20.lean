/- Parts of the proof of LawRounds31: FiRCad, FiRCheck, FiRCadence, Steps, RowPart, FiRFindM. -/
import Derived.Test.YtpkmiegccfhpnaaGreatDoorR19
set_option maxRecDepth 100000
set_option maxHeartbeats 16000000
namespace Go.Proofs.YtpkmiegccfhpnaaGreatDoor
open Go.RowKit
def befC (x0 x1 x2 x3 y0 y1 y2 y3 : Int) : Bool := if (cmpS (x0, x1) (y0, y1)).1 = 0 then (if x2 = y2 then decide (x3 < y3) else decide (x2 < y2)) else decide ((cmpS (x0, x1) (y0, y1)).1 < 0)
def SomeI (w : World) (e : Ending) (w' : World) : Prop := ∃ r : Int, e = .returned (.int .i64 r) ∧ Below w.heap.size w w'
theorem rbef_any (x0 x1 x2 x3 x4 x5 x6 y0 y1 y2 y3 y4 y5 y6 : Int) (w : World) :
  Calls Tryz.prog 127 #[.agg #[.int .i64 x0, .int .i64 x1, .int .i64 x2, .int .i64 x3, .int .i64 x4, .int .i64 x5, .int .i64 x6], .agg #[.int .i64 y0, .int .i64 y1, .int .i64 y2, .int .i64 y3, .int .i64 y4, .int .i64 y5, .int .i64 y6]] w fun e w' => e = .returned (.bool (befC x0 x1 x2 x3 y0 y1 y2 y3)) ∧ Below w.heap.size w w' := by
 have q1 := fun W => refCmp_any (x0, x1) (y0, y1) W
 have E := Lib.hid (show befC x0 x1 x2 x3 y0 y1 y2 y3 = if (cmpS (x0, x1) (y0, y1)).1 = 0 then (if x2 = y2 then decide (x3 < y3) else decide (x2 < y2)) else decide ((cmpS (x0, x1) (y0, y1)).1 < 0) from rfl)
 obtain ⟨⟨r, s⟩, hr⟩ : ∃ z, z = cmpS (x0, x1) (y0, y1) := ⟨_, rfl⟩
 simp only [← hr] at q1 E
 clear hr
 go_enter Tryz.func127, Tryz.ntmps127
 go_wp2_with fail
 refine (q1 _).mono ?_
 rintro e w1 ⟨rfl, hb1⟩
 have BP1 : Blk w1 (w.heap.size) 126 #[.int .i64 x0, .int .i64 x1, .int .i64 x2, .int .i64 x3, .int .i64 x4, .int .i64 x5, .int .i64 x6] := by
  refine Blk.kept ?_ hb1
  repeat (first | with_reducible exact Blk.new _ _ _ | (with_reducible refine Blk.newAt _ _ _ _ ?_; first | rfl | (simp; done)) | with_reducible (first | apply Blk.alloc | apply Blk.drewN | apply Blk.drew | apply Blk.set_to) | (with_reducible apply Blk.far_; (simp only [ne_eq]; omega)) | rfl)
 have cP0_1 : w1.cell? ⟨w.heap.size, 0, none⟩ = some (.int .i64 x0) := BP1.cell 0
 have cP1_1 : w1.cell? ⟨w.heap.size, 1, none⟩ = some (.int .i64 x1) := BP1.cell 1
 have cP2_1 : w1.cell? ⟨w.heap.size, 2, none⟩ = some (.int .i64 x2) := BP1.cell 2
 have cP3_1 : w1.cell? ⟨w.heap.size, 3, none⟩ = some (.int .i64 x3) := BP1.cell 3
 have cP4_1 : w1.cell? ⟨w.heap.size, 4, none⟩ = some (.int .i64 x4) := BP1.cell 4
 have cP5_1 : w1.cell? ⟨w.heap.size, 5, none⟩ = some (.int .i64 x5) := BP1.cell 5
 have cP6_1 : w1.cell? ⟨w.heap.size, 6, none⟩ = some (.int .i64 x6) := BP1.cell 6
 have lP1 : w.heap.size < w1.heap.size := BP1.lt
 have mP1 : w.heap.size < w1.heap.size + 1 := by omega
 have nP1 : w.heap.size < w1.heap.size + 1 + 1 := by omega
 have BQ1 : Blk w1 (w.heap.size + 1) 126 #[.int .i64 y0, .int .i64 y1, .int .i64 y2, .int .i64 y3, .int .i64 y4, .int .i64 y5, .int .i64 y6] := by
  refine Blk.kept ?_ hb1
  repeat (first | with_reducible exact Blk.new _ _ _ | (with_reducible refine Blk.newAt _ _ _ _ ?_; first | rfl | (simp; done)) | with_reducible (first | apply Blk.alloc | apply Blk.drewN | apply Blk.drew | apply Blk.set_to) | (with_reducible apply Blk.far_; (simp only [ne_eq]; omega)) | rfl)
 have cQ0_1 : w1.cell? ⟨w.heap.size + 1, 0, none⟩ = some (.int .i64 y0) := BQ1.cell 0
 have cQ1_1 : w1.cell? ⟨w.heap.size + 1, 1, none⟩ = some (.int .i64 y1) := BQ1.cell 1
 have cQ2_1 : w1.cell? ⟨w.heap.size + 1, 2, none⟩ = some (.int .i64 y2) := BQ1.cell 2
 have cQ3_1 : w1.cell? ⟨w.heap.size + 1, 3, none⟩ = some (.int .i64 y3) := BQ1.cell 3
 have cQ4_1 : w1.cell? ⟨w.heap.size + 1, 4, none⟩ = some (.int .i64 y4) := BQ1.cell 4
 have cQ5_1 : w1.cell? ⟨w.heap.size + 1, 5, none⟩ = some (.int .i64 y5) := BQ1.cell 5
 have cQ6_1 : w1.cell? ⟨w.heap.size + 1, 6, none⟩ = some (.int .i64 y6) := BQ1.cell 6
 have lQ1 : w.heap.size + 1 < w1.heap.size := BQ1.lt
 have mQ1 : w.heap.size + 1 < w1.heap.size + 1 := by omega
 have nQ1 : w.heap.size + 1 < w1.heap.size + 1 + 1 := by omega
 have hs1 : w.heap.size ≤ w1.heap.size := by have h := hb1.size; (try simp at h); omega
 by_cases c1 : r = 0
 ·have d1 : (r == 0) = true := by simp [c1]
  by_cases c2 : x2 = y2
  ·have d2 : (x2 == y2) = true := by simp [c2]
   have E2 := Lib.hid (E.out.trans ((if_pos c1).trans (if_pos c2)))
   clear c1 c2 E
   go_wp2
   refine ret_of (by simp [results, Tryz.results127, go_sem, *]; repeat' (first | rfl | apply And.intro)) rfl ⟨?_, by repeat (first | exact Below.refl _ _ | refine below_drewN ?_ _ | refine Below.drew ?_ | refine below_alloc ?_ _ | (refine below_call ?_ (by assumption)) | (refine Below.setCell ?_ ?_ _; rotate_left; (simp; try omega)))⟩
   rw [E2.out]
  ·have d2 : (x2 == y2) = false := by simp [c2]
   have E2 := Lib.hid (E.out.trans ((if_pos c1).trans (if_neg c2)))
   clear c1 c2 E
   go_wp2
   refine ret_of (by simp [results, Tryz.results127, go_sem, *]; repeat' (first | rfl | apply And.intro)) rfl ⟨?_, by repeat (first | exact Below.refl _ _ | refine below_drewN ?_ _ | refine Below.drew ?_ | refine below_alloc ?_ _ | (refine below_call ?_ (by assumption)) | (refine Below.setCell ?_ ?_ _; rotate_left; (simp; try omega)))⟩
   rw [E2.out]
 ·have d1 : (r == 0) = false := by simp [c1]
  have E2 := Lib.hid (E.out.trans (if_neg c1))
  clear c1 E
  go_wp2
  refine ret_of (by simp [results, Tryz.results127, go_sem, *]; repeat' (first | rfl | apply And.intro)) rfl ⟨?_, by repeat (first | exact Below.refl _ _ | refine below_drewN ?_ _ | refine Below.drew ?_ | refine below_alloc ?_ _ | (refine below_call ?_ (by assumption)) | (refine Below.setCell ?_ ?_ _; rotate_left; (simp; try omega)))⟩
  rw [E2.out]
theorem rbass_any {w : World} (A : Option Addr) (n c : Nat) (l : List (List Ev)) (B : Nat) (hV : ReadsV w B A n l) (hB : B ≤ w.heap.size) (hl : SetV l) (cc tt st t0 t1 : Int) :
  Calls Tryz.prog 148 #[.slice A n c, .int .i64 cc, .int .i64 tt, .int .i64 st, .agg #[.int .i64 t0, .int .i64 t1]] w fun e w' => SomeI w e w' := by
 have HV := Lib.hid hV
 have HL := Lib.hid hV.len
 have HS := Lib.hid hl
 have hn8 : n ≤ 1000 := by have := hV.len; have := hl.len; omega
 clear hV hl
 go_enter Tryz.func148, Tryz.ntmps148
 go_wp2_with fail
 obtain ⟨w1, hw1⟩ : ∃ z, z = w.alloc (.cells #[.int .i64 t0, .int .i64 t1] 45) := ⟨_, rfl⟩
 have k1 : Below w.heap.size w w1 := by rw [hw1]; exact below_alloc (Below.refl _ _) _
 have Bt : Blk w1 w.heap.size 45 #[.int .i64 t0, .int .i64 t1] := by rw [hw1]; exact Blk.new _ _ _
 rw [← hw1]
 obtain ⟨gt, hgt⟩ : ∃ z, z = w.heap.size := ⟨_, rfl⟩
 rw [← hgt] at Bt ⊢
 have BT := Lib.hid Bt
 clear hw1 hgt Bt
 go_loopg [11, 12, 13, 14] n (fun gh i _ _ _ wr => ∃ k : Nat, k + gh = n ∧ i = .int .i64 (k : Int) ∧ Below w1.heap.size w1 wr)
 case atStart => exact ⟨0, by omega, by simp, Below.refl _ _⟩
 case round =>
  obtain ⟨k, hkg, rfl, kr⟩ := hrel
  have wk : IntKind.i64.wrap ((k : Int) + 1) = (k : Int) + 1 := IntWalk.i64_in _ (by omega)
  cases gk with
  | zero =>
   have d0 : ¬ ((k : Int) < (n : Int)) := by omega
   have kk := below_call k1 kr
   clear hkg
   go_wp2
   refine ret_of (by simp [results, Tryz.results148, go_sem, *]; repeat' (first | rfl | apply And.intro)) rfl ⟨_, rfl, kk⟩
  | succ gh =>
   have hkn : k < n := by omega
   have d0 : (k : Int) < (n : Int) := by omega
   obtain ⟨v, hv⟩ := get_some (l := l) (k := k) (by have := HL.out; omega)
   obtain ⟨b, ob, A', n', c', hA, hab, cv, rv, hn', hvn⟩ := HV.out.voice hB (below_call k1 kr) hkn hv
   have hfew := HS.out.few v (List.mem_of_getElem? hv)
   have HP := Lib.hid (HS.out.pits v (List.mem_of_getElem? hv))
   subst hA
   have HRV := Lib.hid rv
   have HVN := Lib.hid hvn
   have hn2 : n' ≤ 2000 := by omega
   clear hv hvn rv hfew
   obtain ⟨wo, hwo⟩ : ∃ z, z = wr := ⟨_, rfl⟩
   subst hwo
   go_wp2_with fail
   go_loopg [12, 13, 14] n' (fun g2 j _ _ wy => ∃ q : Nat, q + g2 = n' ∧ j = .int .i64 (q : Int) ∧ Below wo.heap.size wo wy)
   case atStart => exact ⟨0, by omega, by simp, Below.refl _ _⟩
   case round =>
    obtain ⟨q, hqg, rfl, ky⟩ := hrel
    have wq : IntKind.i64.wrap ((q : Int) + 1) = (q : Int) + 1 := IntWalk.i64_in _ (by omega)
    have cy := (ky.cell (p := ⟨b, ob + k, none⟩) hab).trans cv
    cases gk with
    | zero =>
     have d1 : ¬ ((q : Int) < (n' : Int)) := by omega
     have kk := below_call kr ky
     clear hqg
     go_wp2
     go_roundg gh
     case measure => omega
     case rel => exact ⟨k + 1, by omega, by go_num, kk⟩
    | succ g2 =>
     have hqn : q < n' := by omega
     have d1 : (q : Int) < (n' : Int) := by omega
     obtain ⟨x, hx⟩ := get_some (l := v) (k := q) (by have := HVN.out; omega)
     have hBo : B ≤ wo.heap.size := Nat.le_trans hB (below_call k1 kr).size
     have qk := rcl_ok (c := c') (i := q) (HRV.out.below hBo ky) (Nat.le_trans hBo ky.size) hqn (by omega) HP.out
     obtain ⟨a, ha⟩ : ∃ z, z = clK v q := ⟨_, rfl⟩
     obtain ⟨hh, hhh⟩ : ∃ z, z = clH v q := ⟨_, rfl⟩
     rw [← ha, ← hhh] at qk
     obtain ⟨bx, ox, hA', hbx, hcx⟩ := HRV.out.ev hBo ky hqn hx
     subst hA'
     obtain ⟨x0, x1, _, _, x4, _, _, _, _, _⟩ := ten hcx
     obtain ⟨⟨z0, z1⟩, ⟨e0, e1⟩, ⟨p0, p1, p2⟩, rs, sg, ps⟩ := x
     simp only at x0 x1 x4
     clear hcx hx ha hhh
     have lby : b < wr.heap.size := by have := ky.size; omega
     go_wp2_with fail
     refine qk.mono ?_
     rintro e w5 ⟨rfl, k5⟩
     clear qk
     have y0 := (k5.cell (p := ⟨bx, _, none⟩) hbx).trans x0
     have y1 := (k5.cell (p := ⟨bx, _, none⟩) hbx).trans x1
     have y4 := (k5.cell (p := ⟨bx, _, none⟩) hbx).trans x4
     have cy5 := (k5.cell (p := ⟨b, ob + k, none⟩) lby).trans cy
     have kz5 := below_call ky k5
     have kt5 := below_call kr kz5
     have Bt5 := BT.out.kept kt5
     have u0 := Bt5.cell 0
     have u1 := Bt5.cell 1
     have lt5 := Bt5.lt
     have lb5 : b < w5.heap.size := by have := k5.size; omega
     have lx5 : bx < w5.heap.size := by have := k5.size; omega
     simp only [List.getElem?_toArray, List.getElem?_cons_zero, List.getElem?_cons_succ] at u0 u1
     clear x0 x1 x4 cy k5 Bt5
     by_cases c1 : (k : Int) = cc
     ·have dc1 : ((k : Int) != cc) = false := by simp [c1]
      have fc1 : decide ((k : Int) = cc) = true := by simp [c1]
      clear c1
      go_wp2_with fail
      refine wp_region_calm (by kernel_rfl) (by kernel_rfl) ?_
      repeat (go_big_quiet_step (fail))
      refine wpQuiet_nil ?_
      intro w6 g6
      have k6 := below_call kz5 g6
      clear u0 u1 y0 y1 y4 cy5 kz5 g6
      go_wp2
      go_roundg g2
      case measure => omega
      case rel => exact ⟨q + 1, by omega, by go_num, k6⟩
     ·have dc1 : ((k : Int) != cc) = true := by simp [c1]
      have fc1 : decide ((k : Int) = cc) = false := by simp [c1]
      clear c1
      by_cases c2 : (k : Int) = tt
      ·have dc2 : ((k : Int) != tt) = false := by simp [c2]
       have fc2 : decide ((k : Int) = tt) = true := by simp [c2]
       clear c2
       go_wp2_with fail
       refine wp_region_calm (by kernel_rfl) (by kernel_rfl) ?_
       repeat (go_big_quiet_step (fail))
       refine wpQuiet_nil ?_
       intro w6 g6
       have k6 := below_call kz5 g6
       clear u0 u1 y0 y1 y4 cy5 kz5 g6
       go_wp2
       go_roundg g2
       case measure => omega
       case rel => exact ⟨q + 1, by omega, by go_num, k6⟩
      ·have dc2 : ((k : Int) != tt) = true := by simp [c2]
       have fc2 : decide ((k : Int) = tt) = false := by simp [c2]
       clear c2
       by_cases c3 : a = 3
       ·have dc3 : (a == 3) = true := by simp [c3]
        have fc3 : decide (a = 3) = true := by simp [c3]
        clear c3
        by_cases c4 : z0 = t0
        ·have dc4 : (z0 == t0) = true := by simp [c4]
         have fc4 : decide (z0 = t0) = true := by simp [c4]
         clear c4
         by_cases c5 : z1 = t1
         ·have dc5 : (z1 == t1) = true := by simp [c5]
          have fc5 : decide (z1 = t1) = true := by simp [c5]
          clear c5
          by_cases c6 : p0 = st
          ·have dc6 : (p0 == st) = true := by simp [c6]
           have fc6 : decide (p0 = st) = true := by simp [c6]
           clear c6
           have kk := below_call k1 kt5
           go_wp2_with fail
           refine wp_region_calm (by kernel_rfl) (by kernel_rfl) ?_
           repeat (go_big_quiet_step (fail))
           refine wpQuiet_nil ?_
           intro w6 g6
           have kk6 := below_call kk g6
           go_wp2
           refine ret_of (by simp [results, Tryz.results148, go_sem, *]; repeat' (first | rfl | apply And.intro)) rfl ⟨_, rfl, kk6⟩
          ·have dc6 : (p0 == st) = false := by simp [c6]
           have fc6 : decide (p0 = st) = false := by simp [c6]
           clear c6
           go_wp2_with fail
           refine wp_region_calm (by kernel_rfl) (by kernel_rfl) ?_
           repeat (go_big_quiet_step (fail))
           refine wpQuiet_nil ?_
           intro w6 g6
           have k6 := below_call kz5 g6
           clear u0 u1 y0 y1 y4 cy5 kz5 g6
           go_wp2
           go_roundg g2
           case measure => omega
           case rel => exact ⟨q + 1, by omega, by go_num, k6⟩
         ·have dc5 : (z1 == t1) = false := by simp [c5]
          have fc5 : decide (z1 = t1) = false := by simp [c5]
          clear c5
          go_wp2_with fail
          refine wp_region_calm (by kernel_rfl) (by kernel_rfl) ?_
          repeat (go_big_quiet_step (fail))
          refine wpQuiet_nil ?_
          intro w6 g6
          have k6 := below_call kz5 g6
          clear u0 u1 y0 y1 y4 cy5 kz5 g6
          go_wp2
          go_roundg g2
          case measure => omega
          case rel => exact ⟨q + 1, by omega, by go_num, k6⟩
        ·have dc4 : (z0 == t0) = false := by simp [c4]
         have fc4 : decide (z0 = t0) = false := by simp [c4]
         clear c4
         go_wp2_with fail
         refine wp_region_calm (by kernel_rfl) (by kernel_rfl) ?_
         repeat (go_big_quiet_step (fail))
         refine wpQuiet_nil ?_
         intro w6 g6
         have k6 := below_call kz5 g6
         clear u0 u1 y0 y1 y4 cy5 kz5 g6
         go_wp2
         go_roundg g2
         case measure => omega
         case rel => exact ⟨q + 1, by omega, by go_num, k6⟩
       ·have dc3 : (a == 3) = false := by simp [c3]
        have fc3 : decide (a = 3) = false := by simp [c3]
        clear c3
        go_wp2_with fail
        refine wp_region_calm (by kernel_rfl) (by kernel_rfl) ?_
        repeat (go_big_quiet_step (fail))
        refine wpQuiet_nil ?_
        intro w6 g6
        have k6 := below_call kz5 g6
        clear u0 u1 y0 y1 y4 cy5 kz5 g6
        go_wp2
        go_roundg g2
        case measure => omega
        case rel => exact ⟨q + 1, by omega, by go_num, k6⟩
theorem rchk30_ok {w : World} (A : Option Addr) (n c : Nat) (l : List (List Ev)) (B : Nat) (hV : ReadsV w B A n l) (hB : B ≤ w.heap.size) (hl : SetV l) :
  Calls Tryz.prog 125 #[.slice A n c] w fun e w' => e = .returned (.int .i64 0) ∧ Below w.heap.size w w' := by
 have HV := Lib.hid hV
 have HL := Lib.hid hV.len
 have HS := Lib.hid hl
 have hn8 : n ≤ 8 := by have := hV.len; have := hl.len; omega
 have d8 : ¬ ((8 : Int) < (n : Int)) := by omega
 have d8' : decide (8 < n) = false := decide_eq_false (by omega)
 clear hV hl
 go_enter Tryz.func125, Tryz.ntmps125
 go_wp2_with fail
 go_loopg [3, 4, 5] n (fun gh i _ _ wr => ∃ k : Nat, k + gh = n ∧ i = .int .i64 (k : Int) ∧ Below w.heap.size w wr)
 case atStart => exact ⟨0, by omega, by simp, Below.refl _ _⟩
 case round =>
  obtain ⟨k, hkg, rfl, kr⟩ := hrel
  have wk : IntKind.i64.wrap ((k : Int) + 1) = (k : Int) + 1 := IntWalk.i64_in _ (by omega)
  cases gk with
  | zero =>
   have d0 : ¬ ((k : Int) < (n : Int)) := by omega
   clear hkg
   go_wp2
   refine ret_of (by simp [results, Tryz.results125, go_sem, *]; repeat' (first | rfl | apply And.intro)) rfl ⟨rfl, kr⟩
  | succ gh =>
   have hkn : k < n := by omega
   have d0 : (k : Int) < (n : Int) := by omega
   obtain ⟨v, hv⟩ := get_some (l := l) (k := k) (by have := HL.out; omega)
   obtain ⟨b, ob, A', n', c', hA, hab, cv, rv, hn', hvn⟩ := HV.out.voice hB kr hkn hv
   have hchk := HS.out.chk v (List.mem_of_getElem? hv)
   subst hA
   have q := refEvCheck_any A' n' c' v B wr rv (Nat.le_trans hB kr.size) hn'
   obtain ⟨⟨r, s⟩, hr⟩ : ∃ z, z = checkS v := ⟨_, rfl⟩
   rw [← hr] at q hchk
   simp only at hchk q
   subst hchk
   clear hv hvn rv hr
   go_wp2_with fail
   refine q.mono ?_
   rintro e w5 ⟨rfl, k5⟩
   have k6 := below_call kr k5
   clear q k5
   go_wp2
   go_roundg gh
   case measure => omega
   case rel => exact ⟨k + 1, by omega, by go_num, k6⟩
theorem octB_back (p q : Pit3) : octB p q = (decide (Int.tmod (btw q p).1 7 = 0) && decide ((btw q p).2 = Int.tdiv (btw q p).1 7 * 12)) := by
 obtain ⟨s, hs⟩ : ∃ z, z = numP q - numP p := ⟨_, rfl⟩
 obtain ⟨h, hh⟩ : ∃ z, z = htP q - htP p := ⟨_, rfl⟩
 have e1 : (btw p q) = (s, h) := by unfold btw; rw [hs, hh]
 have e2 : (btw q p) = (-s, -h) := by unfold btw; rw [hs, hh]; simp only [Prod.mk.injEq]; omega
 unfold octB
 rw [e1, e2]
 simp only
 have t1 : Int.tmod (-s) 7 = -(Int.tmod s 7) := Int.neg_tmod s 7
 have t2 : Int.tdiv (-s) 7 = -(Int.tdiv s 7) := Int.neg_tdiv s 7
 by_cases h7 : s % 7 = 0
 ·obtain ⟨d, rfl⟩ : ∃ d, s = 7 * d := ⟨s / 7, by omega⟩
  have t3 : Int.tmod (7 * d) 7 = 0 := by rw [Int.mul_comm]; exact Int.mul_tmod_left d 7
  have t4 : Int.tdiv (7 * d) 7 = d := by rw [Int.mul_comm]; exact Int.mul_tdiv_cancel d (by decide)
  rw [t1, t2, t3, t4, h7, show (7 * d) / 7 = d by omega]
  rw [Bool.eq_iff_iff]
  simp
  omega
 ·have t3 : Int.tmod s 7 ≠ 0 := fun h => h7 (by have := Int.dvd_of_tmod_eq_zero h; omega)
  have t5 : ¬ (-(Int.tmod s 7) = 0) := by omega
  rw [t1, decide_eq_false h7, decide_eq_false t5, Bool.false_and, Bool.false_and]
theorem pair_ev {w w8 : World} {CX CY : Array Value} (h : w8 = ((w.alloc (.cells CX 49)).alloc (.cells CY 49)).drew) : Blk w8 w.heap.size 49 CX ∧ Blk w8 (w.heap.size + 1) 49 CY ∧ Below w.heap.size w w8 := by
 subst h
 refine ⟨((Blk.new w _ _).alloc _).drew, ?_, ?_⟩
 ·have := (Blk.new (w.alloc (.cells CX 49)) 49 CY).drew
  simpa using this
 ·repeat (first | with_reducible (first | exact Below.refl _ _ | assumption | refine below_drewN ?_ _ | refine Below.drew ?_ | refine below_alloc ?_ _) | (with_reducible refine Below.setCell ?_ ?_ _; rotate_left; ((try simp only); omega)))
def CadRet (l : List (List Ev)) (c i t k : Nat) (w : World) (e : Ending) (w' : World) : Prop :=
 ∃ x : Cad, e = .returned (.tuple #[.agg #[.int .i64 x.at_.1, .int .i64 x.at_.2, .int .i64 x.c, .int .i64 x.t, .int .i64 x.b, .int .i64 x.step, .int .i64 x.kind], .bool (CadAt l c i t k)]) ∧
  (CadAt l c i t k = true → Hit l c i t k x ∧ x.t = (t : Int)) ∧ Below w.heap.size w w'
theorem put7_blk {W : World} {g : Nat} {t : TypeId} {a0 a1 a2 a3 a4 a5 a6 : Value} (h : Blk W g t #[a0, a1, a2, a3, a4, a5, a6]) (v0 v1 v2 v3 v4 v5 v6 : Value) : Blk (((((((W.setCell ⟨g, 0, none⟩ v0).setCell ⟨g, 1, none⟩ v1).setCell ⟨g, 2, none⟩ v2).setCell ⟨g, 3, none⟩ v3).setCell ⟨g, 4, none⟩ v4).setCell ⟨g, 5, none⟩ v5).setCell ⟨g, 6, none⟩ v6) g t #[v0, v1, v2, v3, v4, v5, v6] := by
 have h0 : Blk (W.setCell ⟨g, 0, none⟩ v0) g t #[v0, a1, a2, a3, a4, a5, a6] := Blk.set_to h rfl
 have h1 : Blk ((W.setCell ⟨g, 0, none⟩ v0).setCell ⟨g, 1, none⟩ v1) g t #[v0, v1, a2, a3, a4, a5, a6] := Blk.set_to h0 rfl
 have h2 : Blk (((W.setCell ⟨g, 0, none⟩ v0).setCell ⟨g, 1, none⟩ v1).setCell ⟨g, 2, none⟩ v2) g t #[v0, v1, v2, a3, a4, a5, a6] := Blk.set_to h1 rfl
 have h3 : Blk ((((W.setCell ⟨g, 0, none⟩ v0).setCell ⟨g, 1, none⟩ v1).setCell ⟨g, 2, none⟩ v2).setCell ⟨g, 3, none⟩ v3) g t #[v0, v1, v2, v3, a4, a5, a6] := Blk.set_to h2 rfl
 have h4 : Blk (((((W.setCell ⟨g, 0, none⟩ v0).setCell ⟨g, 1, none⟩ v1).setCell ⟨g, 2, none⟩ v2).setCell ⟨g, 3, none⟩ v3).setCell ⟨g, 4, none⟩ v4) g t #[v0, v1, v2, v3, v4, a5, a6] := Blk.set_to h3 rfl
 have h5 : Blk ((((((W.setCell ⟨g, 0, none⟩ v0).setCell ⟨g, 1, none⟩ v1).setCell ⟨g, 2, none⟩ v2).setCell ⟨g, 3, none⟩ v3).setCell ⟨g, 4, none⟩ v4).setCell ⟨g, 5, none⟩ v5) g t #[v0, v1, v2, v3, v4, v5, a6] := Blk.set_to h4 rfl
 have h6 : Blk (((((((W.setCell ⟨g, 0, none⟩ v0).setCell ⟨g, 1, none⟩ v1).setCell ⟨g, 2, none⟩ v2).setCell ⟨g, 3, none⟩ v3).setCell ⟨g, 4, none⟩ v4).setCell ⟨g, 5, none⟩ v5).setCell ⟨g, 6, none⟩ v6) g t #[v0, v1, v2, v3, v4, v5, v6] := Blk.set_to h5 rfl
 exact h6
theorem put7_below {W w : World} {g : Nat} (k : Below w.heap.size w W) (hg : w.heap.size ≤ g) (v0 v1 v2 v3 v4 v5 v6 : Value) : Below w.heap.size w (((((((W.setCell ⟨g, 0, none⟩ v0).setCell ⟨g, 1, none⟩ v1).setCell ⟨g, 2, none⟩ v2).setCell ⟨g, 3, none⟩ v3).setCell ⟨g, 4, none⟩ v4).setCell ⟨g, 5, none⟩ v5).setCell ⟨g, 6, none⟩ v6) :=
 Below.setCell (Below.setCell (Below.setCell (Below.setCell (Below.setCell (Below.setCell (Below.setCell (k) (by show w.heap.size ≤ g; exact hg) _) (by show w.heap.size ≤ g; exact hg) _) (by show w.heap.size ≤ g; exact hg) _) (by show w.heap.size ≤ g; exact hg) _) (by show w.heap.size ≤ g; exact hg) _) (by show w.heap.size ≤ g; exact hg) _) (by show w.heap.size ≤ g; exact hg) _
theorem rcad_ok {w : World} (A : Option Addr) (n c0 : Nat) (l : List (List Ev)) (B : Nat) (hV : ReadsV w B A n l) (hB : B ≤ w.heap.size) (hl : SetV l) {c i t k : Nat} {v u : List Ev} {x y : Ev} (hv : l[c]? = some v) (hu : l[t]? = some u) (hx : v[i]? = some x) (hy : u[k]? = some y) :
  Calls Tryz.prog 126 #[.slice A n c0, .int .i64 (c : Int), .int .i64 (i : Int), .int .i64 (t : Int), .int .i64 (k : Int)] w fun e w' => CadRet l c i t k w e w' := by
 have HV := Lib.hid hV
 have HL := Lib.hid hV.len
 have HS := Lib.hid hl
 have hcn : c < n := by have := (List.getElem?_eq_some_iff.1 hv).1; have := hV.len; omega
 have htn : t < n := by have := (List.getElem?_eq_some_iff.1 hu).1; have := hV.len; omega
 have hcn' : (c : Int) < (n : Int) := by omega
 have htn' : (t : Int) < (n : Int) := by omega
 obtain ⟨b, ob, A1, n1, c1, hA, hab, cv, rv, hn1, hvn⟩ := hV.voice hB (Below.refl _ _) hcn hv
 subst hA
 obtain ⟨b', ob', A2, n2, c2, hA, _, cu, ru, hn2, hun⟩ := hV.voice hB (Below.refl _ _) htn hu
 cases hA
 have hin : i < n1 := by have := (List.getElem?_eq_some_iff.1 hx).1; omega
 have hkn : k < n2 := by have := (List.getElem?_eq_some_iff.1 hy).1; omega
 have few1 := hl.few v (List.mem_of_getElem? hv)
 have few2 := hl.few u (List.mem_of_getElem? hu)
 have q1 := fun W (hW : Below w.heap.size w W) => rcl_ok (c := c1) (i := i) (rv.below hB hW) (Nat.le_trans hB hW.size) hin (by omega) (hl.pits v (List.mem_of_getElem? hv))
 have q2 := fun W (hW : Below w.heap.size w W) => rcl_ok (c := c2) (i := k) (ru.below hB hW) (Nat.le_trans hB hW.size) hkn (by omega) (hl.pits u (List.mem_of_getElem? hu))
 obtain ⟨a, ha⟩ : ∃ z, z = clK v i := ⟨_, rfl⟩
 obtain ⟨up, hup⟩ : ∃ z, z = clH v i := ⟨_, rfl⟩
 obtain ⟨a2, ha2⟩ : ∃ z, z = clK u k := ⟨_, rfl⟩
 obtain ⟨dn, hdn⟩ : ∃ z, z = clH u k := ⟨_, rfl⟩
 simp only [← ha, ← hup] at q1
 simp only [← ha2, ← hdn] at q2
 obtain ⟨be, oe, hA, hbe, hcx⟩ := rv.ev hB (Below.refl _ _) hin hx
 subst hA
 obtain ⟨bf, of_, hA, hbf, hcy⟩ := ru.ev hB (Below.refl _ _) hkn hy
 subst hA
 have HA := Lib.hid ha
 have HU := Lib.hid hup
 have HA2 := Lib.hid ha2
 have HD := Lib.hid hdn
 clear ha hup ha2 hdn
 go_enter Tryz.func126, Tryz.ntmps126
 go_wp2_with fail
 obtain ⟨w1, hw1⟩ : ∃ z, z = w.alloc (.cells #[.int .i64 0, .int .i64 0, .int .i64 0, .int .i64 0, .int .i64 0, .int .i64 0, .int .i64 0] 126) := ⟨_, rfl⟩
 have k1 : Below w.heap.size w w1 := by rw [hw1]; exact below_alloc (Below.refl _ _) _
 have B1 : Blk w1 w.heap.size 126 #[.int .i64 0, .int .i64 0, .int .i64 0, .int .i64 0, .int .i64 0, .int .i64 0, .int .i64 0] := by rw [hw1]; exact Blk.new _ _ _
 rw [← hw1]
 obtain ⟨gr, hgr⟩ : ∃ z, z = w.heap.size := ⟨_, rfl⟩
 have HGR := Lib.hid (show w.heap.size ≤ gr by omega)
 rw [← hgr] at B1 ⊢
 clear hw1 hgr
 refine (q1 w1 k1).mono ?_
 rintro e w2 ⟨rfl, b2⟩
 have k2 := below_call k1 b2
 have B2 := B1.kept b2
 have cv2 := (k2.cell (p := ⟨b, ob + c, none⟩) hab).trans cv
 have cu2 := (k2.cell (p := ⟨b, ob + t, none⟩) hab).trans cu
 have lb2 : b < w2.heap.size := by have := k2.size; omega
 clear q1 b2 B1 k1
 go_wp2_with fail
 refine (q2 w2 k2).mono ?_
 rintro e w3 ⟨rfl, b3⟩
 have k3 := below_call k2 b3
 have B3 := B2.kept b3
 have cv3 := (k3.cell (p := ⟨b, ob + c, none⟩) hab).trans cv
 have cu3 := (k3.cell (p := ⟨b, ob + t, none⟩) hab).trans cu
 have lb3 : b < w3.heap.size := by have := k3.size; omega
 clear q2 b3 B2 k2 cv2 cu2 lb2
 obtain ⟨f0, f1, f2, f3, f4, f5, f6, f7, f8, f9⟩ := ten fun j u hu => (k3.cell (p := ⟨be, _, none⟩) hbe).trans (hcx j u hu)
 obtain ⟨h0, h1, h2, h3, h4, h5, h6, h7, h8, h9⟩ := ten fun j u hu => (k3.cell (p := ⟨bf, _, none⟩) hbf).trans (hcy j u hu)
 have lbe : be < w3.heap.size := by have := k3.size; omega
 have lbf : bf < w3.heap.size := by have := k3.size; omega
 have HX := Lib.hid hx
 have HY := Lib.hid hy
 have HVV := Lib.hid hv
 have HUU := Lib.hid hu
 clear hcx hcy hx hy hv hu hV hl rv ru cv cu
 obtain ⟨⟨a0, a1⟩, ⟨d0, d1⟩, ⟨p0, p1, p2⟩, rx, sx, px⟩ := x
 obtain ⟨⟨b0, b1⟩, ⟨e0, e1⟩, ⟨q0, q1, q2⟩, ry, sy, py⟩ := y
 simp only at f0 f1 f2 f3 f4 f5 f6 f7 f8 f9 h0 h1 h2 h3 h4 h5 h6 h7 h8 h9
 go_wp2_with fail
 apply share
 ·intro main
  go_region
  all_goals
   first
    | (obtain ⟨w4, hw4⟩ : ∃ z, z = ((w3.alloc (.cells #[.int .i64 a0, .int .i64 a1, .int .i64 d0, .int .i64 d1, .int .i64 p0, .int .i64 p1, .int .i64 p2, .bool rx, .int .i64 sx, .int .i64 px] 49)).alloc (.cells #[.int .i64 b0, .int .i64 b1, .int .i64 e0, .int .i64 e1, .int .i64 q0, .int .i64 q1, .int .i64 q2, .bool ry, .int .i64 sy, .int .i64 py] 49)).drew := ⟨_, rfl⟩; rw [← hw4]; obtain ⟨Bx, By, k4⟩ := pair_ev hw4; obtain ⟨gx, hgx⟩ : ∃ z, z = w3.heap.size := ⟨_, rfl⟩; obtain ⟨gy, hgy⟩ : ∃ z, z = w3.heap.size + 1 := ⟨_, rfl⟩; rw [← hgy] at By; rw [← hgx] at Bx; rw [← hgy, ← hgx])
    | (obtain ⟨w4, hw4⟩ : ∃ z, z = ((w3.alloc (.cells #[.int .i64 b0, .int .i64 b1, .int .i64 e0, .int .i64 e1, .int .i64 q0, .int .i64 q1, .int .i64 q2, .bool ry, .int .i64 sy, .int .i64 py] 49)).alloc (.cells #[.int .i64 a0, .int .i64 a1, .int .i64 d0, .int .i64 d1, .int .i64 p0, .int .i64 p1, .int .i64 p2, .bool rx, .int .i64 sx, .int .i64 px] 49)).drew := ⟨_, rfl⟩; rw [← hw4]; obtain ⟨By, Bx, k4⟩ := pair_ev hw4; obtain ⟨gy, hgy⟩ : ∃ z, z = w3.heap.size := ⟨_, rfl⟩; obtain ⟨gx, hgx⟩ : ∃ z, z = w3.heap.size + 1 := ⟨_, rfl⟩; rw [← hgx] at Bx; rw [← hgy] at By; rw [← hgx, ← hgy])
   have HGX := Lib.hid (show gr < gx ∧ gr < gy by have := B3.lt; omega)
   clear hw4 hgx hgy
   revert HGX
   revert k4
   revert By
   revert Bx
   revert gy
   revert gx
   revert w4
   exact main.out
 ·intro w4 gx gy Bx By k4 HGX
  have k34 := below_call k3 k4
  have Br := B3.kept k4
  have z0 := Bx.cell 0
  have z1 := Bx.cell 1
  have z4 := Bx.cell 4
  have z5 := Bx.cell 5
  have z6 := Bx.cell 6
  have u0 := By.cell 0
  have u1 := By.cell 1
  have u4 := By.cell 4
  have u5 := By.cell 5
  have u6 := By.cell 6
  have r0 := Br.cell 0
  have r1 := Br.cell 1
  have r2 := Br.cell 2
  have r3 := Br.cell 3
  have r4 := Br.cell 4
  have r5 := Br.cell 5
  have r6 := Br.cell 6
  simp only [List.getElem?_toArray, List.getElem?_cons_zero, List.getElem?_cons_succ] at z0 z1 z4 z5 z6 u0 u1 u4 u5 u6 r0 r1 r2 r3 r4 r5 r6
  have lgx := Bx.lt
  have lgy := By.lt
  have lgr := Br.lt
  have Fr := Br.frozen
  have KEY := Lib.hid (show CadAt l c i t k = (decide (c ≠ t) && (decide (a = 1) && (decide (a2 = 2) && (decide ((a0, a1) = (b0, b1)) && octB (p0, p1, p2) (q0, q1, q2))))) by
   unfold CadAt
   rw [getD_at HVV.out, getD_at HUU.out, ← HA.out, ← HA2.out]
   unfold atOf pitOf
   rw [HX.out, HY.out])
  clear f0 f1 f2 f3 f4 f5 f6 f7 f8 f9 h0 h1 h2 h3 h4 h5 h6 h7 h8 h9 lbe lbf B3 k3 k4
  by_cases g1 : a = 1
  ·by_cases g2 : a2 = 2
   ·by_cases g3 : a0 = b0
    ·by_cases g4 : a1 = b1
     ·have n1 := (clK_ne (v := v) (i := i) (by rw [← HA.out, g1]; decide)).2.2.1
      have n2 := (clK_ne (v := u) (i := k) (by rw [← HA2.out, g2]; decide)).2.2.1
      rw [vn2 HX.out] at n1
      rw [vn2 HY.out] at n2
      have PX := Lib.hid (HS.out.pits v (List.mem_of_getElem? HVV.out) _ (List.mem_of_getElem? HX.out) (by simpa using n1))
      have PY := Lib.hid (HS.out.pits u (List.mem_of_getElem? HUU.out) _ (List.mem_of_getElem? HY.out) (by simpa using n2))
      simp only at PX PY
      have qb := fun W => rbtw_ok (q0, q1, q2) (p0, p1, p2) PY.out PX.out W
      simp only [vP] at qb
      have hsb : -62 ≤ (btw (q0, q1, q2) (p0, p1, p2)).1 ∧ (btw (q0, q1, q2) (p0, p1, p2)).1 ≤ 62 := by
       have := numP_bd PX.out
       have := numP_bd PY.out
       show -62 ≤ numP (p0, p1, p2) - numP (q0, q1, q2) ∧ numP (p0, p1, p2) - numP (q0, q1, q2) ≤ 62
       omega
      have KO := Lib.hid (octB_back (p0, p1, p2) (q0, q1, q2))
      have KK := Lib.hid (show cadK l c i t k = if up = 1 then 1 else if dn = -1 then 2 else 3 by
       have e1 : (ivl v i).2 = up := by rw [HU.out]; unfold clH; rw [if_neg (by rw [← HA.out, g1]; decide)]
       have e2 : (ivl u k).2 = dn := by rw [HD.out]; unfold clH; rw [if_neg (by rw [← HA2.out, g2]; decide)]
       unfold cadK
       rw [getD_at HVV.out, getD_at HUU.out, e1, e2])
      have hct : c ≠ t := by
       intro e
       have h1 := HVV.out
       rw [e, HUU.out] at h1
       have h1 := Option.some.inj h1
       have h2 : i = k := atOf_inj (HS.out.val v (List.mem_of_getElem? HVV.out)) (List.getElem?_eq_some_iff.1 HX.out).1 (by rw [← h1]; exact (List.getElem?_eq_some_iff.1 HY.out).1) (by
        have h3 := HY.out
        rw [h1] at h3
        unfold atOf
        rw [HX.out, h3, g3, g4])
       have h3 := HA.out
       have h4 := HA2.out
       rw [h1, ← h2, ← h3] at h4
       omega
      have KA := Lib.hid (show CadAt l c i t k = octB (p0, p1, p2) (q0, q1, q2) by
       rw [KEY.out, decide_eq_true hct, decide_eq_true g1, decide_eq_true g2, decide_eq_true (p := (a0, a1) = (b0, b1)) (by rw [g3, g4])]
       simp)
      have HAT := Lib.hid (show atOf (l.getD c []) i = (a0, a1) by rw [getD_at HVV.out]; unfold atOf; rw [HX.out])
      obtain ⟨⟨s, hh⟩, hs⟩ : ∃ z, z = btw (q0, q1, q2) (p0, p1, p2) := ⟨_, rfl⟩
      simp only [← hs] at qb KO hsb
      have htd := tdiv_bd hsb
      have wt : IntKind.i64.wrap (s.tdiv 7) = s.tdiv 7 := IntWalk.i64_in _ (by omega)
      have wm : IntKind.i64.wrap (s.tdiv 7 * 12) = s.tdiv 7 * 12 := IntWalk.i64_in _ (by omega)
      have e1 : (a != 1) = false := by simp [g1]
      have e2 : (a2 != 2) = false := by simp [g2]
      have e3 : (a0 == b0) = true := by simp [g3]
      have e4 : (a1 == b1) = true := by simp [g4]
      clear g1 g2 g3 g4 hs n1 n2 HA HA2 KEY
      repeat ((fail_if_success at_builtin); go_step)
      refine (qb _).mono ?_
      rintro e w5 ⟨rfl, b5⟩
      have k5 := below_call k34 b5
      have Br5 := Br.kept b5
      have Bx5 := Bx.kept b5
      clear qb b5 k34 Br Bx By z0 z1 z4 z5 z6 u0 u1 u4 u5 u6 r0 r1 r2 r3 r4 r5 r6 lgx lgy lgr Fr e1 e2 e3 e4
      have z0 := Bx5.cell 0
      have z1 := Bx5.cell 1
      have z4 := Bx5.cell 4
      have r0 := Br5.cell 0
      have r1 := Br5.cell 1
      have r2 := Br5.cell 2
      have r3 := Br5.cell 3
      have r4 := Br5.cell 4
      have r5 := Br5.cell 5
      have r6 := Br5.cell 6
      simp only [List.getElem?_toArray, List.getElem?_cons_zero, List.getElem?_cons_succ] at z0 z1 z4 r0 r1 r2 r3 r4 r5 r6
      have lgx := Bx5.lt
      have lgr := Br5.lt
      have Fr := Br5.frozen
      by_cases g5 : s.tmod 7 = 0
      ·by_cases g6 : hh = s.tdiv 7 * 12
       ·have KA2 := Lib.hid (show CadAt l c i t k = true by rw [KA.out, KO.out, decide_eq_true g5, decide_eq_true g6]; rfl)
        have e5 : (s.tmod 7 != 0) = false := by simp [g5]
        have e6 : (hh != s.tdiv 7 * 12) = false := by simp [g6]
        clear g5 g6 KA KO
        by_cases g7 : up = 1
        ·have e7 : (up == 1) = true := by simp [g7]
         have KF := Lib.hid (KK.out.trans (if_pos g7))
         clear g7 KK
         go_wp2_with fail
         (obtain ⟨w6, hw6⟩ : ∃ z, z = (w5.alloc (.cells #[.int .i64 s, .int .i64 hh] 131)).alloc (.cells #[.int .i64 a0, .int .i64 a1, .int .i64 (c : Int), .int .i64 (t : Int), .int .i64 0, .int .i64 p0, .int .i64 1] 126) := ⟨_, rfl⟩; rw [← hw6]; have Bc6 : Blk w6 (w5.heap.size + 1) 126 #[.int .i64 a0, .int .i64 a1, .int .i64 (c : Int), .int .i64 (t : Int), .int .i64 0, .int .i64 p0, .int .i64 1] := (by rw [hw6]; exact Blk.newAt _ _ _ _ (by simp)); have Br6 := (show Blk w6 gr 126 _ by rw [hw6]; exact (Br5.alloc _).alloc _); have k6 : Below w.heap.size w w6 := (by rw [hw6]; exact below_alloc (below_alloc k5 _) _); obtain ⟨gc, hgc⟩ : ∃ z, z = w5.heap.size + 1 := ⟨_, rfl⟩; have HGC := Lib.hid (show gr ≠ gc by omega); have HGK := Lib.hid (show w.heap.size ≤ gc by have := k5.size; omega); rw [← hgc] at Bc6 ⊢; clear hw6 hgc z0 z1 z4 r0 r1 r2 r3 r4 r5 r6 lgx lgr Fr Br5 Bx5 k5; refine (rbass_any (some ⟨b, ob, none⟩) n c0 l B (HV.out.below hB k6) (Nat.le_trans hB k6.size) HS.out (c : Int) (t : Int) p0 a0 a1).mono ?_; rintro e w7 ⟨r, rfl, b7⟩; have k7 := below_call k6 b7; have Br7 := Br6.kept b7; have Bc7 := Bc6.kept b7; clear k6 b7 Br6 Bc6; have c0' := Bc7.cell 0; have c1' := Bc7.cell 1; have c2' := Bc7.cell 2; have c3' := Bc7.cell 3; have c4' := Bc7.cell 4; have c5' := Bc7.cell 5; have c6' := Bc7.cell 6; have r0 := Br7.cell 0; have r1 := Br7.cell 1; have r2 := Br7.cell 2; have r3 := Br7.cell 3; have r4 := Br7.cell 4; have r5 := Br7.cell 5; have r6 := Br7.cell 6; simp only [List.getElem?_toArray, List.getElem?_cons_zero, List.getElem?_cons_succ] at c0' c1' c2' c3' c4' c5' c6' r0 r1 r2 r3 r4 r5 r6; have lgc := Bc7.lt; have lgr := Br7.lt; have Fr := Br7.frozen; have Fc := Bc7.frozen; have NE1 := HGC.out; have NE2 := Ne.symm HGC.out)
         go_wp2_with fail
         (obtain ⟨w9, hw9⟩ : ∃ z, z = ((((((((w7.setCell ⟨gc, 4, none⟩ (.int .i64 r)).setCell ⟨gr, 0, none⟩ (.int .i64 a0)).setCell ⟨gr, 1, none⟩ (.int .i64 a1)).setCell ⟨gr, 2, none⟩ (.int .i64 (c : Int))).setCell ⟨gr, 3, none⟩ (.int .i64 (t : Int))).setCell ⟨gr, 4, none⟩ (.int .i64 r)).setCell ⟨gr, 5, none⟩ (.int .i64 p0)).setCell ⟨gr, 6, none⟩ (.int .i64 1)) := ⟨_, rfl⟩; rw [← hw9]; have B9 : Blk w9 gr 126 #[.int .i64 a0, .int .i64 a1, .int .i64 (c : Int), .int .i64 (t : Int), .int .i64 r, .int .i64 p0, .int .i64 1] := (by rw [hw9]; exact put7_blk (Br7.far (p := ⟨gc, 4, none⟩) HGC.out _) _ _ _ _ _ _ _); have k9 : Below w.heap.size w w9 := (by rw [hw9]; exact put7_below (k7.setCell (by show w.heap.size ≤ gc; exact HGK.out) _) HGR.out _ _ _ _ _ _ _); clear hw9 c0' c1' c2' c3' c4' c5' c6' r0 r1 r2 r3 r4 r5 r6 Fr Fc lgc Br7 Bc7 k7; have r0 := B9.cell 0; have r1 := B9.cell 1; have r2 := B9.cell 2; have r3 := B9.cell 3; have r4 := B9.cell 4; have r5 := B9.cell 5; have r6 := B9.cell 6; have lgr := B9.lt; simp only [List.getElem?_toArray, List.getElem?_cons_zero, List.getElem?_cons_succ] at r0 r1 r2 r3 r4 r5 r6; refine ret_of (by simp [results, Tryz.results126, go_sem, *]; repeat' (first | rfl | apply And.intro)) rfl ⟨⟨(a0, a1), (c : Int), (t : Int), r, p0, 1⟩, ?_, ?_, k9⟩; (focus (rw [KA2.out])); (focus (exact fun _ => ⟨⟨HAT.out.symm, rfl, KF.out.symm⟩, rfl⟩)))
        ·have e7 : (up == 1) = false := by simp [g7]
         by_cases g8 : dn = -1
         ·have e8 : (dn == -1) = true := by simp [g8]
          have KF := Lib.hid (KK.out.trans ((if_neg g7).trans (if_pos g8)))
          clear g7 g8 KK
          go_wp2_with fail
          (obtain ⟨w6, hw6⟩ : ∃ z, z = (w5.alloc (.cells #[.int .i64 s, .int .i64 hh] 131)).alloc (.cells #[.int .i64 a0, .int .i64 a1, .int .i64 (c : Int), .int .i64 (t : Int), .int .i64 0, .int .i64 p0, .int .i64 2] 126) := ⟨_, rfl⟩; rw [← hw6]; have Bc6 : Blk w6 (w5.heap.size + 1) 126 #[.int .i64 a0, .int .i64 a1, .int .i64 (c : Int), .int .i64 (t : Int), .int .i64 0, .int .i64 p0, .int .i64 2] := (by rw [hw6]; exact Blk.newAt _ _ _ _ (by simp)); have Br6 := (show Blk w6 gr 126 _ by rw [hw6]; exact (Br5.alloc _).alloc _); have k6 : Below w.heap.size w w6 := (by rw [hw6]; exact below_alloc (below_alloc k5 _) _); obtain ⟨gc, hgc⟩ : ∃ z, z = w5.heap.size + 1 := ⟨_, rfl⟩; have HGC := Lib.hid (show gr ≠ gc by omega); have HGK := Lib.hid (show w.heap.size ≤ gc by have := k5.size; omega); rw [← hgc] at Bc6 ⊢; clear hw6 hgc z0 z1 z4 r0 r1 r2 r3 r4 r5 r6 lgx lgr Fr Br5 Bx5 k5; refine (rbass_any (some ⟨b, ob, none⟩) n c0 l B (HV.out.below hB k6) (Nat.le_trans hB k6.size) HS.out (c : Int) (t : Int) p0 a0 a1).mono ?_; rintro e w7 ⟨r, rfl, b7⟩; have k7 := below_call k6 b7; have Br7 := Br6.kept b7; have Bc7 := Bc6.kept b7; clear k6 b7 Br6 Bc6; have c0' := Bc7.cell 0; have c1' := Bc7.cell 1; have c2' := Bc7.cell 2; have c3' := Bc7.cell 3; have c4' := Bc7.cell 4; have c5' := Bc7.cell 5; have c6' := Bc7.cell 6; have r0 := Br7.cell 0; have r1 := Br7.cell 1; have r2 := Br7.cell 2; have r3 := Br7.cell 3; have r4 := Br7.cell 4; have r5 := Br7.cell 5; have r6 := Br7.cell 6; simp only [List.getElem?_toArray, List.getElem?_cons_zero, List.getElem?_cons_succ] at c0' c1' c2' c3' c4' c5' c6' r0 r1 r2 r3 r4 r5 r6; have lgc := Bc7.lt; have lgr := Br7.lt; have Fr := Br7.frozen; have Fc := Bc7.frozen; have NE1 := HGC.out; have NE2 := Ne.symm HGC.out)
          go_wp2_with fail
          (obtain ⟨w9, hw9⟩ : ∃ z, z = ((((((((w7.setCell ⟨gc, 4, none⟩ (.int .i64 r)).setCell ⟨gr, 0, none⟩ (.int .i64 a0)).setCell ⟨gr, 1, none⟩ (.int .i64 a1)).setCell ⟨gr, 2, none⟩ (.int .i64 (c : Int))).setCell ⟨gr, 3, none⟩ (.int .i64 (t : Int))).setCell ⟨gr, 4, none⟩ (.int .i64 r)).setCell ⟨gr, 5, none⟩ (.int .i64 p0)).setCell ⟨gr, 6, none⟩ (.int .i64 2)) := ⟨_, rfl⟩; rw [← hw9]; have B9 : Blk w9 gr 126 #[.int .i64 a0, .int .i64 a1, .int .i64 (c : Int), .int .i64 (t : Int), .int .i64 r, .int .i64 p0, .int .i64 2] := (by rw [hw9]; exact put7_blk (Br7.far (p := ⟨gc, 4, none⟩) HGC.out _) _ _ _ _ _ _ _); have k9 : Below w.heap.size w w9 := (by rw [hw9]; exact put7_below (k7.setCell (by show w.heap.size ≤ gc; exact HGK.out) _) HGR.out _ _ _ _ _ _ _); clear hw9 c0' c1' c2' c3' c4' c5' c6' r0 r1 r2 r3 r4 r5 r6 Fr Fc lgc Br7 Bc7 k7; have r0 := B9.cell 0; have r1 := B9.cell 1; have r2 := B9.cell 2; have r3 := B9.cell 3; have r4 := B9.cell 4; have r5 := B9.cell 5; have r6 := B9.cell 6; have lgr := B9.lt; simp only [List.getElem?_toArray, List.getElem?_cons_zero, List.getElem?_cons_succ] at r0 r1 r2 r3 r4 r5 r6; refine ret_of (by simp [results, Tryz.results126, go_sem, *]; repeat' (first | rfl | apply And.intro)) rfl ⟨⟨(a0, a1), (c : Int), (t : Int), r, p0, 2⟩, ?_, ?_, k9⟩; (focus (rw [KA2.out])); (focus (exact fun _ => ⟨⟨HAT.out.symm, rfl, KF.out.symm⟩, rfl⟩)))
         ·have e8 : (dn == -1) = false := by simp [g8]
          have KF := Lib.hid (KK.out.trans ((if_neg g7).trans (if_neg g8)))
          clear g7 g8 KK
          go_wp2_with fail
          (obtain ⟨w6, hw6⟩ : ∃ z, z = (w5.alloc (.cells #[.int .i64 s, .int .i64 hh] 131)).alloc (.cells #[.int .i64 a0, .int .i64 a1, .int .i64 (c : Int), .int .i64 (t : Int), .int .i64 0, .int .i64 p0, .int .i64 3] 126) := ⟨_, rfl⟩; rw [← hw6]; have Bc6 : Blk w6 (w5.heap.size + 1) 126 #[.int .i64 a0, .int .i64 a1, .int .i64 (c : Int), .int .i64 (t : Int), .int .i64 0, .int .i64 p0, .int .i64 3] := (by rw [hw6]; exact Blk.newAt _ _ _ _ (by simp)); have Br6 := (show Blk w6 gr 126 _ by rw [hw6]; exact (Br5.alloc _).alloc _); have k6 : Below w.heap.size w w6 := (by rw [hw6]; exact below_alloc (below_alloc k5 _) _); obtain ⟨gc, hgc⟩ : ∃ z, z = w5.heap.size + 1 := ⟨_, rfl⟩; have HGC := Lib.hid (show gr ≠ gc by omega); have HGK := Lib.hid (show w.heap.size ≤ gc by have := k5.size; omega); rw [← hgc] at Bc6 ⊢; clear hw6 hgc z0 z1 z4 r0 r1 r2 r3 r4 r5 r6 lgx lgr Fr Br5 Bx5 k5; refine (rbass_any (some ⟨b, ob, none⟩) n c0 l B (HV.out.below hB k6) (Nat.le_trans hB k6.size) HS.out (c : Int) (t : Int) p0 a0 a1).mono ?_; rintro e w7 ⟨r, rfl, b7⟩; have k7 := below_call k6 b7; have Br7 := Br6.kept b7; have Bc7 := Bc6.kept b7; clear k6 b7 Br6 Bc6; have c0' := Bc7.cell 0; have c1' := Bc7.cell 1; have c2' := Bc7.cell 2; have c3' := Bc7.cell 3; have c4' := Bc7.cell 4; have c5' := Bc7.cell 5; have c6' := Bc7.cell 6; have r0 := Br7.cell 0; have r1 := Br7.cell 1; have r2 := Br7.cell 2; have r3 := Br7.cell 3; have r4 := Br7.cell 4; have r5 := Br7.cell 5; have r6 := Br7.cell 6; simp only [List.getElem?_toArray, List.getElem?_cons_zero, List.getElem?_cons_succ] at c0' c1' c2' c3' c4' c5' c6' r0 r1 r2 r3 r4 r5 r6; have lgc := Bc7.lt; have lgr := Br7.lt; have Fr := Br7.frozen; have Fc := Bc7.frozen; have NE1 := HGC.out; have NE2 := Ne.symm HGC.out)
          go_wp2_with fail
          (obtain ⟨w9, hw9⟩ : ∃ z, z = ((((((((w7.setCell ⟨gc, 4, none⟩ (.int .i64 r)).setCell ⟨gr, 0, none⟩ (.int .i64 a0)).setCell ⟨gr, 1, none⟩ (.int .i64 a1)).setCell ⟨gr, 2, none⟩ (.int .i64 (c : Int))).setCell ⟨gr, 3, none⟩ (.int .i64 (t : Int))).setCell ⟨gr, 4, none⟩ (.int .i64 r)).setCell ⟨gr, 5, none⟩ (.int .i64 p0)).setCell ⟨gr, 6, none⟩ (.int .i64 3)) := ⟨_, rfl⟩; rw [← hw9]; have B9 : Blk w9 gr 126 #[.int .i64 a0, .int .i64 a1, .int .i64 (c : Int), .int .i64 (t : Int), .int .i64 r, .int .i64 p0, .int .i64 3] := (by rw [hw9]; exact put7_blk (Br7.far (p := ⟨gc, 4, none⟩) HGC.out _) _ _ _ _ _ _ _); have k9 : Below w.heap.size w w9 := (by rw [hw9]; exact put7_below (k7.setCell (by show w.heap.size ≤ gc; exact HGK.out) _) HGR.out _ _ _ _ _ _ _); clear hw9 c0' c1' c2' c3' c4' c5' c6' r0 r1 r2 r3 r4 r5 r6 Fr Fc lgc Br7 Bc7 k7; have r0 := B9.cell 0; have r1 := B9.cell 1; have r2 := B9.cell 2; have r3 := B9.cell 3; have r4 := B9.cell 4; have r5 := B9.cell 5; have r6 := B9.cell 6; have lgr := B9.lt; simp only [List.getElem?_toArray, List.getElem?_cons_zero, List.getElem?_cons_succ] at r0 r1 r2 r3 r4 r5 r6; refine ret_of (by simp [results, Tryz.results126, go_sem, *]; repeat' (first | rfl | apply And.intro)) rfl ⟨⟨(a0, a1), (c : Int), (t : Int), r, p0, 3⟩, ?_, ?_, k9⟩; (focus (rw [KA2.out])); (focus (exact fun _ => ⟨⟨HAT.out.symm, rfl, KF.out.symm⟩, rfl⟩)))
       ·have E := Lib.hid (show CadAt l c i t k = false by rw [KA.out, KO.out, decide_eq_false g6, Bool.and_false])
        have e5 : (s.tmod 7 != 0) = false := by simp [g5]
        have e6 : (hh != s.tdiv 7 * 12) = true := by simp [g6]
        clear g5 g6 KA KO KK
        go_wp2_with fail
        (obtain ⟨w9, hw9⟩ : ∃ z, z = (((((((w5.setCell ⟨gr, 0, none⟩ (.int .i64 0)).setCell ⟨gr, 1, none⟩ (.int .i64 0)).setCell ⟨gr, 2, none⟩ (.int .i64 0)).setCell ⟨gr, 3, none⟩ (.int .i64 0)).setCell ⟨gr, 4, none⟩ (.int .i64 0)).setCell ⟨gr, 5, none⟩ (.int .i64 0)).setCell ⟨gr, 6, none⟩ (.int .i64 0)).alloc (.cells #[.int .i64 s, .int .i64 hh] 131) := ⟨_, rfl⟩; rw [← hw9]; have B9 : Blk w9 gr 126 #[.int .i64 0, .int .i64 0, .int .i64 0, .int .i64 0, .int .i64 0, .int .i64 0, .int .i64 0] := (by rw [hw9]; exact (put7_blk Br5 _ _ _ _ _ _ _).alloc _); have k9 : Below w.heap.size w w9 := (by rw [hw9]; exact below_alloc (put7_below k5 HGR.out _ _ _ _ _ _ _) _); clear hw9 r0 r1 r2 r3 r4 r5 r6 Fr Br5 k5; have r0 := B9.cell 0; have r1 := B9.cell 1; have r2 := B9.cell 2; have r3 := B9.cell 3; have r4 := B9.cell 4; have r5 := B9.cell 5; have r6 := B9.cell 6; have lgr := B9.lt; simp only [List.getElem?_toArray, List.getElem?_cons_zero, List.getElem?_cons_succ] at r0 r1 r2 r3 r4 r5 r6; refine ret_of (by simp [results, Tryz.results126, go_sem, *]; repeat' (first | rfl | apply And.intro)) rfl ⟨⟨(0, 0), 0, 0, 0, 0, 0⟩, ?_, ?_, k9⟩; (focus (rw [E.out])); (focus (intro h; rw [E.out] at h; cases h)))
      ·have E := Lib.hid (show CadAt l c i t k = false by rw [KA.out, KO.out, decide_eq_false g5, Bool.false_and])
       have e5 : (s.tmod 7 != 0) = true := by simp [g5]
       clear g5 KA KO KK
       go_wp2_with fail
       (obtain ⟨w9, hw9⟩ : ∃ z, z = (((((((w5.setCell ⟨gr, 0, none⟩ (.int .i64 0)).setCell ⟨gr, 1, none⟩ (.int .i64 0)).setCell ⟨gr, 2, none⟩ (.int .i64 0)).setCell ⟨gr, 3, none⟩ (.int .i64 0)).setCell ⟨gr, 4, none⟩ (.int .i64 0)).setCell ⟨gr, 5, none⟩ (.int .i64 0)).setCell ⟨gr, 6, none⟩ (.int .i64 0)).alloc (.cells #[.int .i64 s, .int .i64 hh] 131) := ⟨_, rfl⟩; rw [← hw9]; have B9 : Blk w9 gr 126 #[.int .i64 0, .int .i64 0, .int .i64 0, .int .i64 0, .int .i64 0, .int .i64 0, .int .i64 0] := (by rw [hw9]; exact (put7_blk Br5 _ _ _ _ _ _ _).alloc _); have k9 : Below w.heap.size w w9 := (by rw [hw9]; exact below_alloc (put7_below k5 HGR.out _ _ _ _ _ _ _) _); clear hw9 r0 r1 r2 r3 r4 r5 r6 Fr Br5 k5; have r0 := B9.cell 0; have r1 := B9.cell 1; have r2 := B9.cell 2; have r3 := B9.cell 3; have r4 := B9.cell 4; have r5 := B9.cell 5; have r6 := B9.cell 6; have lgr := B9.lt; simp only [List.getElem?_toArray, List.getElem?_cons_zero, List.getElem?_cons_succ] at r0 r1 r2 r3 r4 r5 r6; refine ret_of (by simp [results, Tryz.results126, go_sem, *]; repeat' (first | rfl | apply And.intro)) rfl ⟨⟨(0, 0), 0, 0, 0, 0, 0⟩, ?_, ?_, k9⟩; (focus (rw [E.out])); (focus (intro h; rw [E.out] at h; cases h)))
     ·have E := Lib.hid (show CadAt l c i t k = false by rw [KEY.out, decide_eq_false (p := (a0, a1) = (b0, b1)) (by rw [Prod.mk.injEq]; exact fun h => g4 h.2)]; simp)
      have e1 : (a != 1) = false := by simp [g1]
      have e2 : (a2 != 2) = false := by simp [g2]
      have e3 : (a0 == b0) = true := by simp [g3]
      have e4 : (a1 == b1) = false := by simp [g4]
      clear g1 g2 g3 g4
      repeat ((fail_if_success at_builtin); go_step)
      (obtain ⟨w9, hw9⟩ : ∃ z, z = (((((((w4.setCell ⟨gr, 0, none⟩ (.int .i64 0)).setCell ⟨gr, 1, none⟩ (.int .i64 0)).setCell ⟨gr, 2, none⟩ (.int .i64 0)).setCell ⟨gr, 3, none⟩ (.int .i64 0)).setCell ⟨gr, 4, none⟩ (.int .i64 0)).setCell ⟨gr, 5, none⟩ (.int .i64 0)).setCell ⟨gr, 6, none⟩ (.int .i64 0)) := ⟨_, rfl⟩; rw [← hw9]; have B9 : Blk w9 gr 126 #[.int .i64 0, .int .i64 0, .int .i64 0, .int .i64 0, .int .i64 0, .int .i64 0, .int .i64 0] := (by rw [hw9]; exact put7_blk Br _ _ _ _ _ _ _); have k9 : Below w.heap.size w w9 := (by rw [hw9]; exact put7_below k34 HGR.out _ _ _ _ _ _ _); clear hw9 r0 r1 r2 r3 r4 r5 r6 Fr Br k34; have r0 := B9.cell 0; have r1 := B9.cell 1; have r2 := B9.cell 2; have r3 := B9.cell 3; have r4 := B9.cell 4; have r5 := B9.cell 5; have r6 := B9.cell 6; have lgr := B9.lt; simp only [List.getElem?_toArray, List.getElem?_cons_zero, List.getElem?_cons_succ] at r0 r1 r2 r3 r4 r5 r6; refine ret_of (by simp [results, Tryz.results126, go_sem, *]; repeat' (first | rfl | apply And.intro)) rfl ⟨⟨(0, 0), 0, 0, 0, 0, 0⟩, ?_, ?_, k9⟩; (focus (rw [E.out])); (focus (intro h; rw [E.out] at h; cases h)))
    ·have E := Lib.hid (show CadAt l c i t k = false by rw [KEY.out, decide_eq_false (p := (a0, a1) = (b0, b1)) (by rw [Prod.mk.injEq]; exact fun h => g3 h.1)]; simp)
     have e1 : (a != 1) = false := by simp [g1]
     have e2 : (a2 != 2) = false := by simp [g2]
     have e3 : (a0 == b0) = false := by simp [g3]
     clear g1 g2 g3
     repeat ((fail_if_success at_builtin); go_step)
     (obtain ⟨w9, hw9⟩ : ∃ z, z = (((((((w4.setCell ⟨gr, 0, none⟩ (.int .i64 0)).setCell ⟨gr, 1, none⟩ (.int .i64 0)).setCell ⟨gr, 2, none⟩ (.int .i64 0)).setCell ⟨gr, 3, none⟩ (.int .i64 0)).setCell ⟨gr, 4, none⟩ (.int .i64 0)).setCell ⟨gr, 5, none⟩ (.int .i64 0)).setCell ⟨gr, 6, none⟩ (.int .i64 0)) := ⟨_, rfl⟩; rw [← hw9]; have B9 : Blk w9 gr 126 #[.int .i64 0, .int .i64 0, .int .i64 0, .int .i64 0, .int .i64 0, .int .i64 0, .int .i64 0] := (by rw [hw9]; exact put7_blk Br _ _ _ _ _ _ _); have k9 : Below w.heap.size w w9 := (by rw [hw9]; exact put7_below k34 HGR.out _ _ _ _ _ _ _); clear hw9 r0 r1 r2 r3 r4 r5 r6 Fr Br k34; have r0 := B9.cell 0; have r1 := B9.cell 1; have r2 := B9.cell 2; have r3 := B9.cell 3; have r4 := B9.cell 4; have r5 := B9.cell 5; have r6 := B9.cell 6; have lgr := B9.lt; simp only [List.getElem?_toArray, List.getElem?_cons_zero, List.getElem?_cons_succ] at r0 r1 r2 r3 r4 r5 r6; refine ret_of (by simp [results, Tryz.results126, go_sem, *]; repeat' (first | rfl | apply And.intro)) rfl ⟨⟨(0, 0), 0, 0, 0, 0, 0⟩, ?_, ?_, k9⟩; (focus (rw [E.out])); (focus (intro h; rw [E.out] at h; cases h)))
   ·have E := Lib.hid (show CadAt l c i t k = false by rw [KEY.out, decide_eq_false g2]; simp)
    have e1 : (a != 1) = false := by simp [g1]
    have e2 : (a2 != 2) = true := by simp [g2]
    clear g1 g2
    repeat ((fail_if_success at_builtin); go_step)
    (obtain ⟨w9, hw9⟩ : ∃ z, z = (((((((w4.setCell ⟨gr, 0, none⟩ (.int .i64 0)).setCell ⟨gr, 1, none⟩ (.int .i64 0)).setCell ⟨gr, 2, none⟩ (.int .i64 0)).setCell ⟨gr, 3, none⟩ (.int .i64 0)).setCell ⟨gr, 4, none⟩ (.int .i64 0)).setCell ⟨gr, 5, none⟩ (.int .i64 0)).setCell ⟨gr, 6, none⟩ (.int .i64 0)) := ⟨_, rfl⟩; rw [← hw9]; have B9 : Blk w9 gr 126 #[.int .i64 0, .int .i64 0, .int .i64 0, .int .i64 0, .int .i64 0, .int .i64 0, .int .i64 0] := (by rw [hw9]; exact put7_blk Br _ _ _ _ _ _ _); have k9 : Below w.heap.size w w9 := (by rw [hw9]; exact put7_below k34 HGR.out _ _ _ _ _ _ _); clear hw9 r0 r1 r2 r3 r4 r5 r6 Fr Br k34; have r0 := B9.cell 0; have r1 := B9.cell 1; have r2 := B9.cell 2; have r3 := B9.cell 3; have r4 := B9.cell 4; have r5 := B9.cell 5; have r6 := B9.cell 6; have lgr := B9.lt; simp only [List.getElem?_toArray, List.getElem?_cons_zero, List.getElem?_cons_succ] at r0 r1 r2 r3 r4 r5 r6; refine ret_of (by simp [results, Tryz.results126, go_sem, *]; repeat' (first | rfl | apply And.intro)) rfl ⟨⟨(0, 0), 0, 0, 0, 0, 0⟩, ?_, ?_, k9⟩; (focus (rw [E.out])); (focus (intro h; rw [E.out] at h; cases h)))
  ·have E := Lib.hid (show CadAt l c i t k = false by rw [KEY.out, decide_eq_false g1]; simp)
   have e1 : (a != 1) = true := by simp [g1]
   clear g1
   repeat ((fail_if_success at_builtin); go_step)
   (obtain ⟨w9, hw9⟩ : ∃ z, z = (((((((w4.setCell ⟨gr, 0, none⟩ (.int .i64 0)).setCell ⟨gr, 1, none⟩ (.int .i64 0)).setCell ⟨gr, 2, none⟩ (.int .i64 0)).setCell ⟨gr, 3, none⟩ (.int .i64 0)).setCell ⟨gr, 4, none⟩ (.int .i64 0)).setCell ⟨gr, 5, none⟩ (.int .i64 0)).setCell ⟨gr, 6, none⟩ (.int .i64 0)) := ⟨_, rfl⟩; rw [← hw9]; have B9 : Blk w9 gr 126 #[.int .i64 0, .int .i64 0, .int .i64 0, .int .i64 0, .int .i64 0, .int .i64 0, .int .i64 0] := (by rw [hw9]; exact put7_blk Br _ _ _ _ _ _ _); have k9 : Below w.heap.size w w9 := (by rw [hw9]; exact put7_below k34 HGR.out _ _ _ _ _ _ _); clear hw9 r0 r1 r2 r3 r4 r5 r6 Fr Br k34; have r0 := B9.cell 0; have r1 := B9.cell 1; have r2 := B9.cell 2; have r3 := B9.cell 3; have r4 := B9.cell 4; have r5 := B9.cell 5; have r6 := B9.cell 6; have lgr := B9.lt; simp only [List.getElem?_toArray, List.getElem?_cons_zero, List.getElem?_cons_succ] at r0 r1 r2 r3 r4 r5 r6; refine ret_of (by simp [results, Tryz.results126, go_sem, *]; repeat' (first | rfl | apply And.intro)) rfl ⟨⟨(0, 0), 0, 0, 0, 0, 0⟩, ?_, ?_, k9⟩; (focus (rw [E.out])); (focus (intro h; rw [E.out] at h; cases h)))
theorem step_append_any {P : Program} (w : World) {ops : Array Oper} {o : Oper} {a : Act} {K : Act → World → Prop} {Q : Exit → Act → World → Prop} {E : Prop} (hgd : o.guard = none) (s x : Operand) (t : TypeId)
  (ho : o.op = .call { callee := .builtin .append, args := #[s, x], argTypes := #[t, t] })
  (base : Nat) (e : TypeId) (i : TypeInfo) (z : Value) (size bytes : Nat) (ht : P.underlying t = some (.slice e)) (hi : P.info? e = some i) (hz : i.zero = some z)
  (hsize : i.size = size) (hby : i.bytes = bytes) (hzs : z.cells.size = size) (hsz : 0 < size)
  (v : Value) (n : Nat) (xs : List Value) (hs : a.eval s = v) (hown : w.ownsRow base e size v n xs)
  (B : Nat) (A : Option Addr) (m c : Nat) (news : List Value) (hx : a.eval x = .slice A m c) (hr : Reads w B size A m news) (h1 : ∀ u ∈ news, u.oneCell' = true)
  (h63 : n + m ≤ maxLen) (hbytes : (n + m) * bytes ≤ 140737488355328) (hbase : base ≤ w.heap.size)
  (h : ∀ v' w', w'.ownsRow base e size v' (n + m) (xs ++ news) → w.grownBy w' v.ownBlock → (v'.ownBlock = v.ownBlock ∨ v'.ownBlock = some w.heap.size) → K (a.put o.dst v') w') :
  if Region.wanted o (yielded ops a.tmps) = true then Oper.wp P o a w K Q else E := by
 have hw : Region.wanted o (yielded ops a.tmps) = true := by simp [Region.wanted, hgd]
 rw [if_pos hw]
 exact wp_append_any w s x t ho base e i z size bytes ht hi hz hsize hby hzs hsz v n xs hs hown B A m c news hx hr h1 h63 hbytes hbase h
theorem step_guard {P : Program} {w : World} {ops : Array Oper} {o : Oper} {a : Act} {K : Act → World → Prop} {Q : Exit → Act → World → Prop} {E : Prop} (s x : Operand) (t : TypeId) (v : Value)
  (_ : o.op = .call { callee := .builtin .append, args := #[s, x], argTypes := #[t, t] }) (_ : a.eval s = v) (h : if Region.wanted o (yielded ops a.tmps) = true then Oper.wp P o a w K Q else E) :
  if Region.wanted o (yielded ops a.tmps) = true then Oper.wp P o a w K Q else E := h
theorem flat_take {α : Type} (f : α → List Value) (size : Nat) (hf : ∀ x, (f x).length = size) : ∀ (l : List α) (k : Nat), (l.take k).flatMap f = (l.flatMap f).take (k * size)
 | [], k => by simp
 | x :: l, 0 => by simp
 | x :: l, k + 1 => by
  rw [List.take_succ_cons, List.flatMap_cons, List.flatMap_cons, flat_take f size hf l k, show (k + 1) * size = size + k * size by rw [Nat.succ_mul]; omega, List.take_append, hf, List.take_of_length_le (show (f x).length ≤ size + k * size by rw [hf]; omega), show size + k * size - size = k * size by omega]
theorem flat_drop {α : Type} (f : α → List Value) (size : Nat) (hf : ∀ x, (f x).length = size) : ∀ (l : List α) (k : Nat), (l.drop k).flatMap f = (l.flatMap f).drop (k * size)
 | [], k => by simp
 | x :: l, 0 => by simp
 | x :: l, k + 1 => by
  rw [List.drop_succ_cons, List.flatMap_cons, flat_drop f size hf l k, show (k + 1) * size = size + k * size by rw [Nat.succ_mul]; omega, List.drop_append, hf, List.drop_of_length_le (show (f x).length ≤ size + k * size by rw [hf]; omega), List.nil_append, show size + k * size - size = k * size by omega]
def pa (A : Option Addr) (lo c size : Nat) : Option Addr := if c = lo then A else A.map (·.add (lo * size))
section
variable {P : Program} {t e : TypeId} {i : TypeInfo} {size : Nat} (ht : P.underlying t = some (.slice e)) (hi : P.info? e = some i) (hs : i.size = size)
include ht in
theorem elem_of : P.elem t = e := by simp [Program.elem, ht]
include ht hi hs
theorem run_size (W : World) : (sizeOf (P.elem t)).run P W = .ok size W := by
 rw [elem_of ht]
 simp [sizeOf, typeInfo, hi, hs, go_sem]
theorem run_part_l (A : Option Addr) (n c lo : Nat) (h : lo ≤ n) (W : World) : (Instr.slice t (.slice A n c) (some (.int .i64 lo)) none none).run P W = .ok (.slice (pa A lo c size) (n - lo) (c - lo)) W := by
 rw [run_slice_l W t A n c (by rw [elem_of ht]; exact ht) .i64 lo (by omega) (by omega), run_size ht hi hs]
 simp [Result.andThen, sliced, pa]
theorem run_part_h (A : Option Addr) (n c hi' : Nat) (h : hi' ≤ c) (W : World) : (Instr.slice t (.slice A n c) none (some (.int .i64 hi')) none).run P W = .ok (.slice A hi' c) W := by
 rw [run_slice_h W t A n c (by rw [elem_of ht]; exact ht) .i64 hi' (by omega) (by omega), run_size ht hi hs]
 simp [Result.andThen, sliced]
 cases A <;> simp [Addr.add]
end
theorem Reads.head_part {w : World} {B size n : Nat} {A : Option Addr} {xs : List Value} (h : Reads w B size A n xs) (k : Nat) (hk : k ≤ n) : Reads w B size A k (xs.take (k * size)) := by
 refine ⟨?_, fun h0 => ?_⟩
 ·rw [List.length_take, h.1]; have := Nat.mul_le_mul_right size hk; omega
 ·obtain ⟨b, off, e, hb, hc⟩ := h.2 (by omega)
  refine ⟨b, off, e, hb, fun j u hj => hc j u ?_⟩
  rw [List.getElem?_take] at hj
  split at hj
  ·exact hj
  ·cases hj
theorem Reads.tail_part {w : World} {B size n : Nat} {A : Option Addr} {xs : List Value} (h : Reads w B size A n xs) (k c : Nat) (hk : k ≤ n) (hc : n ≤ c) : Reads w B size (pa A k c size) (n - k) (xs.drop (k * size)) := by
 refine ⟨?_, fun h0 => ?_⟩
 ·rw [List.length_drop, h.1, Nat.sub_mul]
 ·obtain ⟨b, off, e, hb, hcell⟩ := h.2 (by omega)
  refine ⟨b, off + k * size, ?_, hb, fun j u hj => ?_⟩
  ·unfold pa
   rw [if_neg (by omega), e, Option.map_some, addr_add]
  ·rw [List.getElem?_drop] at hj
   have := hcell _ _ hj
   rwa [← Nat.add_assoc] at this
theorem own_head {w : World} {base size n c : Nat} {e : TypeId} {A : Option Addr} {xs : List Value} (h : w.ownsRow base e size (.slice A n c) n xs) (k : Nat) (hk : k ≤ n) : w.ownsRow base e size (.slice A k c) k (xs.take (k * size)) := by
 refine ⟨?_, ?_⟩
 ·rw [List.length_take, h.1]; have := Nat.mul_le_mul_right size hk; omega
 ·rcases h.2 with ⟨e1, e2⟩ | ⟨g, cap, cur, e1, hb, hg, hnc, hm, hs, ht⟩
  ·cases e1
   obtain rfl : k = 0 := by omega
   exact .inl ⟨rfl, rfl⟩
  ·cases e1
   refine .inr ⟨g, c, cur, rfl, hb, hg, by omega, hm, hs, ?_⟩
   rw [← ht, List.take_take]
   congr 1
   have := Nat.mul_le_mul_right size hk
   omega
def QS (c i t k c' i' t' k' : Nat) : Prop := c' < c ∨ (c' = c ∧ (i' < i ∨ (i' = i ∧ (t' < t ∨ (t' = t ∧ k' < k)))))
structure CadsQ (l : List (List Ev)) (c i t k : Nat) (cs : List Cad) : Prop where
 sound : ∀ x ∈ cs, CadOK l x
 full : ∀ c' i' t' k', CadAt l c' i' t' k' = true → QS c i t k c' i' t' k' → ∃ x ∈ cs, Hit l c' i' t' k' x
theorem cad_lt {l : List (List Ev)} {c i t k : Nat} (h : CadAt l c i t k = true) : c < l.length ∧ i < (l.getD c []).length ∧ t < l.length ∧ k < (l.getD t []).length := by
 obtain ⟨_, h2, h3, _⟩ := cad_parts h
 exact ⟨getD_lt (i := i) (by omega), (clK_ne (by omega)).2.2.2.1, getD_lt (i := k) (by omega), (clK_ne (by omega)).2.2.2.1⟩
section
variable {l : List (List Ev)} {c i t k : Nat} {cs : List Cad}
theorem CadsQ.start (l : List (List Ev)) : CadsQ l 0 0 0 0 [] := ⟨fun _ h => (by cases h), fun _ _ _ _ _ h => by unfold QS at h; omega⟩
theorem CadsQ.more {c2 i2 t2 k2 : Nat} (h : CadsQ l c i t k cs) (hs : ∀ c' i' t' k', CadAt l c' i' t' k' = true → QS c2 i2 t2 k2 c' i' t' k' → QS c i t k c' i' t' k') : CadsQ l c2 i2 t2 k2 cs :=
 ⟨h.sound, fun c' i' t' k' h1 h2 => h.full c' i' t' k' h1 (hs c' i' t' k' h1 h2)⟩
theorem CadsQ.endK (h : CadsQ l c i t k cs) (hk : (l.getD t []).length ≤ k) : CadsQ l c i (t + 1) 0 cs := h.more fun c' i' t' k' h1 h2 => by
 have := cad_lt h1
 unfold QS at h2 ⊢
 by_cases e : t' = t
 ·subst e; omega
 ·omega
theorem CadsQ.endT (h : CadsQ l c i t 0 cs) (ht : l.length ≤ t) : CadsQ l c (i + 1) 0 0 cs := h.more fun c' i' t' k' h1 h2 => by
 have := cad_lt h1
 unfold QS at h2 ⊢
 omega
theorem CadsQ.endI (h : CadsQ l c i 0 0 cs) (hi : (l.getD c []).length ≤ i) : CadsQ l (c + 1) 0 0 0 cs := h.more fun c' i' t' k' h1 h2 => by
 have := cad_lt h1
 unfold QS at h2 ⊢
 by_cases e : c' = c
 ·subst e; omega
 ·omega
theorem CadsQ.all_ (h : CadsQ l c 0 0 0 cs) (hc : l.length ≤ c) : ∀ c' i' t' k', CadAt l c' i' t' k' = true → ∃ x ∈ cs, Hit l c' i' t' k' x := fun c' i' t' k' h1 => h.full c' i' t' k' h1 (by
 have := cad_lt h1
 unfold QS
 omega)
theorem CadsQ.skip (h : CadsQ l c i t k cs) (hn : CadAt l c i t k = false) : CadsQ l c i t (k + 1) cs := h.more fun c' i' t' k' h1 h2 => by
 by_cases e : c' = c ∧ i' = i ∧ t' = t ∧ k' = k
 ·obtain ⟨rfl, rfl, rfl, rfl⟩ := e
  rw [hn] at h1; cases h1
 ·unfold QS at h2 ⊢
  omega
theorem CadsQ.put (h : CadsQ l c i t k cs) {x : Cad} (hy : CadAt l c i t k = true) (hx : Hit l c i t k x) (ht : x.t = (t : Int)) (q : Nat) : CadsQ l c i t (k + 1) (cs.take q ++ [x] ++ cs.drop q) := by
 have hm : ∀ y, y ∈ cs.take q ++ [x] ++ cs.drop q ↔ y ∈ cs ∨ y = x := by
  intro y
  rw [List.mem_append, List.mem_append, List.mem_singleton]
  conv => rhs; rw [← List.take_append_drop q cs, List.mem_append]
  constructor
  ·rintro ((h | h) | h)
   ·exact .inl (.inl h)
   ·exact .inr h
   ·exact .inl (.inr h)
  ·rintro ((h | h) | h)
   ·exact .inl (.inl h)
   ·exact .inr h
   ·exact .inl (.inr h)
 refine ⟨fun y hyy => ?_, fun c' i' t' k' h1 h2 => ?_⟩
 ·rcases (hm y).1 hyy with h1 | rfl
  ·exact h.sound y h1
  ·exact ⟨c, i, t, k, hy, hx.1, hx.2.1, ht, hx.2.2⟩
 ·by_cases e : c' = c ∧ i' = i ∧ t' = t ∧ k' = k
  ·obtain ⟨rfl, rfl, rfl, rfl⟩ := e
   exact ⟨x, (hm x).2 (.inr rfl), hx⟩
  ·obtain ⟨y, hyy, h3⟩ := h.full c' i' t' k' h1 (by unfold QS at h2 ⊢; omega)
   exact ⟨y, (hm y).2 (.inl hyy), h3⟩
end
theorem csCad_take (l : List Cad) (k : Nat) : csCad (l.take k) = (csCad l).take (k * 7) := flat_take cCad 7 (fun _ => rfl) l k
theorem csCad_drop (l : List Cad) (k : Nat) : csCad (l.drop k) = (csCad l).drop (k * 7) := flat_drop cCad 7 (fun _ => rfl) l k
def FndSt (l : List (List Ev)) (base : Nat) (w wr : World) (u : Value) (c i t k : Nat) : Prop := ∃ cs : List Cad, wr.ownsRow base 126 7 u cs.length (csCad cs) ∧ CadsQ l c i t k cs ∧ cs.length ≤ ((c * 2000 + i) * 8 + t) * 2000 + k ∧ Below base w wr
theorem FndSt.call {l : List (List Ev)} {w wr wz : World} {u : Value} {c i t k : Nat} (h : FndSt l w.heap.size w wr u c i t k) (b : Below wr.heap.size wr wz) : FndSt l w.heap.size w wz u c i t k := by
 obtain ⟨cs, h1, h2, h3, h4⟩ := h
 exact ⟨cs, own_call h1 b, h2, h3, below_call h4 b⟩
theorem FndSt.blw {l : List (List Ev)} {base : Nat} {w wr : World} {u : Value} {c i t k : Nat} (h : FndSt l base w wr u c i t k) : Below base w wr := by
 obtain ⟨cs, h1, h2, h3, h4⟩ := h
 exact h4
theorem FndSt.alloc {l : List (List Ev)} {w wr : World} {u : Value} {c i t k : Nat} (h : FndSt l w.heap.size w wr u c i t k) (o : Obj) : FndSt l w.heap.size w (wr.alloc o) u c i t k := h.call (below_alloc (Below.refl _ _) o)
theorem FndSt.endK {l : List (List Ev)} {base : Nat} {w wr : World} {u : Value} {c i t k : Nat} (h : FndSt l base w wr u c i t k) (hk : (l.getD t []).length ≤ k) (h2 : k ≤ 2000) : FndSt l base w wr u c i (t + 1) 0 := by
 obtain ⟨cs, h1, h2, h3, h4⟩ := h
 exact ⟨cs, h1, h2.endK hk, by omega, h4⟩
theorem FndSt.endT {l : List (List Ev)} {base : Nat} {w wr : World} {u : Value} {c i t : Nat} (h : FndSt l base w wr u c i t 0) (hk : l.length ≤ t) (h2 : t ≤ 8) : FndSt l base w wr u c (i + 1) 0 0 := by
 obtain ⟨cs, h1, h2, h3, h4⟩ := h
 exact ⟨cs, h1, h2.endT hk, by omega, h4⟩
theorem FndSt.endI {l : List (List Ev)} {base : Nat} {w wr : World} {u : Value} {c i : Nat} (h : FndSt l base w wr u c i 0 0) (hk : (l.getD c []).length ≤ i) (h2 : i ≤ 2000) : FndSt l base w wr u (c + 1) 0 0 0 := by
 obtain ⟨cs, h1, h2, h3, h4⟩ := h
 exact ⟨cs, h1, h2.endI hk, by omega, h4⟩
theorem FndSt.skip {l : List (List Ev)} {base : Nat} {w wr : World} {u : Value} {c i t k : Nat} (h : FndSt l base w wr u c i t k) (hn : CadAt l c i t k = false) : FndSt l base w wr u c i t (k + 1) := by
 obtain ⟨cs, h1, h2, h3, h4⟩ := h
 exact ⟨cs, h1, h2.skip hn, by omega, h4⟩
theorem FndSt.puts {l : List (List Ev)} {w wz w5 : World} {v5 : Value} {c i t k q N : Nat} {cs : List Cad} {x0 x1 x2 x3 x4 x5 x6 : Int} (hq : CadsQ l c i t k cs) (hN : N = cs.length) (hqN : q ≤ N) (hy : CadAt l c i t k = true)
  (hh : CadAt l c i t k = true → Hit l c i t k ⟨(x0, x1), x2, x3, x4, x5, x6⟩ ∧ (⟨(x0, x1), x2, x3, x4, x5, x6⟩ : Cad).t = (t : Int)) (hle : N ≤ ((c * 2000 + i) * 8 + t) * 2000 + k) (kz : Below w.heap.size w wz)
  (hown : w5.ownsRow wz.heap.size 126 7 v5 (q + 1 + (N - q)) (csCad (cs.take q) ++ [.int .i64 x0, .int .i64 x1, .int .i64 x2, .int .i64 x3, .int .i64 x4, .int .i64 x5, .int .i64 x6] ++ csCad (cs.drop q))) (hB5 : Below wz.heap.size wz w5) : FndSt l w.heap.size w w5 v5 c i t (k + 1) := by
 have e1 : csCad (cs.take q) ++ [.int .i64 x0, .int .i64 x1, .int .i64 x2, .int .i64 x3, .int .i64 x4, .int .i64 x5, .int .i64 x6] ++ csCad (cs.drop q) = csCad (cs.take q ++ [⟨(x0, x1), x2, x3, x4, x5, x6⟩] ++ cs.drop q) := by rw [csCad_append, csCad_append]; rfl
 have e2 : (cs.take q ++ [(⟨(x0, x1), x2, x3, x4, x5, x6⟩ : Cad)] ++ cs.drop q).length = q + 1 + (N - q) := by simp; omega
 refine ⟨_, ?_, hq.put hy (hh hy).1 (hh hy).2 q, ?_, below_call kz hB5⟩
 ·rw [e2, ← e1]; exact own_lower hown kz.size
 ·rw [e2]; omega
def RFindRet (l : List (List Ev)) (w : World) (e : Ending) (w' : World) : Prop :=
 ∃ u cs, e = .returned (.tuple #[u, .int .i64 0]) ∧ w'.ownsRow w.heap.size 126 7 u cs.length (csCad cs) ∧ (∀ x ∈ cs, CadOK l x) ∧ (∀ c i t k, CadAt l c i t k = true → ∃ x ∈ cs, Hit l c i t k x) ∧ cs.length ≤ 300000000 ∧ Below w.heap.size w w'
theorem FndSt.ret {l : List (List Ev)} {w wr : World} {u : Value} {c : Nat} (h : FndSt l w.heap.size w wr u c 0 0 0) (hc : l.length ≤ c) (h8 : c ≤ 8) : RFindRet l w (.returned (.tuple #[u, .int .i64 0])) wr := by
 obtain ⟨cs, h1, h2, h3, h4⟩ := h
 exact ⟨u, cs, rfl, h1, h2.sound, h2.all_ hc, by omega, h4⟩
theorem reads_one {w : World} {g size : Nat} {t : TypeId} {cs : Array Value} {xs : List Value} (h : Blk w g t cs) (e : cs.toList = xs) (hs : xs.length = size) : Reads w w.heap.size size (some ⟨g, 0, none⟩) 1 xs := by
 subst e
 refine ⟨by rw [hs, Nat.one_mul], fun _ => ⟨g, 0, rfl, h.lt, fun j u hu => ?_⟩⟩
 rw [Nat.zero_add, h.cell]
 simpa using hu
end Go.Proofs.YtpkmiegccfhpnaaGreatDoor
