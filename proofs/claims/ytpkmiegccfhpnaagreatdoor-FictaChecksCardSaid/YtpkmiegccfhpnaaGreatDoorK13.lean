/- Parts of the proofs of layer 31: FiFlat. -/
import Derived.Test.YtpkmiegccfhpnaaGreatDoorK12
namespace Go.Proofs.YtpkmiegccfhpnaaGreatDoor
open Go.RowKit Go.Maps
def flatW (N : Nat) (p q : Plc) : Plc := if N = 1 then p else if N = 2 then q else (0, 0)
theorem ev_pit (x : Ev) (w : World) : (Instr.field 49 (.agg (cE x).toArray) 2).run Tryz.prog w = .ok (vP x.pit) w := by
  obtain ⟨⟨a0, a1⟩, ⟨d0, d1⟩, ⟨p0, p1, p2⟩, rs, sg, ps⟩ := x
  kernel_rfl
theorem pit_step (p : Pit3) (w : World) : (Instr.field 47 (vP p) 0).run Tryz.prog w = .ok (.int .i64 p.1) w := by
  obtain ⟨p0, p1, p2⟩ := p
  kernel_rfl
set_option maxRecDepth 100000 in
set_option maxHeartbeats 2000000 in
theorem flattened_ok (A : Option Addr) (n c : Nat) (l : List (List Ev)) (B : Nat) (w : World) (h : ReadsV w B A n l) (hB : B ≤ w.heap.size) {a i b j : Nat} {x y : Ev} (hx : evA l ((a : Int), (i : Int)) = some x) (hy : evA l ((b : Int), (j : Int)) = some y) (hxr : x.rest = false) (hyr : y.rest = false) (s : Int) :
    Calls Tryz.prog 124 #[.slice A n c, .agg #[.int .i64 (a : Int), .int .i64 (i : Int), .int .i64 (b : Int), .int .i64 (j : Int)], .int .i64 s] w fun e w' => e = .returned (.tuple #[.agg #[.int .i64 (flatW (flatN x.pit y.pit s) ((a : Int), (i : Int)) ((b : Int), (j : Int))).1, .int .i64 (flatW (flatN x.pit y.pit s) ((a : Int), (i : Int)) ((b : Int), (j : Int))).2], .bool (decide (flatN x.pit y.pit s ≠ 0))]) ∧ Below w.heap.size w w' := by
  have qf1 := fun W (hW : Below w.heap.size w W) => free_ok A n c l B W (h.below hB hW) (Nat.le_trans hB hW.size) hx
  have qf2 := fun W (hW : Below w.heap.size w W) => free_ok A n c l B W (h.below hB hW) (Nat.le_trans hB hW.size) hy
  have qo1 := fun W (hW : Below w.heap.size w W) => of_ok A n c l B W (h.below hB hW) (Nat.le_trans hB hW.size) hx
  have qo2 := fun W (hW : Below w.heap.size w W) => of_ok A n c l B W (h.below hB hW) (Nat.le_trans hB hW.size) hy
  have e1 : freeB l ((a : Int), (i : Int)) = decide (x.pit.2.2 = 0) := by rw [free_ev hx, hxr]; rfl
  have e2 : freeB l ((b : Int), (j : Int)) = decide (y.pit.2.2 = 0) := by rw [free_ev hy, hyr]; rfl
  obtain ⟨f1, hf1⟩ : ∃ z, z = freeB l ((a : Int), (i : Int)) := ⟨_, rfl⟩
  obtain ⟨f2, hf2⟩ : ∃ z, z = freeB l ((b : Int), (j : Int)) := ⟨_, rfl⟩
  rw [← hf1] at qf1 e1
  rw [← hf2] at qf2 e2
  have hv1 := ev_pit x
  have hv2 := ev_pit y
  have hp1 := pit_step x.pit
  have hp2 := pit_step y.pit
  obtain ⟨V1, hV1⟩ : ∃ z, z = Value.agg (cE x).toArray := ⟨_, rfl⟩
  obtain ⟨V2, hV2⟩ : ∃ z, z = Value.agg (cE y).toArray := ⟨_, rfl⟩
  obtain ⟨P1, hP1⟩ : ∃ z, z = vP x.pit := ⟨_, rfl⟩
  obtain ⟨P2, hP2⟩ : ∃ z, z = vP y.pit := ⟨_, rfl⟩
  rw [← hV1] at qo1 hv1
  rw [← hV2] at qo2 hv2
  rw [← hP1] at hv1 hp1
  rw [← hP2] at hv2 hp2
  obtain ⟨s1, hs1⟩ : ∃ z, z = x.pit.1 := ⟨_, rfl⟩
  obtain ⟨s2, hs2⟩ : ∃ z, z = y.pit.1 := ⟨_, rfl⟩
  obtain ⟨N, hN⟩ : ∃ z, z = flatN x.pit y.pit s := ⟨_, rfl⟩
  have HN := Lib.hid (show N = if s1 = s ∧ f1 = true then 1 else if s2 = s ∧ f2 = true then 2 else 0 by rw [hN, hs1, hs2, e1, e2]; unfold flatN; simp)
  rw [← hs1] at hp1
  rw [← hs2] at hp2
  rw [← hN]
  clear e1 e2 hf1 hf2 hV1 hV2 hP1 hP2 hs1 hs2 hN hx hy hxr hyr h
  have i0 : ∀ w, (Instr.index 164 (.agg #[.int .i64 (a : Int), .int .i64 (i : Int), .int .i64 (b : Int), .int .i64 (j : Int)]) (.int .i64 0)).run Tryz.prog w = .ok (.agg #[.int .i64 (a : Int), .int .i64 (i : Int)]) w := fun _ => by kernel_rfl
  have i1 : ∀ w, (Instr.index 164 (.agg #[.int .i64 (a : Int), .int .i64 (i : Int), .int .i64 (b : Int), .int .i64 (j : Int)]) (.int .i64 1)).run Tryz.prog w = .ok (.agg #[.int .i64 (b : Int), .int .i64 (j : Int)]) w := fun _ => by kernel_rfl
  go_enter Tryz.func124, Tryz.ntmps124
  go_wp2
  go_loopw [11] (fun i wr => ∃ k : Nat, k ≤ 2 ∧ i = .int .i64 k ∧ Below w.heap.size w wr ∧ Blk wr (w.heap.size + 1) 61 #[.int .i64 0, .int .i64 0] ∧ (0 < k → ¬ (s1 = s ∧ f1 = true)) ∧ (1 < k → ¬ (s2 = s ∧ f2 = true))) (fun i _ => 2 - (intOf i).toNat)
  case atStart => exact ⟨0, by omega, rfl, by repeat (first | exact Below.refl _ _ | refine below_drewN ?_ _ | refine Below.drew ?_ | refine below_alloc ?_ _ | (refine below_call ?_ (by assumption)) | (refine Below.setCell ?_ ?_ _; rotate_left; (simp; try omega))), Blk.newAt _ _ _ _ (by simp), by omega, by omega⟩
  case round =>
    obtain ⟨k, hk, rfl, k0, r0, m1, m2⟩ := hrel
    have rl := r0.lt
    match k, hk with
    | 0, _ =>
      rw [show ((0 : Nat) : Int) = 0 by rfl]
      have kW : Below w.heap.size w (wr.alloc (.cells #[.int .i64 (a : Int), .int .i64 (i : Int)] 61)) := below_alloc k0 _
      have bW := r0.alloc (.cells #[.int .i64 (a : Int), .int .i64 (i : Int)] 61)
      have cW : Blk (wr.alloc (.cells #[.int .i64 (a : Int), .int .i64 (i : Int)] 61)) wr.heap.size 61 #[.int .i64 (a : Int), .int .i64 (i : Int)] := Blk.new _ _ _
      go_wp2_with fail
      refine (qf1 _ kW).mono ?_
      rintro e w1 ⟨rfl, hb1⟩
      have k1 := below_call kW hb1
      have b1 := bW.kept hb1
      have c1 := cW.kept hb1
      have d0 := c1.cell 0
      have d1 := c1.cell 1
      have dl := c1.lt
      simp only [List.getElem?_toArray, List.getElem?_cons_zero, List.getElem?_cons_succ] at d0 d1
      cases f1 with
      | false =>
        clear bW cW kW hb1
        go_wp2
        go_roundw
        case measure => simp [intOf]
        case rel => exact ⟨1, by omega, rfl, k1, b1, (by first | exact fun _ => m1 (by omega) | (intro _ hh; exact absurd hh.2 (by simp))), (by first | (intro hh; omega) | (intro _ hh; exact absurd hh.2 (by simp)))⟩
      | true =>
        clear bW cW kW hb1
        go_wp2_with fail
        refine (qo1 _ k1).mono ?_
        rintro e w2 ⟨rfl, hb2⟩
        have k2 := below_call k1 hb2
        have b2 := b1.kept hb2
        have c2 := c1.kept hb2
        clear d0 d1 dl
        have d0 := c2.cell 0
        have d1 := c2.cell 1
        have dl := c2.lt
        have g0 := b2.cell 0
        have g1 := b2.cell 1
        have gf := b2.frozen
        have gl := b2.lt
        simp only [List.getElem?_toArray, List.getElem?_cons_zero, List.getElem?_cons_succ] at d0 d1 g0 g1
        by_cases hs : s1 = s
        · have hb : (s1 == s) = true := by simpa using hs
          clear b1 c1 k1 hb2
          go_wp2
          have hne : wr.heap.size ≠ w.heap.size + 1 := by omega
          refine ret_of (by simp [results, Tryz.results124, go_sem, *]; repeat' (first | rfl | apply And.intro)) rfl ⟨?_, by repeat (first | with_reducible exact Below.refl _ _ | with_reducible assumption | with_reducible refine below_drewN ?_ _ | with_reducible refine Below.drew ?_ | with_reducible refine below_alloc ?_ _ | (with_reducible refine Below.setCell ?_ ?_ _; rotate_left; ((try simp only); omega)))⟩
          first
            | (rw [HN.out, if_pos ⟨hs, trivial⟩]; rfl)
            | (rw [HN.out, if_neg (m1 (by omega)), if_pos ⟨hs, trivial⟩]; rfl)
        · have hb : (s1 == s) = false := by simpa using hs
          clear b1 c1 k1 hb2
          go_wp2
          go_roundw
          case measure => simp [intOf]
          case rel => exact ⟨1, by omega, rfl, k2, b2, (by first | exact fun _ => m1 (by omega) | (intro _ hh; exact absurd hh.1 hs)), (by first | (intro hh; omega) | (intro _ hh; exact absurd hh.1 hs))⟩
    | 1, _ =>
      rw [show ((1 : Nat) : Int) = 1 by rfl]
      have kW : Below w.heap.size w (wr.alloc (.cells #[.int .i64 (b : Int), .int .i64 (j : Int)] 61)) := below_alloc k0 _
      have bW := r0.alloc (.cells #[.int .i64 (b : Int), .int .i64 (j : Int)] 61)
      have cW : Blk (wr.alloc (.cells #[.int .i64 (b : Int), .int .i64 (j : Int)] 61)) wr.heap.size 61 #[.int .i64 (b : Int), .int .i64 (j : Int)] := Blk.new _ _ _
      go_wp2_with fail
      refine (qf2 _ kW).mono ?_
      rintro e w1 ⟨rfl, hb1⟩
      have k1 := below_call kW hb1
      have b1 := bW.kept hb1
      have c1 := cW.kept hb1
      have d0 := c1.cell 0
      have d1 := c1.cell 1
      have dl := c1.lt
      simp only [List.getElem?_toArray, List.getElem?_cons_zero, List.getElem?_cons_succ] at d0 d1
      cases f2 with
      | false =>
        clear bW cW kW hb1
        go_wp2
        go_roundw
        case measure => simp [intOf]
        case rel => exact ⟨2, by omega, rfl, k1, b1, (by first | exact fun _ => m1 (by omega) | (intro _ hh; exact absurd hh.2 (by simp))), (by first | (intro hh; omega) | (intro _ hh; exact absurd hh.2 (by simp)))⟩
      | true =>
        clear bW cW kW hb1
        go_wp2_with fail
        refine (qo2 _ k1).mono ?_
        rintro e w2 ⟨rfl, hb2⟩
        have k2 := below_call k1 hb2
        have b2 := b1.kept hb2
        have c2 := c1.kept hb2
        clear d0 d1 dl
        have d0 := c2.cell 0
        have d1 := c2.cell 1
        have dl := c2.lt
        have g0 := b2.cell 0
        have g1 := b2.cell 1
        have gf := b2.frozen
        have gl := b2.lt
        simp only [List.getElem?_toArray, List.getElem?_cons_zero, List.getElem?_cons_succ] at d0 d1 g0 g1
        by_cases hs : s2 = s
        · have hb : (s2 == s) = true := by simpa using hs
          clear b1 c1 k1 hb2
          go_wp2
          have hne : wr.heap.size ≠ w.heap.size + 1 := by omega
          refine ret_of (by simp [results, Tryz.results124, go_sem, *]; repeat' (first | rfl | apply And.intro)) rfl ⟨?_, by repeat (first | with_reducible exact Below.refl _ _ | with_reducible assumption | with_reducible refine below_drewN ?_ _ | with_reducible refine Below.drew ?_ | with_reducible refine below_alloc ?_ _ | (with_reducible refine Below.setCell ?_ ?_ _; rotate_left; ((try simp only); omega)))⟩
          first
            | (rw [HN.out, if_pos ⟨hs, trivial⟩]; rfl)
            | (rw [HN.out, if_neg (m1 (by omega)), if_pos ⟨hs, trivial⟩]; rfl)
        · have hb : (s2 == s) = false := by simpa using hs
          clear b1 c1 k1 hb2
          go_wp2
          go_roundw
          case measure => simp [intOf]
          case rel => exact ⟨2, by omega, rfl, k2, b2, (by first | exact fun _ => m1 (by omega) | (intro _ hh; exact absurd hh.1 hs)), (by first | (intro hh; omega) | (intro _ hh; exact absurd hh.1 hs))⟩
    | 2, _ =>
      rw [show ((2 : Nat) : Int) = 2 by rfl]
      have g0 := r0.cell 0
      have g1 := r0.cell 1
      have gf := r0.frozen
      simp only [List.getElem?_toArray, List.getElem?_cons_zero, List.getElem?_cons_succ] at g0 g1
      go_wp2
      refine ret_of (by simp [results, Tryz.results124, go_sem, *]; repeat' (first | rfl | apply And.intro)) rfl ⟨?_, by repeat (first | with_reducible exact Below.refl _ _ | with_reducible assumption | with_reducible refine below_drewN ?_ _ | with_reducible refine Below.drew ?_ | with_reducible refine below_alloc ?_ _ | (with_reducible refine Below.setCell ?_ ?_ _; rotate_left; ((try simp only); omega)))⟩
      rw [HN.out, if_neg (m1 (by omega)), if_neg (m2 (by omega))]
      rfl
end Go.Proofs.YtpkmiegccfhpnaaGreatDoor
