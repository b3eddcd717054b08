
/- The end of a setting, by the program and by the reference. -/
import Derived.Test.YtmlcnmnpkemdpaaDoorAlSlices
import Derived.Test.YtmlcnmnpkemdpaaDoorAlRefSlices
import Derived.Test.YtmlcnmnpkemdpaaDoorPlain
namespace Go.Proofs.YtmlcnmnpkemdpaaDoor
open Go.RowKit
theorem end_big {l : List (List Ev)} (hz : (checkA l).1 = 0) : (momS l).length ≤ 32000 := by
  obtain ⟨f1, f2, _⟩ := set_facts hz; have := momS_len l (fun v hv => (f2 v hv).2.2); omega
theorem len8 {l : List (List Ev)} (hz : (checkA l).1 = 0) : l.length ≤ 8 := (set_facts hz).1
theorem endE_bad {l : List (List Ev)} (h : (slicesE l).2 ≠ 0) : endE l = ((0, 0), (slicesE l).2) := by unfold endE; rw [if_pos h]
theorem endE_ok {l : List (List Ev)} (h : (slicesE l).2 = 0) : endE l = (endT (momS l), 0) := by unfold endE; rw [if_neg (fun h0 => h0 h)]
set_option maxRecDepth 100000 in
set_option maxHeartbeats 8000000 in
theorem end_any (A : Option Addr) (n c : Nat) (l : List (List Ev)) (B : Nat) (w : World) (h : ReadsV w B A n l) (hB : B ≤ w.heap.size) (hn : n ≤ 9223372036854775807) :
    Calls Tryd.prog 27 #[.slice A n c] w fun e w' => e = .returned (.tuple #[.agg #[.int .i64 (endE l).1.1, .int .i64 (endE l).1.2], .int .i64 (endE l).2]) ∧ Below w.heap.size w w' := by
  have HL := Lib.hid h.len
  have r0 : Blk (w.alloc (.cells #[.int .i64 0, .int .i64 0] 52)) w.heap.size 52 #[.int .i64 0, .int .i64 0] := Blk.new _ _ _
  have k0 : Below w.heap.size w (w.alloc (.cells #[.int .i64 0, .int .i64 0] 52)) := by repeat (first | with_reducible exact Below.refl _ _ | with_reducible assumption | with_reducible refine below_drewN ?_ _ | with_reducible refine Below.drew ?_ | with_reducible refine below_alloc ?_ _ | (with_reducible refine Below.setCell ?_ ?_ _; rotate_left; ((try simp only); omega)))
  have q1 := slices_any A n c l B _ (h.below hB k0) (Nat.le_trans hB k0.size) hn
  go_enter Tryd.func27, Tryd.ntmps27
  go_wp2_with fail
  refine q1.mono ?_
  rintro e w1 ⟨v1, rfl, ho1, hb1⟩
  have r1 := r0.kept hb1
  have k1 := below_call k0 hb1
  have e0 := r1.cell 0
  have e1 := r1.cell 1
  have f0 := r1.frozen 0
  have f1 := r1.frozen 1
  have z1 := r1.lt
  simp only [List.getElem?_toArray, List.getElem?_cons_zero, List.getElem?_cons_succ] at e0 e1
  clear q1 ho1 hb1 r0 k0
  by_cases he : (slicesE l).2 = 0
  · have E := Lib.hid (endE_ok he)
    obtain ⟨hz, _⟩ := slicesE_ok he
    have HMB := Lib.hid (end_big hz)
    have HV := Lib.hid (set_facts hz).2.1
    have h8 : n ≤ 8 := by have := len8 hz; have := HL.out; omega
    rw [he]
    clear he hz
    go_wp2_with fail
    refine Calls.mono (moments_any A n c l B _ (h.below hB k1) (Nat.le_trans hB k1.size) h8 HV.out) ?_
    rintro e w2 ⟨v2, rfl, ho2, hb2⟩
    obtain ⟨Am, cm, rfl, rm, _, _⟩ := own_reads ho2
    try clear ho2
    have r2 := r1.kept hb2
    have k2 := below_call k1 hb2
    have e0 := r2.cell 0
    have e1 := r2.cell 1
    have f0 := r2.frozen 0
    have f1 := r2.frozen 1
    have z2 := r2.lt
    simp only [List.getElem?_toArray, List.getElem?_cons_zero, List.getElem?_cons_succ] at e0 e1
    clear hb2 r1 k1
    have HET := Lib.hid (show endT (momS l) = if (momS l).length = 0 then (0, 1) else mAt (momS l) ((momS l).length - 1) from rfl)
    have HMA := Lib.hid (fun (i : Nat) (hi : i < (momS l).length) => mAt_some (m := momS l) hi)
    obtain ⟨m, hm⟩ : ∃ m, m = momS l := ⟨_, rfl⟩
    rw [← hm] at rm HET HMA HMB E ⊢
    clear hm
    obtain ⟨M, hM⟩ : ∃ M, M = m.length := ⟨_, rfl⟩
    have HM := Lib.hid hM.symm
    rw [← hM] at rm HET HMA HMB ⊢
    clear hM
    cases M with
    | zero =>
      have E2 := Lib.hid (show endT m = (0, 1) by rw [HET.out, if_pos rfl])
      go_wp2
      refine ret_of (by simp [results, Tryd.results27, go_sem, *]; repeat' (first | rfl | apply And.intro)) rfl ⟨?_, by repeat (first | with_reducible exact Below.refl _ _ | with_reducible assumption | with_reducible refine below_drewN ?_ _ | with_reducible refine Below.drew ?_ | with_reducible refine below_alloc ?_ _ | (with_reducible refine Below.setCell ?_ ?_ _; rotate_left; ((try simp only); omega)))⟩
      rw [E.out, E2.out]
    | succ M =>
      have E2 := Lib.hid (show endT m = mAt m M by rw [HET.out, if_neg (by omega)]; simp)
      have hx := HMA.out M (by omega)
      obtain ⟨⟨x0, x1⟩, hxe⟩ : ∃ x, x = mAt m M := ⟨_, rfl⟩
      rw [← hxe] at hx E2
      obtain ⟨b, off, rfl, hab, c0, c1⟩ := rm.tm (Nat.le_refl _) (Below.refl _ w2) (Nat.lt_succ_self M) hx
      clear hx hxe HET HMA
      have t1 : ((M + 1 : Nat) : Int) - 1 = (M : Int) := by omega
      have t2 : IntKind.i64.wrap ((M : Int)) = (M : Int) := IntWalk.i64_in _ (by have := HMB.out; omega)
      have t3 : (0 : Int) < ((M + 1 : Nat) : Int) := by omega
      simp only at c0 c1
      go_wp2
      refine ret_of (by simp [results, Tryd.results27, go_sem, *]; repeat' (first | rfl | apply And.intro)) rfl ⟨?_, by repeat (first | with_reducible exact Below.refl _ _ | with_reducible assumption | with_reducible refine below_drewN ?_ _ | with_reducible refine Below.drew ?_ | with_reducible refine below_alloc ?_ _ | (with_reducible refine Below.setCell ?_ ?_ _; rotate_left; ((try simp only); omega)))⟩
      rw [E.out, E2.out]
  · have hne : ((slicesE l).2 != 0) = true := by simpa using he
    have E := Lib.hid (endE_bad he)
    clear he
    go_wp2
    refine ret_of (by simp [results, Tryd.results27, go_sem, *]; repeat' (first | rfl | apply And.intro)) rfl ⟨?_, by repeat (first | with_reducible exact Below.refl _ _ | with_reducible assumption | with_reducible refine below_drewN ?_ _ | with_reducible refine Below.drew ?_ | with_reducible refine below_alloc ?_ _ | (with_reducible refine Below.setCell ?_ ?_ _; rotate_left; ((try simp only); omega)))⟩
    rw [E.out]
end Go.Proofs.YtmlcnmnpkemdpaaDoor
