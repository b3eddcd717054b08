/- SpanOrder holds: a sum does not depend on the order of its times, and sums of pieces add up. No condition. -/
import Derived.Test.YtfafjdbdpbjklaaDoorOrder
import Derived.Test.YtfafjdbdpbjklaaDoorArgs
import Derived.Test.YtfafjdbdpbjklaaDoorDoor
namespace Go.Proofs.YtfafjdbdpbjklaaDoor
open Go.ChangeShapes Go.WideShapes Go.Deep Go.RowKit
section
variable {H : Type} {enc : TypeId × Value → H} {W : World} {base b0 : Nat} {spare : Nat → Bool} {held : Bool} {r : Reach} {v : Value} {d : DataW H} {p : List MemPlace}
theorem arg_ints (hv : Value.okWide Tryd.prog W r b0 50 v) (h : DataW.Trod enc Tryd.prog W base spare held 50 v d p) :
    ∃ (A : Option Addr) (n c : Nat) (l : List Int), v = .slice A n c ∧ Reads W W.heap.size 1 A n (csI l) ∧ n ≤ 9223372036854775807 ∧ ∀ x ∈ l, -9223372036854775808 ≤ x ∧ x ≤ 9223372036854775807 := by
  obtain ⟨A, n, c, rfl⟩ := okWide_slice Tryd.underlying50 hv
  obtain ⟨fuel, hf⟩ := h
  rcases open_ints Tryd.underlying50 Tryd.underlying3 (by kernel_rfl) hf with ⟨hcs, _⟩ | ⟨a, len, cap, zs, hcs, _, hl, hm, hz, _, hc, hw⟩
  · simp [Value.cells] at hcs
    obtain ⟨rfl, rfl, rfl⟩ := hcs
    exact ⟨none, 0, 0, [], rfl, Reads.none_, by omega, by simp⟩
  · simp [Value.cells] at hcs
    obtain ⟨rfl, rfl, rfl⟩ := hcs
    have hzl : n ≤ zs.length := by rw [hz]; split <;> omega
    refine ⟨some a, n, c, zs.take n, rfl, reads_of (size := 1) (f := fun n => [Value.int .i64 n]) (fun _ => rfl) (by decide) (by rw [List.length_take]; omega) fun i x hx j u hu => ?_, by unfold maxLen at hm; omega, fun x hx => bounds_i64 (hw x (List.mem_of_mem_take hx))⟩
    match j, hu with
    | 0, hu =>
      simp at hu
      subst hu
      rw [List.getElem?_take] at hx
      split at hx
      · obtain ⟨hi, rfl⟩ := List.getElem?_eq_some_iff.1 hx
        have := hc i hi
        simpa [List.getD, hi] using this
      · cases hx
    | j + 1, hu => simp at hu
end
end Go.Proofs.YtfafjdbdpbjklaaDoor
namespace Go.Proofs.YtfafjdbdpbjklaaDoor.spanOrder
open Go.ChangeShapes Go.WideShapes Go.ChangeAt Go.RowKit Go.Deep
set_option linter.unusedVariables false
set_option maxRecDepth 100000 in
set_option maxHeartbeats 1000000 in
theorem walk (A : Option Addr) (n c : Nat) (l : List Int) (cut : Int) (w : World) (h : Reads w w.heap.size 1 A n (csI l)) (hn : n ≤ 9223372036854775807) (hl : ∀ x ∈ l, -9223372036854775808 ≤ x ∧ x ≤ 9223372036854775807) (hc : -9223372036854775808 ≤ cut ∧ cut ≤ 9223372036854775807) :
    Calls Tryd.prog 10 #[.slice A n c, .int .i64 cut] w fun e w' => e = .returned (.bool true) ∧ Below w.heap.size w w' := by
  obtain ⟨hc0, hc1⟩ := hc
  obtain ⟨_, hlen, _⟩ := spL_24 40 l
  have hlen : (spL 40 l).length ≤ 40 := by unfold spL; rw [List.length_map, List.length_take]; omega
  have L := Lib.hid hl; clear hl
  obtain ⟨i0, hi0, hz0, hz1, hz2⟩ := info_parts time_info
  go_enter Tryd.func10, Tryd.ntmps10
  go_wp2_with fail
  refine (known_any _).mono ?_
  rintro e w1 ⟨rfl, hb1⟩
  have hs1 : w.heap.size ≤ w1.heap.size := by have h := hb1.size; (try simp at h); omega
  go_wp2_with fail
  refine (spans_sl A n c l w.heap.size _ (h.below (Nat.le_refl _) hb1) hb1.size hn L.out 40 (by omega)).mono ?_
  rintro e w2 ⟨A1, c1, rfl, hown, hb2⟩
  have hs2 : w.heap.size ≤ w2.heap.size := by have h := hb2.size; (try simp at h); omega
  have hlen' : ((spL 40 l).length : Int) ≤ 40 := by omega
  obtain ⟨k, hk⟩ : ∃ k, k = (spL 40 l).length := ⟨_, rfl⟩
  rw [← hk] at hown hlen hlen' ⊢
  have K := Lib.hid hk; clear hk
  have hk0 : (0 : Int) < (k : Int) + 1 := by omega
  have hm0 := Int.emod_nonneg cut (show (k : Int) + 1 ≠ 0 by omega)
  have hm1 := Int.emod_lt_of_pos cut hk0
  obtain ⟨j, hj⟩ : ∃ j : Nat, (j : Int) = cut % ((k : Int) + 1) := ⟨(cut % ((k : Int) + 1)).toNat, by omega⟩
  have hjk : j ≤ k := by omega
  have J := Lib.hid hj; clear hj hm0 hm1
  obtain ⟨a, cc, dd, f1, f2, f3, f4, f5⟩ := order_facts l j
  have F1 := Lib.hid f1; have F2 := Lib.hid f2; have F3 := Lib.hid f3; have F4 := Lib.hid f4; have F5 := Lib.hid f5
  clear f1 f2 f3 f4 f5
  obtain ⟨hown1, hr1, hkc⟩ := hown
  have hsl1 := run_part_l Tryd.underlying30 hi0 hz1 A1 k c1 j hjk
  have hsl2 := run_part_h Tryd.underlying30 hi0 hz1 A1 k c1 j (by omega)
  have hrd := hr1.tail_part j c1 hjk hkc
  have hrt := hr1.head_part j hjk
  rw [← csT_drop] at hrd
  rw [← csT_take] at hrt
  generalize pa A1 j c1 2 = A2 at *
  go_wp2_with (go_at_call 43; refine (mod_any cut _ _ (by omega) (by omega) hc0 hc1).mono ?_; rintro e wm ⟨rfl, rfl⟩; rw [← J.out])
  go_region_held3 (fun w' => Below w2.heap.size w2 w') ((first | exact (Below.refl _ _).drew | exact hB5 | exact hB4)) (first | (go_at_call 18; refine (ownTimes_sl A2 (k - j) (c1 - j) _ w2.heap.size _ (hrd.below (Nat.le_refl _) (show Below w2.heap.size w2 _ by assumption)) (show Below w2.heap.size w2 _ by assumption).size (by omega)).mono ?_; rintro e w4 ⟨A4, c4, rfl, hown4, hb4⟩; have hB4 := below_call (show Below w2.heap.size w2 _ by assumption) hb4) | (refine step_append_any _ rfl (.tmp 29) (.tmp 32) _ rfl w2.heap.size 23 i0 _ 2 16 Tryd.underlying30 hi0 hz0 hz1 hz2 rfl (by omega) _ (k - j) (csT ((spL 40 l).drop j)) rfl hown4.1 w2.heap.size A1 j c1 (csT ((spL 40 l).take j)) rfl (hrt.below (Nat.le_refl _) (show Below w2.heap.size w2 _ by assumption)) (one_csT _) (by simp only [maxLen]; omega) (by omega) (show Below w2.heap.size w2 _ by assumption).size ?_; intro v5 w5 hown5 hg5 hat5; have hB5 := (show Below w2.heap.size w2 _ by assumption).grown hg5 hB4.size (fun x hx => (hown4.1.lt x hx).1)))
  rename World => wv
  rename Value => v5
  rename World.ownsRow wv w2.heap.size _ _ v5 _ _ => hown5
  have hB5 : Below w2.heap.size w2 wv := by assumption
  clear hown4 hb4 hB4 hg5 hat5
  rw [← csT_append, show k - j + j = k by omega] at hown5
  obtain ⟨A5, c5, hv5, hO5⟩ := own_form hown5
  subst hv5
  have hb3 : Below w2.heap.size w2 wv := hB5
  have hs3 : w.heap.size ≤ wv.heap.size := by have := hb3.size; omega
  clear hB5 hown5
  go_wp2_with fail
  refine (sum_any A1 k c1 (spL 40 l) w2.heap.size _ ((hr1).below (Nat.le_refl _) (show Below w2.heap.size w2 _ by repeat (first | exact Below.refl _ _ | assumption | refine below_drewN ?_ _ | refine Below.drew ?_ | refine below_alloc ?_ _ | (refine below_call ?_ (by assumption)) | (refine Below.setCell ?_ ?_ _; rotate_left; (simp; try omega))))) (show Below w2.heap.size w2 _ by repeat (first | exact Below.refl _ _ | assumption | refine below_drewN ?_ _ | refine Below.drew ?_ | refine below_alloc ?_ _ | (refine below_call ?_ (by assumption)) | (refine Below.setCell ?_ ?_ _; rotate_left; (simp; try omega)))).size (by omega)).mono ?_
  rintro e w4 ⟨rfl, hb4⟩
  rw [F1.out]
  have hs4 : w.heap.size ≤ w4.heap.size := by have h := hb4.size; (try simp at h); omega
  go_wp2_with fail
  refine (sum_any A5 k c5 _ wv.heap.size _ ((hO5.2.1).below (Nat.le_refl _) (show Below wv.heap.size wv _ by repeat (first | exact Below.refl _ _ | assumption | refine below_drewN ?_ _ | refine Below.drew ?_ | refine below_alloc ?_ _ | (refine below_call ?_ (by assumption)) | (refine Below.setCell ?_ ?_ _; rotate_left; (simp; try omega))))) (show Below wv.heap.size wv _ by repeat (first | exact Below.refl _ _ | assumption | refine below_drewN ?_ _ | refine Below.drew ?_ | refine below_alloc ?_ _ | (refine below_call ?_ (by assumption)) | (refine Below.setCell ?_ ?_ _; rotate_left; (simp; try omega)))).size (by omega)).mono ?_
  rintro e w5 ⟨rfl, hb5⟩
  rw [F2.out]
  have BA5 : Blk w5 (w4.heap.size) 23 #[.int .i64 a.1, .int .i64 a.2] := by
    have h := Blk.kept (g := w4.heap.size) (t := 23) (w' := w5) (by repeat (first | exact Blk.new _ _ _ | (refine Blk.newAt _ _ _ _ ?_; first | rfl | (simp; done)) | apply Blk.alloc | apply Blk.drewN | apply Blk.drew | apply Blk.set_ | (apply Blk.far_; (simp only [ne_eq]; omega)))) hb5
    exact h
  have cA0_5 : w5.cell? ⟨w4.heap.size, 0, none⟩ = some (.int .i64 a.1) := BA5.cell 0
  have cA1_5 : w5.cell? ⟨w4.heap.size, 1, none⟩ = some (.int .i64 a.2) := BA5.cell 1
  have lA5 : w4.heap.size < w5.heap.size := BA5.lt
  have mA5 : w4.heap.size < w5.heap.size + 1 := by omega
  have nA5 : w4.heap.size < w5.heap.size + 1 + 1 := by omega
  have hs5 : w.heap.size ≤ w5.heap.size := by have h := hb5.size; (try simp at h); omega
  go_wp2_with fail
  refine (sum_any A1 j c1 _ w2.heap.size _ ((hrt).below (Nat.le_refl _) (show Below w2.heap.size w2 _ by repeat (first | exact Below.refl _ _ | assumption | refine below_drewN ?_ _ | refine Below.drew ?_ | refine below_alloc ?_ _ | (refine below_call ?_ (by assumption)) | (refine Below.setCell ?_ ?_ _; rotate_left; (simp; try omega))))) (show Below w2.heap.size w2 _ by repeat (first | exact Below.refl _ _ | assumption | refine below_drewN ?_ _ | refine Below.drew ?_ | refine below_alloc ?_ _ | (refine below_call ?_ (by assumption)) | (refine Below.setCell ?_ ?_ _; rotate_left; (simp; try omega)))).size (by omega)).mono ?_
  rintro e w6 ⟨rfl, hb6⟩
  rw [F3.out]
  have BA6 : Blk w6 (w4.heap.size) 23 #[.int .i64 a.1, .int .i64 a.2] := by
    have h := Blk.kept (g := w4.heap.size) (t := 23) (w' := w6) (by repeat (first | exact BA5 | exact Blk.new _ _ _ | (refine Blk.newAt _ _ _ _ ?_; first | rfl | (simp; done)) | apply Blk.alloc | apply Blk.drewN | apply Blk.drew | apply Blk.set_ | (apply Blk.far_; (simp only [ne_eq]; omega)))) hb6
    exact h
  have cA0_6 : w6.cell? ⟨w4.heap.size, 0, none⟩ = some (.int .i64 a.1) := BA6.cell 0
  have cA1_6 : w6.cell? ⟨w4.heap.size, 1, none⟩ = some (.int .i64 a.2) := BA6.cell 1
  have lA6 : w4.heap.size < w6.heap.size := BA6.lt
  have mA6 : w4.heap.size < w6.heap.size + 1 := by omega
  have nA6 : w4.heap.size < w6.heap.size + 1 + 1 := by omega
  have BB6 : Blk w6 (w5.heap.size) 23 #[.int .i64 a.1, .int .i64 a.2] := by
    have h := Blk.kept (g := w5.heap.size) (t := 23) (w' := w6) (by repeat (first | exact Blk.new _ _ _ | (refine Blk.newAt _ _ _ _ ?_; first | rfl | (simp; done)) | apply Blk.alloc | apply Blk.drewN | apply Blk.drew | apply Blk.set_ | (apply Blk.far_; (simp only [ne_eq]; omega)))) hb6
    exact h
  have cB0_6 : w6.cell? ⟨w5.heap.size, 0, none⟩ = some (.int .i64 a.1) := BB6.cell 0
  have cB1_6 : w6.cell? ⟨w5.heap.size, 1, none⟩ = some (.int .i64 a.2) := BB6.cell 1
  have lB6 : w5.heap.size < w6.heap.size := BB6.lt
  have mB6 : w5.heap.size < w6.heap.size + 1 := by omega
  have nB6 : w5.heap.size < w6.heap.size + 1 + 1 := by omega
  clear BA5 lA5 mA5 nA5 cA0_5 cA1_5
  have hs6 : w.heap.size ≤ w6.heap.size := by have h := hb6.size; (try simp at h); omega
  go_wp2_with fail
  refine (sum_any A2 (k - j) (c1 - j) _ w2.heap.size _ ((hrd).below (Nat.le_refl _) (show Below w2.heap.size w2 _ by repeat (first | exact Below.refl _ _ | assumption | refine below_drewN ?_ _ | refine Below.drew ?_ | refine below_alloc ?_ _ | (refine below_call ?_ (by assumption)) | (refine Below.setCell ?_ ?_ _; rotate_left; (simp; try omega))))) (show Below w2.heap.size w2 _ by repeat (first | exact Below.refl _ _ | assumption | refine below_drewN ?_ _ | refine Below.drew ?_ | refine below_alloc ?_ _ | (refine below_call ?_ (by assumption)) | (refine Below.setCell ?_ ?_ _; rotate_left; (simp; try omega)))).size (by omega)).mono ?_
  rintro e w7 ⟨rfl, hb7⟩
  rw [F4.out]
  have BA7 : Blk w7 (w4.heap.size) 23 #[.int .i64 a.1, .int .i64 a.2] := by
    have h := Blk.kept (g := w4.heap.size) (t := 23) (w' := w7) (by repeat (first | exact BA6 | exact Blk.new _ _ _ | (refine Blk.newAt _ _ _ _ ?_; first | rfl | (simp; done)) | apply Blk.alloc | apply Blk.drewN | apply Blk.drew | apply Blk.set_ | (apply Blk.far_; (simp only [ne_eq]; omega)))) hb7
    exact h
  have cA0_7 : w7.cell? ⟨w4.heap.size, 0, none⟩ = some (.int .i64 a.1) := BA7.cell 0
  have cA1_7 : w7.cell? ⟨w4.heap.size, 1, none⟩ = some (.int .i64 a.2) := BA7.cell 1
  have lA7 : w4.heap.size < w7.heap.size := BA7.lt
  have mA7 : w4.heap.size < w7.heap.size + 1 := by omega
  have nA7 : w4.heap.size < w7.heap.size + 1 + 1 := by omega
  have BB7 : Blk w7 (w5.heap.size) 23 #[.int .i64 a.1, .int .i64 a.2] := by
    have h := Blk.kept (g := w5.heap.size) (t := 23) (w' := w7) (by repeat (first | exact BB6 | exact Blk.new _ _ _ | (refine Blk.newAt _ _ _ _ ?_; first | rfl | (simp; done)) | apply Blk.alloc | apply Blk.drewN | apply Blk.drew | apply Blk.set_ | (apply Blk.far_; (simp only [ne_eq]; omega)))) hb7
    exact h
  have cB0_7 : w7.cell? ⟨w5.heap.size, 0, none⟩ = some (.int .i64 a.1) := BB7.cell 0
  have cB1_7 : w7.cell? ⟨w5.heap.size, 1, none⟩ = some (.int .i64 a.2) := BB7.cell 1
  have lB7 : w5.heap.size < w7.heap.size := BB7.lt
  have mB7 : w5.heap.size < w7.heap.size + 1 := by omega
  have nB7 : w5.heap.size < w7.heap.size + 1 + 1 := by omega
  have BC7 : Blk w7 (w6.heap.size) 23 #[.int .i64 cc.1, .int .i64 cc.2] := by
    have h := Blk.kept (g := w6.heap.size) (t := 23) (w' := w7) (by repeat (first | exact Blk.new _ _ _ | (refine Blk.newAt _ _ _ _ ?_; first | rfl | (simp; done)) | apply Blk.alloc | apply Blk.drewN | apply Blk.drew | apply Blk.set_ | (apply Blk.far_; (simp only [ne_eq]; omega)))) hb7
    exact h
  have cC0_7 : w7.cell? ⟨w6.heap.size, 0, none⟩ = some (.int .i64 cc.1) := BC7.cell 0
  have cC1_7 : w7.cell? ⟨w6.heap.size, 1, none⟩ = some (.int .i64 cc.2) := BC7.cell 1
  have lC7 : w6.heap.size < w7.heap.size := BC7.lt
  have mC7 : w6.heap.size < w7.heap.size + 1 := by omega
  have nC7 : w6.heap.size < w7.heap.size + 1 + 1 := by omega
  clear BA6 lA6 mA6 nA6 cA0_6 cA1_6 BB6 lB6 mB6 nB6 cB0_6 cB1_6
  have hs7 : w.heap.size ≤ w7.heap.size := by have h := hb7.size; (try simp at h); omega
  go_wp2_with fail
  refine (add_any cc dd _).mono ?_
  rintro e w8 ⟨rfl, hb8⟩
  rw [F5.out]
  have BA8 : Blk w8 (w4.heap.size) 23 #[.int .i64 a.1, .int .i64 a.2] := by
    have h := Blk.kept (g := w4.heap.size) (t := 23) (w' := w8) (by repeat (first | exact BA7 | exact Blk.new _ _ _ | (refine Blk.newAt _ _ _ _ ?_; first | rfl | (simp; done)) | apply Blk.alloc | apply Blk.drewN | apply Blk.drew | apply Blk.set_ | (apply Blk.far_; (simp only [ne_eq]; omega)))) hb8
    exact h
  have cA0_8 : w8.cell? ⟨w4.heap.size, 0, none⟩ = some (.int .i64 a.1) := BA8.cell 0
  have cA1_8 : w8.cell? ⟨w4.heap.size, 1, none⟩ = some (.int .i64 a.2) := BA8.cell 1
  have lA8 : w4.heap.size < w8.heap.size := BA8.lt
  have mA8 : w4.heap.size < w8.heap.size + 1 := by omega
  have nA8 : w4.heap.size < w8.heap.size + 1 + 1 := by omega
  have BB8 : Blk w8 (w5.heap.size) 23 #[.int .i64 a.1, .int .i64 a.2] := by
    have h := Blk.kept (g := w5.heap.size) (t := 23) (w' := w8) (by repeat (first | exact BB7 | exact Blk.new _ _ _ | (refine Blk.newAt _ _ _ _ ?_; first | rfl | (simp; done)) | apply Blk.alloc | apply Blk.drewN | apply Blk.drew | apply Blk.set_ | (apply Blk.far_; (simp only [ne_eq]; omega)))) hb8
    exact h
  have cB0_8 : w8.cell? ⟨w5.heap.size, 0, none⟩ = some (.int .i64 a.1) := BB8.cell 0
  have cB1_8 : w8.cell? ⟨w5.heap.size, 1, none⟩ = some (.int .i64 a.2) := BB8.cell 1
  have lB8 : w5.heap.size < w8.heap.size := BB8.lt
  have mB8 : w5.heap.size < w8.heap.size + 1 := by omega
  have nB8 : w5.heap.size < w8.heap.size + 1 + 1 := by omega
  have BC8 : Blk w8 (w6.heap.size) 23 #[.int .i64 cc.1, .int .i64 cc.2] := by
    have h := Blk.kept (g := w6.heap.size) (t := 23) (w' := w8) (by repeat (first | exact BC7 | exact Blk.new _ _ _ | (refine Blk.newAt _ _ _ _ ?_; first | rfl | (simp; done)) | apply Blk.alloc | apply Blk.drewN | apply Blk.drew | apply Blk.set_ | (apply Blk.far_; (simp only [ne_eq]; omega)))) hb8
    exact h
  have cC0_8 : w8.cell? ⟨w6.heap.size, 0, none⟩ = some (.int .i64 cc.1) := BC8.cell 0
  have cC1_8 : w8.cell? ⟨w6.heap.size, 1, none⟩ = some (.int .i64 cc.2) := BC8.cell 1
  have lC8 : w6.heap.size < w8.heap.size := BC8.lt
  have mC8 : w6.heap.size < w8.heap.size + 1 := by omega
  have nC8 : w6.heap.size < w8.heap.size + 1 + 1 := by omega
  have BD8 : Blk w8 (w7.heap.size) 23 #[.int .i64 dd.1, .int .i64 dd.2] := by
    have h := Blk.kept (g := w7.heap.size) (t := 23) (w' := w8) (by repeat (first | exact Blk.new _ _ _ | (refine Blk.newAt _ _ _ _ ?_; first | rfl | (simp; done)) | apply Blk.alloc | apply Blk.drewN | apply Blk.drew | apply Blk.set_ | (apply Blk.far_; (simp only [ne_eq]; omega)))) hb8
    exact h
  have cD0_8 : w8.cell? ⟨w7.heap.size, 0, none⟩ = some (.int .i64 dd.1) := BD8.cell 0
  have cD1_8 : w8.cell? ⟨w7.heap.size, 1, none⟩ = some (.int .i64 dd.2) := BD8.cell 1
  have lD8 : w7.heap.size < w8.heap.size := BD8.lt
  have mD8 : w7.heap.size < w8.heap.size + 1 := by omega
  have nD8 : w7.heap.size < w8.heap.size + 1 + 1 := by omega
  clear BA7 lA7 mA7 nA7 cA0_7 cA1_7 BB7 lB7 mB7 nB7 cB0_7 cB1_7 BC7 lC7 mC7 nC7 cC0_7 cC1_7
  have hs8 : w.heap.size ≤ w8.heap.size := by have h := hb8.size; (try simp at h); omega
  go_wp2_with fail
  go_ret
  refine ⟨rfl, ?_⟩
  repeat (first | exact Below.refl _ _ | assumption | refine below_drewN ?_ _ | refine Below.drew ?_ | refine below_alloc ?_ _ | (refine below_call ?_ (by assumption)) | (refine Below.setCell ?_ ?_ _; rotate_left; (simp; try omega)))

set_option maxRecDepth 100000 in
theorem lifted (os : Os) (started : os.Started) (H : Type) (enc : TypeId × Value → H) :
    ReturnsInHanded {} Tryd.checked os 10 .any (fun w args => (Rows.spanOrderSpec.pre enc Tryd.prog Tryd.f10 [] false w args ∧ laidMetH Tryd.prog laids w) ∧ sizedMet enc Tryd.prog Tryd.f10 (OpenSpec.ofChange Rows.spanOrderSpec) false w args) (Rows.spanOrderSpec.post enc Tryd.prog Tryd.f10 false true false false) := by
  refine returnsInHanded_of_change_and (C := Tryd.checked) (X := fun w _ => laidMetH Tryd.prog laids w) (fun _ _ _ hh h => h.of_heap hh) own started (by kernel_rfl) Tryd.func10
    (ChangeSpec.witness_shaped (enc := enc) (C := Tryd.checked) (os := os) (X := fun w _ => laidMetH Tryd.prog laids w) false (World.doorLaid Tryd.prog 24 os) #[.slice none 0 0, .int .i64 0] 8 rfl (World.shaped_of_RefB (by kernel_rfl) (by kernel_rfl)) (by kernel_rfl) (by kernel_rfl) (by kernel_rfl) (door_met os _)) ?_
  intro W base args ds gs before hval0 hW _ _ hL _
  have hval : ∀ (j : Nat) t v, Tryd.f10.params[j]? = some t → args[j]? = some v → Value.okWide Tryd.prog W .any base t v := hval0
  have hW' := hW
  obtain ⟨p, q, hA0, hV, rfl, hfz, hnd⟩ := hW
  have hA : DataW.TrodAll enc Tryd.prog W 0 (fun _ => true) true Tryd.f10.params.toList args.toList ds p := hA0
  rw [Tryd.params10] at hA hval
  obtain ⟨v0, vs0, d0, ds0, p0, q0, hargs, rfl, rfl, h0, r0⟩ := trodAll_cons hA
  obtain ⟨v1, vs1, d1, ds1, p1, q1, rfl, rfl, rfl, h1, r1⟩ := trodAll_cons r0
  obtain ⟨rfl, rfl, rfl⟩ := trodAll_nil r1
  obtain rfl : args = #[v0, v1] := by cases args; simp_all
  obtain ⟨rfl, rfl⟩ := trodVars_none hV
  have k0 := h0
  have lt0 : ∀ x ∈ p0, x.block < W.heap.size := by obtain ⟨m, hm⟩ := k0; exact DataW.trod_lt m _ _ _ hm
  obtain ⟨A0, n0, c0, l0, rfl, w0⟩ := arg_ints (hval 0 50 v0 rfl rfl) h0
  have k1 := h1
  have lt1 : ∀ x ∈ p1, x.block < W.heap.size := by obtain ⟨m, hm⟩ := k1; exact DataW.trod_lt m _ _ _ hm
  obtain ⟨a1, rfl, w1⟩ := arg_int (hval 1 3 v1 rfl rfl) h1
  clear hA0 hval0
  refine (walk A0 n0 c0 l0 a1 W w0.1 w0.2.1 w0.2.2 w1).mono fun e W' ⟨he, bel⟩ => ?_
  subst he
  exact ⟨_, rfl, _, _, _, [], _, [], hW', trodAll_mk1 (shut_bool Tryd.underlying4 _), (trodAll_cons_mk (Below.trod laidOut (by kernel_rfl) (of_decide_eq_true (by kernel_rfl)) k0 bel lt0) (trodAll_cons_mk (Below.trod laidOut (by kernel_rfl) (of_decide_eq_true (by kernel_rfl)) k1 bel lt1) trodAll_mk0)), rfl, bel.frame _, fun h => by cases h⟩

theorem over : Rows.SpanOrderSaid :=
  OpenClaim.holds_of_wide 10 Tryd.f10 rfl rfl rfl rfl rfl rfl rfl ⟨rfl, rfl, rfl, rfl, rfl⟩ rfl rfl rfl rfl rfl (by kernel_rfl) Tryd.func10 (by kernel_rfl)
    (of_decide_eq_true (by kernel_rfl)) (by unfold Func.isWrapper; first | (rw [if_pos (by decide +kernel)]; kernel_rfl) | (rw [if_neg (by decide +kernel)]; exact ⟨rfl, rfl⟩))
    (fun os started H enc _ => lifted os started H enc)

/-- The card: the row, its variables tied to the program's text. -/
theorem proved : Rows.SpanOrderCardSaid :=
  Claim7.holds_tied_plain_at .later [] [.data, .data, .data] true Rows.spanOrderCard.stood.harness false
    over (fun _ h => by cases h) (by kernel_rfl) (fun _ h => by cases h) spanOrder_row_tie rfl ⟨rfl, rfl⟩ (by kernel_rfl) rfl
    (fun f fn hf hfn => by
      obtain rfl : f = 10 := Option.some.inj ((show Tryd.prog.funcNamed Tryd.f10.name = some 10 by kernel_rfl).symm.trans hf) |>.symm
      obtain rfl : fn = Tryd.f10 := (Option.some.inj (Tryd.func10.symm.trans hfn)).symm
      exact ⟨by kernel_rfl, fun j t ht => by
        rw [Tryd.params10] at ht
        have hm : t ∈ Tryd.f10.params.toList := by rw [Tryd.params10]; simpa using Array.mem_of_getElem? ht
        have hall : (Tryd.f10.params.toList.all fun u => !Tryd.prog.wantsStandIn u) = true := by kernel_rfl
        exact (show Tryd.prog.wantsStandIn t = false by simpa using List.all_eq_true.1 hall t hm)⟩)
    (by kernel_rfl)

end Go.Proofs.YtfafjdbdpbjklaaDoor.spanOrder
