/- The walks through the ends of voices, the program's and the reference's. -/
import Derived.Test.YtbljfaocmeeljaaEvCheck
namespace Go.Proofs.Ytbljfaocmeeljaa
open Go.RowKit
theorem getLast_at {α : Type} {l : List α} {n : Nat} (h : l.length = n + 1) {x : α} (hx : l[n]? = some x) : l.getLast? = some x := by
  rw [List.getLast?_eq_getElem?, h]; simpa using hx
set_option maxRecDepth 100000 in
set_option maxHeartbeats 1000000 in
theorem evEnd_any (A : Option Addr) (n c : Nat) (l : List Ev) (B : Nat) (w : World) (h : Reads w B 10 A n (csE l)) (hB : B ≤ w.heap.size) (hn : n ≤ 9223372036854775807) :
    Calls Try.prog 74 #[.slice A n c] w fun e w' => e = .returned (vT (endS l)) ∧ Below w.heap.size w w' := by
  have hl := h.evlen
  have r0 : Blk (w.alloc (.cells #[.int .i64 0, .int .i64 0] 34)) w.heap.size 34 #[.int .i64 0, .int .i64 0] := Blk.new _ _ _
  have k0 : Below w.heap.size w (w.alloc (.cells #[.int .i64 0, .int .i64 0] 34)) := by repeat (first | exact Below.refl _ _ | refine below_drewN ?_ _ | refine Below.drew ?_ | refine below_alloc ?_ _ | (refine below_call ?_ (by assumption)) | (refine Below.setCell ?_ ?_ _; rotate_left; (simp; try omega)))
  obtain ⟨⟨y, z⟩, hy⟩ : ∃ y, y = checkS l := ⟨_, rfl⟩
  have hc := evCheck_any A n c l B _ (h.below hB k0) (by simp; omega) hn
  rw [← hy] at hc
  by_cases hz : y = 0
  · subst hz
    cases n with
    | zero =>
      have E := Lib.hid (show endS l = (0, 1, 0) by unfold endS; rw [← hy, if_neg (fun h => h rfl), List.eq_nil_of_length_eq_zero hl]; rfl)
      clear hy hl
      go_enter Try.func74, Try.ntmps74
      go_wp2_with (first | (go_at_call 43; refine (hc).mono ?_; rintro e wn ⟨rfl, hbn⟩; replace rn := Blk.kept (by with_reducible first | exact rn | exact r0 | exact rn.alloc _ | exact r0.alloc _ | exact (rn.alloc _).alloc _ | exact (r0.alloc _).alloc _) hbn; replace en := rn.cell; replace gn := rn.frozen; replace zn := rn.lt; replace kn := below_call (by with_reducible first | exact kn | exact k0 | exact below_alloc kn _ | exact below_alloc k0 _ | exact below_alloc (below_alloc kn _) _ | exact below_alloc (below_alloc k0 _) _) hbn; clear hbn) | (go_at_call 69; refine (evZero_any _).mono ?_; rintro e wn ⟨rfl, hbn⟩; replace rn := Blk.kept (by with_reducible first | exact rn | exact r0 | exact rn.alloc _ | exact r0.alloc _ | exact (rn.alloc _).alloc _ | exact (r0.alloc _).alloc _) hbn; replace en := rn.cell; replace gn := rn.frozen; replace zn := rn.lt; replace kn := below_call (by with_reducible first | exact kn | exact k0 | exact below_alloc kn _ | exact below_alloc k0 _ | exact below_alloc (below_alloc kn _) _ | exact below_alloc (below_alloc k0 _) _) hbn; clear hbn))
      refine ret_of (by simp [results, Try.results74, go_sem, *]; repeat' (first | rfl | apply And.intro)) rfl ⟨?_, by repeat (first | exact Below.refl _ _ | assumption | refine below_drewN ?_ _ | refine Below.drew ?_ | refine below_alloc ?_ _ | (refine below_call ?_ (by assumption)) | (refine Below.setCell ?_ ?_ _; rotate_left; (simp; try omega)))⟩
      rw [E.out]
    | succ m =>
      obtain ⟨x, hx⟩ := get_some (l := l) (k := m) (by omega)
      have E := Lib.hid (show endS l = addS x.at_ x.dur by unfold endS; rw [← hy, if_neg (fun h => h rfl), getLast_at hl hx])
      clear hy hl
      obtain ⟨b, off, rfl, hab, hcl⟩ := h.ev hB (Below.refl _ _) (Nat.lt_succ_self m) hx
      obtain ⟨⟨a, a'⟩, ⟨d, d'⟩, ⟨p, q, r⟩, rst, sg, ps⟩ := x
      obtain ⟨c0, c1, c2, c3, c4, c5, c6, c7, c8, c9⟩ := ten hcl
      clear hcl hx
      simp only at c0 c1 c2 c3 c4 c5 c6 c7 c8 c9 E
      go_enter Try.func74, Try.ntmps74
      go_wp2_with fail
      refine hc.mono ?_
      rintro e w1 ⟨rfl, hb1⟩
      have r1 := r0.kept hb1
      have k1 := below_call k0 hb1
      rw [← k1.cell (p := ⟨_, _, none⟩) hab] at c0 c1 c2 c3 c4 c5 c6 c7 c8 c9
      have hbz : b < w1.heap.size := Nat.lt_of_lt_of_le hab k1.size
      go_wp2_with fail
      have s1 : Blk (w1.alloc (.cells #[.int .i64 a, .int .i64 a', .int .i64 d, .int .i64 d', .int .i64 p, .int .i64 q, .int .i64 r, .bool rst, .int .i64 sg, .int .i64 ps] 67)) w1.heap.size 67 #[.int .i64 a, .int .i64 a', .int .i64 d, .int .i64 d', .int .i64 p, .int .i64 q, .int .i64 r, .bool rst, .int .i64 sg, .int .i64 ps] := Blk.new _ _ _
      refine (add_any (a, a') (d, d') _).mono ?_
      rintro e w2 ⟨rfl, hb2⟩
      have r2 := (r1.alloc _).kept hb2
      have e0 := r2.cell 0
      have e1 := r2.cell 1
      have f0 := r2.frozen 0
      have f1 := r2.frozen 1
      have z2 := r2.lt
      simp only [List.getElem?_toArray, List.getElem?_cons_zero, List.getElem?_cons_succ] at e0 e1
      have k2 := below_call (below_alloc k1 _) hb2
      go_wp2_with fail
      refine ret_of (by simp [results, Try.results74, go_sem, *]; repeat' (first | rfl | apply And.intro)) rfl ⟨?_, by repeat (first | exact Below.refl _ _ | assumption | refine below_drewN ?_ _ | refine Below.drew ?_ | refine below_alloc ?_ _ | (refine below_call ?_ (by assumption)) | (refine Below.setCell ?_ ?_ _; rotate_left; (simp; try omega)))⟩
      rw [E.out]
  · have hz' : (y == 0) = false := by simpa using hz
    have E := Lib.hid (show endS l = (0, 0, y) by unfold endS; rw [← hy, if_pos hz])
    clear hy hl hz
    go_enter Try.func74, Try.ntmps74
    go_wp2_with (first | (go_at_call 43; refine (hc).mono ?_; rintro e wn ⟨rfl, hbn⟩; replace rn := Blk.kept (by with_reducible first | exact rn | exact r0 | exact rn.alloc _ | exact r0.alloc _ | exact (rn.alloc _).alloc _ | exact (r0.alloc _).alloc _) hbn; replace en := rn.cell; replace gn := rn.frozen; replace zn := rn.lt; replace kn := below_call (by with_reducible first | exact kn | exact k0 | exact below_alloc kn _ | exact below_alloc k0 _ | exact below_alloc (below_alloc kn _) _ | exact below_alloc (below_alloc k0 _) _) hbn; clear hbn))
    refine ret_of (by simp [results, Try.results74, go_sem, *]; repeat' (first | rfl | apply And.intro)) rfl ⟨?_, by repeat (first | exact Below.refl _ _ | assumption | refine below_drewN ?_ _ | refine Below.drew ?_ | refine below_alloc ?_ _ | (refine below_call ?_ (by assumption)) | (refine Below.setCell ?_ ?_ _; rotate_left; (simp; try omega)))⟩
    rw [E.out]
end Go.Proofs.Ytbljfaocmeeljaa
