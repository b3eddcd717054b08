/- Changes of events: the closures, and the change of all events. -/
import Derived.Test.YtiphacmmglohaaaReverse
import Derived.Test.YtiphacmmglohaaaMirror
namespace Go.Proofs.Ytiphacmmglohaaa
open Go.RowKit
@[reducible] def vEE (x : Ev × Int) : Value := .tuple #[vE x.1, .int .i64 x.2]
theorem vEE_ret {x y : Ev × Int} (h : y = x) : Ending.returned (.tuple #[vE y.1, .int .i64 y.2]) = .returned (vEE x) := by subst h; rfl
/-- The box with a function of pitches, and what a call of it does from a world on. -/
def PFun (w : World) (F : Value) (f : Int × Int × Int → (Int × Int × Int) × Int) : Prop :=
  ∃ k gc, (k = 61 ∨ k = 65) ∧ F = .func (.func k) #[] #[.pointer (some ⟨gc, 0, none⟩)] ∧ ∀ p w', Below w.heap.size w w' → Calls Try.prog k #[vP p, .pointer (some ⟨gc, 0, none⟩)] w' fun e w'' => e = .returned (vPE (f p)) ∧ Below w'.heap.size w' w''
/-- A function of events, by its number and what it captured. -/
def EFun (w : World) (F : Value) (f : Ev → Ev × Int) : Prop :=
  ∃ k gc, (k = 80 ∨ k = 39) ∧ F = .func (.func k) #[] #[.pointer (some ⟨gc, 0, none⟩)] ∧ ∀ x w', Below w.heap.size w w' → Calls Try.prog k #[vE x, .pointer (some ⟨gc, 0, none⟩)] w' fun e w'' => e = .returned (vEE (f x)) ∧ Below w'.heap.size w' w''
set_option maxHeartbeats 1000000 in
theorem mirrorf_any (p axis : Int × Int × Int) (gc : Nat) (w : World) (h : Blk w gc 35 #[.int .i64 axis.1, .int .i64 axis.2.1, .int .i64 axis.2.2]) :
    Calls Try.prog 61 #[vP p, .pointer (some ⟨gc, 0, none⟩)] w fun e w' => e = .returned (vPE (mirrorP p axis)) ∧ Below w.heap.size w w' := by
  obtain ⟨a, b, c⟩ := p
  obtain ⟨a', b', c'⟩ := axis
  have cg := h.cell; have zg := h.lt
  have r0 : Blk ((w.alloc (.cells #[.int .i64 a, .int .i64 b, .int .i64 c] 35)).alloc (.cells #[.int .i64 0, .int .i64 0, .int .i64 0] 35)) (w.heap.size + 1) 35 #[.int .i64 0, .int .i64 0, .int .i64 0] := Blk.newAt _ _ _ _ (by simp)
  have k0 : Below w.heap.size w ((w.alloc (.cells #[.int .i64 a, .int .i64 b, .int .i64 c] 35)).alloc (.cells #[.int .i64 0, .int .i64 0, .int .i64 0] 35)) := by repeat (first | exact Below.refl _ _ | refine below_drewN ?_ _ | refine Below.drew ?_ | refine below_alloc ?_ _ | (refine below_call ?_ (by assumption)) | (refine Below.setCell ?_ ?_ _; rotate_left; (simp; try omega)))
  go_enter Try.func61, Try.ntmps61
  go_wp2_with (first | (go_at_call 62; refine (pmirror_any (_, _, _) (_, _, _) _).mono ?_; rintro e wn ⟨rfl, hbn⟩; replace rn := Blk.kept (by with_reducible first | exact rn | exact r0 | exact rn.alloc _ | exact r0.alloc _ | exact (rn.alloc _).alloc _ | exact (r0.alloc _).alloc _) hbn; replace en := rn.cell; replace gn := rn.frozen; replace zn := rn.lt; replace kn := below_call (by with_reducible first | exact kn | exact k0 | exact below_alloc kn _ | exact below_alloc k0 _ | exact below_alloc (below_alloc kn _) _ | exact below_alloc (below_alloc k0 _) _) hbn; clear hbn))
  refine ret_of (by simp [results, Try.results61, go_sem, *]; repeat' (first | rfl | apply And.intro)) rfl ⟨rfl, by repeat (first | with_reducible exact Below.refl _ _ | with_reducible assumption | with_reducible refine below_drewN ?_ _ | with_reducible refine Below.drew ?_ | with_reducible refine below_alloc ?_ _ | (with_reducible refine Below.setCell ?_ ?_ _; rotate_left; ((try simp only); omega)))⟩
set_option maxHeartbeats 1000000 in
theorem movef_any (p : Int × Int × Int) (steps : Int) (gc : Nat) (w : World) (h : Blk w gc 3 #[.int .i64 steps]) :
    Calls Try.prog 65 #[vP p, .pointer (some ⟨gc, 0, none⟩)] w fun e w' => e = .returned (vPE (moveP p steps)) ∧ Below w.heap.size w w' := by
  obtain ⟨a, b, c⟩ := p
  have cg := h.cell; have zg := h.lt
  have r0 : Blk ((w.alloc (.cells #[.int .i64 a, .int .i64 b, .int .i64 c] 35)).alloc (.cells #[.int .i64 0, .int .i64 0, .int .i64 0] 35)) (w.heap.size + 1) 35 #[.int .i64 0, .int .i64 0, .int .i64 0] := Blk.newAt _ _ _ _ (by simp)
  have k0 : Below w.heap.size w ((w.alloc (.cells #[.int .i64 a, .int .i64 b, .int .i64 c] 35)).alloc (.cells #[.int .i64 0, .int .i64 0, .int .i64 0] 35)) := by repeat (first | exact Below.refl _ _ | refine below_drewN ?_ _ | refine Below.drew ?_ | refine below_alloc ?_ _ | (refine below_call ?_ (by assumption)) | (refine Below.setCell ?_ ?_ _; rotate_left; (simp; try omega)))
  go_enter Try.func65, Try.ntmps65
  go_wp2_with (first | (go_at_call 66; refine (pmove_any (_, _, _) _ _).mono ?_; rintro e wn ⟨rfl, hbn⟩; replace rn := Blk.kept (by with_reducible first | exact rn | exact r0 | exact rn.alloc _ | exact r0.alloc _ | exact (rn.alloc _).alloc _ | exact (r0.alloc _).alloc _) hbn; replace en := rn.cell; replace gn := rn.frozen; replace zn := rn.lt; replace kn := below_call (by with_reducible first | exact kn | exact k0 | exact below_alloc kn _ | exact below_alloc k0 _ | exact below_alloc (below_alloc kn _) _ | exact below_alloc (below_alloc k0 _) _) hbn; clear hbn))
  refine ret_of (by simp [results, Try.results65, go_sem, *]; repeat' (first | rfl | apply And.intro)) rfl ⟨rfl, by repeat (first | with_reducible exact Below.refl _ _ | with_reducible assumption | with_reducible refine below_drewN ?_ _ | with_reducible refine Below.drew ?_ | with_reducible refine below_alloc ?_ _ | (with_reducible refine Below.setCell ?_ ?_ _; rotate_left; ((try simp only); omega)))⟩
set_option maxRecDepth 100000 in
set_option maxHeartbeats 1000000 in
theorem stretchf_any (x : Ev) (t : Int × Int) (gc : Nat) (w : World) (h : Blk w gc 24 #[.int .i64 t.1, .int .i64 t.2]) :
    Calls Try.prog 39 #[vE x, .pointer (some ⟨gc, 0, none⟩)] w fun e w' => e = .returned (vEE (stretchedS t x)) ∧ Below w.heap.size w w' := by
  obtain ⟨⟨a, a'⟩, ⟨d, d'⟩, ⟨p, q, r⟩, rst, sg, ps⟩ := x
  obtain ⟨t, t'⟩ := t
  have cg := h.cell; have zg := h.lt
  have r0 : Blk ((w.alloc (.cells #[.int .i64 a, .int .i64 a', .int .i64 d, .int .i64 d', .int .i64 p, .int .i64 q, .int .i64 r, .bool rst, .int .i64 sg, .int .i64 ps] 59)).alloc (.cells #[.int .i64 0, .int .i64 0, .int .i64 0, .int .i64 0, .int .i64 0, .int .i64 0, .int .i64 0, .bool false, .int .i64 0, .int .i64 0] 59)) w.heap.size 59 #[.int .i64 a, .int .i64 a', .int .i64 d, .int .i64 d', .int .i64 p, .int .i64 q, .int .i64 r, .bool rst, .int .i64 sg, .int .i64 ps] := (Blk.new _ _ _).alloc _
  have s0 : Blk ((w.alloc (.cells #[.int .i64 a, .int .i64 a', .int .i64 d, .int .i64 d', .int .i64 p, .int .i64 q, .int .i64 r, .bool rst, .int .i64 sg, .int .i64 ps] 59)).alloc (.cells #[.int .i64 0, .int .i64 0, .int .i64 0, .int .i64 0, .int .i64 0, .int .i64 0, .int .i64 0, .bool false, .int .i64 0, .int .i64 0] 59)) (w.heap.size + 1) 59 #[.int .i64 0, .int .i64 0, .int .i64 0, .int .i64 0, .int .i64 0, .int .i64 0, .int .i64 0, .bool false, .int .i64 0, .int .i64 0] := Blk.newAt _ _ _ _ (by simp)
  have k0 : Below w.heap.size w ((w.alloc (.cells #[.int .i64 a, .int .i64 a', .int .i64 d, .int .i64 d', .int .i64 p, .int .i64 q, .int .i64 r, .bool rst, .int .i64 sg, .int .i64 ps] 59)).alloc (.cells #[.int .i64 0, .int .i64 0, .int .i64 0, .int .i64 0, .int .i64 0, .int .i64 0, .int .i64 0, .bool false, .int .i64 0, .int .i64 0] 59)) := by repeat (first | exact Below.refl _ _ | refine below_drewN ?_ _ | refine Below.drew ?_ | refine below_alloc ?_ _ | (refine below_call ?_ (by assumption)) | (refine Below.setCell ?_ ?_ _; rotate_left; (simp; try omega)))
  obtain ⟨y, hy⟩ : ∃ y, y = mulS (d, d') (t, t') := ⟨_, rfl⟩
  have hq := mul_any (d, d') (t, t')
  have E := Lib.hid (show stretchedS (t, t') ⟨(a, a'), (d, d'), (p, q, r), rst, sg, ps⟩ = (⟨(a, a'), (y.1, y.2.1), (p, q, r), rst, sg, ps⟩, y.2.2) by unfold stretchedS; rw [hy])
  rw [← hy] at hq
  clear hy
  dsimp only [vE]
  go_enter Try.func39, Try.ntmps39
  go_wp2_with (first | (go_at_call 40; refine (hq _).mono ?_; rintro e wn ⟨rfl, hbn⟩; replace rn := Blk.kept (by with_reducible first | exact rn | exact r0 | exact rn.alloc _ | exact r0.alloc _ | exact (rn.alloc _).alloc _ | exact (r0.alloc _).alloc _) hbn; replace en := rn.cell; replace gn := rn.frozen; replace zn := rn.lt; replace sn := Blk.kept (by with_reducible first | exact sn | exact s0 | exact sn.alloc _ | exact s0.alloc _ | exact (sn.alloc _).alloc _ | exact (s0.alloc _).alloc _) hbn; replace fn := sn.cell; replace hn := sn.frozen; replace yn := sn.lt; replace kn := below_call (by with_reducible first | exact kn | exact k0 | exact below_alloc kn _ | exact below_alloc k0 _ | exact below_alloc (below_alloc kn _) _ | exact below_alloc (below_alloc k0 _) _) hbn; clear hbn))
  refine ret_of (by simp [results, Try.results39, go_sem, *]; repeat' (first | rfl | apply And.intro)) rfl ⟨?_, by repeat (first | with_reducible exact Below.refl _ _ | with_reducible assumption | with_reducible refine below_drewN ?_ _ | with_reducible refine Below.drew ?_ | with_reducible refine below_alloc ?_ _ | (with_reducible refine Below.setCell ?_ ?_ _; rotate_left; ((try simp only); omega)))⟩
  rw [E.out]
set_option maxRecDepth 100000 in
set_option maxHeartbeats 1000000 in
theorem pitchedf_any (x : Ev) (F : Value) (f : Int × Int × Int → (Int × Int × Int) × Int) (w0 : World) (hf : PFun w0 F f) (gc : Nat) (w : World) (hw : Below w0.heap.size w0 w) (h : Blk w gc 73 #[F]) :
    Calls Try.prog 80 #[vE x, .pointer (some ⟨gc, 0, none⟩)] w fun e w' => e = .returned (vEE (pitchedS f x)) ∧ Below w.heap.size w w' := by
  obtain ⟨⟨a, a'⟩, ⟨d, d'⟩, ⟨p, q, r⟩, rst, sg, ps⟩ := x
  have cg := h.cell; have zg := h.lt
  have r0 : Blk ((w.alloc (.cells #[.int .i64 a, .int .i64 a', .int .i64 d, .int .i64 d', .int .i64 p, .int .i64 q, .int .i64 r, .bool rst, .int .i64 sg, .int .i64 ps] 59)).alloc (.cells #[.int .i64 0, .int .i64 0, .int .i64 0, .int .i64 0, .int .i64 0, .int .i64 0, .int .i64 0, .bool false, .int .i64 0, .int .i64 0] 59)) w.heap.size 59 #[.int .i64 a, .int .i64 a', .int .i64 d, .int .i64 d', .int .i64 p, .int .i64 q, .int .i64 r, .bool rst, .int .i64 sg, .int .i64 ps] := (Blk.new _ _ _).alloc _
  have s0 : Blk ((w.alloc (.cells #[.int .i64 a, .int .i64 a', .int .i64 d, .int .i64 d', .int .i64 p, .int .i64 q, .int .i64 r, .bool rst, .int .i64 sg, .int .i64 ps] 59)).alloc (.cells #[.int .i64 0, .int .i64 0, .int .i64 0, .int .i64 0, .int .i64 0, .int .i64 0, .int .i64 0, .bool false, .int .i64 0, .int .i64 0] 59)) (w.heap.size + 1) 59 #[.int .i64 0, .int .i64 0, .int .i64 0, .int .i64 0, .int .i64 0, .int .i64 0, .int .i64 0, .bool false, .int .i64 0, .int .i64 0] := Blk.newAt _ _ _ _ (by simp)
  have k0 : Below w.heap.size w ((w.alloc (.cells #[.int .i64 a, .int .i64 a', .int .i64 d, .int .i64 d', .int .i64 p, .int .i64 q, .int .i64 r, .bool rst, .int .i64 sg, .int .i64 ps] 59)).alloc (.cells #[.int .i64 0, .int .i64 0, .int .i64 0, .int .i64 0, .int .i64 0, .int .i64 0, .int .i64 0, .bool false, .int .i64 0, .int .i64 0] 59)) := by repeat (first | exact Below.refl _ _ | refine below_drewN ?_ _ | refine Below.drew ?_ | refine below_alloc ?_ _ | (refine below_call ?_ (by assumption)) | (refine Below.setCell ?_ ?_ _; rotate_left; (simp; try omega)))
  have b0 : Below w0.heap.size w0 ((w.alloc (.cells #[.int .i64 a, .int .i64 a', .int .i64 d, .int .i64 d', .int .i64 p, .int .i64 q, .int .i64 r, .bool rst, .int .i64 sg, .int .i64 ps] 59)).alloc (.cells #[.int .i64 0, .int .i64 0, .int .i64 0, .int .i64 0, .int .i64 0, .int .i64 0, .int .i64 0, .bool false, .int .i64 0, .int .i64 0] 59)) := below_call hw k0
  obtain ⟨k, gf, hkk, rfl, hk⟩ := hf
  have hq := hk (p, q, r) _ b0
  dsimp only [vE]
  cases rst with
  | true =>
    go_enter Try.func80, Try.ntmps80
    go_wp2
    refine ret_of (by simp [results, Try.results80, go_sem, *]; repeat' (first | rfl | apply And.intro)) rfl ⟨rfl, by repeat (first | with_reducible exact Below.refl _ _ | with_reducible assumption | with_reducible refine below_drewN ?_ _ | with_reducible refine Below.drew ?_ | with_reducible refine below_alloc ?_ _ | (with_reducible refine Below.setCell ?_ ?_ _; rotate_left; ((try simp only); omega)))⟩
  | false =>
    clear hk
    have HQ := Lib.hid hq; clear hq
    obtain ⟨y, hy⟩ : ∃ y, y = f (p, q, r) := ⟨_, rfl⟩
    have E := Lib.hid (show pitchedS f ⟨(a, a'), (d, d'), (p, q, r), false, sg, ps⟩ = (⟨(a, a'), (d, d'), y.1, false, sg, ps⟩, y.2) by unfold pitchedS; rw [hy]; rfl)
    have hq := HQ.out
    rw [← hy] at hq
    clear hy HQ
    have HQ := Lib.hid hq; clear hq
    rcases hkk with rfl | rfl
    all_goals
     go_enter Try.func80, Try.ntmps80
     go_wp2_with fail
     refine HQ.out.mono ?_
     rintro e wn ⟨rfl, hbn⟩
     have rn := r0.kept hbn
     have en := rn.cell; have gn := rn.frozen; have zn := rn.lt
     have sn := s0.kept hbn
     have fn := sn.cell; have hn := sn.frozen; have yn := sn.lt
     have kn := below_call k0 hbn
     clear hbn
     go_wp2
     refine ret_of (by simp [results, Try.results80, go_sem, *]; repeat' (first | rfl | apply And.intro)) rfl ⟨?_, by repeat (first | with_reducible exact Below.refl _ _ | with_reducible assumption | with_reducible refine below_drewN ?_ _ | with_reducible refine Below.drew ?_ | with_reducible refine below_alloc ?_ _ | (with_reducible refine Below.setCell ?_ ?_ _; rotate_left; ((try simp only); omega)))⟩
     rw [E.out]
set_option maxHeartbeats 400000 in
theorem pitched_any (fn : Fn) (cap : Array Value) (w : World) :
    Calls Try.prog 60 #[.func fn #[] cap] w fun e w' => e = .returned (.func (.func 80) #[] #[.pointer (some ⟨w.heap.size, 0, none⟩)]) ∧ w' = w.alloc (.cells #[.func fn #[] cap] 73) := by
  have hmf : ∀ (fn : Fn) (first cap : Array Value) (w : World), (Instr.makeFunc fn first cap).run Try.prog w = .ok (.func fn first cap) w := fun _ _ _ _ => rfl
  go_enter Try.func60, Try.ntmps60
  go_wp2
  go_ret
  exact ⟨rfl, rfl⟩
end Go.Proofs.Ytiphacmmglohaaa
