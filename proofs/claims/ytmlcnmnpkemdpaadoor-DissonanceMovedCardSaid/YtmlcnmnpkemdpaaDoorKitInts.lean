
/- The kit's SameInts: rows of numbers that read alike. -/
import Derived.Test.YtmlcnmnpkemdpaaDoorAlSlMem
import Derived.Deep.LoopGhost
namespace Go.Proofs.YtmlcnmnpkemdpaaDoor
open Go.RowKit
set_option maxRecDepth 100000 in
set_option maxHeartbeats 1000000 in
theorem sameInts_any (A A' : Option Addr) (n c c' : Nat) (l : List Int) (B B' : Nat) (w : World) (h : Reads w B 1 A n (csN l)) (hB : B ≤ w.heap.size) (h' : Reads w B' 1 A' n (csN l)) (hB' : B' ≤ w.heap.size) (hn : n ≤ 100000) :
    Calls Tryd.prog 13 #[.slice A n c, .slice A' n c'] w fun e w' => e = .returned (.bool true) ∧ Below w.heap.size w w' := by
  have HL := Lib.hid (show l.length = n from h.len (size := 1) (l := l) (f := cI) (fun _ => rfl) (by decide))
  go_enter Tryd.func13, Tryd.ntmps13
  go_wp2
  go_loopg [5] n (fun gh i wr => ∃ k : Nat, k + gh = n ∧ i = .int .i64 k ∧ Below w.heap.size w wr)
  case atStart => exact ⟨0, by omega, rfl, Below.refl _ _⟩
  case round =>
    obtain ⟨k, hkg, rfl, k0⟩ := hrel
    have wk : IntKind.i64.wrap ((k : Int) + 1) = (k : Int) + 1 := IntWalk.i64_in _ (by omega)
    cases gk with
    | zero =>
      have hk : k = n := by omega
      have d0 : ¬ ((k : Int) < (n : Int)) := by omega
      clear hk hkg
      go_wp2
      go_ret
      exact ⟨rfl, k0⟩
    | succ g =>
      have hk : k < n := by omega
      have hlt' : (k : Int) < (n : Int) := by omega
      obtain ⟨x, hx⟩ := get_some (l := l) (k := k) (by have := HL.out; omega)
      obtain ⟨b, off, rfl, hab, hc⟩ := Reads.elem (f := cI) (fun _ => rfl) (h.below hB k0) hk hx
      obtain ⟨b', off', rfl, hab', hc'⟩ := Reads.elem (f := cI) (fun _ => rfl) (h'.below hB' k0) hk hx
      have lb : b < wr.heap.size := by have := k0.size; omega
      have lb' : b' < wr.heap.size := by have := k0.size; omega
      have c0 := hc 0 _ rfl
      have e0 := hc' 0 _ rfl
      simp only [Nat.mul_one, Nat.add_zero] at c0 e0
      clear hc hc' hx
      go_wp2_with fail
      refine wp_region_calm (by kernel_rfl) (by kernel_rfl) ?_
      repeat (go_big_quiet_step (fail))
      refine wpQuiet_nil ?_
      intro wd gd
      go_wp2
      go_roundg g
      case measure => omega
      case rel => exact ⟨k + 1, by omega, by go_num, below_call k0 gd⟩
end Go.Proofs.YtmlcnmnpkemdpaaDoor
