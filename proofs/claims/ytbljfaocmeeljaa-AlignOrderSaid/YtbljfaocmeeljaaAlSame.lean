/- The kit's comparisons of rows that read alike; lists of slices that are alike. -/
import Derived.Test.YtbljfaocmeeljaaAlStarts
import Derived.Test.YtbljfaocmeeljaaAlBin
import Derived.Test.YtbljfaocmeeljaaEvents
import Derived.Deep.LoopGhost
namespace Go.Proofs.Ytbljfaocmeeljaa
open Go.RowKit
set_option maxRecDepth 100000 in
set_option maxHeartbeats 1000000 in
theorem sameInts_any (A A' : Option Addr) (n c c' : Nat) (l : List Int) (B B' : Nat) (w : World) (h : Reads w B 1 A n (csN l)) (hB : B ≤ w.heap.size) (h' : Reads w B' 1 A' n (csN l)) (hB' : B' ≤ w.heap.size) (hn : n ≤ 100000) :
    Calls Try.prog 26 #[.slice A n c, .slice A' n c'] w fun e w' => e = .returned (.bool true) ∧ Below w.heap.size w w' := by
  have HL := Lib.hid (show l.length = n from h.len (size := 1) (l := l) (f := cI) (fun _ => rfl) (by decide))
  go_enter Try.func26, Try.ntmps26
  go_wp2
  go_loopg [5] n (fun gh i wr => ∃ k : Nat, k + gh = n ∧ i = .int .i64 k ∧ Below w.heap.size w wr)
  case atStart => exact ⟨0, by omega, rfl, Below.refl _ _⟩
  case round =>
    obtain ⟨k, hkg, rfl, k0⟩ := hrel
    have wk : IntKind.i64.wrap ((k : Int) + 1) = (k : Int) + 1 := IntWalk.i64_in _ (by omega)
    cases gk with
    | zero =>
      have hk : k = n := by omega
      have d0 : ¬ ((k : Int) < (n : Int)) := by omega
      clear hk hkg
      go_wp2
      go_ret
      exact ⟨rfl, k0⟩
    | succ g =>
      have hk : k < n := by omega
      have hlt' : (k : Int) < (n : Int) := by omega
      obtain ⟨x, hx⟩ := get_some (l := l) (k := k) (by have := HL.out; omega)
      obtain ⟨b, off, rfl, hab, hc⟩ := Reads.elem (f := cI) (fun _ => rfl) (h.below hB k0) hk hx
      obtain ⟨b', off', rfl, hab', hc'⟩ := Reads.elem (f := cI) (fun _ => rfl) (h'.below hB' k0) hk hx
      have lb : b < wr.heap.size := by have := k0.size; omega
      have lb' : b' < wr.heap.size := by have := k0.size; omega
      have c0 := hc 0 _ rfl
      have e0 := hc' 0 _ rfl
      simp only [Nat.mul_one, Nat.add_zero] at c0 e0
      clear hc hc' hx
      go_wp2_with fail
      refine wp_region_calm (by kernel_rfl) (by kernel_rfl) ?_
      repeat (go_big_quiet_step (fail))
      refine wpQuiet_nil ?_
      intro wd gd
      go_wp2
      go_roundg g
      case measure => omega
      case rel => exact ⟨k + 1, by omega, by go_num, below_call k0 gd⟩
set_option maxRecDepth 100000 in
set_option maxHeartbeats 1000000 in
theorem sameBools_any (A A' : Option Addr) (n c c' : Nat) (l : List Bool) (B B' : Nat) (w : World) (h : Reads w B 1 A n (csB l)) (hB : B ≤ w.heap.size) (h' : Reads w B' 1 A' n (csB l)) (hB' : B' ≤ w.heap.size) (hn : n ≤ 100000) :
    Calls Try.prog 23 #[.slice A n c, .slice A' n c'] w fun e w' => e = .returned (.bool true) ∧ Below w.heap.size w w' := by
  have HL := Lib.hid (show l.length = n from h.len (size := 1) (l := l) (f := cB) (fun _ => rfl) (by decide))
  go_enter Try.func23, Try.ntmps23
  go_wp2
  go_loopg [5] n (fun gh i wr => ∃ k : Nat, k + gh = n ∧ i = .int .i64 k ∧ Below w.heap.size w wr)
  case atStart => exact ⟨0, by omega, rfl, Below.refl _ _⟩
  case round =>
    obtain ⟨k, hkg, rfl, k0⟩ := hrel
    have wk : IntKind.i64.wrap ((k : Int) + 1) = (k : Int) + 1 := IntWalk.i64_in _ (by omega)
    cases gk with
    | zero =>
      have hk : k = n := by omega
      have d0 : ¬ ((k : Int) < (n : Int)) := by omega
      clear hk hkg
      go_wp2
      go_ret
      exact ⟨rfl, k0⟩
    | succ g =>
      have hk : k < n := by omega
      have hlt' : (k : Int) < (n : Int) := by omega
      obtain ⟨x, hx⟩ := get_some (l := l) (k := k) (by have := HL.out; omega)
      obtain ⟨b, off, rfl, hab, hc⟩ := Reads.elem (f := cB) (fun _ => rfl) (h.below hB k0) hk hx
      obtain ⟨b', off', rfl, hab', hc'⟩ := Reads.elem (f := cB) (fun _ => rfl) (h'.below hB' k0) hk hx
      have lb : b < wr.heap.size := by have := k0.size; omega
      have lb' : b' < wr.heap.size := by have := k0.size; omega
      have c0 := hc 0 _ rfl
      have e0 := hc' 0 _ rfl
      simp only [Nat.mul_one, Nat.add_zero] at c0 e0
      clear hc hc' hx
      go_wp2_with fail
      refine wp_region_calm (by kernel_rfl) (by kernel_rfl) ?_
      repeat (go_big_quiet_step (fail))
      refine wpQuiet_nil ?_
      intro wd gd
      go_wp2
      go_roundg g
      case measure => omega
      case rel => exact ⟨k + 1, by omega, by go_num, below_call k0 gd⟩
set_option maxRecDepth 100000 in
set_option maxHeartbeats 1000000 in
theorem sameTimes_any (A A' : Option Addr) (n c c' : Nat) (l : List Tm) (B B' : Nat) (w : World) (h : Reads w B 2 A n (csT l)) (hB : B ≤ w.heap.size) (h' : Reads w B' 2 A' n (csT l)) (hB' : B' ≤ w.heap.size) (hn : n ≤ 100000) :
    Calls Try.prog 31 #[.slice A n c, .slice A' n c'] w fun e w' => e = .returned (.bool true) ∧ Below w.heap.size w w' := by
  have HL := Lib.hid (show l.length = n from h.len (size := 2) (l := l) (f := cT) (fun _ => rfl) (by decide))
  go_enter Try.func31, Try.ntmps31
  go_wp2
  go_loopg [5] n (fun gh i wr => ∃ k : Nat, k + gh = n ∧ i = .int .i64 k ∧ Below w.heap.size w wr)
  case atStart => exact ⟨0, by omega, rfl, Below.refl _ _⟩
  case round =>
    obtain ⟨k, hkg, rfl, k0⟩ := hrel
    have wk : IntKind.i64.wrap ((k : Int) + 1) = (k : Int) + 1 := IntWalk.i64_in _ (by omega)
    cases gk with
    | zero =>
      have hk : k = n := by omega
      have d0 : ¬ ((k : Int) < (n : Int)) := by omega
      clear hk hkg
      go_wp2
      go_ret
      exact ⟨rfl, k0⟩
    | succ g =>
      have hk : k < n := by omega
      have hlt' : (k : Int) < (n : Int) := by omega
      obtain ⟨x, hx⟩ := get_some (l := l) (k := k) (by have := HL.out; omega)
      obtain ⟨b, off, rfl, hab, hc⟩ := Reads.elem (f := cT) (fun _ => rfl) (h.below hB k0) hk hx
      obtain ⟨b', off', rfl, hab', hc'⟩ := Reads.elem (f := cT) (fun _ => rfl) (h'.below hB' k0) hk hx
      have lb : b < wr.heap.size := by have := k0.size; omega
      have lb' : b' < wr.heap.size := by have := k0.size; omega
      have c0 := hc 0 _ rfl
      have e0 := hc' 0 _ rfl
      simp only [Nat.add_zero] at c0 e0
      have c1 := hc 1 _ rfl
      have e1 := hc' 1 _ rfl
      simp only [← Nat.add_assoc] at c1 e1
      clear hc hc' hx
      go_wp2_with fail
      refine wp_region_calm (by kernel_rfl) (by kernel_rfl) ?_
      repeat (go_big_quiet_step (fail))
      refine wpQuiet_nil ?_
      intro wd gd
      go_wp2
      go_roundg g
      case measure => omega
      case rel => exact ⟨k + 1, by omega, by go_num, below_call k0 gd⟩
set_option maxRecDepth 100000 in
set_option maxHeartbeats 8000000 in
theorem sameSlices_any (A A' : Option Addr) (n c c' : Nat) (l : List Sl) (w : World) (h : ReadsS w w.heap.size A n l) (h' : ReadsS w w.heap.size A' n l) (hn : n ≤ 100000) (hq9 : ∀ s ∈ l, s.evs.length ≤ 100000) :
    Calls Try.prog 17 #[.slice A n c, .slice A' n c'] w fun e w' => e = .returned (.bool true) ∧ Below w.heap.size w w' := by
  have HL := Lib.hid h.len
  have HQ := Lib.hid hq9
  clear hq9
  go_enter Try.func17, Try.ntmps17
  go_wp2
  go_loopg [5] n (fun gh i wr => ∃ k : Nat, k + gh = n ∧ i = .int .i64 k ∧ Below w.heap.size w wr)
  case atStart => exact ⟨0, by omega, rfl, Below.refl _ _⟩
  case round =>
    obtain ⟨k, hkg, rfl, k0⟩ := hrel
    have wk : IntKind.i64.wrap ((k : Int) + 1) = (k : Int) + 1 := IntWalk.i64_in _ (by omega)
    cases gk with
    | zero =>
      have hk : k = n := by omega
      have d0 : ¬ ((k : Int) < (n : Int)) := by omega
      clear hk hkg
      go_wp2
      go_ret
      exact ⟨rfl, k0⟩
    | succ g =>
      have hk : k < n := by omega
      have hlt' : (k : Int) < (n : Int) := by omega
      obtain ⟨s, hs⟩ := get_some (l := l) (k := k) (by have := HL.out; omega)
      obtain ⟨b, off, p, q, kc, rfl, hab, hq, hr, c0, c1, c2, c3, c4⟩ := h.el (Nat.le_refl _) k0 hk hs
      obtain ⟨b', off', p', q', kc', rfl, hab', hq', hr', e0, e1, e2, e3, e4⟩ := h'.el (Nat.le_refl _) k0 hk hs
      have hqq : q' = q := by omega
      subst hqq
      have hq8 := HQ.out s (List.mem_of_getElem? hs)
      have HI := Lib.hid (fun W (hW : Below wr.heap.size wr W) => sameInts_any p p' q' kc kc' s.evs wr.heap.size wr.heap.size W (hr.below (Nat.le_refl _) hW) hW.size (hr'.below (Nat.le_refl _) hW) hW.size (by omega))
      obtain ⟨⟨a0, a1⟩, ⟨d0, d1⟩, ev⟩ := s
      simp only at c0 c1 c2 c3 e0 e1 e2 e3
      clear hs hr hr' hq hq' hq8
      go_wp2_with fail
      refine wp_region_calm (by kernel_rfl) (by kernel_rfl) ?_
      repeat (go_big_quiet_step ((go_at_call 26; exact calm_call (HI.out _ (Calm.h _)))))
      refine wpQuiet_nil ?_
      intro wd gd
      go_wp2
      go_roundg g
      case measure => omega
      case rel => exact ⟨k + 1, by omega, by go_num, below_call k0 gd⟩
end Go.Proofs.Ytbljfaocmeeljaa
