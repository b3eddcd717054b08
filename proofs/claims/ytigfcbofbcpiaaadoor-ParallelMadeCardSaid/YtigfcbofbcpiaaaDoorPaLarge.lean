/- Which settings are more than the statements of layer 29 cover. -/
import Derived.Test.YtigfcbofbcpiaaaDoorAlLight
import Derived.Test.YtigfcbofbcpiaaaDoorPaAwake
namespace Go.Proofs.YtigfcbofbcpiaaaDoor
open Go.RowKit
def sumL (l : List (List Ev)) : Nat := (l.map List.length).sum
def largeB (l : List (List Ev)) : Bool := decide (∃ v ∈ l.take 11, 16 < v.length) || (decide (10 < l.length) || decide (60 < sumL (l.take 11)))
theorem largeB_no {l : List (List Ev)} (h : largeB l = false) : l.length ≤ 10 ∧ ∀ v ∈ l, v.length ≤ 16 := by
  unfold largeB at h
  simp only [Bool.or_eq_false_iff, decide_eq_false_iff_not, Nat.not_lt] at h
  refine ⟨h.2.1, fun v hv => ?_⟩
  rcases Nat.lt_or_ge 16 v.length with h1 | h1
  · exact absurd ⟨v, by rw [List.take_of_length_le (by omega)]; exact hv, h1⟩ h.1
  · exact h1
theorem sumL_next {l : List (List Ev)} {k : Nat} {v : List Ev} (h : l[k]? = some v) : sumL (l.take (k + 1)) = sumL (l.take k) + v.length := by
  unfold sumL
  rw [take_get h, List.map_append, List.sum_append]
  simp
theorem sumL_bd : ∀ (l : List (List Ev)), (∀ v ∈ l, v.length ≤ 16) → sumL l ≤ 16 * l.length
  | [], _ => by simp [sumL]
  | v :: l, h => by
    have h1 := h v (by simp)
    have h2 := sumL_bd l (fun u hu => h u (by simp [hu]))
    unfold sumL at h2 ⊢
    rw [List.map_cons, List.sum_cons, List.length_cons]
    omega
set_option maxRecDepth 100000 in
set_option maxHeartbeats 1000000 in
theorem large_any (A : Option Addr) (n c : Nat) (l : List (List Ev)) (B : Nat) (w : World) (h : ReadsV w B A n l) (hB : B ≤ w.heap.size) (hn : n ≤ 9223372036854775807) :
    Calls Tryd.prog 14 #[.slice A n c] w fun e w' => e = .returned (.bool (largeB l)) ∧ Below w.heap.size w w' := by
  have HL := Lib.hid h.len
  go_enter Tryd.func14, Tryd.ntmps14
  go_wp2
  go_loopg [3, 4] (min n 11) (fun gh s i wr => ∃ k : Nat, k + gh = min n 11 ∧ i = .int .i64 (k : Int) ∧ s = .int .i64 ((sumL (l.take k) : Nat) : Int) ∧ Hid (∀ v ∈ l.take k, v.length ≤ 16) ∧ Below w.heap.size w wr)
  case atStart => exact ⟨0, by omega, by simp, rfl, Lib.hid (fun v hv => by simp at hv), Below.refl _ _⟩
  case round =>
    obtain ⟨k, hkg, rfl, rfl, hS, k0⟩ := hrel
    have wk : IntKind.i64.wrap ((k : Int) + 1) = (k : Int) + 1 := IntWalk.i64_in _ (by omega)
    have hsb : sumL (l.take k) ≤ 16 * 11 := by
      have h1 := sumL_bd _ hS.out
      rw [List.length_take] at h1
      omega
    cases gk with
    | zero =>
      by_cases hkn : k < n
      · have d0 : (k : Int) < (n : Int) := by omega
        have d1 : ¬ ((k : Int) < 11) := by omega
        have d2 : (10 : Int) < (n : Int) := by omega
        have E := Lib.hid (show largeB l = true by unfold largeB; rw [HL.out, decide_eq_true (show 10 < n by omega)]; simp)
        clear hkn hkg
        go_wp2
        go_ret
        rw [E.out]
        exact ⟨rfl, k0⟩
      · have d0 : ¬ ((k : Int) < (n : Int)) := by omega
        have hk : k = n := by omega
        have ht : l.take k = l := List.take_of_length_le (by have := HL.out; omega)
        have E := Lib.hid (show largeB l = (decide (10 < n) || decide (60 < sumL (l.take k))) by
          unfold largeB
          rw [HL.out, decide_eq_false, Bool.false_or, ht, List.take_of_length_le (by have := HL.out; omega)]
          rintro ⟨v, hv, h16⟩
          have := hS.out v (by rw [ht]; exact List.mem_of_mem_take hv)
          omega)
        obtain ⟨s, hs⟩ : ∃ s, s = sumL (l.take k) := ⟨_, rfl⟩
        rw [← hs] at E ⊢
        clear hkn hkg hk hs hsb ht
        by_cases h10 : 10 < n
        · have d2 : (10 : Int) < (n : Int) := by omega
          go_wp2
          go_ret
          rw [E.out, decide_eq_true h10]
          exact ⟨rfl, k0⟩
        · have d2 : ¬ ((10 : Int) < (n : Int)) := by omega
          go_wp2
          go_ret
          rw [E.out, decide_eq_false h10]
          exact ⟨by simp; omega, k0⟩
    | succ g =>
      have hkn : k < n := by omega
      have d0 : (k : Int) < (n : Int) := by omega
      have d1 : (k : Int) < 11 := by omega
      obtain ⟨v, hv⟩ := get_some (l := l) (k := k) (by have := HL.out; omega)
      obtain ⟨b, off, A', n', c', rfl, hab, cv, _, _, hvn⟩ := h.voice hB k0 hkn hv
      by_cases hbig : 16 < n'
      · have d2 : (16 : Int) < (n' : Int) := by omega
        have E := Lib.hid (show largeB l = true by
          unfold largeB
          rw [decide_eq_true, Bool.true_or]
          exact ⟨v, List.mem_of_getElem? (l := l.take 11) (i := k) (by rw [List.getElem?_take, if_pos (by omega)]; exact hv), by omega⟩)
        clear hv hsb
        go_wp2
        go_ret
        rw [E.out]
        exact ⟨rfl, k0⟩
      · have d2 : ¬ ((16 : Int) < (n' : Int)) := by omega
        have HN := Lib.hid (show ∀ u ∈ l.take (k + 1), u.length ≤ 16 from fun u hu => by
          rw [take_get hv] at hu
          rcases List.mem_append.1 hu with hu | hu
          · exact hS.out u hu
          · rw [List.mem_singleton.1 hu]; omega)
        have HS := Lib.hid (sumL_next hv)
        have ws : IntKind.i64.wrap (((sumL (l.take k) : Nat) : Int) + (n' : Int)) = ((sumL (l.take k) : Nat) : Int) + (n' : Int) := IntWalk.i64_in _ (by omega)
        obtain ⟨s, hs⟩ : ∃ s, s = sumL (l.take k) := ⟨_, rfl⟩
        rw [← hs] at ws HS hsb ⊢
        clear hv hs
        go_wp2
        go_roundg g
        case measure => omega
        case rel => exact ⟨k + 1, by omega, by go_num, by rw [HS.out, hvn]; simp, HN, k0⟩
end Go.Proofs.YtigfcbofbcpiaaaDoor
