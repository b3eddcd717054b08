/- Arguments that are lists of voices, opened. -/
import Derived.Test.YtbljfaocmeeljaaArgsE
import Derived.Test.YtbljfaocmeeljaaAlMem
namespace Go.Proofs.Ytbljfaocmeeljaa
set_option maxRecDepth 100000
open Go.ChangeShapes Go.WideShapes Go.Deep Go.RowKit
section
variable {H : Type} {enc : TypeId × Value → H} {W : World} {base b0 : Nat} {spare : Nat → Bool} {held : Bool} {r : Reach} {v : Value} {d : DataW H} {p : List MemPlace}
theorem trod_events {fuel : Nat} {x : DataW H × List MemPlace} (hf : DataW.trod enc Try.prog W base spare held fuel 61 [v] = some x) :
    ∃ (A : Option Addr) (n c : Nat) (l : List Ev), v = .slice A n c ∧ Reads W W.heap.size 10 A n (csE l) ∧ n ≤ 9223372036854775807 := by
  rcases open_slice Try.underlying61 hf with ⟨hcs, _⟩ | ⟨a, len, cap, m, n', D, Pl, hcs, hb, hl, hm, hmm, hx, hi⟩
  · simp at hcs
    subst hcs
    exact ⟨none, 0, 0, [], rfl, Reads.none_, by omega⟩
  · simp at hcs
    subst hcs
    have hlm : len ≤ m := by rw [hmm]; split <;> omega
    rw [show Try.prog.cellsOf 67 = 10 from by kernel_rfl] at hi
    obtain ⟨l, hl1, hl2⟩ := list_of (fun i (x : Ev) => ∀ j u, (cE x)[j]? = some u → W.cell? (a.add (i * 10 + j)) = some u) len fun i hin => by
      obtain ⟨cs', hc, ht'⟩ := hi i (by omega)
      obtain ⟨y, rfl⟩ := trod_event ht'
      obtain ⟨_, hcl, hat⟩ := World.cells?_some hc
      refine ⟨y, fun j u hu => ?_⟩
      have hj : j < 10 := by
        have := (List.getElem?_eq_some_iff.1 hu).1
        simpa [cE] using this
      have := hat j hj
      rw [← Go.Deep.add_add, this, hu]
    exact ⟨some a, len, cap, l, rfl, reads_of (f := cE) (fun _ => rfl) (by omega) hl1 hl2, by unfold maxLen at hm; omega⟩
set_option maxRecDepth 100000 in
theorem cells_events : Try.prog.cellsOf 61 = 1 := by kernel_rfl
theorem arg_voices (hv : Value.okWide Try.prog W r b0 22 v) (h : DataW.Trod enc Try.prog W base spare held 22 v d p) :
    ∃ (A : Option Addr) (n c : Nat) (l : List (List Ev)), v = .slice A n c ∧ ReadsV W W.heap.size A n l ∧ n ≤ 9223372036854775807 := by
  obtain ⟨A, n, c, rfl⟩ := okWide_slice Try.underlying22 hv
  obtain ⟨fuel, hf⟩ := h
  rcases open_slice1 Try.underlying22 cells_events hf with ⟨hcs, _⟩ | ⟨a, len, cap, m, n', V, D, P9, hcs, hb, hl, hm, hmm, hx, hi⟩
  · simp [Value.cells] at hcs
    obtain ⟨rfl, rfl, rfl⟩ := hcs
    exact ⟨none, 0, 0, [], rfl, ⟨[], rfl, Reads.none_, fun k d v hd _ => by simp at hd⟩, by omega⟩
  · simp [Value.cells] at hcs
    obtain ⟨rfl, rfl, rfl⟩ := hcs
    have hlm : n ≤ m := by rw [hmm]; split <;> omega
    obtain ⟨ys, hy1, hy2⟩ := list_of (fun i (y : Pl × List Ev) => W.cell? (a.add i) = some (.slice y.1.1 y.1.2.1 y.1.2.2) ∧ Reads W W.heap.size 10 y.1.1 y.1.2.1 (csE y.2) ∧ y.1.2.1 ≤ 9223372036854775807) n fun i hin => by
      obtain ⟨h1, h2⟩ := hi i (by omega)
      obtain ⟨A', n'', c', l', e, hr, hn'⟩ := trod_events h2
      rw [e] at h1
      exact ⟨((A', n'', c'), l'), h1, hr, hn'⟩
    refine ⟨some a, n, c, ys.map (·.2), rfl, ⟨ys.map (·.1), by simp, reads_of (f := slV) (size := 1) (l := ys.map (·.1)) (fun _ => rfl) (by omega) (by simpa using hy1) ?_, ?_⟩, by unfold maxLen at hm; omega⟩
    · intro i x hx j u hu
      rw [List.getElem?_map] at hx
      cases hyi : ys[i]? with
      | none => rw [hyi] at hx; cases hx
      | some y =>
        rw [hyi] at hx
        simp at hx
        subst hx
        have hj : j = 0 := by
          have := (List.getElem?_eq_some_iff.1 hu).1
          simp [slV] at this; omega
        subst hj
        simp [slV] at hu
        subst hu
        simpa using (hy2 i y hyi).1
    · intro k d v hd hv
      rw [List.getElem?_map] at hd hv
      cases hyi : ys[k]? with
      | none => rw [hyi] at hd; cases hd
      | some y =>
        rw [hyi] at hd hv
        simp at hd hv
        subst hd hv
        exact (hy2 k y hyi).2
end
end Go.Proofs.Ytbljfaocmeeljaa
