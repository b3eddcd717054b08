/- Arguments that are slices of structs or of numbers, opened: each reads as a list. -/
import Derived.Test.YtbljfaocmeeljaaBase
import Derived.ProofKit
import Derived.OpenShut
import Derived.Deep.Slices
import Derived.Deep.Fields
import Derived.ChangeSame
namespace Go.Proofs.Ytbljfaocmeeljaa
set_option maxRecDepth 100000
open Go.ChangeShapes Go.WideShapes Go.Deep Go.RowKit

theorem addr_add' (b off j : Nat) : (⟨b, off, none⟩ : Addr).add j = ⟨b, off + j, none⟩ := by
  unfold Addr.add
  split
  · rename_i h; subst h; simp
  · rfl
section
variable {H : Type} {enc : TypeId × Value → H} {P : Program} {w : World} {base : Nat} {spare : Nat → Bool} {held : Bool}
theorem open_slice_fields {t e : TypeId} {fs : Array Field} {fuel : Nat} {cs : List Value} {x : DataW H × List MemPlace} (ht : P.underlying t = some (.slice e)) (he : P.underlying e = some (.struct fs))
    (hone : oneCellFields P fs = true) (hC : P.cellsOf e = fs.size) (h : DataW.trod enc P w base spare held fuel t cs = some x) :
    cs = [.slice none 0 0] ∨
    ∃ (a : Addr) (len cap : Nat), cs = [.slice (some a) len cap] ∧ len ≤ cap ∧ cap ≤ maxLen ∧
      ∀ i, i < len → ∃ n : Nat, ∀ (j : Nat) (f : Field), fs[j]? = some f → ∃ (v : Value) (y : DataW H × List MemPlace), w.cell? (a.add (i * fs.size + j)) = some v ∧ DataW.trod enc P w base spare held n f.type [v] = some y := by
  rcases open_slice ht h with h0 | ⟨a, len, cap, m, n, D, Pl, hcs, hb, hl, hm, hmm, hx, hi⟩
  · exact .inl h0.1
  · have hlm : len ≤ m := by rw [hmm]; split <;> omega
    refine .inr ⟨a, len, cap, hcs, hl, hm, fun i hil => ?_⟩
    obtain ⟨cs', hc, ht'⟩ := hi i (by omega)
    rw [hC] at hc
    obtain ⟨ys, n', hn', hy, hlen, hyl, hf⟩ := DataW.trod_struct he ht'
    obtain ⟨_, hcl, hat⟩ := World.cells?_some hc
    refine ⟨n', fun j f hj => ?_⟩
    obtain ⟨ho, hk⟩ := hone_of hone j f hj
    have hjl : j < fs.size := (Array.getElem?_eq_some_iff.1 hj).1
    have hcell := hat j hjl
    have hv : cs'[j]? = some (cs'[j]'(by omega)) := List.getElem?_eq_getElem (by omega)
    have h1 := hf j f hj
    rw [ho, hk] at h1
    have hone' : (cs'.drop j).take 1 = [cs'[j]'(by omega)] := by
      rw [List.drop_eq_getElem_cons (by omega)]
      rfl
    rw [hone'] at h1
    have hys : ys[j]? = some (ys[j]'(by omega)) := List.getElem?_eq_getElem (by omega)
    refine ⟨_, _, ?_, h1.trans hys⟩
    rw [← Go.Deep.add_add, hcell, hv]
end
/-- A list of things that are each there. -/
theorem list_of {α : Type} (P : Nat → α → Prop) : ∀ n : Nat, (∀ i, i < n → ∃ x, P i x) → ∃ l : List α, l.length = n ∧ ∀ i x, l[i]? = some x → P i x
  | 0, _ => ⟨[], rfl, fun i x h => by simp at h⟩
  | n + 1, h => by
    obtain ⟨l, hl, hp⟩ := list_of P n fun i hi => h i (by omega)
    obtain ⟨x, hx⟩ := h n (by omega)
    refine ⟨l ++ [x], by simp [hl], fun i y hy => ?_⟩
    rcases Nat.lt_or_ge i n with hi | hi
    · rw [List.getElem?_append_left (by omega)] at hy; exact hp i y hy
    · rw [List.getElem?_append_right (by omega)] at hy
      have : i = n := by
        rcases Nat.lt_or_ge (i - l.length) 1 with h1 | h1
        · omega
        · rw [List.getElem?_eq_none (by simpa using h1)] at hy; cases hy
      subst this
      rw [hl] at hy; simp at hy; subst hy; exact hx
/-- Where each element's cells stand at the address, the slice reads as the list. -/
theorem reads_of {α : Type} {f : α → List Value} {size : Nat} (hf : ∀ x, (f x).length = size) (hs : 0 < size) {w : World} {a : Addr} {n : Nat} {l : List α} (hl : l.length = n)
    (h : ∀ i x, l[i]? = some x → ∀ j u, (f x)[j]? = some u → w.cell? (a.add (i * size + j)) = some u) : Reads w w.heap.size size (some a) n (l.flatMap f) := by
  refine ⟨by rw [flat_len f size hf, hl], fun hn => ?_⟩
  obtain ⟨x0, hx0⟩ := get_some (l := l) (k := 0) (by omega)
  obtain ⟨u0, hu0⟩ := get_some (l := f x0) (k := 0) (by rw [hf]; exact hs)
  have h0 := h 0 x0 hx0 0 u0 hu0
  have hspot : a.spot = none := by simpa [Addr.add] using World.cell?_spot h0
  obtain ⟨b, off, spot⟩ := a
  simp only at hspot
  subst hspot
  have hb : b < w.heap.size := by
    have := World.block_lt_of_cell? w _ h0
    simpa [Addr.add] using this
  refine ⟨b, off, rfl, hb, fun j u hj => ?_⟩
  have hjl : j < n * size := by
    have h2 := (List.getElem?_eq_some_iff.1 hj).1
    rwa [flat_len f size hf, hl] at h2
  have hk : j / size < n := (Nat.div_lt_iff_lt_mul hs).2 hjl
  obtain ⟨x, hx⟩ := get_some (l := l) (k := j / size) (by omega)
  have hjm : j / size * size + j % size = j := by rw [Nat.mul_comm]; exact Nat.div_add_mod j size
  have h1 := flat_get f size hf l (j / size) (j % size) x hx (Nat.mod_lt _ hs)
  rw [hjm, hj] at h1
  have h2 := h (j / size) x hx (j % size) u h1.symm
  rwa [hjm, addr_add'] at h2
section
variable {H : Type} {enc : TypeId × Value → H} {W : World} {base b0 : Nat} {spare : Nat → Bool} {held : Bool} {r : Reach} {v : Value} {d : DataW H} {p : List MemPlace}
theorem arg_times (hv : Value.okWide Try.prog W r b0 48 v) (h : DataW.Trod enc Try.prog W base spare held 48 v d p) :
    ∃ (A : Option Addr) (n c : Nat) (l : List (Int × Int)), v = .slice A n c ∧ Reads W W.heap.size 2 A n (csT l) ∧ n ≤ 9223372036854775807 := by
  obtain ⟨A, n, c, rfl⟩ := okWide_slice Try.underlying48 hv
  obtain ⟨fuel, hf⟩ := h
  rcases open_slice_fields Try.underlying48 Try.underlying34 (by kernel_rfl) (by kernel_rfl) hf with hcs | ⟨a, len, cap, hcs, hl, hm, hi⟩
  · simp [Value.cells] at hcs
    obtain ⟨rfl, rfl, rfl⟩ := hcs
    exact ⟨none, 0, 0, [], rfl, Reads.none_, by omega⟩
  · simp [Value.cells] at hcs
    obtain ⟨rfl, rfl, rfl⟩ := hcs
    obtain ⟨l, hl1, hl2⟩ := list_of (fun i (x : Int × Int) => W.cell? (a.add (i * 2 + 0)) = some (.int .i64 x.1) ∧ W.cell? (a.add (i * 2 + 1)) = some (.int .i64 x.2)) n fun i hin => by
      obtain ⟨m, hj⟩ := hi i hin
      obtain ⟨v0, y0, hc0, hy0⟩ := hj 0 _ rfl
      obtain ⟨v1, y1, hc1, hy1⟩ := hj 1 _ rfl
      obtain ⟨p0, e0, _, _⟩ := DataW.trod_int Try.underlying3 hy0
      obtain ⟨p1, e1, _, _⟩ := DataW.trod_int Try.underlying3 hy1
      simp at e0 e1
      subst e0 e1
      exact ⟨(p0, p1), hc0, hc1⟩
    refine ⟨some a, n, c, l, rfl, reads_of (f := cT) (fun _ => rfl) (by omega) hl1 fun i x hx j u hu => ?_, by unfold maxLen at hm; omega⟩
    obtain ⟨h0, h1⟩ := hl2 i x hx
    match j, hu with
    | 0, hu => simp [cT] at hu; rw [← hu]; exact h0
    | 1, hu => simp [cT] at hu; rw [← hu]; exact h1
    | j + 2, hu => simp [cT] at hu
end
end Go.Proofs.Ytbljfaocmeeljaa
