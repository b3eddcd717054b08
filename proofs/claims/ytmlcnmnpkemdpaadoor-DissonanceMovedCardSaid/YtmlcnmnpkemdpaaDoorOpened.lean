
/- Args, ArgsE, ArgsV, ArgsI, DoorP: one text. -/
import Derived.Test.YtmlcnmnpkemdpaaDoorGround
import Derived.ProofKit
import Derived.OpenShut
import Derived.Deep.Slices
import Derived.Deep.Fields
import Derived.ChangeSame
import Derived.Test.YtmlcnmnpkemdpaaDoorEvents
import Derived.ChangeArms
import Derived.Test.YtmlcnmnpkemdpaaDoorAlMem
import Derived.Test.YtmlcnmnpkemdpaaDoorVoices
import Derived.Test.YtmlcnmnpkemdpaaDoorRows
import Derived.Stop.Joined
import Derived.WalkKit
import Derived.ChangeOld
import Derived.Below
import Derived.Lib.SmallJoins
/- Arguments that are slices of structs or of numbers, opened: each reads as a list. -/

namespace Go.Proofs.YtmlcnmnpkemdpaaDoor
set_option maxRecDepth 100000
open Go.ChangeShapes Go.WideShapes Go.Deep Go.RowKit

theorem addr_add' (b off j : Nat) : (⟨b, off, none⟩ : Addr).add j = ⟨b, off + j, none⟩ := by
  unfold Addr.add
  split
  · rename_i h; subst h; simp
  · rfl
section
variable {H : Type} {enc : TypeId × Value → H} {P : Program} {w : World} {base : Nat} {spare : Nat → Bool} {held : Bool}
theorem open_slice_fields {t e : TypeId} {fs : Array Field} {fuel : Nat} {cs : List Value} {x : DataW H × List MemPlace} (ht : P.underlying t = some (.slice e)) (he : P.underlying e = some (.struct fs))
    (hone : oneCellFields P fs = true) (hC : P.cellsOf e = fs.size) (h : DataW.trod enc P w base spare held fuel t cs = some x) :
    cs = [.slice none 0 0] ∨
    ∃ (a : Addr) (len cap : Nat), cs = [.slice (some a) len cap] ∧ len ≤ cap ∧ cap ≤ maxLen ∧
      ∀ i, i < len → ∃ n : Nat, ∀ (j : Nat) (f : Field), fs[j]? = some f → ∃ (v : Value) (y : DataW H × List MemPlace), w.cell? (a.add (i * fs.size + j)) = some v ∧ DataW.trod enc P w base spare held n f.type [v] = some y := by
  rcases open_slice ht h with h0 | ⟨a, len, cap, m, n, D, Pl, hcs, hb, hl, hm, hmm, hx, hi⟩
  · exact .inl h0.1
  · have hlm : len ≤ m := by rw [hmm]; split <;> omega
    refine .inr ⟨a, len, cap, hcs, hl, hm, fun i hil => ?_⟩
    obtain ⟨cs', hc, ht'⟩ := hi i (by omega)
    rw [hC] at hc
    obtain ⟨ys, n', hn', hy, hlen, hyl, hf⟩ := DataW.trod_struct he ht'
    obtain ⟨_, hcl, hat⟩ := World.cells?_some hc
    refine ⟨n', fun j f hj => ?_⟩
    obtain ⟨ho, hk⟩ := hone_of hone j f hj
    have hjl : j < fs.size := (Array.getElem?_eq_some_iff.1 hj).1
    have hcell := hat j hjl
    have hv : cs'[j]? = some (cs'[j]'(by omega)) := List.getElem?_eq_getElem (by omega)
    have h1 := hf j f hj
    rw [ho, hk] at h1
    have hone' : (cs'.drop j).take 1 = [cs'[j]'(by omega)] := by
      rw [List.drop_eq_getElem_cons (by omega)]
      rfl
    rw [hone'] at h1
    have hys : ys[j]? = some (ys[j]'(by omega)) := List.getElem?_eq_getElem (by omega)
    refine ⟨_, _, ?_, h1.trans hys⟩
    rw [← Go.Deep.add_add, hcell, hv]
end
/-- A list of things that are each there. -/
theorem list_of {α : Type} (P : Nat → α → Prop) : ∀ n : Nat, (∀ i, i < n → ∃ x, P i x) → ∃ l : List α, l.length = n ∧ ∀ i x, l[i]? = some x → P i x
  | 0, _ => ⟨[], rfl, fun i x h => by simp at h⟩
  | n + 1, h => by
    obtain ⟨l, hl, hp⟩ := list_of P n fun i hi => h i (by omega)
    obtain ⟨x, hx⟩ := h n (by omega)
    refine ⟨l ++ [x], by simp [hl], fun i y hy => ?_⟩
    rcases Nat.lt_or_ge i n with hi | hi
    · rw [List.getElem?_append_left (by omega)] at hy; exact hp i y hy
    · rw [List.getElem?_append_right (by omega)] at hy
      have : i = n := by
        rcases Nat.lt_or_ge (i - l.length) 1 with h1 | h1
        · omega
        · rw [List.getElem?_eq_none (by simpa using h1)] at hy; cases hy
      subst this
      rw [hl] at hy; simp at hy; subst hy; exact hx
/-- Where each element's cells stand at the address, the slice reads as the list. -/
theorem reads_of {α : Type} {f : α → List Value} {size : Nat} (hf : ∀ x, (f x).length = size) (hs : 0 < size) {w : World} {a : Addr} {n : Nat} {l : List α} (hl : l.length = n)
    (h : ∀ i x, l[i]? = some x → ∀ j u, (f x)[j]? = some u → w.cell? (a.add (i * size + j)) = some u) : Reads w w.heap.size size (some a) n (l.flatMap f) := by
  refine ⟨by rw [flat_len f size hf, hl], fun hn => ?_⟩
  obtain ⟨x0, hx0⟩ := get_some (l := l) (k := 0) (by omega)
  obtain ⟨u0, hu0⟩ := get_some (l := f x0) (k := 0) (by rw [hf]; exact hs)
  have h0 := h 0 x0 hx0 0 u0 hu0
  have hspot : a.spot = none := by simpa [Addr.add] using World.cell?_spot h0
  obtain ⟨b, off, spot⟩ := a
  simp only at hspot
  subst hspot
  have hb : b < w.heap.size := by
    have := World.block_lt_of_cell? w _ h0
    simpa [Addr.add] using this
  refine ⟨b, off, rfl, hb, fun j u hj => ?_⟩
  have hjl : j < n * size := by
    have h2 := (List.getElem?_eq_some_iff.1 hj).1
    rwa [flat_len f size hf, hl] at h2
  have hk : j / size < n := (Nat.div_lt_iff_lt_mul hs).2 hjl
  obtain ⟨x, hx⟩ := get_some (l := l) (k := j / size) (by omega)
  have hjm : j / size * size + j % size = j := by rw [Nat.mul_comm]; exact Nat.div_add_mod j size
  have h1 := flat_get f size hf l (j / size) (j % size) x hx (Nat.mod_lt _ hs)
  rw [hjm, hj] at h1
  have h2 := h (j / size) x hx (j % size) u h1.symm
  rwa [hjm, addr_add'] at h2
section
variable {H : Type} {enc : TypeId × Value → H} {W : World} {base b0 : Nat} {spare : Nat → Bool} {held : Bool} {r : Reach} {v : Value} {d : DataW H} {p : List MemPlace}
theorem arg_times (hv : Value.okWide Tryd.prog W r b0 82 v) (h : DataW.Trod enc Tryd.prog W base spare held 82 v d p) :
    ∃ (A : Option Addr) (n c : Nat) (l : List (Int × Int)), v = .slice A n c ∧ Reads W W.heap.size 2 A n (csT l) ∧ n ≤ 9223372036854775807 := by
  obtain ⟨A, n, c, rfl⟩ := okWide_slice Tryd.underlying82 hv
  obtain ⟨fuel, hf⟩ := h
  rcases open_slice_fields Tryd.underlying82 Tryd.underlying52 (by kernel_rfl) (by kernel_rfl) hf with hcs | ⟨a, len, cap, hcs, hl, hm, hi⟩
  · simp [Value.cells] at hcs
    obtain ⟨rfl, rfl, rfl⟩ := hcs
    exact ⟨none, 0, 0, [], rfl, Reads.none_, by omega⟩
  · simp [Value.cells] at hcs
    obtain ⟨rfl, rfl, rfl⟩ := hcs
    obtain ⟨l, hl1, hl2⟩ := list_of (fun i (x : Int × Int) => W.cell? (a.add (i * 2 + 0)) = some (.int .i64 x.1) ∧ W.cell? (a.add (i * 2 + 1)) = some (.int .i64 x.2)) n fun i hin => by
      obtain ⟨m, hj⟩ := hi i hin
      obtain ⟨v0, y0, hc0, hy0⟩ := hj 0 _ rfl
      obtain ⟨v1, y1, hc1, hy1⟩ := hj 1 _ rfl
      obtain ⟨p0, e0, _, _⟩ := DataW.trod_int Tryd.underlying3 hy0
      obtain ⟨p1, e1, _, _⟩ := DataW.trod_int Tryd.underlying3 hy1
      simp at e0 e1
      subst e0 e1
      exact ⟨(p0, p1), hc0, hc1⟩
    refine ⟨some a, n, c, l, rfl, reads_of (f := cT) (fun _ => rfl) (by omega) hl1 fun i x hx j u hu => ?_, by unfold maxLen at hm; omega⟩
    obtain ⟨h0, h1⟩ := hl2 i x hx
    match j, hu with
    | 0, hu => simp [cT] at hu; rw [← hu]; exact h0
    | 1, hu => simp [cT] at hu; rw [← hu]; exact h1
    | j + 2, hu => simp [cT] at hu
end
end Go.Proofs.YtmlcnmnpkemdpaaDoor

/- Arguments that are lists of events, opened. -/

namespace Go.Proofs.YtmlcnmnpkemdpaaDoor
set_option maxRecDepth 100000
open Go.ChangeShapes Go.WideShapes Go.Deep Go.RowKit
section
variable {H : Type} {enc : TypeId × Value → H} {w : World} {base : Nat} {spare : Nat → Bool} {held : Bool}
theorem trod_times {n : Nat} {u v : Value} {x : DataW H × List MemPlace} (h : DataW.trod enc Tryd.prog w base spare held n 52 [u, v] = some x) : ∃ a b : Int, u = .int .i64 a ∧ v = .int .i64 b := by
  obtain ⟨ys, m, rfl, _, _, hyl, hf⟩ := DataW.trod_struct Tryd.underlying52 h
  have h0 : DataW.trod enc Tryd.prog w base spare held m 3 ((([u, v] : List Value).drop 0).take (Tryd.prog.cellsOf 3)) = ys[0]? := hf 0 _ rfl
  have h1 : DataW.trod enc Tryd.prog w base spare held m 3 ((([u, v] : List Value).drop 1).take (Tryd.prog.cellsOf 3)) = ys[1]? := hf 1 _ rfl
  rw [show Tryd.prog.cellsOf 3 = 1 from by kernel_rfl] at h0 h1
  simp only [List.drop_zero, List.drop_succ_cons, List.take_succ_cons, List.take_zero] at h0 h1
  rw [List.getElem?_eq_getElem (by rw [hyl]; decide)] at h0 h1
  obtain ⟨a, e0, _, _⟩ := DataW.trod_int Tryd.underlying3 h0
  obtain ⟨b, e1, _, _⟩ := DataW.trod_int Tryd.underlying3 h1
  simp at e0 e1
  exact ⟨a, b, e0, e1⟩
theorem trod_pitch {n : Nat} {u v z : Value} {x : DataW H × List MemPlace} (h : DataW.trod enc Tryd.prog w base spare held n 32 [u, v, z] = some x) : ∃ a b c : Int, u = .int .i64 a ∧ v = .int .i64 b ∧ z = .int .i64 c := by
  obtain ⟨ys, m, rfl, _, _, hyl, hf⟩ := DataW.trod_struct Tryd.underlying32 h
  have h0 : DataW.trod enc Tryd.prog w base spare held m 3 ((([u, v, z] : List Value).drop 0).take (Tryd.prog.cellsOf 3)) = ys[0]? := hf 0 _ rfl
  have h1 : DataW.trod enc Tryd.prog w base spare held m 3 ((([u, v, z] : List Value).drop 1).take (Tryd.prog.cellsOf 3)) = ys[1]? := hf 1 _ rfl
  have h2 : DataW.trod enc Tryd.prog w base spare held m 3 ((([u, v, z] : List Value).drop 2).take (Tryd.prog.cellsOf 3)) = ys[2]? := hf 2 _ rfl
  rw [show Tryd.prog.cellsOf 3 = 1 from by kernel_rfl] at h0 h1 h2
  simp only [List.drop_zero, List.drop_succ_cons, List.take_succ_cons, List.take_zero] at h0 h1 h2
  rw [List.getElem?_eq_getElem (by rw [hyl]; decide)] at h0 h1 h2
  obtain ⟨a, e0, _, _⟩ := DataW.trod_int Tryd.underlying3 h0
  obtain ⟨b, e1, _, _⟩ := DataW.trod_int Tryd.underlying3 h1
  obtain ⟨c, e2, _, _⟩ := DataW.trod_int Tryd.underlying3 h2
  simp at e0 e1 e2
  exact ⟨a, b, c, e0, e1, e2⟩
theorem ten_of {cs : List Value} (h : cs.length = 10) : ∃ a b c d e f g h i j, cs = [a, b, c, d, e, f, g, h, i, j] := by
  match cs, h with
  | [a, b, c, d, e, f, g, h, i, j], _ => exact ⟨a, b, c, d, e, f, g, h, i, j, rfl⟩
theorem trod_event {n : Nat} {cs : List Value} {x : DataW H × List MemPlace} (h : DataW.trod enc Tryd.prog w base spare held n 54 cs = some x) : ∃ y : Ev, cs = cE y := by
  obtain ⟨ys, m, rfl, _, hl, hyl, hf⟩ := DataW.trod_struct Tryd.underlying54 h
  rw [show Tryd.prog.cellsOf 54 = 10 from by kernel_rfl] at hl
  obtain ⟨a, b, c, d, e, f, g, hh, i, j, rfl⟩ := ten_of hl
  have h0 : DataW.trod enc Tryd.prog w base spare held m 52 ((([a, b, c, d, e, f, g, hh, i, j] : List Value).drop 0).take (Tryd.prog.cellsOf 52)) = ys[0]? := hf 0 _ rfl
  have h1 : DataW.trod enc Tryd.prog w base spare held m 52 ((([a, b, c, d, e, f, g, hh, i, j] : List Value).drop 2).take (Tryd.prog.cellsOf 52)) = ys[1]? := hf 1 _ rfl
  have h2 : DataW.trod enc Tryd.prog w base spare held m 32 ((([a, b, c, d, e, f, g, hh, i, j] : List Value).drop 4).take (Tryd.prog.cellsOf 32)) = ys[2]? := hf 2 _ rfl
  have h3 : DataW.trod enc Tryd.prog w base spare held m 4 ((([a, b, c, d, e, f, g, hh, i, j] : List Value).drop 7).take (Tryd.prog.cellsOf 4)) = ys[3]? := hf 3 _ rfl
  have h4 : DataW.trod enc Tryd.prog w base spare held m 3 ((([a, b, c, d, e, f, g, hh, i, j] : List Value).drop 8).take (Tryd.prog.cellsOf 3)) = ys[4]? := hf 4 _ rfl
  have h5 : DataW.trod enc Tryd.prog w base spare held m 3 ((([a, b, c, d, e, f, g, hh, i, j] : List Value).drop 9).take (Tryd.prog.cellsOf 3)) = ys[5]? := hf 5 _ rfl
  rw [show Tryd.prog.cellsOf 52 = 2 from by kernel_rfl] at h0 h1
  rw [show Tryd.prog.cellsOf 32 = 3 from by kernel_rfl] at h2
  rw [show Tryd.prog.cellsOf 4 = 1 from by kernel_rfl] at h3
  rw [show Tryd.prog.cellsOf 3 = 1 from by kernel_rfl] at h4 h5
  simp only [List.drop_zero, List.drop_succ_cons, List.take_succ_cons, List.take_zero] at h0 h1 h2 h3 h4 h5
  rw [List.getElem?_eq_getElem (by rw [hyl]; decide)] at h0 h1 h2 h3 h4 h5
  obtain ⟨a1, a2, rfl, rfl⟩ := trod_times h0
  obtain ⟨b1, b2, rfl, rfl⟩ := trod_times h1
  obtain ⟨c1, c2, c3, rfl, rfl, rfl⟩ := trod_pitch h2
  obtain ⟨z, e3, _⟩ := DataW.trod_bool Tryd.underlying4 h3
  obtain ⟨sg, e4, _, _⟩ := DataW.trod_int Tryd.underlying3 h4
  obtain ⟨ps, e5, _, _⟩ := DataW.trod_int Tryd.underlying3 h5
  simp at e3 e4 e5
  subst e3 e4 e5
  exact ⟨⟨(a1, a2), (b1, b2), (c1, c2, c3), z, sg, ps⟩, rfl⟩
end
section
variable {H : Type} {enc : TypeId × Value → H} {W : World} {base b0 : Nat} {spare : Nat → Bool} {held : Bool} {r : Reach} {v : Value} {d : DataW H} {p : List MemPlace}
theorem arg_events (hv : Value.okWide Tryd.prog W r b0 37 v) (h : DataW.Trod enc Tryd.prog W base spare held 37 v d p) :
    ∃ (A : Option Addr) (n c : Nat) (l : List Ev), v = .slice A n c ∧ Reads W W.heap.size 10 A n (csE l) ∧ n ≤ 9223372036854775807 := by
  obtain ⟨A, n, c, rfl⟩ := okWide_slice Tryd.underlying37 hv
  obtain ⟨fuel, hf⟩ := h
  rcases open_slice Tryd.underlying37 hf with ⟨hcs, _⟩ | ⟨a, len, cap, m, n', D, Pl, hcs, hb, hl, hm, hmm, hx, hi⟩
  · simp [Value.cells] at hcs
    obtain ⟨rfl, rfl, rfl⟩ := hcs
    exact ⟨none, 0, 0, [], rfl, Reads.none_, by omega⟩
  · simp [Value.cells] at hcs
    obtain ⟨rfl, rfl, rfl⟩ := hcs
    have hlm : n ≤ m := by rw [hmm]; split <;> omega
    rw [show Tryd.prog.cellsOf 54 = 10 from by kernel_rfl] at hi
    obtain ⟨l, hl1, hl2⟩ := list_of (fun i (x : Ev) => ∀ j u, (cE x)[j]? = some u → W.cell? (a.add (i * 10 + j)) = some u) n fun i hin => by
      obtain ⟨cs', hc, ht'⟩ := hi i (by omega)
      obtain ⟨y, rfl⟩ := trod_event ht'
      obtain ⟨_, hcl, hat⟩ := World.cells?_some hc
      refine ⟨y, fun j u hu => ?_⟩
      have hj : j < 10 := by
        have := (List.getElem?_eq_some_iff.1 hu).1
        simpa [cE] using this
      have := hat j hj
      rw [← Go.Deep.add_add, this, hu]
    exact ⟨some a, n, c, l, rfl, reads_of (f := cE) (fun _ => rfl) (by omega) hl1 hl2, by unfold maxLen at hm; omega⟩
end
end Go.Proofs.YtmlcnmnpkemdpaaDoor

/- Arguments that are lists of voices, opened. -/

namespace Go.Proofs.YtmlcnmnpkemdpaaDoor
set_option maxRecDepth 100000
open Go.ChangeShapes Go.WideShapes Go.Deep Go.RowKit
section
variable {H : Type} {enc : TypeId × Value → H} {W : World} {base b0 : Nat} {spare : Nat → Bool} {held : Bool} {r : Reach} {v : Value} {d : DataW H} {p : List MemPlace}
theorem trod_events {fuel : Nat} {x : DataW H × List MemPlace} (hf : DataW.trod enc Tryd.prog W base spare held fuel 37 [v] = some x) :
    ∃ (A : Option Addr) (n c : Nat) (l : List Ev), v = .slice A n c ∧ Reads W W.heap.size 10 A n (csE l) ∧ n ≤ 9223372036854775807 := by
  rcases open_slice Tryd.underlying37 hf with ⟨hcs, _⟩ | ⟨a, len, cap, m, n', D, Pl, hcs, hb, hl, hm, hmm, hx, hi⟩
  · simp at hcs
    subst hcs
    exact ⟨none, 0, 0, [], rfl, Reads.none_, by omega⟩
  · simp at hcs
    subst hcs
    have hlm : len ≤ m := by rw [hmm]; split <;> omega
    rw [show Tryd.prog.cellsOf 54 = 10 from by kernel_rfl] at hi
    obtain ⟨l, hl1, hl2⟩ := list_of (fun i (x : Ev) => ∀ j u, (cE x)[j]? = some u → W.cell? (a.add (i * 10 + j)) = some u) len fun i hin => by
      obtain ⟨cs', hc, ht'⟩ := hi i (by omega)
      obtain ⟨y, rfl⟩ := trod_event ht'
      obtain ⟨_, hcl, hat⟩ := World.cells?_some hc
      refine ⟨y, fun j u hu => ?_⟩
      have hj : j < 10 := by
        have := (List.getElem?_eq_some_iff.1 hu).1
        simpa [cE] using this
      have := hat j hj
      rw [← Go.Deep.add_add, this, hu]
    exact ⟨some a, len, cap, l, rfl, reads_of (f := cE) (fun _ => rfl) (by omega) hl1 hl2, by unfold maxLen at hm; omega⟩
set_option maxRecDepth 100000 in
theorem cells_events : Tryd.prog.cellsOf 37 = 1 := by kernel_rfl
theorem arg_voices (hv : Value.okWide Tryd.prog W r b0 22 v) (h : DataW.Trod enc Tryd.prog W base spare held 22 v d p) :
    ∃ (A : Option Addr) (n c : Nat) (l : List (List Ev)), v = .slice A n c ∧ ReadsV W W.heap.size A n l ∧ n ≤ 9223372036854775807 := by
  obtain ⟨A, n, c, rfl⟩ := okWide_slice Tryd.underlying22 hv
  obtain ⟨fuel, hf⟩ := h
  rcases open_slice1 Tryd.underlying22 cells_events hf with ⟨hcs, _⟩ | ⟨a, len, cap, m, n', V, D, P9, hcs, hb, hl, hm, hmm, hx, hi⟩
  · simp [Value.cells] at hcs
    obtain ⟨rfl, rfl, rfl⟩ := hcs
    exact ⟨none, 0, 0, [], rfl, ⟨[], rfl, Reads.none_, fun k d v hd _ => by simp at hd⟩, by omega⟩
  · simp [Value.cells] at hcs
    obtain ⟨rfl, rfl, rfl⟩ := hcs
    have hlm : n ≤ m := by rw [hmm]; split <;> omega
    obtain ⟨ys, hy1, hy2⟩ := list_of (fun i (y : Pl × List Ev) => W.cell? (a.add i) = some (.slice y.1.1 y.1.2.1 y.1.2.2) ∧ Reads W W.heap.size 10 y.1.1 y.1.2.1 (csE y.2) ∧ y.1.2.1 ≤ 9223372036854775807) n fun i hin => by
      obtain ⟨h1, h2⟩ := hi i (by omega)
      obtain ⟨A', n'', c', l', e, hr, hn'⟩ := trod_events h2
      rw [e] at h1
      exact ⟨((A', n'', c'), l'), h1, hr, hn'⟩
    refine ⟨some a, n, c, ys.map (·.2), rfl, ⟨ys.map (·.1), by simp, reads_of (f := slV) (size := 1) (l := ys.map (·.1)) (fun _ => rfl) (by omega) (by simpa using hy1) ?_, ?_⟩, by unfold maxLen at hm; omega⟩
    · intro i x hx j u hu
      rw [List.getElem?_map] at hx
      cases hyi : ys[i]? with
      | none => rw [hyi] at hx; cases hx
      | some y =>
        rw [hyi] at hx
        simp at hx
        subst hx
        have hj : j = 0 := by
          have := (List.getElem?_eq_some_iff.1 hu).1
          simp [slV] at this; omega
        subst hj
        simp [slV] at hu
        subst hu
        simpa using (hy2 i y hyi).1
    · intro k d v hd hv
      rw [List.getElem?_map] at hd hv
      cases hyi : ys[k]? with
      | none => rw [hyi] at hd; cases hd
      | some y =>
        rw [hyi] at hd hv
        simp at hd hv
        subst hd hv
        exact (hy2 k y hyi).2
end
end Go.Proofs.YtmlcnmnpkemdpaaDoor

/- Arguments that are lists of numbers, opened. -/

namespace Go.Proofs.YtmlcnmnpkemdpaaDoor
set_option maxRecDepth 100000
open Go.ChangeShapes Go.WideShapes Go.Deep Go.RowKit
section
variable {H : Type} {enc : TypeId × Value → H} {W : World} {base b0 : Nat} {spare : Nat → Bool} {held : Bool} {r : Reach} {v : Value} {d : DataW H} {p : List MemPlace}
theorem arg_ints (hv : Value.okWide Tryd.prog W r b0 25 v) (h : DataW.Trod enc Tryd.prog W base spare held 25 v d p) :
    ∃ (A : Option Addr) (n c : Nat) (l : List Int), v = .slice A n c ∧ Reads W W.heap.size 1 A n (csI l) ∧ n ≤ 9223372036854775807 ∧ ∀ x ∈ l, -9223372036854775808 ≤ x ∧ x ≤ 9223372036854775807 := by
  obtain ⟨A, n, c, rfl⟩ := okWide_slice Tryd.underlying25 hv
  obtain ⟨fuel, hf⟩ := h
  rcases open_ints Tryd.underlying25 Tryd.underlying3 (by kernel_rfl) hf with ⟨hcs, _⟩ | ⟨a, len, cap, zs, hcs, _, hl, hm, hz, _, hc, hw⟩
  · simp [Value.cells] at hcs
    obtain ⟨rfl, rfl, rfl⟩ := hcs
    exact ⟨none, 0, 0, [], rfl, Reads.none_, by omega, by simp⟩
  · simp [Value.cells] at hcs
    obtain ⟨rfl, rfl, rfl⟩ := hcs
    have hzl : n ≤ zs.length := by rw [hz]; split <;> omega
    refine ⟨some a, n, c, zs.take n, rfl, reads_of (size := 1) (f := fun n => [Value.int .i64 n]) (fun _ => rfl) (by decide) (by rw [List.length_take]; omega) fun i x hx j u hu => ?_, by unfold maxLen at hm; omega, fun x hx => bounds_i64 (hw x (List.mem_of_mem_take hx))⟩
    match j, hu with
    | 0, hu =>
      simp at hu
      subst hu
      rw [List.getElem?_take] at hx
      split at hx
      · obtain ⟨hi, rfl⟩ := List.getElem?_eq_some_iff.1 hx
        have := hc i hi
        simpa [List.getD, hi] using this
      · cases hx
    | j + 1, hu => simp at hu
end
theorem rdi {w w' : World} {A : Option Addr} {n : Nat} {xs : List Value} (h : Reads w w.heap.size 1 A n xs) (hb : Below w.heap.size w w') : Reads w' w'.heap.size 1 A n xs := (h.below (Nat.le_refl _) hb).more hb.size
end Go.Proofs.YtmlcnmnpkemdpaaDoor

/- Facts that all row proofs of this seat share (rows without a package variable). -/

namespace Go.Proofs.YtmlcnmnpkemdpaaDoor
open Go.ChangeShapes Go.WideShapes Go.ChangeAt Go.RowKit
set_option maxRecDepth 100000 in
theorem own : ownKnob Tryd.prog.godebug = none := by kernel_rfl
set_option maxRecDepth 100000 in
theorem laidOut : laidOutB Tryd.prog = true := by kernel_rfl
section
variable {H : Type} {enc : TypeId × Value → H} {W : World} {base b0 : Nat} {spare : Nat → Bool} {held : Bool} {r : Reach} {v : Value} {d : DataW H} {p : List MemPlace}
set_option maxRecDepth 100000 in
theorem arg_int (hv : Value.okWide Tryd.prog W r b0 3 v) (h : DataW.Trod enc Tryd.prog W base spare held 3 v d p) : ∃ a : Int, v = .int .i64 a ∧ (-9223372036854775808 ≤ a ∧ a ≤ 9223372036854775807) := by
  obtain ⟨a, rfl, _, _, w⟩ := open_int Tryd.underlying3 hv h
  exact ⟨a, rfl, bounds_i64 w⟩
set_option maxRecDepth 100000 in
theorem cells_time : Tryd.prog.cellsOf 52 = 2 := by kernel_rfl
set_option maxRecDepth 100000 in
theorem arg_time (hv : Value.okWide Tryd.prog W r b0 52 v) (h : DataW.Trod enc Tryd.prog W base spare held 52 v d p) :
    ∃ a b : Int, v = .agg #[.int .i64 a, .int .i64 b] ∧ (-9223372036854775808 ≤ a ∧ a ≤ 9223372036854775807) ∧ (-9223372036854775808 ≤ b ∧ b ≤ 9223372036854775807) := by
  obtain ⟨c0, c1, y0, y1, m, rfl, _, _, hy0, hy1⟩ := Joins.open_agg2 Tryd.underlying52 (by kernel_rfl) cells_time hv h
  obtain ⟨a, e0, _, wa⟩ := DataW.trod_int Tryd.underlying3 hy0
  obtain ⟨b, e1, _, wb⟩ := DataW.trod_int Tryd.underlying3 hy1
  simp at e0 e1
  subst e0 e1
  exact ⟨a, b, rfl, bounds_i64 wa, bounds_i64 wb⟩
set_option maxRecDepth 100000 in
theorem cells_pitch : Tryd.prog.cellsOf 32 = 3 := by kernel_rfl
set_option maxRecDepth 100000 in
theorem arg_pitch (hv : Value.okWide Tryd.prog W r b0 32 v) (h : DataW.Trod enc Tryd.prog W base spare held 32 v d p) :
    ∃ a b c : Int, v = .agg #[.int .i64 a, .int .i64 b, .int .i64 c] ∧ (-9223372036854775808 ≤ a ∧ a ≤ 9223372036854775807) ∧ (-9223372036854775808 ≤ b ∧ b ≤ 9223372036854775807) ∧ (-9223372036854775808 ≤ c ∧ c ≤ 9223372036854775807) := by
  obtain ⟨c0, c1, c2, y0, y1, y2, m, rfl, _, _, hy0, hy1, hy2⟩ := Joins.open_agg3 Tryd.underlying32 (by kernel_rfl) cells_pitch hv h
  obtain ⟨a, e0, _, wa⟩ := DataW.trod_int Tryd.underlying3 hy0
  obtain ⟨b, e1, _, wb⟩ := DataW.trod_int Tryd.underlying3 hy1
  obtain ⟨c, e2, _, wc⟩ := DataW.trod_int Tryd.underlying3 hy2
  simp at e0 e1 e2
  subst e0 e1 e2
  exact ⟨a, b, c, rfl, bounds_i64 wa, bounds_i64 wb, bounds_i64 wc⟩
end
end Go.Proofs.YtmlcnmnpkemdpaaDoor

