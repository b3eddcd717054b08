/- Arguments that are lists of events, opened. -/
import Derived.Test.YtbljfaocmeeljaaArgs
import Derived.Test.YtbljfaocmeeljaaEvLists
import Derived.ChangeArms
namespace Go.Proofs.Ytbljfaocmeeljaa
set_option maxRecDepth 100000
open Go.ChangeShapes Go.WideShapes Go.Deep Go.RowKit
section
variable {H : Type} {enc : TypeId × Value → H} {w : World} {base : Nat} {spare : Nat → Bool} {held : Bool}
theorem trod_times {n : Nat} {u v : Value} {x : DataW H × List MemPlace} (h : DataW.trod enc Try.prog w base spare held n 34 [u, v] = some x) : ∃ a b : Int, u = .int .i64 a ∧ v = .int .i64 b := by
  obtain ⟨ys, m, rfl, _, _, hyl, hf⟩ := DataW.trod_struct Try.underlying34 h
  have h0 : DataW.trod enc Try.prog w base spare held m 3 ((([u, v] : List Value).drop 0).take (Try.prog.cellsOf 3)) = ys[0]? := hf 0 _ rfl
  have h1 : DataW.trod enc Try.prog w base spare held m 3 ((([u, v] : List Value).drop 1).take (Try.prog.cellsOf 3)) = ys[1]? := hf 1 _ rfl
  rw [show Try.prog.cellsOf 3 = 1 from by kernel_rfl] at h0 h1
  simp only [List.drop_zero, List.drop_succ_cons, List.take_succ_cons, List.take_zero] at h0 h1
  rw [List.getElem?_eq_getElem (by rw [hyl]; decide)] at h0 h1
  obtain ⟨a, e0, _, _⟩ := DataW.trod_int Try.underlying3 h0
  obtain ⟨b, e1, _, _⟩ := DataW.trod_int Try.underlying3 h1
  simp at e0 e1
  exact ⟨a, b, e0, e1⟩
theorem trod_pitch {n : Nat} {u v z : Value} {x : DataW H × List MemPlace} (h : DataW.trod enc Try.prog w base spare held n 65 [u, v, z] = some x) : ∃ a b c : Int, u = .int .i64 a ∧ v = .int .i64 b ∧ z = .int .i64 c := by
  obtain ⟨ys, m, rfl, _, _, hyl, hf⟩ := DataW.trod_struct Try.underlying65 h
  have h0 : DataW.trod enc Try.prog w base spare held m 3 ((([u, v, z] : List Value).drop 0).take (Try.prog.cellsOf 3)) = ys[0]? := hf 0 _ rfl
  have h1 : DataW.trod enc Try.prog w base spare held m 3 ((([u, v, z] : List Value).drop 1).take (Try.prog.cellsOf 3)) = ys[1]? := hf 1 _ rfl
  have h2 : DataW.trod enc Try.prog w base spare held m 3 ((([u, v, z] : List Value).drop 2).take (Try.prog.cellsOf 3)) = ys[2]? := hf 2 _ rfl
  rw [show Try.prog.cellsOf 3 = 1 from by kernel_rfl] at h0 h1 h2
  simp only [List.drop_zero, List.drop_succ_cons, List.take_succ_cons, List.take_zero] at h0 h1 h2
  rw [List.getElem?_eq_getElem (by rw [hyl]; decide)] at h0 h1 h2
  obtain ⟨a, e0, _, _⟩ := DataW.trod_int Try.underlying3 h0
  obtain ⟨b, e1, _, _⟩ := DataW.trod_int Try.underlying3 h1
  obtain ⟨c, e2, _, _⟩ := DataW.trod_int Try.underlying3 h2
  simp at e0 e1 e2
  exact ⟨a, b, c, e0, e1, e2⟩
theorem ten_of {cs : List Value} (h : cs.length = 10) : ∃ a b c d e f g h i j, cs = [a, b, c, d, e, f, g, h, i, j] := by
  match cs, h with
  | [a, b, c, d, e, f, g, h, i, j], _ => exact ⟨a, b, c, d, e, f, g, h, i, j, rfl⟩
theorem trod_event {n : Nat} {cs : List Value} {x : DataW H × List MemPlace} (h : DataW.trod enc Try.prog w base spare held n 67 cs = some x) : ∃ y : Ev, cs = cE y := by
  obtain ⟨ys, m, rfl, _, hl, hyl, hf⟩ := DataW.trod_struct Try.underlying67 h
  rw [show Try.prog.cellsOf 67 = 10 from by kernel_rfl] at hl
  obtain ⟨a, b, c, d, e, f, g, hh, i, j, rfl⟩ := ten_of hl
  have h0 : DataW.trod enc Try.prog w base spare held m 34 ((([a, b, c, d, e, f, g, hh, i, j] : List Value).drop 0).take (Try.prog.cellsOf 34)) = ys[0]? := hf 0 _ rfl
  have h1 : DataW.trod enc Try.prog w base spare held m 34 ((([a, b, c, d, e, f, g, hh, i, j] : List Value).drop 2).take (Try.prog.cellsOf 34)) = ys[1]? := hf 1 _ rfl
  have h2 : DataW.trod enc Try.prog w base spare held m 65 ((([a, b, c, d, e, f, g, hh, i, j] : List Value).drop 4).take (Try.prog.cellsOf 65)) = ys[2]? := hf 2 _ rfl
  have h3 : DataW.trod enc Try.prog w base spare held m 4 ((([a, b, c, d, e, f, g, hh, i, j] : List Value).drop 7).take (Try.prog.cellsOf 4)) = ys[3]? := hf 3 _ rfl
  have h4 : DataW.trod enc Try.prog w base spare held m 3 ((([a, b, c, d, e, f, g, hh, i, j] : List Value).drop 8).take (Try.prog.cellsOf 3)) = ys[4]? := hf 4 _ rfl
  have h5 : DataW.trod enc Try.prog w base spare held m 3 ((([a, b, c, d, e, f, g, hh, i, j] : List Value).drop 9).take (Try.prog.cellsOf 3)) = ys[5]? := hf 5 _ rfl
  rw [show Try.prog.cellsOf 34 = 2 from by kernel_rfl] at h0 h1
  rw [show Try.prog.cellsOf 65 = 3 from by kernel_rfl] at h2
  rw [show Try.prog.cellsOf 4 = 1 from by kernel_rfl] at h3
  rw [show Try.prog.cellsOf 3 = 1 from by kernel_rfl] at h4 h5
  simp only [List.drop_zero, List.drop_succ_cons, List.take_succ_cons, List.take_zero] at h0 h1 h2 h3 h4 h5
  rw [List.getElem?_eq_getElem (by rw [hyl]; decide)] at h0 h1 h2 h3 h4 h5
  obtain ⟨a1, a2, rfl, rfl⟩ := trod_times h0
  obtain ⟨b1, b2, rfl, rfl⟩ := trod_times h1
  obtain ⟨c1, c2, c3, rfl, rfl, rfl⟩ := trod_pitch h2
  obtain ⟨z, e3, _⟩ := DataW.trod_bool Try.underlying4 h3
  obtain ⟨sg, e4, _, _⟩ := DataW.trod_int Try.underlying3 h4
  obtain ⟨ps, e5, _, _⟩ := DataW.trod_int Try.underlying3 h5
  simp at e3 e4 e5
  subst e3 e4 e5
  exact ⟨⟨(a1, a2), (b1, b2), (c1, c2, c3), z, sg, ps⟩, rfl⟩
end
section
variable {H : Type} {enc : TypeId × Value → H} {W : World} {base b0 : Nat} {spare : Nat → Bool} {held : Bool} {r : Reach} {v : Value} {d : DataW H} {p : List MemPlace}
theorem arg_events (hv : Value.okWide Try.prog W r b0 61 v) (h : DataW.Trod enc Try.prog W base spare held 61 v d p) :
    ∃ (A : Option Addr) (n c : Nat) (l : List Ev), v = .slice A n c ∧ Reads W W.heap.size 10 A n (csE l) ∧ n ≤ 9223372036854775807 := by
  obtain ⟨A, n, c, rfl⟩ := okWide_slice Try.underlying61 hv
  obtain ⟨fuel, hf⟩ := h
  rcases open_slice Try.underlying61 hf with ⟨hcs, _⟩ | ⟨a, len, cap, m, n', D, Pl, hcs, hb, hl, hm, hmm, hx, hi⟩
  · simp [Value.cells] at hcs
    obtain ⟨rfl, rfl, rfl⟩ := hcs
    exact ⟨none, 0, 0, [], rfl, Reads.none_, by omega⟩
  · simp [Value.cells] at hcs
    obtain ⟨rfl, rfl, rfl⟩ := hcs
    have hlm : n ≤ m := by rw [hmm]; split <;> omega
    rw [show Try.prog.cellsOf 67 = 10 from by kernel_rfl] at hi
    obtain ⟨l, hl1, hl2⟩ := list_of (fun i (x : Ev) => ∀ j u, (cE x)[j]? = some u → W.cell? (a.add (i * 10 + j)) = some u) n fun i hin => by
      obtain ⟨cs', hc, ht'⟩ := hi i (by omega)
      obtain ⟨y, rfl⟩ := trod_event ht'
      obtain ⟨_, hcl, hat⟩ := World.cells?_some hc
      refine ⟨y, fun j u hu => ?_⟩
      have hj : j < 10 := by
        have := (List.getElem?_eq_some_iff.1 hu).1
        simpa [cE] using this
      have := hat j hj
      rw [← Go.Deep.add_add, this, hu]
    exact ⟨some a, n, c, l, rfl, reads_of (f := cE) (fun _ => rfl) (by omega) hl1 hl2, by unfold maxLen at hm; omega⟩
end
end Go.Proofs.Ytbljfaocmeeljaa
