/- The package variables that the rows of this seat list are laid as the program's text lays them; arguments opened; facts that all row proofs of this seat share. -/
import Derived.Test.YtmbnpblejhlefaaDoorRows
import Derived.Test.YtmbnpblejhlefaaDoorTie
import Derived.Test.YtmbnpblejhlefaaDoorCards
import Derived.ProofKit
import Derived.LaidMore
import Derived.OpenShut
import Derived.Stop.Joined
import Derived.SevenTiedAt
import Derived.WalkKit
import Derived.ShutString
import Derived.ChangeOld
import Derived.ChangeSame
import Derived.ChangeArms
import Derived.Below
import Derived.Lib.SmallJoins
import Derived.Lib.LaidTab
import Derived.MakeChecks
import Derived.LaidSub
import Derived.Test.YtmbnpblejhlefaaDoorArgs
import Derived.Test.YtmbnpblejhlefaaDoorChPitch
namespace Go.Proofs.YtmbnpblejhlefaaDoor
open Go.ChangeShapes Go.WideShapes Go.ChangeAt Go.RowKit Go.Deep Go.WideMaps Go.WideElems
open Go.ChangeMaps (open_string)
set_option maxRecDepth 100000 in
theorem own : ownKnob Tryd.prog.godebug = none := by kernel_rfl
set_option maxRecDepth 100000 in
theorem laidOut : laidOutB Tryd.prog = true := by kernel_rfl
def halfTab : List Int := [0, 2, 4, 5, 7, 9, 11]
def kindRows : List (List Int) := [[1, 0, 0, 0, 0, 0, 0, 0, 0, 0, 0, 0, 0], [0, 0, 0, 0, 0, 0, 0, 0, 0, 0, 0, 0, 0], [0, 0, 0, 2, 2, 0, 0, 0, 0, 0, 0, 0, 0], [0, 0, 0, 0, 0, 3, 4, 0, 0, 0, 0, 0, 0], [0, 0, 0, 0, 0, 0, 4, 1, 0, 0, 0, 0, 0], [0, 0, 0, 0, 0, 0, 0, 0, 2, 2, 0, 0, 0], [0, 0, 0, 0, 0, 0, 0, 0, 0, 0, 0, 0, 0]]
set_option maxRecDepth 100000 in
theorem kind_at : ∀ i : Fin 7, ∀ j : Fin 13, (kindRows.getD i.val []).getD j.val 0 = kindTab.getD (i.val * 13 + j.val) 0 ∧ (kindRows.getD i.val []).length = 13 := by decide
set_option maxRecDepth 100000 in
theorem half_at : ∀ i : Fin 7, halfTab.getD i.val 0 = halfS i.val := by decide
theorem getD_map (row : List Int) (j : Nat) (h : j < row.length) : (row.map fun z => Value.int .i64 z)[j]? = some (.int .i64 (row.getD j 0)) := by simp [List.getD, h]
set_option maxRecDepth 100000 in
theorem kinds_of {W : World} (h : laidMet Tryd.prog [("tactus/interval.kinds", .agg (kindRows.map fun z => Lib.tabData .i64 z))] W) : ∀ k : Nat, k < 91 → W.cell? ⟨0, k, none⟩ = some (.int .i64 (kindTab.getD k 0)) := by
  obtain ⟨ps, ⟨g', t', cs, fuel, p, q, hg', ht', hvar, hd, _, _⟩, _⟩ := h
  obtain rfl := Option.some.inj ((show Tryd.prog.globalNamed "tactus/interval.kinds" = some 0 by kernel_rfl).symm.trans hg')
  obtain rfl := Option.some.inj ((show (Tryd.prog.globals[0]?).map (·.type) = some 72 by kernel_rfl).symm.trans ht')
  obtain ⟨xs, m, _, hx, hl, hxl, hf⟩ := DataW.trod_array Tryd.underlying72 hd
  have hx1 : (kindRows.map fun z => (Lib.tabData .i64 z : DataW Unit)) = xs.map (·.1) := by
    have := congrArg Prod.fst hx
    simpa using this
  intro k hk
  have hi : k / 13 < 7 := by omega
  have hj : k % 13 < 13 := by omega
  have h1 := hf (k / 13) hi
  rw [show Tryd.prog.cellsOf 71 = 13 from by kernel_rfl] at h1
  obtain ⟨y, hy⟩ : ∃ y, xs[k / 13]? = some y := ⟨_, List.getElem?_eq_getElem (by omega)⟩
  obtain ⟨y1, y2⟩ := y
  have hrow : (kindRows)[k / 13]? = some (kindRows.getD (k / 13) []) := by
    have : k / 13 < kindRows.length := hi
    simp [List.getD, this]
  have hy1 : y1 = Lib.tabData .i64 (kindRows.getD (k / 13) []) := by
    have e1 : (xs.map (·.1))[k / 13]? = some y1 := by rw [List.getElem?_map, hy]; rfl
    rw [← hx1, List.getElem?_map, hrow] at e1
    exact (Option.some.inj e1).symm
  rw [hy, hy1] at h1
  have h2 := Lib.cells_of_tab Tryd.underlying71 Tryd.underlying3 (by kernel_rfl) (by kernel_rfl) h1
  obtain ⟨k1, k2⟩ := kind_at ⟨k / 13, hi⟩ ⟨k % 13, hj⟩
  simp only at k1 k2
  rw [World.var?_cell (show Tryd.prog.globalNamed "tactus/interval.kinds" = some 0 by kernel_rfl) hvar k]
  have h3 : ((cs.toList.drop (k / 13 * 13)).take 13)[k % 13]? = some (.int .i64 ((kindRows.getD (k / 13) []).getD (k % 13) 0)) := by
    rw [h2]
    exact getD_map _ _ (by rw [k2]; exact hj)
  rw [List.getElem?_take, if_pos hj, List.getElem?_drop, k1] at h3
  rw [show k / 13 * 13 + k % 13 = k by omega] at h3
  simpa using h3
set_option maxRecDepth 100000 in
/-- The three tables, out of a row's list. -/
theorem tabs_of_list {L : List (String × DataW Unit)} {W : World} (h : laidMet Tryd.prog L W)
    (e1 : L.filter (fun x => x.1 == "tactus/pitch.halves") = [("tactus/pitch.halves", Lib.tabData .i64 halfTab)])
    (e2 : L.filter (fun x => x.1 == "tactus/interval.sizes") = [("tactus/interval.sizes", Lib.tabData .i64 halfTab)])
    (e3 : L.filter (fun x => x.1 == "tactus/interval.kinds") = [("tactus/interval.kinds", .agg (kindRows.map fun z => Lib.tabData .i64 z))]) : Tabs W := by
  have h1 := h.filter (fun x => x.1 == "tactus/pitch.halves")
  have h2 := h.filter (fun x => x.1 == "tactus/interval.sizes")
  have h3 := h.filter (fun x => x.1 == "tactus/interval.kinds")
  rw [e1] at h1
  rw [e2] at h2
  rw [e3] at h3
  have t1 : Lib.TabIs Tryd.prog W "tactus/pitch.halves" .i64 halfTab := Lib.tabIs_of_head (rest := []) (g := 2) (t := 84) (e := 3) (n := 7) (by kernel_rfl) (by kernel_rfl) (by kernel_rfl) (by kernel_rfl) (by kernel_rfl) (by kernel_rfl) h1
  have t2 : Lib.TabIs Tryd.prog W "tactus/interval.sizes" .i64 halfTab := Lib.tabIs_of_head (rest := []) (g := 1) (t := 84) (e := 3) (n := 7) (by kernel_rfl) (by kernel_rfl) (by kernel_rfl) (by kernel_rfl) (by kernel_rfl) (by kernel_rfl) h2
  refine ⟨fun k hk => ?_, fun k hk => ?_, kinds_of h3⟩
  · rw [t1.cell (g := 2) (by kernel_rfl) k hk, half_at ⟨k, hk⟩]
  · rw [t2.cell (g := 1) (by kernel_rfl) k hk, half_at ⟨k, hk⟩]
section
variable {H : Type} {enc : TypeId × Value → H} {W : World} {base b0 : Nat} {spare : Nat → Bool} {held : Bool} {r : Reach} {v : Value} {d : DataW H} {p : List MemPlace}
set_option maxRecDepth 100000 in
theorem arg_int (hv : Value.okWide Tryd.prog W r b0 3 v) (h : DataW.Trod enc Tryd.prog W base spare held 3 v d p) : ∃ a : Int, v = .int .i64 a ∧ (-9223372036854775808 ≤ a ∧ a ≤ 9223372036854775807) := by
  obtain ⟨a, rfl, _, _, w⟩ := open_int Tryd.underlying3 hv h
  exact ⟨a, rfl, bounds_i64 w⟩
set_option maxRecDepth 100000 in
theorem cells_pitch : Tryd.prog.cellsOf 36 = 3 := by kernel_rfl
set_option maxRecDepth 100000 in
theorem arg_pitch (hv : Value.okWide Tryd.prog W r b0 36 v) (h : DataW.Trod enc Tryd.prog W base spare held 36 v d p) :
    ∃ a b c : Int, v = .agg #[.int .i64 a, .int .i64 b, .int .i64 c] ∧ (-9223372036854775808 ≤ a ∧ a ≤ 9223372036854775807) ∧ (-9223372036854775808 ≤ b ∧ b ≤ 9223372036854775807) ∧ (-9223372036854775808 ≤ c ∧ c ≤ 9223372036854775807) := by
  obtain ⟨c0, c1, c2, y0, y1, y2, m, rfl, _, _, hy0, hy1, hy2⟩ := Joins.open_agg3 Tryd.underlying36 (by kernel_rfl) cells_pitch hv h
  obtain ⟨a, e0, _, wa⟩ := DataW.trod_int Tryd.underlying3 hy0
  obtain ⟨b, e1, _, wb⟩ := DataW.trod_int Tryd.underlying3 hy1
  obtain ⟨c, e2, _, wc⟩ := DataW.trod_int Tryd.underlying3 hy2
  simp at e0 e1 e2
  subst e0 e1 e2
  exact ⟨a, b, c, rfl, bounds_i64 wa, bounds_i64 wb, bounds_i64 wc⟩
set_option maxRecDepth 100000 in
theorem arg_string (hv : Value.okWide Tryd.prog W r b0 9 v) (h : DataW.Trod enc Tryd.prog W base spare held 9 v d p) : ∃ s : ByteArray, v = .string s ∧ s.size ≤ maxLen := by
  obtain ⟨s, rfl, _, _, hs⟩ := open_string Tryd.underlying9 hv h
  exact ⟨s, rfl, hs⟩
end
section
variable {H : Type} {enc : TypeId × Value → H} {w : World} {base : Nat} {spare : Nat → Bool} {held : Bool}
set_option maxRecDepth 100000 in
theorem three_of {cs : List Value} (h : cs.length = 3) : ∃ a b c, cs = [a, b, c] := by
  match cs, h with
  | [a, b, c], _ => exact ⟨a, b, c, rfl⟩
set_option maxRecDepth 100000 in
theorem trod_pitch {n : Nat} {cs : List Value} {x : DataW H × List MemPlace} (h : DataW.trod enc Tryd.prog w base spare held n 36 cs = some x) : ∃ y : Int × Int × Int, cs = cP y := by
  obtain ⟨ys, m, rfl, _, hl, hyl, hf⟩ := DataW.trod_struct Tryd.underlying36 h
  rw [show Tryd.prog.cellsOf 36 = 3 from by kernel_rfl] at hl
  obtain ⟨u, v, z, rfl⟩ := three_of hl
  have h0 : DataW.trod enc Tryd.prog w base spare held m 3 ((([u, v, z] : List Value).drop 0).take (Tryd.prog.cellsOf 3)) = ys[0]? := hf 0 _ rfl
  have h1 : DataW.trod enc Tryd.prog w base spare held m 3 ((([u, v, z] : List Value).drop 1).take (Tryd.prog.cellsOf 3)) = ys[1]? := hf 1 _ rfl
  have h2 : DataW.trod enc Tryd.prog w base spare held m 3 ((([u, v, z] : List Value).drop 2).take (Tryd.prog.cellsOf 3)) = ys[2]? := hf 2 _ rfl
  rw [show Tryd.prog.cellsOf 3 = 1 from by kernel_rfl] at h0 h1 h2
  simp only [List.drop_zero, List.drop_succ_cons, List.take_succ_cons, List.take_zero] at h0 h1 h2
  rw [List.getElem?_eq_getElem (by rw [hyl]; decide)] at h0 h1 h2
  obtain ⟨a, e0, _, _⟩ := DataW.trod_int Tryd.underlying3 h0
  obtain ⟨b, e1, _, _⟩ := DataW.trod_int Tryd.underlying3 h1
  obtain ⟨c, e2, _, _⟩ := DataW.trod_int Tryd.underlying3 h2
  simp at e0 e1 e2
  subst e0 e1 e2
  exact ⟨(a, b, c), rfl⟩
end
section
variable {H : Type} {enc : TypeId × Value → H} {W : World} {base b0 : Nat} {spare : Nat → Bool} {held : Bool} {r : Reach} {v : Value} {d : DataW H} {p : List MemPlace}
set_option maxRecDepth 100000 in
theorem arg_pitches (hv : Value.okWide Tryd.prog W r b0 22 v) (h : DataW.Trod enc Tryd.prog W base spare held 22 v d p) :
    ∃ (A : Option Addr) (n c : Nat) (l : List (Int × Int × Int)), v = .slice A n c ∧ Reads W W.heap.size 3 A n (csP l) ∧ n ≤ 9223372036854775807 := by
  obtain ⟨A, n, c, rfl⟩ := okWide_slice Tryd.underlying22 hv
  obtain ⟨fuel, hf⟩ := h
  rcases open_slice Tryd.underlying22 hf with ⟨hcs, _⟩ | ⟨a, len, cap, m, n', D, Pl, hcs, hb, hl, hm, hmm, hx, hi⟩
  · simp [Value.cells] at hcs
    obtain ⟨rfl, rfl, rfl⟩ := hcs
    exact ⟨none, 0, 0, [], rfl, Reads.none_, by omega⟩
  · simp [Value.cells] at hcs
    obtain ⟨rfl, rfl, rfl⟩ := hcs
    have hlm : n ≤ m := by rw [hmm]; split <;> omega
    rw [show Tryd.prog.cellsOf 36 = 3 from by kernel_rfl] at hi
    obtain ⟨l, hl1, hl2⟩ := list_of (fun i (x : Int × Int × Int) => ∀ j u, (cP x)[j]? = some u → W.cell? (a.add (i * 3 + j)) = some u) n fun i hin => by
      obtain ⟨cs', hc, ht'⟩ := hi i (by omega)
      obtain ⟨y, rfl⟩ := trod_pitch ht'
      obtain ⟨_, hcl, hat⟩ := World.cells?_some hc
      refine ⟨y, fun j u hu => ?_⟩
      have hj : j < 3 := by
        have := (List.getElem?_eq_some_iff.1 hu).1
        simpa [cP] using this
      have := hat j hj
      rw [← Go.Deep.add_add, this, hu]
    exact ⟨some a, n, c, l, rfl, reads_of (f := cP) (fun _ => rfl) (by omega) hl1 hl2, by unfold maxLen at hm; omega⟩
set_option maxRecDepth 100000 in
theorem arg_ints (hv : Value.okWide Tryd.prog W r b0 58 v) (h : DataW.Trod enc Tryd.prog W base spare held 58 v d p) :
    ∃ (A : Option Addr) (n c : Nat) (l : List Int), v = .slice A n c ∧ Reads W W.heap.size 1 A n (csI l) ∧ n ≤ 9223372036854775807 ∧ ∀ x ∈ l, -9223372036854775808 ≤ x ∧ x ≤ 9223372036854775807 := by
  obtain ⟨A, n, c, rfl⟩ := okWide_slice Tryd.underlying58 hv
  obtain ⟨fuel, hf⟩ := h
  rcases open_ints Tryd.underlying58 Tryd.underlying3 (by kernel_rfl) hf with ⟨hcs, _⟩ | ⟨a, len, cap, zs, hcs, _, hl, hm, hz, _, hc, hw⟩
  · simp [Value.cells] at hcs
    obtain ⟨rfl, rfl, rfl⟩ := hcs
    exact ⟨none, 0, 0, [], rfl, Reads.none_, by omega, by simp⟩
  · simp [Value.cells] at hcs
    obtain ⟨rfl, rfl, rfl⟩ := hcs
    have hzl : n ≤ zs.length := by rw [hz]; split <;> omega
    refine ⟨some a, n, c, zs.take n, rfl, reads_of (size := 1) (f := fun n => [Value.int .i64 n]) (fun _ => rfl) (by decide) (by rw [List.length_take]; omega) fun i x hx j u hu => ?_, by unfold maxLen at hm; omega, fun x hx => bounds_i64 (hw x (List.mem_of_mem_take hx))⟩
    match j, hu with
    | 0, hu =>
      simp at hu
      subst hu
      rw [List.getElem?_take] at hx
      split at hx
      · obtain ⟨hi, rfl⟩ := List.getElem?_eq_some_iff.1 hx
        have := hc i hi
        simpa [List.getD, hi] using this
      · cases hx
    | j + 1, hu => simp at hu
end
end Go.Proofs.YtmbnpblejhlefaaDoor
