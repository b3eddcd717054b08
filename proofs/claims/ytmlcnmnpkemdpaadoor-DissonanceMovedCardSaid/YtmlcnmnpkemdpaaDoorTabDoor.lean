
/- The two tables that the rows of this seat list (kinds of intervals, half-tones) are laid as the program's text lays them. -/
import Derived.Test.YtmlcnmnpkemdpaaDoorRows
import Derived.Test.YtmlcnmnpkemdpaaDoorTie
import Derived.Test.YtmlcnmnpkemdpaaDoorCards
import Derived.ProofKit
import Derived.LaidMore
import Derived.OpenShut
import Derived.SevenTiedAt
import Derived.Lib.SmallJoins
import Derived.Lib.LaidTab
import Derived.MakeChecks
import Derived.LaidSub
import Derived.Test.YtmlcnmnpkemdpaaDoorOpened
import Derived.Test.YtmlcnmnpkemdpaaDoorChPitch
namespace Go.Proofs.YtmlcnmnpkemdpaaDoor
open Go.ChangeShapes Go.WideShapes Go.ChangeAt Go.RowKit Go.Deep Go.WideMaps Go.WideElems
def halfTab : List Int := [0, 2, 4, 5, 7, 9, 11]
def kindRows : List (List Int) := [[1, 0, 0, 0, 0, 0, 0, 0, 0, 0, 0, 0, 0], [0, 0, 0, 0, 0, 0, 0, 0, 0, 0, 0, 0, 0], [0, 0, 0, 2, 2, 0, 0, 0, 0, 0, 0, 0, 0], [0, 0, 0, 0, 0, 3, 4, 0, 0, 0, 0, 0, 0], [0, 0, 0, 0, 0, 0, 4, 1, 0, 0, 0, 0, 0], [0, 0, 0, 0, 0, 0, 0, 0, 2, 2, 0, 0, 0], [0, 0, 0, 0, 0, 0, 0, 0, 0, 0, 0, 0, 0]]
set_option maxRecDepth 100000 in
theorem kind_at : ∀ i : Fin 7, ∀ j : Fin 13, (kindRows.getD i.val []).getD j.val 0 = kindTab.getD (i.val * 13 + j.val) 0 ∧ (kindRows.getD i.val []).length = 13 := by decide
set_option maxRecDepth 100000 in
theorem half_at : ∀ i : Fin 7, halfTab.getD i.val 0 = halfS i.val := by decide
theorem getD_map (row : List Int) (j : Nat) (h : j < row.length) : (row.map fun z => Value.int .i64 z)[j]? = some (.int .i64 (row.getD j 0)) := by simp [List.getD, h]
set_option maxRecDepth 100000 in
theorem kinds_of {W : World} (h : laidMet Tryd.prog [("tactus/interval.kinds", .agg (kindRows.map fun z => Lib.tabData .i64 z))] W) : ∀ k : Nat, k < 91 → W.cell? ⟨0, k, none⟩ = some (.int .i64 (kindTab.getD k 0)) := by
  obtain ⟨ps, ⟨g', t', cs, fuel, p, q, hg', ht', hvar, hd, _, _⟩, _⟩ := h
  obtain rfl := Option.some.inj ((show Tryd.prog.globalNamed "tactus/interval.kinds" = some 0 by kernel_rfl).symm.trans hg')
  obtain rfl := Option.some.inj ((show (Tryd.prog.globals[0]?).map (·.type) = some 139 by kernel_rfl).symm.trans ht')
  obtain ⟨xs, m, _, hx, hl, hxl, hf⟩ := DataW.trod_array Tryd.underlying139 hd
  have hx1 : (kindRows.map fun z => (Lib.tabData .i64 z : DataW Unit)) = xs.map (·.1) := by
    have := congrArg Prod.fst hx
    simpa using this
  intro k hk
  have hi : k / 13 < 7 := by omega
  have hj : k % 13 < 13 := by omega
  have h1 := hf (k / 13) hi
  rw [show Tryd.prog.cellsOf 138 = 13 from by kernel_rfl] at h1
  obtain ⟨y, hy⟩ : ∃ y, xs[k / 13]? = some y := ⟨_, List.getElem?_eq_getElem (by omega)⟩
  obtain ⟨y1, y2⟩ := y
  have hrow : (kindRows)[k / 13]? = some (kindRows.getD (k / 13) []) := by
    have : k / 13 < kindRows.length := hi
    simp [List.getD, this]
  have hy1 : y1 = Lib.tabData .i64 (kindRows.getD (k / 13) []) := by
    have e1 : (xs.map (·.1))[k / 13]? = some y1 := by rw [List.getElem?_map, hy]; rfl
    rw [← hx1, List.getElem?_map, hrow] at e1
    exact (Option.some.inj e1).symm
  rw [hy, hy1] at h1
  have h2 := Lib.cells_of_tab Tryd.underlying138 Tryd.underlying3 (by kernel_rfl) (by kernel_rfl) h1
  obtain ⟨k1, k2⟩ := kind_at ⟨k / 13, hi⟩ ⟨k % 13, hj⟩
  simp only at k1 k2
  rw [World.var?_cell (show Tryd.prog.globalNamed "tactus/interval.kinds" = some 0 by kernel_rfl) hvar k]
  have h3 : ((cs.toList.drop (k / 13 * 13)).take 13)[k % 13]? = some (.int .i64 ((kindRows.getD (k / 13) []).getD (k % 13) 0)) := by
    rw [h2]
    exact getD_map _ _ (by rw [k2]; exact hj)
  rw [List.getElem?_take, if_pos hj, List.getElem?_drop, k1] at h3
  rw [show k / 13 * 13 + k % 13 = k by omega] at h3
  simpa using h3
set_option maxRecDepth 100000 in
/-- The two tables, out of a row's list. -/
theorem tabs_of_list {L : List (String × DataW Unit)} {W : World} (h : laidMet Tryd.prog L W)
    (e1 : L.filter (fun x => x.1 == "tactus/pitch.halves") = [("tactus/pitch.halves", Lib.tabData .i64 halfTab)])
    (e3 : L.filter (fun x => x.1 == "tactus/interval.kinds") = [("tactus/interval.kinds", .agg (kindRows.map fun z => Lib.tabData .i64 z))]) : Tabs W := by
  have h1 := h.filter (fun x => x.1 == "tactus/pitch.halves")
  have h3 := h.filter (fun x => x.1 == "tactus/interval.kinds")
  rw [e1] at h1
  rw [e3] at h3
  have t1 : Lib.TabIs Tryd.prog W "tactus/pitch.halves" .i64 halfTab := Lib.tabIs_of_head (rest := []) (g := 1) (t := 154) (e := 3) (n := 7) (by kernel_rfl) (by kernel_rfl) (by kernel_rfl) (by kernel_rfl) (by kernel_rfl) (by kernel_rfl) h1
  refine ⟨fun k hk => ?_, kinds_of h3⟩
  rw [t1.cell (g := 1) (by kernel_rfl) k hk, half_at ⟨k, hk⟩]
end Go.Proofs.YtmlcnmnpkemdpaaDoor
