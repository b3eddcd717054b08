/- The sentinel out of a row's list. -/
import Derived.Test.YtmbnpblejhlefaaDoorChDoor
import Derived.Test.YtmbnpblejhlefaaDoorChSent
import Derived.LaidLaws
namespace Go.Proofs.YtmbnpblejhlefaaDoor
open Go.RowKit Go.ChangeShapes
set_option maxRecDepth 100000 in
theorem sent_of_list {L : List (String × DataW Unit)} {W : World} (h : laidMet Tryd.prog L W)
    (e : L.filter (fun x => x.1 == "strconv.ErrSyntax") = [("strconv.ErrSyntax", .iface "*errors.errorString" (.ptr (.agg [.lit (.string [105, 110, 118, 97, 108, 105, 100, 32, 115, 121, 110, 116, 97, 120])])))]) :
    ∃ (u : TypeId) (v : Value), W.cell? ⟨3, 0, none⟩ = some (.iface u v) := by
  have h1 := h.filter (fun x => x.1 == "strconv.ErrSyntax")
  rw [e] at h1
  obtain ⟨ps, ⟨g', t', cs, fuel, p, q, hg', ht', hvar, hd, _, _⟩, _⟩ := h1
  obtain rfl := Option.some.inj ((show Tryd.prog.globalNamed "strconv.ErrSyntax" = some 3 by kernel_rfl).symm.trans hg')
  obtain rfl := Option.some.inj ((show (Tryd.prog.globals[3]?).map (·.type) = some 78 by kernel_rfl).symm.trans ht')
  obtain ⟨f1, u, v, hcs, _, _⟩ := iface_of_trod Tryd.underlying78 hd
  refine ⟨u, v, ?_⟩
  rw [World.var?_cell (show Tryd.prog.globalNamed "strconv.ErrSyntax" = some 3 by kernel_rfl) hvar 0]
  have : cs[0]? = cs.toList[0]? := by simp
  rw [this, hcs]
  rfl
end Go.Proofs.YtmbnpblejhlefaaDoor
