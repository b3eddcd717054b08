/- The tables and the sentinel that the walks behind Parse read; out of a row's list. -/
import Derived.Test.YtmbnpblejhlefaaDoorChPitch
namespace Go.Proofs.YtmbnpblejhlefaaDoor
open Go.RowKit
structure Tabs2 (w : World) : Prop where
  tabs : Tabs w
  sent : ∃ (u : TypeId) (v : Value), w.cell? ⟨3, 0, none⟩ = some (.iface u v)
theorem Tabs2.kept {w w' : World} (h : Tabs2 w) (hb : Below w.heap.size w w') : Tabs2 w' := by
  obtain ⟨t, u, v, hc⟩ := h
  exact ⟨t.kept hb, u, v, (hb.cell (p := ⟨_, _, none⟩) (lt_of_cell hc)).trans hc⟩
end Go.Proofs.YtmbnpblejhlefaaDoor
