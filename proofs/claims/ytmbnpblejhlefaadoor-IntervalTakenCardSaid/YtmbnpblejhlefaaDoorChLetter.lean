/- The walk through the reference's name of an interval. -/
import Derived.Test.YtmbnpblejhlefaaDoorChDigits
import Derived.Test.YtmbnpblejhlefaaDoorChRefSimple
import Derived.Test.YtmbnpblejhlefaaDoorChNamed
namespace Go.Proofs.YtmbnpblejhlefaaDoor
open Go.RowKit
/-- The letter as the reference finds it: from the number of half-tones beyond P or M. -/
theorem letter_more (s h : Int) : letterX (s, h) = if pureB s = true ∧ h - halfS s = 0 then 80 else if pureB s = false ∧ h - halfS s = 0 then 77 else if pureB s = false ∧ h - halfS s = -1 then 109 else if h - halfS s = 1 then 65 else if (pureB s = true ∧ h - halfS s = -1) ∨ (pureB s = false ∧ h - halfS s = -2) then 100 else 0 := by
  unfold letterX hasB offS
  cases hp : pureB s
  all_goals
    simp
    grind
end Go.Proofs.YtmbnpblejhlefaaDoor
