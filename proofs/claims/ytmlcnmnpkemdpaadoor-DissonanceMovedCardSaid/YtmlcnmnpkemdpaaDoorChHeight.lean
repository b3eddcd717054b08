
/- The reference's height of a pitch. -/
import Derived.Test.YtmlcnmnpkemdpaaDoorChHeightA
import Derived.Test.YtmlcnmnpkemdpaaDoorChHeightB
namespace Go.Proofs.YtmlcnmnpkemdpaaDoor
open Go.RowKit
theorem refHeight_ok (p : Int × Int × Int) (h : pchk p = 0) (w : World) :
    Calls Tryd.prog 111 #[vP p] w fun e w' => e = .returned (.tuple #[.int .i64 (htP p), .int .i64 0]) ∧ Below w.heap.size w w' := by
  obtain ⟨h0, h1, _, _, _, _⟩ := pchk_ok h
  obtain ⟨a, b, c⟩ := p
  simp only at h0 h1
  obtain rfl | rfl | rfl | rfl | rfl | rfl | rfl := step_cases h0 h1
  · exact refHeight_0 b c h w
  · exact refHeight_1 b c h w
  · exact refHeight_2 b c h w
  · exact refHeight_3 b c h w
  · exact refHeight_4 b c h w
  · exact refHeight_5 b c h w
  · exact refHeight_6 b c h w
end Go.Proofs.YtmlcnmnpkemdpaaDoor
