
/- Lists of numbers that came in, and voices made of them. -/
import Derived.Test.YtmlcnmnpkemdpaaDoorOpened
namespace Go.Proofs.YtmlcnmnpkemdpaaDoor
open Go.RowKit
/-- A list of numbers that came in. -/
structure Nums (w : World) (A : Option Addr) (n : Nat) (l : List Int) : Prop where
  reads : Reads w w.heap.size 1 A n (csI l)
  len : n ≤ 9223372036854775807
  fit : ∀ x ∈ l, -9223372036854775808 ≤ x ∧ x ≤ 9223372036854775807
theorem Nums.kept {w w' : World} {A : Option Addr} {n : Nat} {l : List Int} (h : Nums w A n l) (hb : Below w.heap.size w w') : Nums w' A n l := ⟨rdi h.reads hb, h.len, h.fit⟩
end Go.Proofs.YtmlcnmnpkemdpaaDoor
