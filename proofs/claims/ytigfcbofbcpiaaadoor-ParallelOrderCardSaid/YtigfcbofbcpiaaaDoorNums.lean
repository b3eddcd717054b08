
/- Lists of numbers that came in, and voices made of them. -/
import Derived.Test.YtigfcbofbcpiaaaDoorOpened
namespace Go.Proofs.YtigfcbofbcpiaaaDoor
open Go.RowKit
/-- A list of numbers that came in. -/
structure Nums (w : World) (A : Option Addr) (n : Nat) (l : List Int) : Prop where
  reads : Reads w w.heap.size 1 A n (csI l)
  len : n ≤ 9223372036854775807
  fit : ∀ x ∈ l, -9223372036854775808 ≤ x ∧ x ≤ 9223372036854775807
theorem Nums.kept {w w' : World} {A : Option Addr} {n : Nat} {l : List Int} (h : Nums w A n l) (hb : Below w.heap.size w w') : Nums w' A n l := ⟨rdi h.reads hb, h.len, h.fit⟩
theorem Nums.voice {w : World} {A : Option Addr} {n : Nat} {l : List Int} (h : Nums w A n l) (c most : Nat) (hm : most ≤ 60) :
    Calls Tryd.prog 9 #[.slice A n c, .int .i64 most] w fun e w' => ∃ A' c', e = .returned (.slice A' (voiceS most l).length c') ∧ OwnE w' w.heap.size (voiceS most l).length A' c' (voiceS most l) ∧ Below w.heap.size w w' :=
  voice_any A n c l most w h.reads h.len h.fit hm
end Go.Proofs.YtigfcbofbcpiaaaDoor
