
/- The reference's Chord and Treat. -/
import Derived.Test.YtmlcnmnpkemdpaaGreatDoorDsTreatN
import Derived.Test.YtmlcnmnpkemdpaaGreatDoorDsRefs
import Derived.Test.YtmlcnmnpkemdpaaGreatDoorAlRefSlices
namespace Go.Proofs.YtmlcnmnpkemdpaaGreatDoor
open Go.RowKit
def SlRet (A : Option Addr) (n : Nat) (l : List (List Ev)) (w : World) (e : Ending) (w' : World) : Prop :=
  ∃ S K d, e = .returned (.tuple #[.slice S K d, .int .i64 0]) ∧ Stg w' A S n K l ∧ Below w.heap.size w w'
def SlErr (l : List (List Ev)) (w : World) (e : Ending) (w' : World) : Prop :=
  ∃ S K d, e = .returned (.tuple #[.slice S K d, .int .i64 (slicesE l).2]) ∧ Below w.heap.size w w'
theorem rslices_ok (A : Option Addr) (n c : Nat) (l : List (List Ev)) (w : World) (h : ReadsV w w.heap.size A n l) (hn : n ≤ 9223372036854775807) (he : (slicesE l).2 = 0) :
    Calls Tryz.prog 22 #[.slice A n c] w fun e w' => SlRet A n l w e w' := by
  refine (refSlices_any A n c l _ w h (Nat.le_refl _) hn).mono ?_
  rintro e w1 ⟨v, rfl, ho, k1⟩
  obtain ⟨S, d, rfl, rs⟩ := ho.reads
  obtain ⟨hz, hsl⟩ := slicesE_ok he
  have hl : (slicesE l).1.length = (momS l).length - 1 := by rw [hsl]; simp
  rw [hl] at rs
  rw [hsl] at rs
  refine ⟨S, _, d, by rw [he, hl], ⟨rdV h k1, rs, hz, rfl⟩, k1⟩
theorem rslices_err (A : Option Addr) (n c : Nat) (l : List (List Ev)) (w : World) (h : ReadsV w w.heap.size A n l) (hn : n ≤ 9223372036854775807) :
    Calls Tryz.prog 22 #[.slice A n c] w fun e w' => SlErr l w e w' := by
  refine (refSlices_any A n c l _ w h (Nat.le_refl _) hn).mono ?_
  rintro e w1 ⟨v, rfl, ho, k1⟩
  obtain ⟨S, d, rfl, rs⟩ := ho.reads
  exact ⟨S, _, d, rfl, k1⟩
theorem refT_some {l : List (List Ev)} {m : List Tm} {n a b : Nat} {L : List Dis} {j : Nat} {d : Dis} (h : L[j]? = some d) : refT l m n a b L (j + 1) = if pickD l m n a b d = true then d.treat else refT l m n a b L j := by
  conv => lhs; unfold refT
  rw [h]
end Go.Proofs.YtmlcnmnpkemdpaaGreatDoor
