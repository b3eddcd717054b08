/- Plain mathematics of the statements on small times: the times made of numbers are whole multiples of 1/24; sums and products are taken back; a whole multiple and a rest. -/
import Derived.Test.YtiphacmmglohaaaAlg
namespace Go.Proofs.Ytiphacmmglohaaa
def partS (k : Int) : Int := [1, 1, 1, 2, 2, 3, 4, 6, 8].getD k.toNat 0
/-- The small time made of a number. -/
def spS (n : Int) : Int × Int := tS (1 + n % 216 / 9) (partS (n % 216 % 9))
/-- How many 24ths it has. -/
def k24 (n : Int) : Int := (1 + n % 216 / 9) * [24, 24, 24, 12, 12, 8, 6, 4, 3].getD (n % 216 % 9).toNat 0
theorem spS_fin : ∀ k : Fin 216, tS (1 + (k.val : Int) / 9) (partS ((k.val : Int) % 9)) = c24 ((1 + (k.val : Int) / 9) * [24, 24, 24, 12, 12, 8, 6, 4, 3].getD ((k.val : Int) % 9).toNat 0) ∧ 3 ≤ (1 + (k.val : Int) / 9) * [24, 24, 24, 12, 12, 8, 6, 4, 3].getD ((k.val : Int) % 9).toNat 0 ∧ (1 + (k.val : Int) / 9) * [24, 24, 24, 12, 12, 8, 6, 4, 3].getD ((k.val : Int) % 9).toNat 0 ≤ 576 ∧ (tS (1 + (k.val : Int) / 9) (partS ((k.val : Int) % 9))).1 ≤ 24 ∧ (tS (1 + (k.val : Int) / 9) (partS ((k.val : Int) % 9))).2 ≤ 8 := by decide +kernel
theorem spS_24 (n : Int) : spS n = c24 (k24 n) ∧ 3 ≤ k24 n ∧ k24 n ≤ 576 ∧ (spS n).1 ≤ 24 ∧ (spS n).2 ≤ 8 := by
  have h0 := Int.emod_nonneg n (show (216 : Int) ≠ 0 by omega)
  have h1 := Int.emod_lt_of_pos n (show (0 : Int) < 216 by omega)
  have := spS_fin ⟨(n % 216).toNat, by omega⟩
  simp only [show (((n % 216).toNat : Nat) : Int) = n % 216 by omega] at this
  unfold spS k24
  exact this
theorem spS_ok (n : Int) : ok (spS n) ∧ 1 ≤ (spS n).1 ∧ (spS n).1 ≤ 24 ∧ (spS n).2 ≤ 8 := by
  obtain ⟨e, h1, h2, h3, h4⟩ := spS_24 n
  have := c24_ok (m := k24 n) ⟨by omega, by omega⟩
  have h5 := c24_pos (m := k24 n) ⟨by omega, by omega⟩ (by omega)
  rw [← e] at this h5
  exact ⟨this.1, h5, h3, h4⟩
/-- Two small times: sum and product do not depend on the order, and are taken back. -/
theorem back_facts (x y : Int × Int) (hx : ok x) (hx1 : 1 ≤ x.1) (hx2 : x.1 ≤ 24) (hx3 : x.2 ≤ 8) (hy : ok y) (hy1 : 1 ≤ y.1) (hy2 : y.1 ≤ 24) (hy3 : y.2 ≤ 8) :
    ∃ s t : Int × Int, addS x y = (s.1, s.2, 0) ∧ addS y x = (s.1, s.2, 0) ∧ subS s y = (x.1, x.2, 0) ∧ mulS x y = (t.1, t.2, 0) ∧ mulS y x = (t.1, t.2, 0) ∧ divS t y = (x.1, x.2, 0) := by
  have b1 := mul_bd (show 0 ≤ x.1 by omega) (show 0 ≤ y.2 by have := hy.2.2.1; omega) hx2 hy3
  have b2 := mul_bd (show 0 ≤ y.1 by omega) (show 0 ≤ x.2 by have := hx.2.2.1; omega) hy2 hx3
  have b3 := mul_bd (show 0 ≤ x.2 by have := hx.2.2.1; omega) (show 0 ≤ y.2 by have := hy.2.2.1; omega) hx3 hy3
  have b4 := mul_bd (show 0 ≤ x.1 by omega) (show 0 ≤ y.1 by omega) hx2 hy2
  have b5 : 1 ≤ x.2 * y.2 := by have := Int.mul_le_mul hx.2.2.1 hy.2.2.1 (by omega) (by have := hx.2.2.1; omega); omega
  obtain ⟨s, hs, e1, e2⟩ := mk_small (n := x.1 * y.2 + y.1 * x.2) (d := x.2 * y.2) (by omega) (by omega) b5 (by omega)
  obtain ⟨t, ht, e3, e4⟩ := mk_small (n := x.1 * y.1) (d := x.2 * y.2) (by omega) (by omega) b5 (by omega)
  refine ⟨s, t, add_val hx hy hs e2, add_val hy hx hs (by grind), sub_val hs hy hx ?_, mul_val hx hy ht e4, mul_val hy hx ht (by grind), div_val ht hy hy1 hx ?_⟩
  · have h2 := hy.2.2.1
    refine cancel h2 ?_
    grind
  · grind
end Go.Proofs.Ytiphacmmglohaaa
