/- Plain mathematics of times (layer span): greatest common divisors, validity, quotients, sums, products; no program in sight. -/
namespace Go.Proofs.Ytbljfaocmeeljaa

/-- The greatest common divisor of two numbers from 0 on. -/
def gg (a b : Int) : Int := (Nat.gcd a.toNat b.toNat : Nat)
theorem gg_nonneg (a b : Int) : 0 ≤ gg a b := by unfold gg; omega
theorem gg_zero (a : Int) (h : 0 ≤ a) : gg a 0 = a := by simp [gg]; omega
theorem toNat_emod (a b : Int) (ha : 0 ≤ a) (hb : 0 ≤ b) : (a % b).toNat = a.toNat % b.toNat := by
  obtain ⟨m, rfl⟩ := Int.eq_ofNat_of_zero_le ha
  obtain ⟨n, rfl⟩ := Int.eq_ofNat_of_zero_le hb
  have : ((m : Int) % (n : Int)) = ((m % n : Nat) : Int) := (Int.natCast_emod m n).symm
  rw [this]; simp only [Int.toNat_natCast]
theorem gg_step (a b : Int) (ha : 0 ≤ a) (hb : 0 ≤ b) : gg a b = gg b (a % b) := by
  unfold gg
  rw [toNat_emod a b ha hb, Nat.gcd_comm, Nat.gcd_rec, Nat.gcd_comm]
theorem gg_pos (a b : Int) (h : 0 < a ∨ 0 < b) : 1 ≤ gg a b := by
  unfold gg
  have : 0 < Nat.gcd a.toNat b.toNat := by
    apply Nat.pos_of_ne_zero
    intro e
    have := Nat.gcd_eq_zero_iff.1 e
    omega
  omega
theorem gg_le_left (a b : Int) (h : 0 < a) : gg a b ≤ a := by
  unfold gg
  have := Nat.gcd_le_left b.toNat (show 0 < a.toNat by omega)
  omega
theorem gg_le_right (a b : Int) (h : 0 < b) : gg a b ≤ b := by
  unfold gg
  have := Nat.gcd_le_right (m := a.toNat) (n := b.toNat) (show 0 < b.toNat by omega)
  omega
theorem gg_bound (a b : Int) (m : Int) (ha : a ≤ m) (hb : b ≤ m) (hm : 0 ≤ m) : gg a b ≤ m := by
  by_cases h : 0 < a
  · have := gg_le_left a b h; omega
  · by_cases h' : 0 < b
    · have := gg_le_right a b h'; omega
    · unfold gg
      rw [show a.toNat = 0 by omega, show b.toNat = 0 by omega]; simpa using hm
theorem toNat_ediv (a b : Int) (ha : 0 ≤ a) (hb : 0 ≤ b) : (a / b).toNat = a.toNat / b.toNat := by
  obtain ⟨m, rfl⟩ := Int.eq_ofNat_of_zero_le ha
  obtain ⟨n, rfl⟩ := Int.eq_ofNat_of_zero_le hb
  have : ((m : Int) / (n : Int)) = ((m / n : Nat) : Int) := (Int.natCast_ediv m n).symm
  rw [this]; simp only [Int.toNat_natCast]
theorem gg_toNat (a b : Int) : (gg a b).toNat = Nat.gcd a.toNat b.toNat := by unfold gg; simp
theorem gg_quot (a b : Int) (ha : 0 ≤ a) (hb : 0 ≤ b) (h : 0 < a ∨ 0 < b) : gg (a / gg a b) (b / gg a b) = 1 := by
  have hp := gg_pos a b h
  have e := gg_toNat a b
  show ((Nat.gcd (a / gg a b).toNat (b / gg a b).toNat : Nat) : Int) = 1
  rw [toNat_ediv _ _ ha (by omega), toNat_ediv _ _ hb (by omega), e]
  have hq : (a.toNat / a.toNat.gcd b.toNat).gcd (b.toNat / a.toNat.gcd b.toNat) = 1 := by
    rcases h with h | h
    · exact Nat.gcd_div_gcd_div_gcd_of_pos_left (by omega)
    · exact Nat.gcd_div_gcd_div_gcd_of_pos_right (by omega)
  omega
theorem gg_comm (a b : Int) : gg a b = gg b a := by unfold gg; rw [Nat.gcd_comm]

/-! ### The functions of the layer, as both the program and the reference compute them -/
/-- The error of a time. -/
def chk (n d : Int) : Int := if n < 0 ∨ 1099511627776 < n ∨ d < 1 ∨ 1048576 < d then 2 else if 1 < gg n d then 3 else 0
/-- The quotient in lowest terms: numerator, denominator, error. -/
def ofq (n d : Int) : Int × Int × Int := if 1099511627776 < n / gg n d ∨ 1048576 < d / gg n d then (0, 0, 4) else (n / gg n d, d / gg n d, 0)
def mk (n d : Int) : Int × Int × Int := if n < 0 ∨ d < 0 then (0, 0, 2) else if d = 0 then (0, 0, 5) else ofq n d
/-- The first error of a list of times. -/
def firstS : List (Int × Int) → Int
  | [] => 0
  | t :: l => if chk t.1 t.2 ≠ 0 then chk t.1 t.2 else firstS l
def both (a b : Int × Int) : Int := if chk a.1 a.2 ≠ 0 then chk a.1 a.2 else chk b.1 b.2
def addS (a b : Int × Int) : Int × Int × Int := if both a b ≠ 0 then (0, 0, both a b) else mk (a.1 * b.2 + b.1 * a.2) (a.2 * b.2)
def subS (a b : Int × Int) : Int × Int × Int := if both a b ≠ 0 then (0, 0, both a b) else mk (a.1 * b.2 - b.1 * a.2) (a.2 * b.2)
/-- The product of a/b and c/d. -/
def tms (a b c d : Int) : Int × Int × Int :=
  if (0 < a / gg a d ∧ 1099511627776 / (a / gg a d) < c / gg c b) ∨ (0 < d / gg a d ∧ 1048576 / (d / gg a d) < b / gg c b) then (0, 0, 4) else mk (a / gg a d * (c / gg c b)) (b / gg c b * (d / gg a d))
def mulS (a b : Int × Int) : Int × Int × Int := if both a b ≠ 0 then (0, 0, both a b) else tms a.1 a.2 b.1 b.2
def divS (a b : Int × Int) : Int × Int × Int := if both a b ≠ 0 then (0, 0, both a b) else if b.1 = 0 then (0, 0, 5) else tms a.1 a.2 b.2 b.1
def sgn (x : Int) : Int := if x < 0 then -1 else if 0 < x then 1 else 0
def cmpS (a b : Int × Int) : Int × Int := if both a b ≠ 0 then (0, both a b) else (sgn (a.1 * b.2 - b.1 * a.2), 0)
def sumFrom (s : Int × Int) : List (Int × Int) → Int × Int × Int
  | [] => (s.1, s.2, 0)
  | t :: l => if (addS s t).2.2 ≠ 0 then (0, 0, (addS s t).2.2) else sumFrom ((addS s t).1, (addS s t).2.1) l
def sumS (l : List (Int × Int)) : Int × Int × Int := if firstS l ≠ 0 then (0, 0, firstS l) else sumFrom (0, 1) l
/-- How often, the rest (numerator, denominator), the error. -/
def wholeS (a b : Int × Int) : Int × Int × Int × Int :=
  if both a b ≠ 0 then (0, 0, 0, both a b) else if b.1 = 0 then (0, 0, 0, 5) else
    if (mk (a.1 * b.2 % (b.1 * a.2)) (a.2 * b.2)).2.2 ≠ 0 then (0, 0, 0, (mk (a.1 * b.2 % (b.1 * a.2)) (a.2 * b.2)).2.2)
    else (a.1 * b.2 / (b.1 * a.2), (mk (a.1 * b.2 % (b.1 * a.2)) (a.2 * b.2)).1, (mk (a.1 * b.2 % (b.1 * a.2)) (a.2 * b.2)).2.1, 0)
/-- The time n / d of the kit. -/
def tS (n d : Int) : Int × Int := if gg n d < 1 then (0, 1) else (n / gg n d, d / gg n d)

/-! ### Facts -/
def ok (t : Int × Int) : Prop := 0 ≤ t.1 ∧ t.1 ≤ 1099511627776 ∧ 1 ≤ t.2 ∧ t.2 ≤ 1048576 ∧ gg t.1 t.2 = 1
theorem ok_of_chk {n d : Int} (h : chk n d = 0) : ok (n, d) := by
  unfold chk at h
  split at h
  · cases h
  · split at h
    · cases h
    · rename_i h1 h2
      have hp := gg_pos n d (.inr (by omega))
      exact ⟨by simp; omega, by simp; omega, by simp; omega, by simp; omega, by simp; omega⟩
theorem chk_of_ok {t : Int × Int} (h : ok t) : chk t.1 t.2 = 0 := by
  obtain ⟨h1, h2, h3, h4, h5⟩ := h
  unfold chk
  rw [if_neg (by omega), if_neg (by omega)]
theorem chk_range (n d : Int) : chk n d = 0 ∨ chk n d = 2 ∨ chk n d = 3 := by
  unfold chk; (repeat' split) <;> simp
theorem both_ok {a b : Int × Int} (h : both a b = 0) : ok a ∧ ok b := by
  unfold both at h
  split at h
  · rename_i h'; exact absurd h h'
  · rename_i h'; exact ⟨ok_of_chk (by simpa using h'), ok_of_chk h⟩
theorem both_of_ok {a b : Int × Int} (ha : ok a) (hb : ok b) : both a b = 0 := by
  unfold both; rw [chk_of_ok ha, chk_of_ok hb]; rfl
theorem firstS_bad {t : Int × Int} {l : List (Int × Int)} (h : chk t.1 t.2 ≠ 0) : firstS (t :: l) = chk t.1 t.2 := by unfold firstS; rw [if_pos h]
theorem firstS_next {t : Int × Int} {l : List (Int × Int)} (h : chk t.1 t.2 = 0) : firstS (t :: l) = firstS l := by
  show (if chk t.1 t.2 ≠ 0 then chk t.1 t.2 else firstS l) = firstS l
  rw [if_neg (by rw [h]; exact fun h => h rfl)]
theorem firstS_two (a b : Int × Int) : firstS [a, b] = both a b := by
  unfold firstS firstS firstS both
  split
  · rfl
  · split
    · rfl
    · rename_i h; simp at h; exact h.symm
theorem ofq_ok {n d : Int} (hn : 0 ≤ n) (hd : 1 ≤ d) (h : (ofq n d).2.2 = 0) : ok ((ofq n d).1, (ofq n d).2.1) := by
  unfold ofq at h ⊢
  have hp := gg_pos n d (.inr (by omega))
  have hl := gg_le_right n d (by omega)
  split at h
  · cases h
  · rename_i h1
    rw [if_neg h1]
    refine ⟨Int.ediv_nonneg hn (by omega), by simp; omega, ?_, by simp; omega, gg_quot n d hn (by omega) (.inr (by omega))⟩
    exact (Int.le_ediv_iff_mul_le (by omega)).2 (by omega)
theorem ofq_bad {n d : Int} (h : (ofq n d).2.2 ≠ 0) : ofq n d = (0, 0, 4) := by
  unfold ofq at h ⊢
  split
  · rfl
  · rename_i h1; rw [if_neg h1] at h; exact absurd rfl h
theorem mk_of {n d : Int} (hn : 0 ≤ n) (hd : 1 ≤ d) : mk n d = ofq n d := by unfold mk; rw [if_neg (by omega), if_neg (by omega)]
theorem mk_ok {n d : Int} (h : (mk n d).2.2 = 0) : ok ((mk n d).1, (mk n d).2.1) := by
  by_cases h1 : n < 0 ∨ d < 0
  · unfold mk at h; rw [if_pos h1] at h; cases h
  · by_cases h2 : d = 0
    · unfold mk at h; rw [if_neg h1, if_pos h2] at h; cases h
    · rw [mk_of (by omega) (by omega)] at h ⊢; exact ofq_ok (by omega) (by omega) h
theorem mk_bad {n d : Int} (h : (mk n d).2.2 ≠ 0) : mk n d = (0, 0, (mk n d).2.2) := by
  by_cases h1 : n < 0 ∨ d < 0
  · unfold mk; rw [if_pos h1]
  · by_cases h2 : d = 0
    · unfold mk; rw [if_neg h1, if_pos h2]
    · rw [mk_of (by omega) (by omega)] at h ⊢; rw [ofq_bad h]
theorem ofq_of_ok {n d : Int} (h : ok (n, d)) : ofq n d = (n, d, 0) := by
  obtain ⟨h1, h2, h3, h4, h5⟩ := h
  simp only at h1 h2 h3 h4 h5
  unfold ofq
  rw [h5, Int.ediv_one, Int.ediv_one, if_neg (by omega)]
/-- A product of two numbers in range. -/
theorem mul_bd {a b m k : Int} (ha : 0 ≤ a) (hb : 0 ≤ b) (hm : a ≤ m) (hk : b ≤ k) : 0 ≤ a * b ∧ a * b ≤ m * k :=
  ⟨Int.mul_nonneg ha hb, Int.mul_le_mul hm hk hb (by omega)⟩

/-! ### The product: the program's way and the reference's -/
theorem cop_dvd {a b c d : Nat} (h : Nat.Coprime a b) (ha : c ∣ a) (hb : d ∣ b) : Nat.Coprime c d := Nat.Coprime.coprime_dvd_left ha (Nat.Coprime.coprime_dvd_right hb h)
theorem div_dvd' {a b : Int} (ha : 0 ≤ a) (h : 0 < a ∨ 0 < b) (_hb : 0 ≤ b) : (a / gg a b).toNat ∣ a.toNat := by
  have := gg_pos a b h
  rw [toNat_ediv _ _ ha (by omega), gg_toNat]
  exact Nat.div_dvd_of_dvd (Nat.gcd_dvd_left _ _)
theorem gg_one {a b : Int} : gg a b = 1 ↔ Nat.Coprime a.toNat b.toNat := by
  unfold gg Nat.Coprime; omega
/-- With a/b and c/d in lowest terms the crosswise shortened product is in lowest terms. -/
theorem tms_cop {a b c d : Int} (ha : 0 ≤ a) (hb : 1 ≤ b) (hc : 0 ≤ c) (hd : 1 ≤ d) (h1 : gg a b = 1) (h2 : gg c d = 1) :
    gg (a / gg a d * (c / gg c b)) (b / gg c b * (d / gg a d)) = 1 := by
  have p1 := gg_pos a d (.inr (by omega))
  have p2 := gg_pos c b (.inr (by omega))
  have q1 := gg_quot a d ha (by omega) (.inr (by omega))
  have q2 := gg_quot c b hc (by omega) (.inr (by omega))
  have da := div_dvd' ha (b := d) (.inr (by omega)) (by omega)
  have dc := div_dvd' hc (b := b) (.inr (by omega)) (by omega)
  have dd : (d / gg a d).toNat ∣ d.toNat := by rw [gg_comm a d]; exact div_dvd' (by omega) (.inl (by omega)) ha
  have db : (b / gg c b).toNat ∣ b.toNat := by rw [gg_comm c b]; exact div_dvd' (by omega) (.inl (by omega)) hc
  have n1 : 0 ≤ a / gg a d := Int.ediv_nonneg ha (by omega)
  have n2 : 0 ≤ c / gg c b := Int.ediv_nonneg hc (by omega)
  have n3 : 0 ≤ b / gg c b := Int.ediv_nonneg (by omega) (by omega)
  have n4 : 0 ≤ d / gg a d := Int.ediv_nonneg (by omega) (by omega)
  rw [gg_one] at h1 h2 q1 q2 ⊢
  rw [Int.toNat_mul n1 n2, Int.toNat_mul n3 n4]
  generalize (a / gg a d).toNat = a' at *
  generalize (d / gg a d).toNat = d' at *
  generalize (c / gg c b).toNat = c' at *
  generalize (b / gg c b).toNat = b' at *
  have hab := cop_dvd h1 da db
  have hcd := cop_dvd h2 dc dd
  exact Nat.Coprime.mul_left (Nat.Coprime.mul_right hab q1) (Nat.Coprime.mul_right q2 hcd)
/-- The reference's product. -/
def tmsR (n d m c : Int) : Int × Int × Int :=
  if (0 < n / gg n c ∧ 1099511627776 / (n / gg n c) < m / gg m d) ∨ 1048576 < d / gg m d * (c / gg n c) then (0, 0, 4) else (n / gg n c * (m / gg m d), d / gg m d * (c / gg n c), 0)
theorem quot_pos {a b : Int} (hb : 1 ≤ b) : 1 ≤ b / gg a b := by
  have h1 := gg_pos a b (.inr (by omega))
  have h2 := gg_le_right a b (by omega)
  exact (Int.le_ediv_iff_mul_le (by omega)).2 (by omega)
theorem quot_pos' {a b : Int} (hb : 1 ≤ b) : 1 ≤ b / gg b a := by rw [gg_comm]; exact quot_pos hb
theorem tms_ref {a b c d : Int} (ha : 0 ≤ a) (hb : 1 ≤ b) (hc : 0 ≤ c) (hd : 1 ≤ d) (h1 : gg a b = 1) (h2 : gg c d = 1) : tms a b c d = tmsR a b c d := by
  have hcop := tms_cop ha hb hc hd h1 h2
  have n1 : 0 ≤ a / gg a d := Int.ediv_nonneg ha (gg_nonneg _ _)
  have n2 : 0 ≤ c / gg c b := Int.ediv_nonneg hc (gg_nonneg _ _)
  have n3 : 1 ≤ b / gg c b := quot_pos hb
  have n4 : 1 ≤ d / gg a d := quot_pos hd
  unfold tms tmsR
  generalize a / gg a d = a' at *
  generalize d / gg a d = d' at *
  generalize c / gg c b = c' at *
  generalize b / gg c b = b' at *
  have e : (0 < d' ∧ 1048576 / d' < b') ↔ 1048576 < b' * d' := by
    constructor
    · intro h
      exact (Int.ediv_lt_iff_lt_mul (by omega)).1 h.2
    · intro h
      exact ⟨by omega, (Int.ediv_lt_iff_lt_mul (by omega)).2 h⟩
  by_cases h : (0 < a' ∧ 1099511627776 / a' < c') ∨ 1048576 < b' * d'
  · rw [if_pos (by rw [e]; exact h), if_pos h]
  · rw [if_neg (by rw [e]; exact h), if_neg h]
    have hbd : 1 ≤ b' * d' := by
      have := Int.mul_le_mul n3 n4 (by omega) (by omega); omega
    have hac : 0 ≤ a' * c' := Int.mul_nonneg n1 n2
    have hm : a' * c' ≤ 1099511627776 := by
      by_cases h0 : 0 < a'
      · have h3 : ¬ (1099511627776 / a' < c') := fun h4 => h (.inl ⟨h0, h4⟩)
        have h5 : ¬ (1099511627776 < c' * a') := fun h4 => h3 ((Int.ediv_lt_iff_lt_mul h0).2 h4)
        rw [Int.mul_comm] at h5; omega
      · have : a' = 0 := by omega
        rw [this]; simp
    rw [mk_of hac hbd, ofq_of_ok ⟨hac, hm, hbd, by simp; omega, hcop⟩]
end Go.Proofs.Ytbljfaocmeeljaa
