
/- Math, Alg, EvMath, CutMath, LenMath, BackMath, VoiceMath, VoiceMath2, AlMath, AlMom, AlSl, AlSpec, AlSort, AlQ, AlFacts: one text. -/
/- Plain mathematics of times (layer span): greatest common divisors, validity, quotients, sums, products; no program in sight. -/
namespace Go.Proofs.YtmlcnmnpkemdpaaDoor

/-- The greatest common divisor of two numbers from 0 on. -/
def gg (a b : Int) : Int := (Nat.gcd a.toNat b.toNat : Nat)
theorem gg_nonneg (a b : Int) : 0 ≤ gg a b := by unfold gg; omega
theorem gg_zero (a : Int) (h : 0 ≤ a) : gg a 0 = a := by simp [gg]; omega
theorem toNat_emod (a b : Int) (ha : 0 ≤ a) (hb : 0 ≤ b) : (a % b).toNat = a.toNat % b.toNat := by
  obtain ⟨m, rfl⟩ := Int.eq_ofNat_of_zero_le ha
  obtain ⟨n, rfl⟩ := Int.eq_ofNat_of_zero_le hb
  have : ((m : Int) % (n : Int)) = ((m % n : Nat) : Int) := (Int.natCast_emod m n).symm
  rw [this]; simp only [Int.toNat_natCast]
theorem gg_step (a b : Int) (ha : 0 ≤ a) (hb : 0 ≤ b) : gg a b = gg b (a % b) := by
  unfold gg
  rw [toNat_emod a b ha hb, Nat.gcd_comm, Nat.gcd_rec, Nat.gcd_comm]
theorem gg_pos (a b : Int) (h : 0 < a ∨ 0 < b) : 1 ≤ gg a b := by
  unfold gg
  have : 0 < Nat.gcd a.toNat b.toNat := by
    apply Nat.pos_of_ne_zero
    intro e
    have := Nat.gcd_eq_zero_iff.1 e
    omega
  omega
theorem gg_le_left (a b : Int) (h : 0 < a) : gg a b ≤ a := by
  unfold gg
  have := Nat.gcd_le_left b.toNat (show 0 < a.toNat by omega)
  omega
theorem gg_le_right (a b : Int) (h : 0 < b) : gg a b ≤ b := by
  unfold gg
  have := Nat.gcd_le_right (m := a.toNat) (n := b.toNat) (show 0 < b.toNat by omega)
  omega
theorem gg_bound (a b : Int) (m : Int) (ha : a ≤ m) (hb : b ≤ m) (hm : 0 ≤ m) : gg a b ≤ m := by
  by_cases h : 0 < a
  · have := gg_le_left a b h; omega
  · by_cases h' : 0 < b
    · have := gg_le_right a b h'; omega
    · unfold gg
      rw [show a.toNat = 0 by omega, show b.toNat = 0 by omega]; simpa using hm
theorem toNat_ediv (a b : Int) (ha : 0 ≤ a) (hb : 0 ≤ b) : (a / b).toNat = a.toNat / b.toNat := by
  obtain ⟨m, rfl⟩ := Int.eq_ofNat_of_zero_le ha
  obtain ⟨n, rfl⟩ := Int.eq_ofNat_of_zero_le hb
  have : ((m : Int) / (n : Int)) = ((m / n : Nat) : Int) := (Int.natCast_ediv m n).symm
  rw [this]; simp only [Int.toNat_natCast]
theorem gg_toNat (a b : Int) : (gg a b).toNat = Nat.gcd a.toNat b.toNat := by unfold gg; simp
theorem gg_quot (a b : Int) (ha : 0 ≤ a) (hb : 0 ≤ b) (h : 0 < a ∨ 0 < b) : gg (a / gg a b) (b / gg a b) = 1 := by
  have hp := gg_pos a b h
  have e := gg_toNat a b
  show ((Nat.gcd (a / gg a b).toNat (b / gg a b).toNat : Nat) : Int) = 1
  rw [toNat_ediv _ _ ha (by omega), toNat_ediv _ _ hb (by omega), e]
  have hq : (a.toNat / a.toNat.gcd b.toNat).gcd (b.toNat / a.toNat.gcd b.toNat) = 1 := by
    rcases h with h | h
    · exact Nat.gcd_div_gcd_div_gcd_of_pos_left (by omega)
    · exact Nat.gcd_div_gcd_div_gcd_of_pos_right (by omega)
  omega
theorem gg_comm (a b : Int) : gg a b = gg b a := by unfold gg; rw [Nat.gcd_comm]

/-! ### The functions of the layer, as both the program and the reference compute them -/
/-- The error of a time. -/
def chk (n d : Int) : Int := if n < 0 ∨ 1099511627776 < n ∨ d < 1 ∨ 1048576 < d then 2 else if 1 < gg n d then 3 else 0
/-- The quotient in lowest terms: numerator, denominator, error. -/
def ofq (n d : Int) : Int × Int × Int := if 1099511627776 < n / gg n d ∨ 1048576 < d / gg n d then (0, 0, 4) else (n / gg n d, d / gg n d, 0)
def mk (n d : Int) : Int × Int × Int := if n < 0 ∨ d < 0 then (0, 0, 2) else if d = 0 then (0, 0, 5) else ofq n d
/-- The first error of a list of times. -/
def firstS : List (Int × Int) → Int
  | [] => 0
  | t :: l => if chk t.1 t.2 ≠ 0 then chk t.1 t.2 else firstS l
def both (a b : Int × Int) : Int := if chk a.1 a.2 ≠ 0 then chk a.1 a.2 else chk b.1 b.2
def addS (a b : Int × Int) : Int × Int × Int := if both a b ≠ 0 then (0, 0, both a b) else mk (a.1 * b.2 + b.1 * a.2) (a.2 * b.2)
def subS (a b : Int × Int) : Int × Int × Int := if both a b ≠ 0 then (0, 0, both a b) else mk (a.1 * b.2 - b.1 * a.2) (a.2 * b.2)
/-- The product of a/b and c/d. -/
def tms (a b c d : Int) : Int × Int × Int :=
  if (0 < a / gg a d ∧ 1099511627776 / (a / gg a d) < c / gg c b) ∨ (0 < d / gg a d ∧ 1048576 / (d / gg a d) < b / gg c b) then (0, 0, 4) else mk (a / gg a d * (c / gg c b)) (b / gg c b * (d / gg a d))
def mulS (a b : Int × Int) : Int × Int × Int := if both a b ≠ 0 then (0, 0, both a b) else tms a.1 a.2 b.1 b.2
def divS (a b : Int × Int) : Int × Int × Int := if both a b ≠ 0 then (0, 0, both a b) else if b.1 = 0 then (0, 0, 5) else tms a.1 a.2 b.2 b.1
def sgn (x : Int) : Int := if x < 0 then -1 else if 0 < x then 1 else 0
def cmpS (a b : Int × Int) : Int × Int := if both a b ≠ 0 then (0, both a b) else (sgn (a.1 * b.2 - b.1 * a.2), 0)
def sumFrom (s : Int × Int) : List (Int × Int) → Int × Int × Int
  | [] => (s.1, s.2, 0)
  | t :: l => if (addS s t).2.2 ≠ 0 then (0, 0, (addS s t).2.2) else sumFrom ((addS s t).1, (addS s t).2.1) l
def sumS (l : List (Int × Int)) : Int × Int × Int := if firstS l ≠ 0 then (0, 0, firstS l) else sumFrom (0, 1) l
/-- How often, the rest (numerator, denominator), the error. -/
def wholeS (a b : Int × Int) : Int × Int × Int × Int :=
  if both a b ≠ 0 then (0, 0, 0, both a b) else if b.1 = 0 then (0, 0, 0, 5) else
    if (mk (a.1 * b.2 % (b.1 * a.2)) (a.2 * b.2)).2.2 ≠ 0 then (0, 0, 0, (mk (a.1 * b.2 % (b.1 * a.2)) (a.2 * b.2)).2.2)
    else (a.1 * b.2 / (b.1 * a.2), (mk (a.1 * b.2 % (b.1 * a.2)) (a.2 * b.2)).1, (mk (a.1 * b.2 % (b.1 * a.2)) (a.2 * b.2)).2.1, 0)
/-- The time n / d of the kit. -/
def tS (n d : Int) : Int × Int := if gg n d < 1 then (0, 1) else (n / gg n d, d / gg n d)

/-! ### Facts -/
def ok (t : Int × Int) : Prop := 0 ≤ t.1 ∧ t.1 ≤ 1099511627776 ∧ 1 ≤ t.2 ∧ t.2 ≤ 1048576 ∧ gg t.1 t.2 = 1
theorem ok_of_chk {n d : Int} (h : chk n d = 0) : ok (n, d) := by
  unfold chk at h
  split at h
  · cases h
  · split at h
    · cases h
    · rename_i h1 h2
      have hp := gg_pos n d (.inr (by omega))
      exact ⟨by simp; omega, by simp; omega, by simp; omega, by simp; omega, by simp; omega⟩
theorem chk_of_ok {t : Int × Int} (h : ok t) : chk t.1 t.2 = 0 := by
  obtain ⟨h1, h2, h3, h4, h5⟩ := h
  unfold chk
  rw [if_neg (by omega), if_neg (by omega)]
theorem chk_range (n d : Int) : chk n d = 0 ∨ chk n d = 2 ∨ chk n d = 3 := by
  unfold chk; (repeat' split) <;> simp
theorem both_ok {a b : Int × Int} (h : both a b = 0) : ok a ∧ ok b := by
  unfold both at h
  split at h
  · rename_i h'; exact absurd h h'
  · rename_i h'; exact ⟨ok_of_chk (by simpa using h'), ok_of_chk h⟩
theorem both_of_ok {a b : Int × Int} (ha : ok a) (hb : ok b) : both a b = 0 := by
  unfold both; rw [chk_of_ok ha, chk_of_ok hb]; rfl
theorem firstS_bad {t : Int × Int} {l : List (Int × Int)} (h : chk t.1 t.2 ≠ 0) : firstS (t :: l) = chk t.1 t.2 := by unfold firstS; rw [if_pos h]
theorem firstS_next {t : Int × Int} {l : List (Int × Int)} (h : chk t.1 t.2 = 0) : firstS (t :: l) = firstS l := by
  show (if chk t.1 t.2 ≠ 0 then chk t.1 t.2 else firstS l) = firstS l
  rw [if_neg (by rw [h]; exact fun h => h rfl)]
theorem firstS_two (a b : Int × Int) : firstS [a, b] = both a b := by
  unfold firstS firstS firstS both
  split
  · rfl
  · split
    · rfl
    · rename_i h; simp at h; exact h.symm
theorem ofq_ok {n d : Int} (hn : 0 ≤ n) (hd : 1 ≤ d) (h : (ofq n d).2.2 = 0) : ok ((ofq n d).1, (ofq n d).2.1) := by
  unfold ofq at h ⊢
  have hp := gg_pos n d (.inr (by omega))
  have hl := gg_le_right n d (by omega)
  split at h
  · cases h
  · rename_i h1
    rw [if_neg h1]
    refine ⟨Int.ediv_nonneg hn (by omega), by simp; omega, ?_, by simp; omega, gg_quot n d hn (by omega) (.inr (by omega))⟩
    exact (Int.le_ediv_iff_mul_le (by omega)).2 (by omega)
theorem ofq_bad {n d : Int} (h : (ofq n d).2.2 ≠ 0) : ofq n d = (0, 0, 4) := by
  unfold ofq at h ⊢
  split
  · rfl
  · rename_i h1; rw [if_neg h1] at h; exact absurd rfl h
theorem mk_of {n d : Int} (hn : 0 ≤ n) (hd : 1 ≤ d) : mk n d = ofq n d := by unfold mk; rw [if_neg (by omega), if_neg (by omega)]
theorem mk_ok {n d : Int} (h : (mk n d).2.2 = 0) : ok ((mk n d).1, (mk n d).2.1) := by
  by_cases h1 : n < 0 ∨ d < 0
  · unfold mk at h; rw [if_pos h1] at h; cases h
  · by_cases h2 : d = 0
    · unfold mk at h; rw [if_neg h1, if_pos h2] at h; cases h
    · rw [mk_of (by omega) (by omega)] at h ⊢; exact ofq_ok (by omega) (by omega) h
theorem mk_bad {n d : Int} (h : (mk n d).2.2 ≠ 0) : mk n d = (0, 0, (mk n d).2.2) := by
  by_cases h1 : n < 0 ∨ d < 0
  · unfold mk; rw [if_pos h1]
  · by_cases h2 : d = 0
    · unfold mk; rw [if_neg h1, if_pos h2]
    · rw [mk_of (by omega) (by omega)] at h ⊢; rw [ofq_bad h]
theorem ofq_of_ok {n d : Int} (h : ok (n, d)) : ofq n d = (n, d, 0) := by
  obtain ⟨h1, h2, h3, h4, h5⟩ := h
  simp only at h1 h2 h3 h4 h5
  unfold ofq
  rw [h5, Int.ediv_one, Int.ediv_one, if_neg (by omega)]
/-- A product of two numbers in range. -/
theorem mul_bd {a b m k : Int} (ha : 0 ≤ a) (hb : 0 ≤ b) (hm : a ≤ m) (hk : b ≤ k) : 0 ≤ a * b ∧ a * b ≤ m * k :=
  ⟨Int.mul_nonneg ha hb, Int.mul_le_mul hm hk hb (by omega)⟩

/-! ### The product: the program's way and the reference's -/
theorem cop_dvd {a b c d : Nat} (h : Nat.Coprime a b) (ha : c ∣ a) (hb : d ∣ b) : Nat.Coprime c d := Nat.Coprime.coprime_dvd_left ha (Nat.Coprime.coprime_dvd_right hb h)
theorem div_dvd' {a b : Int} (ha : 0 ≤ a) (h : 0 < a ∨ 0 < b) (_hb : 0 ≤ b) : (a / gg a b).toNat ∣ a.toNat := by
  have := gg_pos a b h
  rw [toNat_ediv _ _ ha (by omega), gg_toNat]
  exact Nat.div_dvd_of_dvd (Nat.gcd_dvd_left _ _)
theorem gg_one {a b : Int} : gg a b = 1 ↔ Nat.Coprime a.toNat b.toNat := by
  unfold gg Nat.Coprime; omega
/-- With a/b and c/d in lowest terms the crosswise shortened product is in lowest terms. -/
theorem tms_cop {a b c d : Int} (ha : 0 ≤ a) (hb : 1 ≤ b) (hc : 0 ≤ c) (hd : 1 ≤ d) (h1 : gg a b = 1) (h2 : gg c d = 1) :
    gg (a / gg a d * (c / gg c b)) (b / gg c b * (d / gg a d)) = 1 := by
  have p1 := gg_pos a d (.inr (by omega))
  have p2 := gg_pos c b (.inr (by omega))
  have q1 := gg_quot a d ha (by omega) (.inr (by omega))
  have q2 := gg_quot c b hc (by omega) (.inr (by omega))
  have da := div_dvd' ha (b := d) (.inr (by omega)) (by omega)
  have dc := div_dvd' hc (b := b) (.inr (by omega)) (by omega)
  have dd : (d / gg a d).toNat ∣ d.toNat := by rw [gg_comm a d]; exact div_dvd' (by omega) (.inl (by omega)) ha
  have db : (b / gg c b).toNat ∣ b.toNat := by rw [gg_comm c b]; exact div_dvd' (by omega) (.inl (by omega)) hc
  have n1 : 0 ≤ a / gg a d := Int.ediv_nonneg ha (by omega)
  have n2 : 0 ≤ c / gg c b := Int.ediv_nonneg hc (by omega)
  have n3 : 0 ≤ b / gg c b := Int.ediv_nonneg (by omega) (by omega)
  have n4 : 0 ≤ d / gg a d := Int.ediv_nonneg (by omega) (by omega)
  rw [gg_one] at h1 h2 q1 q2 ⊢
  rw [Int.toNat_mul n1 n2, Int.toNat_mul n3 n4]
  generalize (a / gg a d).toNat = a' at *
  generalize (d / gg a d).toNat = d' at *
  generalize (c / gg c b).toNat = c' at *
  generalize (b / gg c b).toNat = b' at *
  have hab := cop_dvd h1 da db
  have hcd := cop_dvd h2 dc dd
  exact Nat.Coprime.mul_left (Nat.Coprime.mul_right hab q1) (Nat.Coprime.mul_right q2 hcd)
/-- The reference's product. -/
def tmsR (n d m c : Int) : Int × Int × Int :=
  if (0 < n / gg n c ∧ 1099511627776 / (n / gg n c) < m / gg m d) ∨ 1048576 < d / gg m d * (c / gg n c) then (0, 0, 4) else (n / gg n c * (m / gg m d), d / gg m d * (c / gg n c), 0)
theorem quot_pos {a b : Int} (hb : 1 ≤ b) : 1 ≤ b / gg a b := by
  have h1 := gg_pos a b (.inr (by omega))
  have h2 := gg_le_right a b (by omega)
  exact (Int.le_ediv_iff_mul_le (by omega)).2 (by omega)
theorem quot_pos' {a b : Int} (hb : 1 ≤ b) : 1 ≤ b / gg b a := by rw [gg_comm]; exact quot_pos hb
theorem tms_ref {a b c d : Int} (ha : 0 ≤ a) (hb : 1 ≤ b) (hc : 0 ≤ c) (hd : 1 ≤ d) (h1 : gg a b = 1) (h2 : gg c d = 1) : tms a b c d = tmsR a b c d := by
  have hcop := tms_cop ha hb hc hd h1 h2
  have n1 : 0 ≤ a / gg a d := Int.ediv_nonneg ha (gg_nonneg _ _)
  have n2 : 0 ≤ c / gg c b := Int.ediv_nonneg hc (gg_nonneg _ _)
  have n3 : 1 ≤ b / gg c b := quot_pos hb
  have n4 : 1 ≤ d / gg a d := quot_pos hd
  unfold tms tmsR
  generalize a / gg a d = a' at *
  generalize d / gg a d = d' at *
  generalize c / gg c b = c' at *
  generalize b / gg c b = b' at *
  have e : (0 < d' ∧ 1048576 / d' < b') ↔ 1048576 < b' * d' := by
    constructor
    · intro h
      exact (Int.ediv_lt_iff_lt_mul (by omega)).1 h.2
    · intro h
      exact ⟨by omega, (Int.ediv_lt_iff_lt_mul (by omega)).2 h⟩
  by_cases h : (0 < a' ∧ 1099511627776 / a' < c') ∨ 1048576 < b' * d'
  · rw [if_pos (by rw [e]; exact h), if_pos h]
  · rw [if_neg (by rw [e]; exact h), if_neg h]
    have hbd : 1 ≤ b' * d' := by
      have := Int.mul_le_mul n3 n4 (by omega) (by omega); omega
    have hac : 0 ≤ a' * c' := Int.mul_nonneg n1 n2
    have hm : a' * c' ≤ 1099511627776 := by
      by_cases h0 : 0 < a'
      · have h3 : ¬ (1099511627776 / a' < c') := fun h4 => h (.inl ⟨h0, h4⟩)
        have h5 : ¬ (1099511627776 < c' * a') := fun h4 => h3 ((Int.ediv_lt_iff_lt_mul h0).2 h4)
        rw [Int.mul_comm] at h5; omega
      · have : a' = 0 := by omega
        rw [this]; simp
    rw [mk_of hac hbd, ofq_of_ok ⟨hac, hm, hbd, by simp; omega, hcop⟩]
end Go.Proofs.YtmlcnmnpkemdpaaDoor

/- Plain mathematics of times: canonical fractions are equal where their values are; sums, differences, products and quotients by their values; times that are whole multiples of 1/24. -/
namespace Go.Proofs.YtmlcnmnpkemdpaaDoor

theorem cop_eq {a b c d : Nat} (hb : 0 < b) (hd : 0 < d) (h1 : Nat.Coprime a b) (h2 : Nat.Coprime c d) (e : a * d = c * b) : a = c ∧ b = d := by
  have h3 : b ∣ d := h1.symm.dvd_of_dvd_mul_left (by rw [e]; exact Nat.dvd_mul_left _ _)
  have h4 : d ∣ b := h2.symm.dvd_of_dvd_mul_left (by rw [← e]; exact Nat.dvd_mul_left _ _)
  obtain rfl := Nat.dvd_antisymm h3 h4
  exact ⟨Nat.eq_of_mul_eq_mul_right hb e, rfl⟩
theorem cop_eqI {a b c d : Int} (ha : 0 ≤ a) (hb : 1 ≤ b) (hc : 0 ≤ c) (hd : 1 ≤ d) (h1 : gg a b = 1) (h2 : gg c d = 1) (e : a * d = c * b) : a = c ∧ b = d := by
  rw [gg_one] at h1 h2
  have := cop_eq (by omega) (by omega) h1 h2 (by rw [← Int.toNat_mul ha (by omega), ← Int.toNat_mul hc (by omega), e])
  omega
theorem gg_split (a b : Int) (ha : 0 ≤ a) (hb : 1 ≤ b) : ∃ g a' b', 1 ≤ g ∧ gg a b = g ∧ a = g * a' ∧ b = g * b' ∧ a / gg a b = a' ∧ b / gg a b = b' ∧ 0 ≤ a' ∧ 1 ≤ b' ∧ gg a' b' = 1 := by
  have hp := gg_pos a b (.inr (by omega))
  have d1 : gg a b ∣ a := by
    have := Nat.gcd_dvd_left a.toNat b.toNat
    have := Int.natCast_dvd_natCast.2 this
    rw [show ((a.toNat : Nat) : Int) = a by omega] at this
    exact this
  have d2 : gg a b ∣ b := by
    have := Nat.gcd_dvd_right a.toNat b.toNat
    have := Int.natCast_dvd_natCast.2 this
    rw [show ((b.toNat : Nat) : Int) = b by omega] at this
    exact this
  refine ⟨gg a b, a / gg a b, b / gg a b, hp, rfl, (Int.mul_ediv_cancel' d1).symm, (Int.mul_ediv_cancel' d2).symm, rfl, rfl, Int.ediv_nonneg ha (by omega), quot_pos hb, gg_quot a b ha (by omega) (.inr (by omega))⟩
theorem cancel {g a b : Int} (hg : 1 ≤ g) (h : g * a = g * b) : a = b := Int.eq_of_mul_eq_mul_left (by omega) h
/-- Two canonical fractions of one value are one. -/
theorem ok_eq {a b : Int × Int} (ha : ok a) (hb : ok b) (e : a.1 * b.2 = b.1 * a.2) : a = b := by
  obtain ⟨a1, a2, a3, a4, a5⟩ := ha
  obtain ⟨b1, b2, b3, b4, b5⟩ := hb
  have := cop_eqI a1 a3 b1 b3 a5 b5 e
  exact Prod.ext this.1 this.2
/-- A quotient by its value. -/
theorem mk_val {n d : Int} {t : Int × Int} (hn : 0 ≤ n) (hd : 1 ≤ d) (ht : ok t) (e : t.1 * d = n * t.2) : mk n d = (t.1, t.2, 0) := by
  obtain ⟨g, n', d', hg, e0, e1, e2, e3, e4, h1, h2, h3⟩ := gg_split n d hn hd
  obtain ⟨t1, t2, t3, t4, t5⟩ := ht
  rw [mk_of hn hd]
  unfold ofq
  rw [e3, e4]
  rw [e1, e2] at e
  have e' : t.1 * d' = n' * t.2 := cancel hg (by grind)
  obtain ⟨rfl, rfl⟩ := cop_eqI t1 t3 h1 h2 t5 h3 e'
  rw [if_neg (by omega)]
theorem mk_small {n d : Int} (hn : 0 ≤ n) (hn' : n ≤ 1099511627776) (hd : 1 ≤ d) (hd' : d ≤ 1048576) : ∃ t : Int × Int, ok t ∧ mk n d = (t.1, t.2, 0) ∧ t.1 * d = n * t.2 := by
  obtain ⟨g, n', d', hg, e0, e1, e2, e3, e4, h1, h2, h3⟩ := gg_split n d hn hd
  have l1 : n' ≤ n := by have := Int.mul_le_mul_of_nonneg_right hg h1; omega
  have l2 : d' ≤ d := by have := Int.mul_le_mul_of_nonneg_right hg (show 0 ≤ d' by omega); omega
  refine ⟨(n', d'), ⟨h1, by simp only; omega, h2, by simp only; omega, h3⟩, ?_, by simp only; rw [e1, e2]; grind⟩
  refine mk_val hn hd ⟨h1, by simp only; omega, h2, by simp only; omega, h3⟩ ?_
  simp only; rw [e1, e2]; grind
theorem add_val {a b t : Int × Int} (ha : ok a) (hb : ok b) (ht : ok t) (e : t.1 * (a.2 * b.2) = (a.1 * b.2 + b.1 * a.2) * t.2) : addS a b = (t.1, t.2, 0) := by
  unfold addS
  rw [both_of_ok ha hb, if_neg (fun h => h rfl)]
  have h1 : 0 ≤ a.1 * b.2 := Int.mul_nonneg ha.1 (by have := hb.2.2.1; omega)
  have h2 : 0 ≤ b.1 * a.2 := Int.mul_nonneg hb.1 (by have := ha.2.2.1; omega)
  have h3 : 1 ≤ a.2 * b.2 := by have := Int.mul_le_mul ha.2.2.1 hb.2.2.1 (by omega) (by have := ha.2.2.1; omega); omega
  exact mk_val (by omega) h3 ht e
theorem sub_val {a b t : Int × Int} (ha : ok a) (hb : ok b) (ht : ok t) (e : t.1 * (a.2 * b.2) = (a.1 * b.2 - b.1 * a.2) * t.2) : subS a b = (t.1, t.2, 0) := by
  unfold subS
  rw [both_of_ok ha hb, if_neg (fun h => h rfl)]
  have h3 : 1 ≤ a.2 * b.2 := by have := Int.mul_le_mul ha.2.2.1 hb.2.2.1 (by omega) (by have := ha.2.2.1; omega); omega
  have h4 : 0 ≤ t.1 * (a.2 * b.2) := Int.mul_nonneg ht.1 (by omega)
  rw [e] at h4
  have h5 : 0 ≤ a.1 * b.2 - b.1 * a.2 := by
    rcases Int.lt_or_le (a.1 * b.2 - b.1 * a.2) 0 with h | h
    · have := Int.mul_neg_of_neg_of_pos h (show 0 < t.2 by have := ht.2.2.1; omega)
      omega
    · exact h
  exact mk_val h5 h3 ht e
theorem tms_val {a b c d : Int} {t : Int × Int} (ha : 0 ≤ a) (hb : 1 ≤ b) (hc : 0 ≤ c) (hd : 1 ≤ d) (h1 : gg a b = 1) (h2 : gg c d = 1) (ht : ok t) (e : t.1 * (b * d) = a * c * t.2) : tms a b c d = (t.1, t.2, 0) := by
  have hcop := tms_cop ha hb hc hd h1 h2
  rw [tms_ref ha hb hc hd h1 h2]
  unfold tmsR
  obtain ⟨g, a', d', hg, e0, e1, e2, e3, e4, k1, k2, k3⟩ := gg_split a d ha hd
  obtain ⟨g2, c', b', hg2, f0, f1, f2, f3, f4, l1, l2, l3⟩ := gg_split c b hc hb
  rw [e3, f3, e4, f4] at hcop
  rw [e3, f3, e4, f4]
  obtain ⟨t1, t2, t3, t4, t5⟩ := ht
  have e' : t.1 * (b' * d') = a' * c' * t.2 := by
    refine cancel hg (cancel hg2 ?_)
    rw [e1, e2, f1, f2] at e
    grind
  have hbd : 1 ≤ b' * d' := by have := Int.mul_le_mul l2 k2 (by omega) (by omega); omega
  obtain ⟨e5, e6⟩ := cop_eqI t1 t3 (Int.mul_nonneg k1 l1) hbd t5 hcop e'
  rw [if_neg, ← e5, ← e6]
  rintro (⟨h, h'⟩ | h)
  · have := (Int.ediv_lt_iff_lt_mul h).1 h'
    rw [Int.mul_comm] at this; omega
  · omega
theorem mul_val {a b t : Int × Int} (ha : ok a) (hb : ok b) (ht : ok t) (e : t.1 * (a.2 * b.2) = a.1 * b.1 * t.2) : mulS a b = (t.1, t.2, 0) := by
  unfold mulS
  rw [both_of_ok ha hb, if_neg (fun h => h rfl)]
  exact tms_val ha.1 ha.2.2.1 hb.1 hb.2.2.1 ha.2.2.2.2 hb.2.2.2.2 ht e
theorem div_val {a b t : Int × Int} (ha : ok a) (hb : ok b) (h0 : 1 ≤ b.1) (ht : ok t) (e : t.1 * (a.2 * b.1) = a.1 * b.2 * t.2) : divS a b = (t.1, t.2, 0) := by
  unfold divS
  rw [both_of_ok ha hb, if_neg (fun h => h rfl), if_neg (by omega)]
  exact tms_val ha.1 ha.2.2.1 (by have := hb.2.2.1; omega) h0 ha.2.2.2.2 (by rw [gg_comm]; exact hb.2.2.2.2) ht e

/-! ### Whole multiples of 1/24 -/
/-- The time m/24. -/
def c24 (m : Int) : Int × Int := ((mk m 24).1, (mk m 24).2.1)
/-- The numbers of 24ths that are in sight. -/
def in24 (m : Int) : Prop := 0 ≤ m ∧ m ≤ 1099511627776
theorem c24_ok {m : Int} (h : in24 m) : ok (c24 m) ∧ (c24 m).1 * 24 = m * (c24 m).2 ∧ mk m 24 = ((c24 m).1, (c24 m).2, 0) := by
  obtain ⟨t, ht, e1, e2⟩ := mk_small h.1 h.2 (show (1 : Int) ≤ 24 by omega) (by omega)
  unfold c24
  rw [e1]
  exact ⟨ht, e2, rfl⟩
theorem c24_of {m : Int} {t : Int × Int} (h : 0 ≤ m) (ht : ok t) (e : t.1 * 24 = m * t.2) : c24 m = t := by
  unfold c24; rw [mk_val h (by omega) ht e]
theorem c24_pos {m : Int} (h : in24 m) (h0 : 0 < m) : 1 ≤ (c24 m).1 := by
  obtain ⟨k, e, _⟩ := c24_ok h
  have h1 := k.1
  have h2 := k.2.2.1
  have : 0 < m * (c24 m).2 := Int.mul_pos h0 (by omega)
  omega
theorem c24_inj {m n : Int} (hm : in24 m) (hn : in24 n) (e : c24 m = c24 n) : m = n := by
  obtain ⟨k, e1, _⟩ := c24_ok hm
  obtain ⟨_, e2, _⟩ := c24_ok hn
  rw [e] at e1 k
  have h2 := k.2.2.1
  exact Int.eq_of_mul_eq_mul_right (show (c24 n).2 ≠ 0 by omega) (by omega)
theorem c24_add {m n : Int} (hm : in24 m) (hn : in24 n) (h : in24 (m + n)) : addS (c24 m) (c24 n) = ((c24 (m + n)).1, (c24 (m + n)).2, 0) := by
  obtain ⟨k1, e1, _⟩ := c24_ok hm
  obtain ⟨k2, e2, _⟩ := c24_ok hn
  obtain ⟨k3, e3, _⟩ := c24_ok h
  refine add_val k1 k2 k3 (cancel (show (1 : Int) ≤ 24 by omega) ?_)
  generalize (c24 m).1 = a at *
  generalize (c24 m).2 = a' at *
  generalize (c24 n).1 = b at *
  generalize (c24 n).2 = b' at *
  generalize (c24 (m + n)).1 = t at *
  generalize (c24 (m + n)).2 = t' at *
  grind
theorem c24_sub {m n : Int} (hm : in24 m) (hn : in24 n) (h : n ≤ m) : subS (c24 m) (c24 n) = ((c24 (m - n)).1, (c24 (m - n)).2, 0) := by
  obtain ⟨k1, e1, _⟩ := c24_ok hm
  obtain ⟨k2, e2, _⟩ := c24_ok hn
  obtain ⟨k3, e3, _⟩ := c24_ok (show in24 (m - n) from ⟨by omega, by have := hm.2; have := hn.1; omega⟩)
  refine sub_val k1 k2 k3 (cancel (show (1 : Int) ≤ 24 by omega) ?_)
  generalize (c24 m).1 = a at *
  generalize (c24 m).2 = a' at *
  generalize (c24 n).1 = b at *
  generalize (c24 n).2 = b' at *
  generalize (c24 (m - n)).1 = t at *
  generalize (c24 (m - n)).2 = t' at *
  grind
theorem c24_cross {m n : Int} (hm : in24 m) (hn : in24 n) : ((c24 m).1 * (c24 n).2 - (c24 n).1 * (c24 m).2) * 24 = (m - n) * ((c24 m).2 * (c24 n).2) := by
  obtain ⟨k1, e1, _⟩ := c24_ok hm
  obtain ⟨k2, e2, _⟩ := c24_ok hn
  generalize (c24 m).1 = a at *
  generalize (c24 m).2 = a' at *
  generalize (c24 n).1 = b at *
  generalize (c24 n).2 = b' at *
  grind
theorem c24_cmp {m n : Int} (hm : in24 m) (hn : in24 n) : cmpS (c24 m) (c24 n) = (sgn (m - n), 0) := by
  obtain ⟨k1, e1, _⟩ := c24_ok hm
  obtain ⟨k2, e2, _⟩ := c24_ok hn
  have e := c24_cross hm hn
  unfold cmpS
  rw [both_of_ok k1 k2, if_neg (fun h => h rfl)]
  have h3 : 0 < (c24 m).2 * (c24 n).2 := Int.mul_pos (by have := k1.2.2.1; omega) (by have := k2.2.2.1; omega)
  generalize (c24 m).1 * (c24 n).2 - (c24 n).1 * (c24 m).2 = x at *
  generalize (c24 m).2 * (c24 n).2 = y at *
  congr 1
  unfold sgn
  rcases Int.lt_trichotomy (m - n) 0 with h | h | h
  · have := Int.mul_neg_of_neg_of_pos h h3
    rw [if_pos (by omega), if_pos h]
  · rw [h] at e ⊢
    rw [Int.zero_mul] at e
    rw [if_neg (by omega), if_neg (by omega)]; rfl
  · have := Int.mul_pos h h3
    rw [if_neg (by omega), if_pos (by omega), if_neg (by omega), if_pos h]
end Go.Proofs.YtmlcnmnpkemdpaaDoor

/- Plain mathematics of voices: events, whether they are a voice, chains, changes; no program in sight. -/
namespace Go.Proofs.YtmlcnmnpkemdpaaDoor

/-- An event: onset, duration, pitch (step, octave, alteration), whether it rests, sign, pass. -/
structure Ev where
  at_ : Int × Int
  dur : Int × Int
  pit : Int × Int × Int
  rest : Bool
  sign : Int
  pass : Int
def pchk (p : Int × Int × Int) : Int := if p.1 < 0 ∨ 6 < p.1 ∨ p.2.1 < 0 ∨ 8 < p.2.1 ∨ p.2.2 < -1 ∨ 1 < p.2.2 then 2 else 0
/-- The error of an event, without its place. -/
def oneS (x : Ev) : Int :=
  if chk x.at_.1 x.at_.2 ≠ 0 then chk x.at_.1 x.at_.2
  else if chk x.dur.1 x.dur.2 ≠ 0 then chk x.dur.1 x.dur.2
  else if x.dur.1 = 0 then 2
  else if x.rest = true ∧ x.pit ≠ (0, 0, 0) then 3
  else if x.rest = false ∧ pchk x.pit ≠ 0 then pchk x.pit
  else if x.sign < 0 ∨ x.pass < 0 then 2 else 0
/-- The error of an event behind a time. -/
def stepS (now : Int × Int) (x : Ev) : Int := if oneS x ≠ 0 then oneS x else if x.at_ ≠ now then 6 else (addS x.at_ x.dur).2.2
def nextS (x : Ev) : Int × Int := ((addS x.at_ x.dur).1, (addS x.at_ x.dur).2.1)
/-- The first error of events from a time on, and its place. -/
def checkFrom (now : Int × Int) (i : Int) : List Ev → Int × Int
  | [] => (0, 0)
  | x :: l => if stepS now x ≠ 0 then (stepS now x, i) else checkFrom (nextS x) (i + 1) l
def checkS (l : List Ev) : Int × Int := if 2000 < l.length then (11, 0) else checkFrom (0, 1) 0 l
/-- The end of a voice: numerator, denominator, error. -/
def endS (l : List Ev) : Int × Int × Int :=
  if (checkS l).1 ≠ 0 then (0, 0, (checkS l).1) else match l.getLast? with | none => (0, 1, 0) | some x => addS x.at_ x.dur
/-- Events one behind the other, from a time on. -/
def chainFrom (now : Int × Int) : List Ev → List Ev × Int
  | [] => ([], 0)
  | x :: l => if (addS now x.dur).2.2 ≠ 0 then ([], (addS now x.dur).2.2)
    else if (chainFrom ((addS now x.dur).1, (addS now x.dur).2.1) l).2 ≠ 0 then ([], (chainFrom ((addS now x.dur).1, (addS now x.dur).2.1) l).2)
    else ({ x with at_ := now } :: (chainFrom ((addS now x.dur).1, (addS now x.dur).2.1) l).1, 0)
def chainS (l : List Ev) : List Ev × Int := chainFrom (0, 1) l
/-- A change of all events; the first error. -/
def mapS (g : Ev → Ev × Int) : List Ev → List Ev × Int
  | [] => ([], 0)
  | x :: l => if (g x).2 ≠ 0 then ([], (g x).2) else if (mapS g l).2 ≠ 0 then ([], (mapS g l).2) else ((g x).1 :: (mapS g l).1, 0)
/-- A change, and the chain. -/
def allS (g : Ev → Ev × Int) (l : List Ev) : List Ev × Int := if (mapS g l).2 ≠ 0 then ([], (mapS g l).2) else chainS (mapS g l).1

/-! ### Pitches -/
def numP (p : Int × Int × Int) : Int := 7 * p.2.1 + p.1
/-- The pitch of a number and an alteration, and the error. -/
def ofP (n a : Int) : (Int × Int × Int) × Int := if n < 0 ∨ 62 < n ∨ a < -1 ∨ 1 < a then ((0, 0, 0), 2) else ((n % 7, n / 7, a), 0)
def moveP (p : Int × Int × Int) (steps : Int) : (Int × Int × Int) × Int := if pchk p ≠ 0 then ((0, 0, 0), pchk p) else if steps < -62 ∨ 62 < steps then ((0, 0, 0), 2) else ofP (numP p + steps) p.2.2
def mirrorP (p axis : Int × Int × Int) : (Int × Int × Int) × Int := if pchk p ≠ 0 then ((0, 0, 0), pchk p) else if pchk axis ≠ 0 then ((0, 0, 0), pchk axis) else ofP (2 * numP axis - numP p) (-p.2.2)
/-- What a change of pitches makes of an event. -/
def pitchedS (f : Int × Int × Int → (Int × Int × Int) × Int) (x : Ev) : Ev × Int := if x.rest = true then (x, 0) else ({ x with pit := (f x.pit).1 }, (f x.pit).2)
def stretchedS (by_ : Int × Int) (x : Ev) : Ev × Int := ({ x with dur := ((mulS x.dur by_).1, (mulS x.dur by_).2.1) }, (mulS x.dur by_).2.2)

/-! ### The transformations -/
def retroS (l : List Ev) : List Ev × Int := if (checkS l).1 ≠ 0 then ([], (checkS l).1) else chainS l.reverse
def mirrorS (l : List Ev) (axis : Int × Int × Int) : List Ev × Int := if (checkS l).1 ≠ 0 then ([], (checkS l).1) else if pchk axis ≠ 0 then ([], pchk axis) else allS (pitchedS fun p => mirrorP p axis) l
def moveS (l : List Ev) (steps : Int) : List Ev × Int := if (checkS l).1 ≠ 0 then ([], (checkS l).1) else allS (pitchedS fun p => moveP p steps) l
/-- The error of a time that has to be above 0. -/
def aboveS (t : Int × Int) : Int := if chk t.1 t.2 ≠ 0 then chk t.1 t.2 else if t.1 = 0 then 5 else 0
def stretchS (l : List Ev) (b : Int × Int) : List Ev × Int := if (checkS l).1 ≠ 0 then ([], (checkS l).1) else if aboveS b ≠ 0 then ([], aboveS b) else allS (stretchedS b) l
def restEv (b : Int × Int) : Ev := { at_ := (0, 0), dur := b, pit := (0, 0, 0), rest := true, sign := 0, pass := 0 }
def delayS (l : List Ev) (b : Int × Int) : List Ev × Int := if (checkS l).1 ≠ 0 then ([], (checkS l).1) else if aboveS b ≠ 0 then ([], aboveS b) else if 2000 ≤ l.length then ([], 11) else chainS (restEv b :: l)
def joinS (l m : List Ev) : List Ev × Int := if (checkS l).1 ≠ 0 then ([], (checkS l).1) else if (checkS m).1 ≠ 0 then ([], (checkS m).1) else if 2000 < l.length + m.length then ([], 11) else chainS (l ++ m)
def lessS (a b : Int × Int) : Prop := (cmpS a b).1 < 0
instance (a b : Int × Int) : Decidable (lessS a b) := inferInstanceAs (Decidable (_ < _))
/-- What is left of an event between two times: nothing, or the event with its duration there; or an error. -/
def cutOne (f t : Int × Int) (x : Ev) : List Ev × Int :=
  let a := if lessS x.at_ f then f else x.at_
  let b := if lessS t (nextS x) then t else nextS x
  if lessS a b then (if (subS b a).2.2 ≠ 0 then ([], (subS b a).2.2) else ([{ x with dur := ((subS b a).1, (subS b a).2.1) }], 0)) else ([], 0)
def cutAll (f t : Int × Int) : List Ev → List Ev × Int
  | [] => ([], 0)
  | x :: l => if (cutOne f t x).2 ≠ 0 then ([], (cutOne f t x).2) else if (cutAll f t l).2 ≠ 0 then ([], (cutAll f t l).2) else ((cutOne f t x).1 ++ (cutAll f t l).1, 0)
def cutS (l : List Ev) (f t : Int × Int) : List Ev × Int :=
  if (endS l).2.2 ≠ 0 then ([], (endS l).2.2)
  else if both f t ≠ 0 then ([], both f t)
  else if lessS t f ∨ lessS ((endS l).1, (endS l).2.1) t then ([], 2)
  else if (cutAll f t l).2 ≠ 0 then ([], (cutAll f t l).2) else chainS (cutAll f t l).1

theorem cf_one {now : Int × Int} {i : Int} {x : Ev} {l : List Ev} (h : oneS x ≠ 0) : checkFrom now i (x :: l) = (oneS x, i) := by
  have : stepS now x = oneS x := by unfold stepS; rw [if_pos h]
  rw [checkFrom, this, if_pos h]
theorem cf_at {now : Int × Int} {i : Int} {x : Ev} {l : List Ev} (h : oneS x = 0) (ha : x.at_ ≠ now) : checkFrom now i (x :: l) = (6, i) := by
  have : stepS now x = 6 := by unfold stepS; rw [if_neg (by rw [h]; exact fun h => h rfl), if_pos ha]
  rw [checkFrom, this, if_pos (by decide)]
theorem cf_add {now : Int × Int} {i : Int} {x : Ev} {l : List Ev} (h : oneS x = 0) (ha : x.at_ = now) (he : (addS x.at_ x.dur).2.2 ≠ 0) : checkFrom now i (x :: l) = ((addS x.at_ x.dur).2.2, i) := by
  have : stepS now x = (addS x.at_ x.dur).2.2 := by unfold stepS; rw [if_neg (by rw [h]; exact fun h => h rfl), if_neg (by rw [ha]; exact fun h => h rfl)]
  rw [checkFrom, this, if_pos he]
theorem cf_next {now : Int × Int} {i : Int} {x : Ev} {l : List Ev} (h : oneS x = 0) (ha : x.at_ = now) (he : (addS x.at_ x.dur).2.2 = 0) : checkFrom now i (x :: l) = checkFrom ((addS x.at_ x.dur).1, (addS x.at_ x.dur).2.1) (i + 1) l := by
  have : stepS now x = (addS x.at_ x.dur).2.2 := by unfold stepS; rw [if_neg (by rw [h]; exact fun h => h rfl), if_neg (by rw [ha]; exact fun h => h rfl)]
  rw [checkFrom, this, he, if_neg (fun h => h rfl)]; rfl
/-! ### A voice that is one is chained as it is -/
theorem chain_of_check (l : List Ev) : ∀ (now : Int × Int) (i : Int), 0 ≤ i → (checkFrom now i l).1 = 0 → chainFrom now l = (l, 0) := by
  induction l with
  | nil => intro now i _ _; rfl
  | cons x l ih =>
    intro now i hi h
    rw [checkFrom] at h
    split at h
    · rename_i hs; exact absurd h hs
    · rename_i hs
      have hs' : stepS now x = 0 := by simpa using hs
      unfold stepS at hs'
      split at hs'
      · rename_i h1; exact absurd hs' h1
      · split at hs'
        · cases hs'
        · rename_i h1 h2
          have hat : x.at_ = now := by simpa using h2
          subst hat
          have := ih (nextS x) (i + 1) (by omega) h
          rw [chainFrom, hs', if_neg (fun h => h rfl)]
          unfold nextS at this
          rw [this, if_neg (fun h => h rfl)]
theorem chain_valid (l : List Ev) (h : (checkS l).1 = 0) : chainS l = (l, 0) := by
  unfold checkS at h
  split at h
  · cases h
  · exact chain_of_check l _ 0 (by omega) h
/-- Changes that keep durations keep the chain. -/
theorem mapS_len (g : Ev → Ev × Int) (l : List Ev) (h : (mapS g l).2 = 0) : (mapS g l).1.length = l.length := by
  induction l with
  | nil => rfl
  | cons x l ih =>
    rw [mapS] at h ⊢
    split at h
    · rename_i h1; exact absurd h h1
    · split at h
      · rename_i h1 h2; exact absurd h h2
      · rename_i h1 h2
        rw [if_neg h1, if_neg h2]
        simp only [List.length_cons]
        rw [ih (by simpa using h2)]
theorem chain_map (g : Ev → Ev × Int) (hg : ∀ x, (g x).2 = 0 → (g x).1.dur = x.dur ∧ (g x).1.at_ = x.at_) (l : List Ev) : ∀ now, chainFrom now l = (l, 0) → (mapS g l).2 = 0 → chainFrom now (mapS g l).1 = ((mapS g l).1, 0) := by
  induction l with
  | nil => intro now _ _; rfl
  | cons x l ih =>
    intro now hc h
    rw [mapS] at h ⊢
    split at h
    · rename_i h1; exact absurd h h1
    · split at h
      · rename_i h1 h2; exact absurd h h2
      · rename_i h1 h2
        rw [if_neg h1, if_neg h2]
        obtain ⟨gd, ga⟩ := hg x (by simpa using h1)
        rw [chainFrom] at hc ⊢
        simp only [gd]
        split at hc
        · cases hc
        · rename_i h3
          split at hc
          · cases hc
          · rename_i h4
            rw [if_neg h3]
            simp only [Prod.mk.injEq, List.cons.injEq, and_true] at hc
            have := ih _ (Prod.ext hc.2 (by simpa using h4)) (by simpa using h2)
            rw [this, if_neg (fun h => h rfl)]
            congr 2
            have e := congrArg Ev.at_ hc.1
            simp only at e
            rw [← ga] at e
            rw [e, ← gd]
theorem pitched_keeps (f : Int × Int × Int → (Int × Int × Int) × Int) (x : Ev) : (pitchedS f x).1.dur = x.dur ∧ (pitchedS f x).1.at_ = x.at_ := by
  unfold pitchedS; split <;> exact ⟨rfl, rfl⟩
/-- What the reference makes: the changed events, without a chain. -/
theorem all_pitched (f : Int × Int × Int → (Int × Int × Int) × Int) (l : List Ev) (h : (checkS l).1 = 0) : allS (pitchedS f) l = mapS (pitchedS f) l := by
  unfold allS
  split
  · rename_i h1
    have : ∀ l, (mapS (pitchedS f) l).2 ≠ 0 → (mapS (pitchedS f) l).1 = [] := by
      intro l
      induction l with
      | nil => intro _; rfl
      | cons x l ih =>
        rw [mapS]
        split
        · intro _; rfl
        · split
          · intro _; rfl
          · intro h; exact absurd rfl h
    exact (Prod.ext (this l h1) rfl : mapS (pitchedS f) l = ([], (mapS (pitchedS f) l).2)).symm
  · rename_i h1
    unfold chainS
    rw [chain_map _ (fun x _ => pitched_keeps f x) l _ (chain_valid l h) (by simpa using h1)]
    exact Prod.ext rfl (by simpa using h1 : (mapS (pitchedS f) l).2 = 0).symm
end Go.Proofs.YtmlcnmnpkemdpaaDoor

/- Plain mathematics of cut voices. -/
namespace Go.Proofs.YtmlcnmnpkemdpaaDoor

def lessB (a b : Int × Int) : Bool := decide ((cmpS a b).1 < 0)
theorem lessB_iff (a b : Int × Int) : lessB a b = true ↔ lessS a b := by unfold lessB lessS; simp
theorem both_zero_comm {a b : Int × Int} (h : both a b = 0) : both b a = 0 := by
  obtain ⟨h1, h2⟩ := both_ok h; exact both_of_ok h2 h1
theorem cmp_turn (a b : Int × Int) : (cmpS b a).1 = -(cmpS a b).1 := by
  unfold cmpS
  by_cases h : both a b = 0
  · rw [h, both_zero_comm h, if_neg (fun h => h rfl), if_neg (fun h => h rfl)]
    simp only
    generalize hx : a.1 * b.2 - b.1 * a.2 = x
    have : b.1 * a.2 - a.1 * b.2 = -x := by omega
    rw [this]
    unfold sgn
    (repeat' split) <;> omega
  · rw [if_pos h, if_pos (fun h' => h (both_zero_comm h'))]; rfl
theorem cmp_pos (a b : Int × Int) : decide (0 < (cmpS a b).1) = lessB b a := by
  unfold lessB; rw [cmp_turn a b]; simp only [decide_eq_decide]; omega
/-- Whether the range of a cut does not fit. -/
def rangeB (l : List Ev) (f t : Int × Int) : Bool := lessB t f || lessB ((endS l).1, (endS l).2.1) t
/-- From where and to where an event sounds. -/
def fromS (f : Int × Int) (x : Ev) : Int × Int := if lessB x.at_ f = true then f else x.at_
def toS (t : Int × Int) (x : Ev) : Int × Int := if lessB t (nextS x) = true then t else nextS x
theorem cutOne_v (f t : Int × Int) (x : Ev) : cutOne f t x = if lessB (fromS f x) (toS t x) = true then (if (subS (toS t x) (fromS f x)).2.2 ≠ 0 then ([], (subS (toS t x) (fromS f x)).2.2) else ([{ x with dur := ((subS (toS t x) (fromS f x)).1, (subS (toS t x) (fromS f x)).2.1) }], 0)) else ([], 0) := by
  unfold cutOne fromS toS
  simp only [lessB_iff]
theorem cutS_v (l : List Ev) (f t : Int × Int) : cutS l f t = if (endS l).2.2 ≠ 0 then ([], (endS l).2.2) else if both f t ≠ 0 then ([], both f t) else if rangeB l f t = true then ([], 2) else if (cutAll f t l).2 ≠ 0 then ([], (cutAll f t l).2) else chainS (cutAll f t l).1 := by
  unfold cutS rangeB
  simp only [Bool.or_eq_true, lessB_iff]
def cutAt (f t : Int × Int) (done l : List Ev) : List Ev × Int := if (cutAll f t l).2 ≠ 0 then ([], (cutAll f t l).2) else (done ++ (cutAll f t l).1, 0)
theorem cutAll_err (f t : Int × Int) (l : List Ev) (h : (cutAll f t l).2 ≠ 0) : (cutAll f t l).1 = [] := by
  cases l with
  | nil => rfl
  | cons x l =>
    rw [cutAll] at h ⊢
    split
    · rfl
    · rename_i h1
      rw [if_neg h1] at h
      split
      · rfl
      · rename_i h2; rw [if_neg h2] at h; exact absurd rfl h
theorem cutAt_nil (f t : Int × Int) (l : List Ev) : cutAt f t [] l = cutAll f t l := by
  unfold cutAt
  split
  · rename_i h; rw [← cutAll_err f t l h]
  · rename_i h
    have h2 : (cutAll f t l).2 = 0 := Decidable.byContradiction h
    rw [List.nil_append, ← h2]
theorem cutAt_end (f t : Int × Int) (done : List Ev) : cutAt f t done [] = (done, 0) := by simp [cutAt, cutAll]
theorem cutAt_bad (f t : Int × Int) (done : List Ev) (x : Ev) (l : List Ev) (h : (cutOne f t x).2 ≠ 0) : cutAt f t done (x :: l) = ([], (cutOne f t x).2) := by
  unfold cutAt
  rw [cutAll, if_pos h, if_pos h]
theorem cutAt_ok (f t : Int × Int) (done : List Ev) (x : Ev) (l : List Ev) (h : (cutOne f t x).2 = 0) : cutAt f t done (x :: l) = cutAt f t (done ++ (cutOne f t x).1) l := by
  unfold cutAt
  rw [cutAll, if_neg (show ¬ ((cutOne f t x).2 ≠ 0) from fun hn => hn h)]
  generalize cutAll f t l = z
  obtain ⟨r, e⟩ := z
  by_cases h2 : e = 0
  · subst h2; simp
  · simp [h2]
theorem cutS_good (l : List Ev) (f t : Int × Int) (h1 : (endS l).2.2 = 0) (h2 : both f t = 0) (h3 : rangeB l f t = false) : cutS l f t = if (cutAll f t l).2 ≠ 0 then ([], (cutAll f t l).2) else chainS (cutAll f t l).1 := by
  rw [cutS_v, h1, if_neg (fun h => h rfl), h2, if_neg (fun h => h rfl), h3, if_neg (by simp)]
/-- In a voice every event's end is a time. -/
theorem add_of_check (l : List Ev) : ∀ (now : Int × Int) (i : Int), 0 ≤ i → (checkFrom now i l).1 = 0 → ∀ x ∈ l, (addS x.at_ x.dur).2.2 = 0 := by
  induction l with
  | nil => intro _ _ _ _ x hx; simp at hx
  | cons y l ih =>
    intro now i hi h x hx
    rw [checkFrom] at h
    split at h
    · rename_i hs; exact absurd h hs
    · rename_i hs
      have hs' : stepS now y = 0 := by simpa using hs
      unfold stepS at hs'
      split at hs'
      · rename_i h1; exact absurd hs' h1
      · split at hs'
        · cases hs'
        · rcases List.mem_cons.1 hx with rfl | hx
          · exact hs'
          · exact ih (nextS y) (i + 1) (by omega) h x hx
theorem add_of_end {l : List Ev} (h : (endS l).2.2 = 0) : ∀ x ∈ l, (addS x.at_ x.dur).2.2 = 0 := by
  have hc : (checkS l).1 = 0 := by
    unfold endS at h
    split at h
    · rename_i h1; exact absurd h h1
    · rename_i h1; simpa using h1
  unfold checkS at hc
  split at hc
  · cases hc
  · exact add_of_check l _ 0 (by omega) hc
end Go.Proofs.YtmlcnmnpkemdpaaDoor

/- How long the transformed voices are. -/
namespace Go.Proofs.YtmlcnmnpkemdpaaDoor
theorem chainFrom_len (l : List Ev) : ∀ now, (chainFrom now l).1.length ≤ l.length := by
  induction l with
  | nil => intro _; simp [chainFrom]
  | cons x l ih =>
    intro now
    rw [chainFrom]
    split
    · simp
    · split
      · simp
      · simp only [List.length_cons]; have := ih ((addS now x.dur).1, (addS now x.dur).2.1); omega
theorem mapS_le (g : Ev → Ev × Int) (l : List Ev) : (mapS g l).1.length ≤ l.length := by
  induction l with
  | nil => simp [mapS]
  | cons x l ih =>
    rw [mapS]
    split
    · simp
    · split
      · simp
      · simp only [List.length_cons]; omega
theorem allS_le (g : Ev → Ev × Int) (l : List Ev) : (allS g l).1.length ≤ l.length := by
  unfold allS
  split
  · simp
  · have h1 := chainFrom_len (mapS g l).1 (0, 1); have h2 := mapS_le g l; unfold chainS; omega
theorem cutOne_le (f t : Int × Int) (x : Ev) : (cutOne f t x).1.length ≤ 1 := by
  rw [cutOne_v]; (repeat' split) <;> simp
theorem cutAll_le (f t : Int × Int) (l : List Ev) : (cutAll f t l).1.length ≤ l.length := by
  induction l with
  | nil => simp [cutAll]
  | cons x l ih =>
    rw [cutAll]
    split
    · simp
    · split
      · simp
      · simp only [List.length_append, List.length_cons]; have := cutOne_le f t x; omega
theorem retroS_len (l : List Ev) (h : l.length ≤ 4000) : (retroS l).1.length ≤ 4000 := by
  unfold retroS; split
  · simp
  · have := chainFrom_len l.reverse (0, 1); rw [List.length_reverse] at this; unfold chainS; omega
theorem mirrorS_len (l : List Ev) (a : Int × Int × Int) (h : l.length ≤ 4000) : (mirrorS l a).1.length ≤ 4000 := by
  unfold mirrorS; split
  · simp
  · split
    · simp
    · have := allS_le (pitchedS fun p => mirrorP p a) l; omega
theorem moveS_len (l : List Ev) (s : Int) (h : l.length ≤ 4000) : (moveS l s).1.length ≤ 4000 := by
  unfold moveS; split
  · simp
  · have := allS_le (pitchedS fun p => moveP p s) l; omega
theorem stretchS_len (l : List Ev) (b : Int × Int) (h : l.length ≤ 4000) : (stretchS l b).1.length ≤ 4000 := by
  unfold stretchS; split
  · simp
  · split
    · simp
    · have := allS_le (stretchedS b) l; omega
theorem delayS_len (l : List Ev) (b : Int × Int) (_ : l.length ≤ 3999) : (delayS l b).1.length ≤ 4000 := by
  unfold delayS; split
  · simp
  · split
    · simp
    · split
      · simp
      · have := chainFrom_len (restEv b :: l) (0, 1); simp only [List.length_cons] at this; unfold chainS; omega
theorem joinS_len (l m : List Ev) (_ : l.length + m.length ≤ 4000) : (joinS l m).1.length ≤ 4000 := by
  unfold joinS; split
  · simp
  · split
    · simp
    · split
      · simp
      · have := chainFrom_len (l ++ m) (0, 1); rw [List.length_append] at this; unfold chainS; omega
theorem cutS_len (l : List Ev) (f t : Int × Int) (h : l.length ≤ 4000) : (cutS l f t).1.length ≤ 4000 := by
  rw [cutS_v]; split
  · simp
  · split
    · simp
    · split
      · simp
      · split
        · simp
        · have h1 := chainFrom_len (cutAll f t l).1 (0, 1); have h2 := cutAll_le f t l; unfold chainS; omega
end Go.Proofs.YtmlcnmnpkemdpaaDoor

/- Plain mathematics of the statements on small times: the times made of numbers are whole multiples of 1/24; sums and products are taken back; a whole multiple and a rest. -/
namespace Go.Proofs.YtmlcnmnpkemdpaaDoor
def partS (k : Int) : Int := [1, 1, 1, 2, 2, 3, 4, 6, 8].getD k.toNat 0
/-- The small time made of a number. -/
def spS (n : Int) : Int × Int := tS (1 + n % 216 / 9) (partS (n % 216 % 9))
/-- How many 24ths it has. -/
def k24 (n : Int) : Int := (1 + n % 216 / 9) * [24, 24, 24, 12, 12, 8, 6, 4, 3].getD (n % 216 % 9).toNat 0
theorem spS_fin : ∀ k : Fin 216, tS (1 + (k.val : Int) / 9) (partS ((k.val : Int) % 9)) = c24 ((1 + (k.val : Int) / 9) * [24, 24, 24, 12, 12, 8, 6, 4, 3].getD ((k.val : Int) % 9).toNat 0) ∧ 3 ≤ (1 + (k.val : Int) / 9) * [24, 24, 24, 12, 12, 8, 6, 4, 3].getD ((k.val : Int) % 9).toNat 0 ∧ (1 + (k.val : Int) / 9) * [24, 24, 24, 12, 12, 8, 6, 4, 3].getD ((k.val : Int) % 9).toNat 0 ≤ 576 ∧ (tS (1 + (k.val : Int) / 9) (partS ((k.val : Int) % 9))).1 ≤ 24 ∧ (tS (1 + (k.val : Int) / 9) (partS ((k.val : Int) % 9))).2 ≤ 8 := by decide +kernel
theorem spS_24 (n : Int) : spS n = c24 (k24 n) ∧ 3 ≤ k24 n ∧ k24 n ≤ 576 ∧ (spS n).1 ≤ 24 ∧ (spS n).2 ≤ 8 := by
  have h0 := Int.emod_nonneg n (show (216 : Int) ≠ 0 by omega)
  have h1 := Int.emod_lt_of_pos n (show (0 : Int) < 216 by omega)
  have := spS_fin ⟨(n % 216).toNat, by omega⟩
  simp only [show (((n % 216).toNat : Nat) : Int) = n % 216 by omega] at this
  unfold spS k24
  exact this
theorem spS_ok (n : Int) : ok (spS n) ∧ 1 ≤ (spS n).1 ∧ (spS n).1 ≤ 24 ∧ (spS n).2 ≤ 8 := by
  obtain ⟨e, h1, h2, h3, h4⟩ := spS_24 n
  have := c24_ok (m := k24 n) ⟨by omega, by omega⟩
  have h5 := c24_pos (m := k24 n) ⟨by omega, by omega⟩ (by omega)
  rw [← e] at this h5
  exact ⟨this.1, h5, h3, h4⟩
/-- Two small times: sum and product do not depend on the order, and are taken back. -/
theorem back_facts (x y : Int × Int) (hx : ok x) (hx1 : 1 ≤ x.1) (hx2 : x.1 ≤ 24) (hx3 : x.2 ≤ 8) (hy : ok y) (hy1 : 1 ≤ y.1) (hy2 : y.1 ≤ 24) (hy3 : y.2 ≤ 8) :
    ∃ s t : Int × Int, addS x y = (s.1, s.2, 0) ∧ addS y x = (s.1, s.2, 0) ∧ subS s y = (x.1, x.2, 0) ∧ mulS x y = (t.1, t.2, 0) ∧ mulS y x = (t.1, t.2, 0) ∧ divS t y = (x.1, x.2, 0) := by
  have b1 := mul_bd (show 0 ≤ x.1 by omega) (show 0 ≤ y.2 by have := hy.2.2.1; omega) hx2 hy3
  have b2 := mul_bd (show 0 ≤ y.1 by omega) (show 0 ≤ x.2 by have := hx.2.2.1; omega) hy2 hx3
  have b3 := mul_bd (show 0 ≤ x.2 by have := hx.2.2.1; omega) (show 0 ≤ y.2 by have := hy.2.2.1; omega) hx3 hy3
  have b4 := mul_bd (show 0 ≤ x.1 by omega) (show 0 ≤ y.1 by omega) hx2 hy2
  have b5 : 1 ≤ x.2 * y.2 := by have := Int.mul_le_mul hx.2.2.1 hy.2.2.1 (by omega) (by have := hx.2.2.1; omega); omega
  obtain ⟨s, hs, e1, e2⟩ := mk_small (n := x.1 * y.2 + y.1 * x.2) (d := x.2 * y.2) (by omega) (by omega) b5 (by omega)
  obtain ⟨t, ht, e3, e4⟩ := mk_small (n := x.1 * y.1) (d := x.2 * y.2) (by omega) (by omega) b5 (by omega)
  refine ⟨s, t, add_val hx hy hs e2, add_val hy hx hs (by grind), sub_val hs hy hx ?_, mul_val hx hy ht e4, mul_val hy hx ht (by grind), div_val ht hy hy1 hx ?_⟩
  · have h2 := hy.2.2.1
    refine cancel h2 ?_
    grind
  · grind
end Go.Proofs.YtmlcnmnpkemdpaaDoor

/- Plain mathematics of voices made of numbers: their times are whole multiples of 1/q; turned round, upside down, moved, stretched, joined, delayed, cut. -/
namespace Go.Proofs.YtmlcnmnpkemdpaaDoor

/-! ### Whole multiples of 1/q -/
def cq (q m : Int) : Int × Int := ((mk m q).1, (mk m q).2.1)
def inq (q m : Int) : Prop := 1 ≤ q ∧ q ≤ 1048576 ∧ 0 ≤ m ∧ m ≤ 1099511627776
theorem cq_ok {q m : Int} (h : inq q m) : ok (cq q m) ∧ (cq q m).1 * q = m * (cq q m).2 ∧ mk m q = ((cq q m).1, (cq q m).2, 0) := by
  obtain ⟨t, ht, e1, e2⟩ := mk_small h.2.2.1 h.2.2.2 h.1 h.2.1
  unfold cq
  rw [e1]
  exact ⟨ht, e2, rfl⟩
theorem cq_of {q m : Int} {t : Int × Int} (hq : 1 ≤ q) (h : 0 ≤ m) (ht : ok t) (e : t.1 * q = m * t.2) : cq q m = t := by
  unfold cq; rw [mk_val h hq ht e]
theorem cq_pos {q m : Int} (h : inq q m) (h0 : 0 < m) : 1 ≤ (cq q m).1 := by
  obtain ⟨k, e, _⟩ := cq_ok h
  have h1 := k.1
  have h2 := k.2.2.1
  have h3 : 0 < m * (cq q m).2 := Int.mul_pos h0 (by omega)
  rcases Int.lt_or_le (cq q m).1 1 with h4 | h4
  · have : (cq q m).1 = 0 := by omega
    rw [this, Int.zero_mul] at e
    omega
  · exact h4
theorem cq_add {q m n : Int} (hm : inq q m) (hn : inq q n) (h : inq q (m + n)) : addS (cq q m) (cq q n) = ((cq q (m + n)).1, (cq q (m + n)).2, 0) := by
  obtain ⟨k1, e1, _⟩ := cq_ok hm
  obtain ⟨k2, e2, _⟩ := cq_ok hn
  obtain ⟨k3, e3, _⟩ := cq_ok h
  refine add_val k1 k2 k3 (cancel hm.1 ?_)
  generalize (cq q m).1 = a at *
  generalize (cq q m).2 = a' at *
  generalize (cq q n).1 = b at *
  generalize (cq q n).2 = b' at *
  generalize (cq q (m + n)).1 = t at *
  generalize (cq q (m + n)).2 = t' at *
  grind
theorem cq_sub {q m n : Int} (hm : inq q m) (hn : inq q n) (h : n ≤ m) : subS (cq q m) (cq q n) = ((cq q (m - n)).1, (cq q (m - n)).2, 0) := by
  obtain ⟨k1, e1, _⟩ := cq_ok hm
  obtain ⟨k2, e2, _⟩ := cq_ok hn
  obtain ⟨k3, e3, _⟩ := cq_ok (show inq q (m - n) from ⟨hm.1, hm.2.1, by omega, by have := hm.2.2.2; have := hn.2.2.1; omega⟩)
  refine sub_val k1 k2 k3 (cancel hm.1 ?_)
  generalize (cq q m).1 = a at *
  generalize (cq q m).2 = a' at *
  generalize (cq q n).1 = b at *
  generalize (cq q n).2 = b' at *
  generalize (cq q (m - n)).1 = t at *
  generalize (cq q (m - n)).2 = t' at *
  grind
theorem cq_cross {q m n : Int} (hm : inq q m) (hn : inq q n) : ((cq q m).1 * (cq q n).2 - (cq q n).1 * (cq q m).2) * q = (m - n) * ((cq q m).2 * (cq q n).2) := by
  obtain ⟨k1, e1, _⟩ := cq_ok hm
  obtain ⟨k2, e2, _⟩ := cq_ok hn
  generalize (cq q m).1 = a at *
  generalize (cq q m).2 = a' at *
  generalize (cq q n).1 = b at *
  generalize (cq q n).2 = b' at *
  grind
theorem cq_less {q m n : Int} (hm : inq q m) (hn : inq q n) : lessB (cq q m) (cq q n) = decide (m < n) := by
  obtain ⟨k1, e1, _⟩ := cq_ok hm
  obtain ⟨k2, e2, _⟩ := cq_ok hn
  have e := cq_cross hm hn
  unfold lessB cmpS
  rw [both_of_ok k1 k2, if_neg (fun h => h rfl)]
  have h3 : 0 < (cq q m).2 * (cq q n).2 := Int.mul_pos (by have := k1.2.2.1; omega) (by have := k2.2.2.1; omega)
  have hq := hm.1
  simp only
  generalize (cq q m).1 * (cq q n).2 - (cq q n).1 * (cq q m).2 = x at *
  generalize (cq q m).2 * (cq q n).2 = y at *
  rw [decide_eq_decide]
  unfold sgn
  rcases Int.lt_trichotomy (m - n) 0 with h | h | h
  · have h5 := Int.mul_neg_of_neg_of_pos h h3
    have : x < 0 := by
      rcases Int.lt_or_le x 0 with h6 | h6
      · exact h6
      · have := Int.mul_nonneg h6 (show 0 ≤ q by omega); omega
    rw [if_pos this]; omega
  · rw [h, Int.zero_mul] at e
    have : x = 0 := by
      rcases Int.mul_eq_zero.1 e with h6 | h6
      · exact h6
      · omega
    rw [this]; simp; omega
  · have h5 := Int.mul_pos h h3
    have : 0 < x := by
      rcases Int.lt_or_le 0 x with h6 | h6
      · exact h6
      · have := Int.mul_nonneg (show 0 ≤ -x by omega) (show 0 ≤ q by omega)
        rw [Int.neg_mul] at this; omega
    rw [if_neg (by omega), if_pos this]; simp; omega
theorem cq_zero {q : Int} (h : 1 ≤ q) (_ : q ≤ 1048576) : cq q 0 = (0, 1) :=
  cq_of h (by omega) (by unfold ok; exact ⟨by omega, by omega, by omega, by omega, by decide⟩) (by simp)

/-! ### Voices laid out -/
/-- What an event is but for its times. -/
structure Pay where
  pit : Int × Int × Int
  rest : Bool
  sign : Int
  pass : Int
def Pay.ev (p : Pay) (a d : Int × Int) : Ev := ⟨a, d, p.pit, p.rest, p.sign, p.pass⟩
def Pay.good (p : Pay) : Prop := (p.rest = true → p.pit = (0, 0, 0)) ∧ (p.rest = false → pchk p.pit = 0) ∧ 0 ≤ p.sign ∧ 0 ≤ p.pass
/-- Events one behind the other, of durations m/q each. -/
def lay (q s : Int) : List (Int × Pay) → List Ev
  | [] => []
  | z :: l => z.2.ev (cq q s) (cq q z.1) :: lay q (s + z.1) l
def sumM (l : List (Int × Pay)) : Int := (l.map (·.1)).sum
theorem sumM_cons (z : Int × Pay) (l : List (Int × Pay)) : sumM (z :: l) = z.1 + sumM l := by simp [sumM]
theorem sumM_nil : sumM [] = 0 := rfl
theorem sumM_append (l m : List (Int × Pay)) : sumM (l ++ m) = sumM l + sumM m := by simp [sumM]
theorem sumM_reverse (l : List (Int × Pay)) : sumM l.reverse = sumM l := by
  induction l with
  | nil => rfl
  | cons z l ih => rw [List.reverse_cons, sumM_append, ih, sumM_cons, sumM_cons, sumM_nil]; omega
def pos (l : List (Int × Pay)) : Prop := ∀ z ∈ l, 0 < z.1 ∧ z.2.good
theorem pos_cons {z : Int × Pay} {l : List (Int × Pay)} (h : pos (z :: l)) : (0 < z.1 ∧ z.2.good) ∧ pos l := ⟨h z (by simp), fun y hy => h y (by simp [hy])⟩
theorem pos_reverse {l : List (Int × Pay)} (h : pos l) : pos l.reverse := fun z hz => h z (by simpa using hz)
theorem pos_append {l m : List (Int × Pay)} (h : pos l) (h' : pos m) : pos (l ++ m) := fun z hz => by
  rcases List.mem_append.1 hz with h1 | h1
  · exact h z h1
  · exact h' z h1
theorem sumM_nonneg {l : List (Int × Pay)} (h : pos l) : 0 ≤ sumM l := by
  induction l with
  | nil => simp [sumM]
  | cons z l ih => rw [sumM_cons]; have := (pos_cons h).1.1; have := ih (pos_cons h).2; omega
def okq (q : Int) : Prop := 1 ≤ q ∧ q ≤ 1048576
theorem inq_of {q m : Int} (hq : okq q) (h : 0 ≤ m) (h' : m ≤ 1099511627776) : inq q m := ⟨hq.1, hq.2, h, h'⟩
/-- The chain does not look at the onsets that were there. -/
def strip (x : Ev) : Ev := { x with at_ := (0, 0) }
theorem chain_strip (l : List Ev) : ∀ now, chainFrom now l = chainFrom now (l.map strip) := by
  induction l with
  | nil => intro _; rfl
  | cons x l ih =>
    intro now
    rw [List.map_cons, chainFrom, chainFrom]
    show _ = if (addS now x.dur).2.2 ≠ 0 then _ else _
    rw [ih]
    rfl
def bare (q : Int) (l : List (Int × Pay)) : List Ev := l.map fun z => z.2.ev (0, 0) (cq q z.1)
theorem lay_strip (q : Int) (l : List (Int × Pay)) : ∀ s, (lay q s l).map strip = bare q l := by
  induction l with
  | nil => intro _; rfl
  | cons z l ih => intro s; rw [lay, List.map_cons, ih]; rfl
theorem bare_reverse (q : Int) (l : List (Int × Pay)) : (bare q l).reverse = bare q l.reverse := by unfold bare; rw [List.map_reverse]
theorem bare_append (q : Int) (l m : List (Int × Pay)) : bare q l ++ bare q m = bare q (l ++ m) := by unfold bare; rw [List.map_append]
theorem chain_bare {q : Int} (hq : okq q) (l : List (Int × Pay)) : ∀ s, 0 ≤ s → pos l → s + sumM l ≤ 1099511627776 → chainFrom (cq q s) (bare q l) = (lay q s l, 0) := by
  induction l with
  | nil => intro _ _ _ _; rfl
  | cons z l ih =>
    intro s hs hp hb
    obtain ⟨⟨h1, h2⟩, h3⟩ := pos_cons hp
    have h4 := sumM_nonneg h3
    rw [sumM_cons] at hb
    have ha := cq_add (inq_of hq hs (by omega)) (inq_of hq (show 0 ≤ z.1 by omega) (by omega)) (inq_of hq (by omega) (by omega))
    show chainFrom (cq q s) (z.2.ev (0, 0) (cq q z.1) :: bare q l) = _
    rw [chainFrom, show addS (cq q s) (z.2.ev (0, 0) (cq q z.1)).dur = ((cq q (s + z.1)).1, (cq q (s + z.1)).2, 0) from ha, if_neg (fun h => h rfl)]
    show (if (chainFrom (cq q (s + z.1)) (bare q l)).2 ≠ 0 then _ else ({ z.2.ev (0, 0) (cq q z.1) with at_ := cq q s } :: (chainFrom (cq q (s + z.1)) (bare q l)).1, (0 : Int))) = _
    rw [ih (s + z.1) (by omega) h3 (by omega), if_neg (fun h => h rfl)]
    rfl
/-- A laid out voice is one. -/
theorem check_lay {q : Int} (hq : okq q) (l : List (Int × Pay)) : ∀ s i, 0 ≤ s → pos l → s + sumM l ≤ 1099511627776 → checkFrom (cq q s) i (lay q s l) = (0, 0) := by
  induction l with
  | nil => intro _ _ _ _ _; rfl
  | cons z l ih =>
    intro s i hs hp hb
    obtain ⟨⟨h1, h2⟩, h3⟩ := pos_cons hp
    have h4 := sumM_nonneg h3
    rw [sumM_cons] at hb
    have is := inq_of hq hs (show s ≤ 1099511627776 by omega)
    have iz := inq_of hq (show 0 ≤ z.1 by omega) (show z.1 ≤ 1099511627776 by omega)
    have ha := cq_add is iz (inq_of hq (by omega) (by omega))
    have k1 := (cq_ok is).1
    have k2 := (cq_ok iz).1
    have k3 := cq_pos iz h1
    have hone : oneS (z.2.ev (cq q s) (cq q z.1)) = 0 := by
      obtain ⟨g1, g2, g3, g4⟩ := h2
      unfold oneS
      show (if chk (cq q s).1 (cq q s).2 ≠ 0 then _ else if chk (cq q z.1).1 (cq q z.1).2 ≠ 0 then _ else if (cq q z.1).1 = 0 then _ else if z.2.rest = true ∧ z.2.pit ≠ (0, 0, 0) then _ else if z.2.rest = false ∧ pchk z.2.pit ≠ 0 then _ else if z.2.sign < 0 ∨ z.2.pass < 0 then _ else _) = _
      rw [chk_of_ok k1, if_neg (fun h => h rfl), chk_of_ok k2, if_neg (fun h => h rfl), if_neg (by omega), if_neg (fun h => h.2 (g1 h.1)), if_neg (fun h => h.2 (g2 h.1)), if_neg (by omega)]
    rw [lay, cf_next (now := cq q s) hone rfl (by show (addS (cq q s) (cq q z.1)).2.2 = 0; rw [ha])]
    show checkFrom ((addS (cq q s) (cq q z.1)).1, (addS (cq q s) (cq q z.1)).2.1) (i + 1) (lay q (s + z.1) l) = _
    rw [ha]
    exact ih (s + z.1) (i + 1) (by omega) h3 (by omega)
theorem lay_len (q : Int) (l : List (Int × Pay)) : ∀ s, (lay q s l).length = l.length := by
  induction l with
  | nil => intro _; rfl
  | cons z l ih => intro s; rw [lay, List.length_cons, List.length_cons, ih]
/-- A voice of at most 2000 events that is short enough. -/
def fit (l : List (Int × Pay)) : Prop := pos l ∧ sumM l ≤ 1099511627776 ∧ l.length ≤ 2000
theorem checkS_lay {q : Int} (hq : okq q) {l : List (Int × Pay)} (h : fit l) : checkS (lay q 0 l) = (0, 0) := by
  unfold checkS
  rw [lay_len, if_neg (by have := h.2.2; omega), ← cq_zero hq.1 hq.2]
  exact check_lay hq l 0 0 (by omega) h.1 (by have := h.2.1; omega)
theorem chain0 {q : Int} (hq : okq q) {l : List (Int × Pay)} (h : fit l) {m : List Ev} (hm : m.map strip = bare q l) : chainS m = (lay q 0 l, 0) := by
  unfold chainS
  rw [chain_strip, hm, ← cq_zero hq.1 hq.2]
  exact chain_bare hq l 0 (by omega) h.1 (by have := h.2.1; omega)
theorem fit_reverse {l : List (Int × Pay)} (h : fit l) : fit l.reverse := ⟨pos_reverse h.1, by rw [sumM_reverse]; exact h.2.1, by simpa using h.2.2⟩
theorem retro_lay {q : Int} (hq : okq q) {l : List (Int × Pay)} (h : fit l) : retroS (lay q 0 l) = (lay q 0 l.reverse, 0) := by
  unfold retroS
  rw [checkS_lay hq h, if_neg (fun h => h rfl)]
  exact chain0 hq (fit_reverse h) (by rw [List.map_reverse, lay_strip, bare_reverse])
/-! ### Pitches changed -/
def onPay (f : Int × Int × Int → Int × Int × Int) (p : Pay) : Pay := if p.rest = true then p else { p with pit := f p.pit }
def onZ (f : Int × Int × Int → Int × Int × Int) (l : List (Int × Pay)) : List (Int × Pay) := l.map fun z => (z.1, onPay f z.2)
theorem map_lay (q : Int) (f : Int × Int × Int → (Int × Int × Int) × Int) (g : Int × Int × Int → Int × Int × Int) (l : List (Int × Pay)) : ∀ s, (∀ z ∈ l, z.2.rest = false → f z.2.pit = (g z.2.pit, 0)) → mapS (pitchedS f) (lay q s l) = (lay q s (onZ g l), 0) := by
  induction l with
  | nil => intro _ _; rfl
  | cons z l ih =>
    intro s h
    have h1 := h z (by simp)
    have h2 := ih (s + z.1) (fun y hy => h y (by simp [hy]))
    have h3 : pitchedS f (z.2.ev (cq q s) (cq q z.1)) = ((onPay g z.2).ev (cq q s) (cq q z.1), 0) := by
      unfold pitchedS onPay
      cases hr : z.2.rest with
      | true => simp [Pay.ev, hr]
      | false => simp [Pay.ev, hr, h1 hr]
    rw [lay, mapS, h3, if_neg (fun h => h rfl), h2, if_neg (fun h => h rfl)]
    rfl
theorem onZ_id {g : Int × Int × Int → Int × Int × Int} {l : List (Int × Pay)} (h : ∀ z ∈ l, z.2.rest = false → g z.2.pit = z.2.pit) : onZ g l = l := by
  unfold onZ
  conv => rhs; rw [← List.map_id l]
  refine List.map_congr_left fun z hz => ?_
  show (z.1, if z.2.rest = true then z.2 else { z.2 with pit := g z.2.pit }) = z
  by_cases hr : z.2.rest = true
  · rw [if_pos hr]
  · rw [if_neg hr, h z hz (by simpa using hr)]
theorem onZ_comp (g g' : Int × Int × Int → Int × Int × Int) (l : List (Int × Pay)) : onZ g' (onZ g l) = onZ (fun p => g' (g p)) l := by
  unfold onZ
  rw [List.map_map]
  refine List.map_congr_left fun z _ => ?_
  show (z.1, onPay g' (onPay g z.2)) = (z.1, onPay (fun p => g' (g p)) z.2)
  unfold onPay
  by_cases hr : z.2.rest = true
  · rw [if_pos hr, if_pos hr, if_pos hr]
  · rw [if_neg hr, if_neg hr, if_neg hr]
theorem onZ_reverse (g : Int × Int × Int → Int × Int × Int) (l : List (Int × Pay)) : onZ g l.reverse = (onZ g l).reverse := by unfold onZ; rw [List.map_reverse]
theorem onZ_sum (g : Int × Int × Int → Int × Int × Int) (l : List (Int × Pay)) : sumM (onZ g l) = sumM l := by
  unfold sumM onZ; rw [List.map_map]; rfl
theorem onZ_mem {g : Int × Int × Int → Int × Int × Int} {l : List (Int × Pay)} {z : Int × Pay} (h : z ∈ onZ g l) : ∃ y ∈ l, z = (y.1, onPay g y.2) := by
  obtain ⟨y, h1, h2⟩ := List.mem_map.1 h
  exact ⟨y, h1, h2.symm⟩
theorem onZ_fit {g : Int × Int × Int → Int × Int × Int} {l : List (Int × Pay)} (h : fit l) (hg : ∀ z ∈ l, z.2.rest = false → pchk (g z.2.pit) = 0) : fit (onZ g l) := by
  refine ⟨fun z hz => ?_, by rw [onZ_sum]; exact h.2.1, by unfold onZ; rw [List.length_map]; exact h.2.2⟩
  obtain ⟨y, hy, rfl⟩ := onZ_mem hz
  obtain ⟨h1, g1, g2, g3, g4⟩ := h.1 y hy
  refine ⟨h1, ?_⟩
  unfold onPay
  cases hr : y.2.rest with
  | true => rw [if_pos rfl]; exact ⟨g1, g2, g3, g4⟩
  | false => rw [if_neg (by simp)]; exact ⟨fun e => by simp at e, fun _ => hg y hy hr, g3, g4⟩
theorem mirror_lay {q : Int} (hq : okq q) {l : List (Int × Pay)} (h : fit l) {ax : Int × Int × Int} (hax : pchk ax = 0) {g : Int × Int × Int → Int × Int × Int} (hg : ∀ z ∈ l, z.2.rest = false → mirrorP z.2.pit ax = (g z.2.pit, 0)) :
    mirrorS (lay q 0 l) ax = (lay q 0 (onZ g l), 0) := by
  have hc := checkS_lay hq h
  unfold mirrorS
  rw [hc, if_neg (fun h => h rfl), hax, if_neg (fun h => h rfl), all_pitched _ _ (by rw [hc])]
  exact map_lay q _ g l 0 hg
theorem move_lay {q : Int} (hq : okq q) {l : List (Int × Pay)} (h : fit l) {st : Int} {g : Int × Int × Int → Int × Int × Int} (hg : ∀ z ∈ l, z.2.rest = false → moveP z.2.pit st = (g z.2.pit, 0)) :
    moveS (lay q 0 l) st = (lay q 0 (onZ g l), 0) := by
  have hc := checkS_lay hq h
  unfold moveS
  rw [hc, if_neg (fun h => h rfl), all_pitched _ _ (by rw [hc])]
  exact map_lay q _ g l 0 hg
/-! ### Stretched -/
def times (k : Int) (l : List (Int × Pay)) : List (Int × Pay) := l.map fun z => (z.1 * k, z.2)
theorem times_sum (k : Int) (l : List (Int × Pay)) : sumM (times k l) = sumM l * k := by
  induction l with
  | nil => simp [times, sumM]
  | cons z l ih =>
    have : times k (z :: l) = (z.1 * k, z.2) :: times k l := rfl
    rw [this, sumM_cons, sumM_cons, ih, Int.add_mul]
theorem times_fit {k : Int} (hk : 1 ≤ k) {l : List (Int × Pay)} (h : fit l) (hb : sumM l * k ≤ 1099511627776) : fit (times k l) := by
  refine ⟨fun z hz => ?_, by rw [times_sum]; exact hb, by unfold times; rw [List.length_map]; exact h.2.2⟩
  obtain ⟨y, hy, rfl⟩ := List.mem_map.1 hz
  obtain ⟨h1, h2⟩ := h.1 y hy
  exact ⟨Int.mul_pos h1 (by omega), h2⟩
theorem times_reverse (k : Int) (l : List (Int × Pay)) : times k l.reverse = (times k l).reverse := by unfold times; rw [List.map_reverse]
theorem times_bare (q k : Int) (by_ : Int × Int) (l : List (Int × Pay)) (q' : Int) (h : ∀ z ∈ l, mulS (cq q z.1) by_ = ((cq q' (z.1 * k)).1, (cq q' (z.1 * k)).2, 0)) : ∀ s, (mapS (stretchedS by_) (lay q s l)).1.map strip = bare q' (times k l) ∧ (mapS (stretchedS by_) (lay q s l)).2 = 0 := by
  induction l with
  | nil => intro _; exact ⟨rfl, rfl⟩
  | cons z l ih =>
    intro s
    have h1 := h z (by simp)
    obtain ⟨h2, h3⟩ := ih (fun y hy => h y (by simp [hy])) (s + z.1)
    have h4 : stretchedS by_ (z.2.ev (cq q s) (cq q z.1)) = (z.2.ev (cq q s) (cq q' (z.1 * k)), 0) := by
      unfold stretchedS
      show (({ z.2.ev (cq q s) (cq q z.1) with dur := ((mulS (cq q z.1) by_).1, (mulS (cq q z.1) by_).2.1) } : Ev), (mulS (cq q z.1) by_).2.2) = _
      rw [h1]; rfl
    rw [lay, mapS, h4, if_neg (fun h => h rfl), h3, if_neg (fun h => h rfl)]
    exact ⟨by rw [List.map_cons, h2]; rfl, rfl⟩
theorem stretch_lay {q q' k : Int} (hq : okq q) (hq' : okq q') {l : List (Int × Pay)} (h : fit l) (hk : 1 ≤ k) (hb : sumM l * k ≤ 1099511627776) {by_ : Int × Int} (hby : ok by_) (h0 : by_.1 ≠ 0)
    (hm : ∀ z ∈ l, mulS (cq q z.1) by_ = ((cq q' (z.1 * k)).1, (cq q' (z.1 * k)).2, 0)) : stretchS (lay q 0 l) by_ = (lay q' 0 (times k l), 0) := by
  have hc := checkS_lay hq h
  obtain ⟨h1, h2⟩ := times_bare q k by_ l q' hm 0
  unfold stretchS
  rw [hc, if_neg (fun h => h rfl)]
  have ha : aboveS by_ = 0 := by unfold aboveS; rw [chk_of_ok hby, if_neg (fun h => h rfl), if_neg h0]
  rw [ha, if_neg (fun h => h rfl)]
  unfold allS
  rw [h2, if_neg (fun h => h rfl)]
  exact chain0 hq' (times_fit hk h hb) h1
end Go.Proofs.YtmlcnmnpkemdpaaDoor

/- Plain mathematics of voices made of numbers: what the kit's Voice makes; pitches; products; joined, delayed and cut voices; ends. -/
namespace Go.Proofs.YtmlcnmnpkemdpaaDoor

/-! ### What Voice makes -/
def d24 (j : Int) : Int := [24, 48, 12, 72, 96, 36, 144, 16, 32].getD j.toNat 0
def durT (j : Int) : Int × Int := [((1 : Int), (1 : Int)), (2, 1), (1, 2), (3, 1), (4, 1), (3, 2), (6, 1), (2, 3), (4, 3)].getD j.toNat (0, 0)
theorem dur_fin : ∀ j : Fin 9, durT (j.val : Int) = cq 24 (d24 (j.val : Int)) ∧ 12 ≤ d24 (j.val : Int) ∧ d24 (j.val : Int) ≤ 144 := by decide +kernel
theorem dur_24 {j : Int} (h : 0 ≤ j) (h' : j < 9) : durT j = cq 24 (d24 j) ∧ 12 ≤ d24 j ∧ d24 j ≤ 144 := by
  have := dur_fin ⟨j.toNat, by omega⟩
  simp only [show ((j.toNat : Nat) : Int) = j by omega] at this
  exact this
def payS (i n : Int) : Pay := if n / 567 = 6 then ⟨(0, 0, 0), true, i, n / 567 % 2⟩ else ⟨(n % 7, 3 + n / 7 % 3, n / 21 % 3 - 1), false, i, n / 567 % 2⟩
def oneZ (i x : Int) : Int × Pay := (d24 (x % 3969 / 63 % 9), payS i (x % 3969))
def voiceZ (i : Int) : List Int → List (Int × Pay)
  | [] => []
  | x :: l => oneZ i x :: voiceZ (i + 1) l
def voiceS (most : Nat) (l : List Int) : List Ev := lay 24 0 (voiceZ 0 (l.take most))
/-- A small event: at most 6 minims, a pitch from c3 to b5. -/
def small (z : Int × Pay) : Prop := 12 ≤ z.1 ∧ z.1 ≤ 144 ∧ z.2.good ∧ (z.2.rest = false → 21 ≤ numP z.2.pit ∧ numP z.2.pit ≤ 41)
theorem one_small (i x : Int) (hi : 0 ≤ i) : small (oneZ i x) := by
  have h0 := Int.emod_nonneg x (show (3969 : Int) ≠ 0 by omega)
  have h1 := Int.emod_lt_of_pos x (show (0 : Int) < 3969 by omega)
  obtain ⟨_, d1, d2⟩ := dur_24 (j := x % 3969 / 63 % 9) (by omega) (by omega)
  refine ⟨d1, d2, ?_, ?_⟩
  · show (payS i (x % 3969)).good
    unfold payS
    split
    · exact ⟨fun _ => rfl, fun e => by simp at e, hi, by simp only; omega⟩
    · refine ⟨fun e => by simp at e, fun _ => ?_, hi, by simp only; omega⟩
      unfold pchk; rw [if_neg (by simp only; omega)]
  · show (payS i (x % 3969)).rest = false → 21 ≤ numP (payS i (x % 3969)).pit ∧ numP (payS i (x % 3969)).pit ≤ 41
    unfold payS
    split
    · intro e; simp at e
    · intro _; unfold numP; simp only; omega
theorem voice_small (l : List Int) : ∀ i, 0 ≤ i → ∀ z ∈ voiceZ i l, small z := by
  induction l with
  | nil => intro i _ z hz; simp [voiceZ] at hz
  | cons x l ih =>
    intro i hi z hz
    rcases List.mem_cons.1 hz with rfl | hz
    · exact one_small i x hi
    · exact ih (i + 1) (by omega) z hz
theorem voice_len (l : List Int) : ∀ i, (voiceZ i l).length = l.length := by
  induction l with
  | nil => intro _; rfl
  | cons x l ih => intro i; rw [voiceZ, List.length_cons, ih, List.length_cons]
theorem small_sum (l : List (Int × Pay)) (h : ∀ z ∈ l, small z) : sumM l ≤ 144 * (l.length : Int) := by
  induction l with
  | nil => simp [sumM]
  | cons z l ih =>
    rw [sumM_cons, List.length_cons]
    have := (h z (by simp)).2.1
    have := ih fun y hy => h y (by simp [hy])
    omega
theorem small_fit {l : List (Int × Pay)} (h : ∀ z ∈ l, small z) (hl : l.length ≤ 2000) : fit l :=
  ⟨fun z hz => ⟨by have := (h z hz).1; omega, (h z hz).2.2.1⟩, by have := small_sum l h; omega, hl⟩
theorem okq24 : okq 24 := ⟨by omega, by omega⟩
/-! ### Pitches -/
def gP (n a : Int) : Int × Int × Int := (n % 7, n / 7, a)
theorem ofP_gP {n a : Int} (h : 0 ≤ n) (h' : n ≤ 62) (ha : -1 ≤ a) (ha' : a ≤ 1) : ofP n a = (gP n a, 0) := by unfold ofP gP; rw [if_neg (by omega)]
theorem numP_gP (n a : Int) : numP (gP n a) = n := by unfold numP gP; simp only; omega
theorem pchk_gP {n a : Int} (h : 0 ≤ n) (h' : n ≤ 62) (ha : -1 ≤ a) (ha' : a ≤ 1) : pchk (gP n a) = 0 := by unfold pchk gP; rw [if_neg (by simp only; omega)]
theorem pchk_bd {p : Int × Int × Int} (h : pchk p = 0) : 0 ≤ p.1 ∧ p.1 ≤ 6 ∧ 0 ≤ p.2.1 ∧ p.2.1 ≤ 8 ∧ -1 ≤ p.2.2 ∧ p.2.2 ≤ 1 := by
  unfold pchk at h
  split at h
  · cases h
  · omega
theorem gP_self {p : Int × Int × Int} (h : pchk p = 0) : gP (numP p) p.2.2 = p := by
  have := pchk_bd h
  obtain ⟨a, b, c⟩ := p
  simp only at this
  unfold gP numP
  simp only
  refine Prod.ext (by simp only; omega) (Prod.ext (by simp only; omega) rfl)
def mirG (ax p : Int × Int × Int) : Int × Int × Int := gP (2 * numP ax - numP p) (-p.2.2)
def movG (s : Int) (p : Int × Int × Int) : Int × Int × Int := gP (numP p + s) p.2.2
theorem mirror_g {p ax : Int × Int × Int} (h : pchk p = 0) (h' : pchk ax = 0) (h0 : 0 ≤ 2 * numP ax - numP p) (h1 : 2 * numP ax - numP p ≤ 62) : mirrorP p ax = (mirG ax p, 0) := by
  have := pchk_bd h
  unfold mirrorP
  rw [h, if_neg (fun h => h rfl), h', if_neg (fun h => h rfl), ofP_gP h0 h1 (by omega) (by omega)]
  rfl
theorem move_g {p : Int × Int × Int} {s : Int} (h : pchk p = 0) (hs : -62 ≤ s) (hs' : s ≤ 62) (h0 : 0 ≤ numP p + s) (h1 : numP p + s ≤ 62) : moveP p s = (movG s p, 0) := by
  have := pchk_bd h
  unfold moveP
  rw [h, if_neg (fun h => h rfl), if_neg (by omega), ofP_gP h0 h1 (by omega) (by omega)]
  rfl
theorem mir_mir {p ax : Int × Int × Int} (h : pchk p = 0) : mirG ax (mirG ax p) = p := by
  have e : mirG ax (mirG ax p) = gP (2 * numP ax - (2 * numP ax - numP p)) (- -p.2.2) := by
    show gP (2 * numP ax - numP (gP (2 * numP ax - numP p) (-p.2.2))) (- -p.2.2) = _
    rw [numP_gP]
  rw [e, show 2 * numP ax - (2 * numP ax - numP p) = numP p by omega, Int.neg_neg, gP_self h]
theorem mov_mov {p : Int × Int × Int} (s : Int) (h : pchk p = 0) : movG (-s) (movG s p) = p := by
  have e : movG (-s) (movG s p) = gP (numP p + s + -s) p.2.2 := by
    show gP (numP (gP (numP p + s) p.2.2) + -s) p.2.2 = _
    rw [numP_gP]
  rw [e, show numP p + s + -s = numP p by omega, gP_self h]
theorem mir_mov (ax : Int × Int × Int) (s : Int) (p : Int × Int × Int) : mirG ax (movG s p) = movG (-s) (mirG ax p) := by
  show gP (2 * numP ax - numP (gP (numP p + s) p.2.2)) (-p.2.2) = gP (numP (gP (2 * numP ax - numP p) (-p.2.2)) + -s) (-p.2.2)
  rw [numP_gP, numP_gP]
  congr 1
  omega
/-! ### Products -/
theorem mul_cq {q m N D : Int} (hm : inq q m) (hm' : inq (q * D) (m * N)) (hb : ok (N, D)) : mulS (cq q m) (N, D) = ((cq (q * D) (m * N)).1, (cq (q * D) (m * N)).2, 0) := by
  obtain ⟨k1, e1, _⟩ := cq_ok hm
  obtain ⟨k2, e2, _⟩ := cq_ok hm'
  refine mul_val k1 hb k2 (cancel hm.1 ?_)
  simp only
  generalize (cq q m).1 = a at *
  generalize (cq q m).2 = a' at *
  generalize (cq (q * D) (m * N)).1 = t at *
  generalize (cq (q * D) (m * N)).2 = t' at *
  grind
theorem cq_scale {q m c : Int} (hm : inq q m) (hc : 1 ≤ c) : cq (q * c) (m * c) = cq q m := by
  obtain ⟨k1, e1, _⟩ := cq_ok hm
  have h1 := Int.mul_le_mul hm.1 hc (by omega) (by have := hm.1; omega)
  refine cq_of (by omega) (Int.mul_nonneg hm.2.2.1 (by omega)) k1 ?_
  generalize (cq q m).1 = a at *
  generalize (cq q m).2 = a' at *
  grind
theorem lay_scale {q c : Int} (hq : okq q) (hc : 1 ≤ c) (l : List (Int × Pay)) : ∀ s, 0 ≤ s → pos l → s + sumM l ≤ 1099511627776 → lay (q * c) (s * c) (times c l) = lay q s l := by
  induction l with
  | nil => intro _ _ _ _; rfl
  | cons z l ih =>
    intro s hs hp hb
    obtain ⟨⟨h1, h2⟩, h3⟩ := pos_cons hp
    have h4 := sumM_nonneg h3
    rw [sumM_cons] at hb
    show z.2.ev (cq (q * c) (s * c)) (cq (q * c) (z.1 * c)) :: lay (q * c) (s * c + z.1 * c) (times c l) = _
    rw [← Int.add_mul, ih (s + z.1) (by omega) h3 (by omega), cq_scale (inq_of hq hs (by omega)) hc, cq_scale (inq_of hq (by omega) (by omega)) hc]
    rfl
theorem times_times (a b : Int) (l : List (Int × Pay)) : times b (times a l) = times (a * b) l := by
  unfold times
  rw [List.map_map]
  refine List.map_congr_left fun z _ => ?_
  show (z.1 * a * b, z.2) = (z.1 * (a * b), z.2)
  rw [Int.mul_assoc]
/-! ### Ends, joined and delayed voices -/
theorem lay_append (q : Int) (l m : List (Int × Pay)) : ∀ s, lay q s (l ++ m) = lay q s l ++ lay q (s + sumM l) m := by
  induction l with
  | nil => intro s; simp [lay, sumM]
  | cons z l ih => intro s; rw [List.cons_append, lay, lay, ih, sumM_cons, List.cons_append, Int.add_assoc]
theorem lay_last {q : Int} (hq : okq q) (l : List (Int × Pay)) : ∀ s, 0 ≤ s → pos l → s + sumM l ≤ 1099511627776 → ∀ x, (lay q s l).getLast? = some x → addS x.at_ x.dur = ((cq q (s + sumM l)).1, (cq q (s + sumM l)).2, 0) := by
  induction l with
  | nil => intro s _ _ _ x hx; simp [lay] at hx
  | cons z l ih =>
    intro s hs hp hb x hx
    obtain ⟨⟨h1, h2⟩, h3⟩ := pos_cons hp
    have h4 := sumM_nonneg h3
    rw [sumM_cons] at hb ⊢
    cases l with
    | nil =>
      simp [lay] at hx
      subst hx
      rw [sumM_nil]
      show addS (cq q s) (cq q z.1) = _
      rw [cq_add (inq_of hq hs (by omega)) (inq_of hq (by omega) (by omega)) (inq_of hq (by omega) (by omega)), Int.add_zero]
    | cons y l =>
      have := ih (s + z.1) (by omega) h3 (by omega) x (by
        rw [lay] at hx
        simpa [lay] using hx)
      rw [this, Int.add_assoc]
theorem end_lay {q : Int} (hq : okq q) {l : List (Int × Pay)} (h : fit l) : endS (lay q 0 l) = ((cq q (sumM l)).1, (cq q (sumM l)).2, 0) := by
  unfold endS
  rw [checkS_lay hq h, if_neg (fun h => h rfl)]
  cases hx : (lay q 0 l).getLast? with
  | none =>
    have : lay q 0 l = [] := List.getLast?_eq_none_iff.1 hx
    have hl : l = [] := List.eq_nil_of_length_eq_zero (by rw [← lay_len q l 0, this]; rfl)
    subst hl
    rw [sumM_nil, cq_zero hq.1 hq.2]
  | some x =>
    have := lay_last hq l 0 (by omega) h.1 (by have := h.2.1; omega) x hx
    rw [Int.zero_add] at this
    exact this
theorem fit_append {l m : List (Int × Pay)} (h : fit l) (h' : fit m) (hs : sumM l + sumM m ≤ 1099511627776) (hl : l.length + m.length ≤ 2000) : fit (l ++ m) :=
  ⟨pos_append h.1 h'.1, by rw [sumM_append]; exact hs, by rw [List.length_append]; exact hl⟩
theorem join_lay {q : Int} (hq : okq q) {l m : List (Int × Pay)} (h : fit l) (h' : fit m) (hs : sumM l + sumM m ≤ 1099511627776) (hl : l.length + m.length ≤ 2000) : joinS (lay q 0 l) (lay q 0 m) = (lay q 0 (l ++ m), 0) := by
  unfold joinS
  rw [checkS_lay hq h, if_neg (fun h => h rfl), checkS_lay hq h', if_neg (fun h => h rfl), lay_len, lay_len, if_neg (by omega)]
  exact chain0 hq (fit_append h h' hs hl) (by rw [List.map_append, lay_strip, lay_strip, bare_append])
def restP : Pay := ⟨(0, 0, 0), true, 0, 0⟩
theorem fit_rest {l : List (Int × Pay)} (h : fit l) {j : Int} (hj : 0 < j) (hs : j + sumM l ≤ 1099511627776) (hl : l.length < 2000) : fit ((j, restP) :: l) := by
  refine ⟨fun z hz => ?_, by rw [sumM_cons]; exact hs, by rw [List.length_cons]; omega⟩
  rcases List.mem_cons.1 hz with rfl | hz
  · exact ⟨hj, fun _ => rfl, fun e => by simp [restP] at e, by simp [restP], by simp [restP]⟩
  · exact h.1 z hz
theorem delay_lay {q : Int} (hq : okq q) {l : List (Int × Pay)} (h : fit l) {j : Int} (hj : 0 < j) (hs : j + sumM l ≤ 1099511627776) (hl : l.length < 2000) : delayS (lay q 0 l) (cq q j) = (lay q 0 ((j, restP) :: l), 0) := by
  have h4 := sumM_nonneg h.1
  have ij := inq_of hq (show 0 ≤ j by omega) (show j ≤ 1099511627776 by omega)
  have k1 := (cq_ok ij).1
  have k2 := cq_pos ij hj
  unfold delayS
  rw [checkS_lay hq h, if_neg (fun h => h rfl)]
  have ha : aboveS (cq q j) = 0 := by unfold aboveS; rw [chk_of_ok k1, if_neg (fun h => h rfl), if_neg (by omega)]
  rw [ha, if_neg (fun h => h rfl), lay_len, if_neg (by omega)]
  refine chain0 hq (fit_rest h hj hs hl) ?_
  rw [List.map_cons, lay_strip]
  rfl
/-! ### Cut -/
section
variable {q f t : Int} (hq : okq q) (hf : 0 ≤ f) (hft : f ≤ t) (ht : t ≤ 1099511627776)
include hq hf hft ht
theorem cut_ev {s : Int} {z : Int × Pay} (hs : 0 ≤ s) (hz : 0 < z.1) (hb : s + z.1 ≤ 1099511627776) :
    fromS (cq q f) (z.2.ev (cq q s) (cq q z.1)) = cq q (if s < f then f else s) ∧ toS (cq q t) (z.2.ev (cq q s) (cq q z.1)) = cq q (if t < s + z.1 then t else s + z.1) := by
  have is := inq_of hq hs (show s ≤ 1099511627776 by omega)
  have iz := inq_of hq (show 0 ≤ z.1 by omega) (show z.1 ≤ 1099511627776 by omega)
  have ie := inq_of hq (show 0 ≤ s + z.1 by omega) hb
  have i_f := inq_of hq hf (show f ≤ 1099511627776 by omega)
  have i_t := inq_of hq (show 0 ≤ t by omega) ht
  have hn : nextS (z.2.ev (cq q s) (cq q z.1)) = cq q (s + z.1) := by
    unfold nextS
    show ((addS (cq q s) (cq q z.1)).1, (addS (cq q s) (cq q z.1)).2.1) = _
    rw [cq_add is iz ie]
  constructor
  · unfold fromS
    show (if lessB (cq q s) (cq q f) = true then cq q f else cq q s) = _
    rw [cq_less is i_f]
    by_cases h : s < f <;> simp [h]
  · unfold toS
    rw [hn, cq_less i_t ie]
    by_cases h : t < s + z.1 <;> simp [h]
theorem cut_before {s : Int} {z : Int × Pay} (hs : 0 ≤ s) (hz : 0 < z.1) (hb : s + z.1 ≤ f) : cutOne (cq q f) (cq q t) (z.2.ev (cq q s) (cq q z.1)) = ([], 0) := by
  obtain ⟨e1, e2⟩ := cut_ev hq hf hft ht hs hz (z := z) (by omega)
  rw [cutOne_v, e1, e2, if_pos (show s < f by omega), if_neg (show ¬ t < s + z.1 by omega), cq_less (inq_of hq hf (by omega)) (inq_of hq (by omega) (by omega)), if_neg (by simp; omega)]
theorem cut_after {s : Int} {z : Int × Pay} (hs : t ≤ s) (hz : 0 < z.1) (hb : s + z.1 ≤ 1099511627776) : cutOne (cq q f) (cq q t) (z.2.ev (cq q s) (cq q z.1)) = ([], 0) := by
  obtain ⟨e1, e2⟩ := cut_ev hq hf hft ht (show 0 ≤ s by omega) hz (z := z) hb
  rw [cutOne_v, e1, e2, if_neg (show ¬ s < f by omega), if_pos (show t < s + z.1 by omega), cq_less (inq_of hq (by omega) (by omega)) (inq_of hq (by omega) (by omega)), if_neg (by simp; omega)]
theorem cut_in {s : Int} {z : Int × Pay} (hs : f ≤ s) (hz : 0 < z.1) (hb : s + z.1 ≤ t) : cutOne (cq q f) (cq q t) (z.2.ev (cq q s) (cq q z.1)) = ([z.2.ev (cq q s) (cq q z.1)], 0) := by
  obtain ⟨e1, e2⟩ := cut_ev hq hf hft ht (show 0 ≤ s by omega) hz (z := z) (by omega)
  have is := inq_of hq (show 0 ≤ s by omega) (show s ≤ 1099511627776 by omega)
  have ie := inq_of hq (show 0 ≤ s + z.1 by omega) (show s + z.1 ≤ 1099511627776 by omega)
  rw [cutOne_v, e1, e2, if_neg (show ¬ s < f by omega), if_neg (show ¬ t < s + z.1 by omega), cq_less is ie, if_pos (by simp; omega), cq_sub ie is (by omega), if_neg (fun h => h rfl), show s + z.1 - s = z.1 by omega]
  rfl
theorem cutAll_before (a : List (Int × Pay)) (r : List Ev) : ∀ s, 0 ≤ s → pos a → s + sumM a ≤ f → cutAll (cq q f) (cq q t) (lay q s a ++ r) = cutAll (cq q f) (cq q t) r := by
  induction a with
  | nil => intro _ _ _ _; rfl
  | cons z a ih =>
    intro s hs hp hb
    obtain ⟨⟨h1, h2⟩, h3⟩ := pos_cons hp
    have h4 := sumM_nonneg h3
    rw [sumM_cons] at hb
    rw [lay, List.cons_append, cutAll, cut_before hq hf hft ht hs h1 (by omega), if_neg (fun h => h rfl), ih (s + z.1) (by omega) h3 (by omega)]
    split
    · rename_i h5; rw [← cutAll_err _ _ _ h5]
    · rename_i h5; rw [List.nil_append]; exact Prod.ext rfl (by simpa using Decidable.not_not.1 h5 |>.symm)
theorem cutAll_after (c : List (Int × Pay)) : ∀ s, t ≤ s → pos c → s + sumM c ≤ 1099511627776 → cutAll (cq q f) (cq q t) (lay q s c) = ([], 0) := by
  induction c with
  | nil => intro _ _ _ _; rfl
  | cons z c ih =>
    intro s hs hp hb
    obtain ⟨⟨h1, h2⟩, h3⟩ := pos_cons hp
    have h4 := sumM_nonneg h3
    rw [sumM_cons] at hb
    rw [lay, cutAll, cut_after hq hf hft ht hs h1 (by omega), if_neg (fun h => h rfl), ih (s + z.1) (by omega) h3 (by omega), if_neg (fun h => h rfl)]
    rfl
theorem cutAll_in (b : List (Int × Pay)) (r : List Ev) (hr : cutAll (cq q f) (cq q t) r = ([], 0)) : ∀ s, f ≤ s → pos b → s + sumM b ≤ t → cutAll (cq q f) (cq q t) (lay q s b ++ r) = (lay q s b, 0) := by
  induction b with
  | nil => intro _ _ _ _; exact hr
  | cons z b ih =>
    intro s hs hp hb
    obtain ⟨⟨h1, h2⟩, h3⟩ := pos_cons hp
    have h4 := sumM_nonneg h3
    rw [sumM_cons] at hb
    rw [lay, List.cons_append, cutAll, cut_in hq hf hft ht hs h1 (by omega), if_neg (fun h => h rfl), ih (s + z.1) (by omega) h3 (by omega), if_neg (fun h => h rfl)]
    rfl
end
theorem cut_lay {q : Int} (hq : okq q) {a b c : List (Int × Pay)} (h : fit (a ++ (b ++ c))) : cutS (lay q 0 (a ++ (b ++ c))) (cq q (sumM a)) (cq q (sumM a + sumM b)) = (lay q 0 b, 0) := by
  have hs := h.2.1
  have pa : pos a := fun z hz => h.1 z (by simp [hz])
  have pb : pos b := fun z hz => h.1 z (by simp [hz])
  have pc : pos c := fun z hz => h.1 z (by simp [hz])
  have na := sumM_nonneg pa; have nb := sumM_nonneg pb; have nc := sumM_nonneg pc
  have hl := h.2.2
  rw [sumM_append, sumM_append] at hs
  rw [List.length_append, List.length_append] at hl
  have fb : fit b := ⟨pb, by omega, by omega⟩
  have i1 := inq_of hq na (show sumM a ≤ 1099511627776 by omega)
  have i2 := inq_of hq (show 0 ≤ sumM a + sumM b by omega) (show sumM a + sumM b ≤ 1099511627776 by omega)
  have i3 := inq_of hq (show 0 ≤ sumM a + (sumM b + sumM c) by omega) hs
  have he := end_lay hq h
  rw [sumM_append, sumM_append] at he
  rw [cutS_good _ _ _ (by rw [he]) (both_of_ok (cq_ok i1).1 (cq_ok i2).1) (by
    unfold rangeB
    rw [he, cq_less i2 i1]
    show (decide (sumM a + sumM b < sumM a) || lessB (cq q (sumM a + (sumM b + sumM c))) (cq q (sumM a + sumM b))) = false
    rw [cq_less i3 i2]
    simp; omega)]
  rw [lay_append, lay_append, cutAll_before hq na (by omega) (by omega) a _ 0 (by omega) pa (by omega), Int.zero_add]
  rw [cutAll_in hq na (by omega) (by omega) b _ (cutAll_after hq na (by omega) (by omega) c (sumM a + sumM b) (by omega) pc (by omega)) (sumM a) (by omega) pb (by omega), if_neg (fun h => h rfl)]
  exact chain0 hq fb (lay_strip q b (sumM a))
/-! ### The kit's sums -/
theorem tS_of {n d : Int} {t : Int × Int} (hn : 0 ≤ n) (hd : 1 ≤ d) (h : mk n d = (t.1, t.2, 0)) : tS n d = t := by
  have hp := gg_pos n d (.inr (by omega))
  rw [mk_of hn hd] at h
  unfold ofq at h
  split at h
  · simp at h
  · unfold tS
    rw [if_neg (by omega)]
    simp only [Prod.mk.injEq, and_true] at h
    exact Prod.ext h.1 h.2
def plusS (a b : Int × Int) : Int × Int := tS (a.1 * b.2 + b.1 * a.2) (a.2 * b.2)
theorem plus_cq {q m n : Int} (hm : inq q m) (hn : inq q n) (h : inq q (m + n)) : plusS (cq q m) (cq q n) = cq q (m + n) := by
  have k1 := (cq_ok hm).1
  have k2 := (cq_ok hn).1
  have ha := cq_add hm hn h
  unfold addS at ha
  rw [both_of_ok k1 k2, if_neg (fun h => h rfl)] at ha
  have h1 : 0 ≤ (cq q m).1 * (cq q n).2 := Int.mul_nonneg k1.1 (by have := k2.2.2.1; omega)
  have h2 : 0 ≤ (cq q n).1 * (cq q m).2 := Int.mul_nonneg k2.1 (by have := k1.2.2.1; omega)
  have h3 : 1 ≤ (cq q m).2 * (cq q n).2 := by have := Int.mul_le_mul k1.2.2.1 k2.2.2.1 (by omega) (by have := k1.2.2.1; omega); omega
  exact tS_of (by omega) h3 ha
end Go.Proofs.YtmlcnmnpkemdpaaDoor

/- Plain mathematics of settings: times in order, moments, the event that sounds at a time, slices; no program in sight. -/
namespace Go.Proofs.YtmlcnmnpkemdpaaDoor

/-! ### Times in order -/
abbrev Tm := Int × Int
def ltT (a b : Tm) : Prop := a.1 * b.2 < b.1 * a.2
instance (a b : Tm) : Decidable (ltT a b) := inferInstanceAs (Decidable (_ < _))
theorem ltT_irr (a : Tm) : ¬ ltT a a := by unfold ltT; omega
theorem ltT_asym {a b : Tm} (h : ltT a b) : ¬ ltT b a := by unfold ltT at h ⊢; omega
theorem ltT_tri {a b : Tm} (ha : ok a) (hb : ok b) (h : ¬ ltT a b) (h' : ¬ ltT b a) : a = b := ok_eq ha hb (by unfold ltT at h h'; omega)
theorem ltT_trans {a b c : Tm} (ha : ok a) (hb : ok b) (hc : ok c) (h : ltT a b) (h' : ltT b c) : ltT a c := by
  obtain ⟨_, _, a2, _, _⟩ := ha; obtain ⟨_, _, b2, _, _⟩ := hb; obtain ⟨_, _, c2, _, _⟩ := hc
  unfold ltT at h h' ⊢
  have h1 : a.1 * b.2 * c.2 < b.1 * a.2 * c.2 := Int.mul_lt_mul_of_pos_right h (by omega)
  have h2 : b.1 * c.2 * a.2 < c.1 * b.2 * a.2 := Int.mul_lt_mul_of_pos_right h' (by omega)
  have e1 : a.1 * b.2 * c.2 = a.1 * c.2 * b.2 := by grind
  have e2 : b.1 * a.2 * c.2 = b.1 * c.2 * a.2 := by grind
  have e3 : c.1 * b.2 * a.2 = c.1 * a.2 * b.2 := by grind
  exact Int.lt_of_mul_lt_mul_right (a := b.2) (by omega) (by omega)
theorem leT_trans {a b c : Tm} (ha : ok a) (hb : ok b) (hc : ok c) (h : ¬ ltT b a) (h' : ¬ ltT c b) : ¬ ltT c a := by
  intro hca
  by_cases hab : ltT a b
  · exact h' (ltT_trans hc ha hb hca hab)
  · have := ltT_tri ha hb hab h
    rw [this] at hca
    exact h' hca
theorem lt_of_le {a b c : Tm} (ha : ok a) (hb : ok b) (hc : ok c) (h : ltT a b) (h' : ¬ ltT c b) : ltT a c := by
  by_cases hbc : ltT b c
  · exact ltT_trans ha hb hc h hbc
  · rw [← ltT_tri hb hc hbc h']; exact h
theorem lt_of_le' {a b c : Tm} (ha : ok a) (hb : ok b) (hc : ok c) (h : ¬ ltT b a) (h' : ltT b c) : ltT a c := by
  by_cases hab : ltT a b
  · exact ltT_trans ha hb hc hab h'
  · rw [ltT_tri ha hb hab h]; exact h'
theorem cmp_ok {a b : Tm} (ha : ok a) (hb : ok b) : cmpS a b = (sgn (a.1 * b.2 - b.1 * a.2), 0) := by unfold cmpS; rw [if_neg (fun h => h (both_of_ok ha hb))]
theorem cmp_lt {a b : Tm} (ha : ok a) (hb : ok b) : decide ((cmpS a b).1 < 0) = decide (ltT a b) := by
  rw [cmp_ok ha hb]
  unfold sgn ltT
  refine decide_eq_decide.2 ?_
  simp only
  (repeat' split) <;> omega
theorem cmp_le {a b : Tm} (ha : ok a) (hb : ok b) : decide ((cmpS a b).1 ≤ 0) = decide (¬ ltT b a) := by
  rw [cmp_ok ha hb]
  unfold sgn ltT
  refine decide_eq_decide.2 ?_
  simp only
  (repeat' split) <;> omega
theorem ok_zero : ok (0, 1) := by unfold ok; exact ⟨by decide, by decide, by decide, by decide, by decide⟩
theorem zero_le {a : Tm} (ha : ok a) : ¬ ltT a (0, 1) := by obtain ⟨h, _⟩ := ha; unfold ltT; simp only; omega

/-! ### Ascending lists -/
def SA (l : List Tm) : Prop := l.Pairwise ltT
def OkL (l : List Tm) : Prop := ∀ t ∈ l, ok t
theorem sa_ext : ∀ {l m : List Tm}, SA l → SA m → (∀ t, t ∈ l ↔ t ∈ m) → l = m
  | [], [], _, _, _ => rfl
  | [], y :: m, _, _, h => absurd ((h y).2 (by simp)) (by simp)
  | x :: l, [], _, _, h => absurd ((h x).1 (by simp)) (by simp)
  | x :: l, y :: m, hl, hm, h => by
    have hl' := List.pairwise_cons.1 hl
    have hm' := List.pairwise_cons.1 hm
    have hxy : x = y := by
      rcases List.mem_cons.1 ((h x).1 (by simp)) with e | hx
      · exact e
      · rcases List.mem_cons.1 ((h y).2 (by simp)) with e | hy
        · exact e.symm
        · exact absurd (hl'.1 y hy) (ltT_asym (hm'.1 x hx))
    subst hxy
    rw [sa_ext hl'.2 hm'.2 fun t => ?_]
    constructor
    · intro ht
      rcases List.mem_cons.1 ((h t).1 (List.mem_cons_of_mem _ ht)) with e | hm2
      · subst e; exact absurd (hl'.1 _ ht) (ltT_irr _)
      · exact hm2
    · intro ht
      rcases List.mem_cons.1 ((h t).2 (List.mem_cons_of_mem _ ht)) with e | hm2
      · subst e; exact absurd (hm'.1 _ ht) (ltT_irr _)
      · exact hm2
/-- Ascending times with one more, if it is not there. -/
def withS : List Tm → Tm → List Tm
  | [], t => [t]
  | x :: l, t => if ltT x t then x :: withS l t else if x = t then x :: l else t :: x :: l
theorem with_mem (l : List Tm) (t u : Tm) : u ∈ withS l t ↔ u ∈ l ∨ u = t := by
  induction l with
  | nil => simp [withS]
  | cons x l ih =>
    unfold withS
    split
    · rw [List.mem_cons, ih, List.mem_cons, or_assoc]
    · split
      · rename_i h; subst h
        simp only [List.mem_cons]
        grind
      · simp only [List.mem_cons]
        grind
theorem with_ok {l : List Tm} {t : Tm} (hl : OkL l) (ht : ok t) : OkL (withS l t) := fun u hu => by
  rcases (with_mem l t u).1 hu with h | h
  · exact hl u h
  · exact h ▸ ht
theorem with_sa {l : List Tm} {t : Tm} (hl : SA l) (ho : OkL l) (ht : ok t) : SA (withS l t) := by
  induction l with
  | nil => exact List.pairwise_singleton _ _
  | cons x l ih =>
    have hl' := List.pairwise_cons.1 hl
    have ox := ho x (by simp)
    have ol : OkL l := fun u hu => ho u (List.mem_cons_of_mem _ hu)
    unfold withS
    split
    · rename_i hx
      refine List.pairwise_cons.2 ⟨fun u hu => ?_, ih hl'.2 ol⟩
      rcases (with_mem l t u).1 hu with h | h
      · exact hl'.1 u h
      · exact h ▸ hx
    · split
      · exact hl
      · rename_i h1 h2
        have htx : ltT t x := by
          by_cases h : ltT t x
          · exact h
          · exact absurd (ltT_tri ox ht h1 h) h2
        refine List.pairwise_cons.2 ⟨fun u hu => ?_, hl⟩
        rcases List.mem_cons.1 hu with h | h
        · exact h ▸ htx
        · exact ltT_trans ht ox (ol u h) htx (hl'.1 u h)
/-- How many times stand ahead of one. -/
def posW : List Tm → Tm → Nat
  | [], _ => 0
  | x :: l, t => if ltT x t then posW l t + 1 else 0
theorem posW_le (l : List Tm) (t : Tm) : posW l t ≤ l.length := by
  induction l with
  | nil => simp [posW]
  | cons x l ih => unfold posW; split <;> simp <;> omega
theorem withS_pos (l : List Tm) (t : Tm) : withS l t = if l[posW l t]? = some t then l else l.take (posW l t) ++ t :: l.drop (posW l t) := by
  induction l with
  | nil => simp [withS, posW]
  | cons x l ih =>
    unfold withS posW
    split
    · rw [ih]
      simp only [List.getElem?_cons_succ, List.take_succ_cons, List.drop_succ_cons, List.cons_append]
      split <;> rfl
    · simp only [List.getElem?_cons_zero, List.take_zero, List.drop_zero, List.nil_append, Option.some.injEq]
theorem posW_lt {l : List Tm} {t : Tm} : ∀ {k : Nat} {x : Tm}, l[k]? = some x → k < posW l t → ltT x t := by
  induction l with
  | nil => intro k x h; simp at h
  | cons y l ih =>
    intro k x h hk
    unfold posW at hk
    split at hk
    · rename_i hy
      cases k with
      | zero => simp at h; exact h ▸ hy
      | succ k => exact ih (by simpa using h) (by omega)
    · omega
theorem posW_at {l : List Tm} {t x : Tm} (h : l[posW l t]? = some x) : ¬ ltT x t := by
  induction l with
  | nil => simp at h
  | cons y l ih =>
    unfold posW at h
    split at h
    · exact ih (by simpa using h)
    · simp at h; rename_i hy; exact h ▸ hy
theorem posW_is {l : List Tm} {t : Tm} {k : Nat} (h1 : ∀ (j : Nat) x, j < k → l[j]? = some x → ltT x t) (h2 : k ≤ l.length) (h3 : ∀ x, l[k]? = some x → ¬ ltT x t) : posW l t = k := by
  rcases Nat.lt_trichotomy (posW l t) k with h | h | h
  · have hl : posW l t < l.length := by omega
    obtain ⟨x, hx⟩ : ∃ x, l[posW l t]? = some x := ⟨_, List.getElem?_eq_getElem hl⟩
    exact absurd (h1 _ x h hx) (posW_at hx)
  · exact h
  · have hl : k < l.length := by have := posW_le l t; omega
    obtain ⟨x, hx⟩ : ∃ x, l[k]? = some x := ⟨_, List.getElem?_eq_getElem hl⟩
    exact absurd (posW_lt hx h) (h3 x hx)
/-- The moments of a voice, of a setting, as the reference lays them. -/
def momV (o : List Tm) (v : List Ev) : List Tm := v.foldl (fun o x => withS (withS o x.at_) (nextS x)) o
def momS (l : List (List Ev)) : List Tm := l.foldl momV []

/-! ### Valid voices -/
/-- A sum with a time above 0 is later. -/
theorem next_lt {x : Ev} (ha : ok x.at_) (hd : ok x.dur) (h0 : 1 ≤ x.dur.1) (h : (addS x.at_ x.dur).2.2 = 0) : ltT x.at_ (nextS x) := by
  have eA : addS x.at_ x.dur = mk (x.at_.1 * x.dur.2 + x.dur.1 * x.at_.2) (x.at_.2 * x.dur.2) := by unfold addS; rw [if_neg (fun h => h (both_of_ok ha hd))]
  obtain ⟨a0, _, a2, _, _⟩ := ha
  obtain ⟨d0, _, d2, _, _⟩ := hd
  have hn : 0 ≤ x.at_.1 * x.dur.2 + x.dur.1 * x.at_.2 := by
    have h1 := Int.mul_nonneg a0 (show 0 ≤ x.dur.2 by omega)
    have h2 := Int.mul_nonneg d0 (show 0 ≤ x.at_.2 by omega)
    omega
  have hd1 : 1 ≤ x.at_.2 * x.dur.2 := by
    have := Int.mul_pos (show 0 < x.at_.2 by omega) (show 0 < x.dur.2 by omega)
    omega
  rw [eA, mk_of hn hd1] at h
  obtain ⟨g, a', b', hg, e0, e1, e2, e3, e4, _, _, _⟩ := gg_split _ _ hn hd1
  have eN : nextS x = (a', b') := by
    unfold nextS
    rw [eA, mk_of hn hd1]
    unfold ofq at h ⊢
    split at h
    · cases h
    · rename_i hs
      rw [if_neg hs, e3, e4]
  rw [eN]
  unfold ltT
  simp only
  have hp : 0 < x.dur.1 * x.at_.2 * x.at_.2 := Int.mul_pos (Int.mul_pos (by omega) (by omega)) (by omega)
  have hk : x.at_.1 * b' * g < a' * x.at_.2 * g := by
    have i1 : x.at_.1 * b' * g = x.at_.1 * (x.at_.2 * x.dur.2) := by rw [e2]; grind
    have i2 : a' * x.at_.2 * g = (x.at_.1 * x.dur.2 + x.dur.1 * x.at_.2) * x.at_.2 := by rw [e1]; grind
    have i3 : (x.at_.1 * x.dur.2 + x.dur.1 * x.at_.2) * x.at_.2 = x.at_.1 * (x.at_.2 * x.dur.2) + x.dur.1 * x.at_.2 * x.at_.2 := by grind
    omega
  exact Int.lt_of_mul_lt_mul_right (a := g) hk (by omega)
structure Val (v : List Ev) : Prop where
  each : ∀ (i : Nat) x, v[i]? = some x → ok x.at_ ∧ ok (nextS x) ∧ ltT x.at_ (nextS x) ∧ ok x.dur
  next : ∀ (i : Nat) x y, v[i]? = some x → v[i + 1]? = some y → y.at_ = nextS x
  first : ∀ x, v[0]? = some x → x.at_ = (0, 1)
theorem val_from (v : List Ev) : ∀ (now : Tm) (i : Int), (checkFrom now i v).1 = 0 →
    (∀ (i : Nat) x, v[i]? = some x → ok x.at_ ∧ ok (nextS x) ∧ ltT x.at_ (nextS x) ∧ ok x.dur) ∧ (∀ (i : Nat) x y, v[i]? = some x → v[i + 1]? = some y → y.at_ = nextS x) ∧ (∀ x, v[0]? = some x → x.at_ = now) := by
  induction v with
  | nil => intro now i _; exact ⟨fun i x h => by simp at h, fun i x y h => by simp at h, fun x h => by simp at h⟩
  | cons x v ih =>
    intro now i h
    unfold checkFrom at h
    split at h
    · rename_i h0; simp only at h; exact absurd h h0
    · rename_i h0
      have hs : stepS now x = 0 := by omega
      obtain ⟨h1, h2, h3⟩ := ih _ _ h
      unfold stepS at hs
      split at hs
      · contradiction
      · rename_i ho
        split at hs
        · cases hs
        · rename_i hat
          have hat' : x.at_ = now := by simpa using hat
          have ho' : oneS x = 0 := by omega
          have a1 : chk x.at_.1 x.at_.2 = 0 ∧ chk x.dur.1 x.dur.2 = 0 ∧ x.dur.1 ≠ 0 := by
            unfold oneS at ho'
            split at ho'
            · contradiction
            · split at ho'
              · contradiction
              · split at ho'
                · cases ho'
                · exact ⟨by omega, by omega, by assumption⟩
          have o1 : ok x.at_ := ok_of_chk a1.1
          have o2 : ok x.dur := ok_of_chk a1.2.1
          have eA : addS x.at_ x.dur = mk (x.at_.1 * x.dur.2 + x.dur.1 * x.at_.2) (x.at_.2 * x.dur.2) := by unfold addS; rw [if_neg (fun h => h (both_of_ok o1 o2))]
          have o3 : ok (nextS x) := by unfold nextS; rw [eA] at hs ⊢; exact mk_ok hs
          have hlt : ltT x.at_ (nextS x) := next_lt o1 o2 (by have := o2.1; have := a1.2.2; omega) hs
          refine ⟨fun j y hy => ?_, fun j y z hy hz => ?_, fun y hy => ?_⟩
          · cases j with
            | zero => simp at hy; subst hy; exact ⟨o1, o3, hlt, o2⟩
            | succ j => exact h1 j y (by simpa using hy)
          · cases j with
            | zero =>
              simp at hy; subst hy
              exact h3 z (by simpa using hz)
            | succ j => exact h2 j y z (by simpa using hy) (by simpa using hz)
          · simp at hy; subst hy; exact hat'
theorem val_of {v : List Ev} (h : (checkS v).1 = 0) : Val v := by
  unfold checkS at h
  split at h
  · cases h
  · obtain ⟨h1, h2, h3⟩ := val_from v _ _ h
    exact ⟨h1, h2, h3⟩
end Go.Proofs.YtmlcnmnpkemdpaaDoor

/- Plain mathematics of settings: the program's moments are the reference's; the event that sounds; slices. -/
namespace Go.Proofs.YtmlcnmnpkemdpaaDoor

/-! ### Members -/
theorem momV_mem (v : List Ev) : ∀ (o : List Tm) (t : Tm), t ∈ momV o v ↔ t ∈ o ∨ ∃ x ∈ v, t = x.at_ ∨ t = nextS x := by
  induction v with
  | nil => intro o t; simp [momV]
  | cons x v ih =>
    intro o t
    show t ∈ momV (withS (withS o x.at_) (nextS x)) v ↔ _
    rw [ih, with_mem, with_mem]
    simp only [List.mem_cons]
    grind
theorem momV_sa (v : List Ev) : ∀ (o : List Tm), SA o → OkL o → (∀ x ∈ v, ok x.at_ ∧ ok (nextS x)) → SA (momV o v) ∧ OkL (momV o v) := by
  induction v with
  | nil => intro o h1 h2 _; exact ⟨h1, h2⟩
  | cons x v ih =>
    intro o h1 h2 h3
    have hx := h3 x (by simp)
    have a1 := with_sa h1 h2 hx.1
    have a2 := with_ok h2 hx.1
    exact ih _ (with_sa a1 a2 hx.2) (with_ok a2 hx.2) (fun y hy => h3 y (List.mem_cons_of_mem _ hy))
theorem val_mem {v : List Ev} (h : Val v) : ∀ x ∈ v, ok x.at_ ∧ ok (nextS x) ∧ ltT x.at_ (nextS x) ∧ ok x.dur := fun x hx => by
  obtain ⟨i, hi, rfl⟩ := List.getElem_of_mem hx
  exact h.each i _ (List.getElem?_eq_getElem hi)

/-! ### The program's own moments of a voice -/
def endV (v : List Ev) : Tm := match v.getLast? with | none => (0, 1) | some x => nextS x
theorem endS_val {v : List Ev} (h : (checkS v).1 = 0) : endS v = ((endV v).1, (endV v).2, 0) := by
  unfold endS endV
  rw [if_neg (fun h0 => h0 h)]
  cases hl : v.getLast? with
  | none => rfl
  | some x =>
    have hx := List.mem_of_getLast? hl
    have := add_of_check v (0, 1) 0 (by omega) (by unfold checkS at h; split at h; cases h; exact h) x hx
    simp only [nextS]
    exact Prod.ext rfl (Prod.ext rfl this)
theorem endV_ok {v : List Ev} (h : Val v) : ok (endV v) := by
  unfold endV
  cases hl : v.getLast? with
  | none => exact ok_zero
  | some x => exact (val_mem h x (List.mem_of_getLast? hl)).2.1
def ownV (v : List Ev) : List Tm := v.map (·.at_) ++ if v = [] then [] else [endV v]
/-- Event k of a valid voice begins where the one ahead of it ends; ascending. -/
theorem at_lt {v : List Ev} (h : Val v) : ∀ (j i : Nat) x y, v[i]? = some x → v[j]? = some y → i < j → ltT x.at_ y.at_ ∧ ¬ ltT y.at_ (nextS x) := by
  intro j
  induction j with
  | zero => intro i x y _ _ hij; omega
  | succ j ih =>
    intro i x y hx hy hij
    have hjl : j < v.length := by
      have := (List.getElem?_eq_some_iff.1 hy).1
      omega
    obtain ⟨z, hz⟩ : ∃ z, v[j]? = some z := ⟨_, List.getElem?_eq_getElem hjl⟩
    have e := h.next j z y hz hy
    have ez := h.each j z hz
    have ex := h.each i x hx
    by_cases hij' : i = j
    · subst hij'
      rw [hx] at hz
      cases hz
      rw [e]
      exact ⟨ex.2.2.1, ltT_irr _⟩
    · obtain ⟨h1, h2⟩ := ih i x z hx hz (by omega)
      rw [e]
      exact ⟨ltT_trans ex.1 ez.1 ez.2.1 h1 ez.2.2.1, leT_trans ex.2.1 ez.1 ez.2.1 h2 (ltT_asym ez.2.2.1)⟩
theorem getLast_idx {α : Type} {v : List α} {x : α} (h : v.getLast? = some x) : 0 < v.length ∧ v[v.length - 1]? = some x := by
  rw [List.getLast?_eq_getElem?] at h
  exact ⟨by have := (List.getElem?_eq_some_iff.1 h).1; omega, h⟩
theorem end_ge {v : List Ev} (h : Val v) {x : Ev} (hx : x ∈ v) : ltT x.at_ (endV v) ∧ ¬ ltT (endV v) (nextS x) := by
  obtain ⟨i, hi, e⟩ := List.getElem_of_mem hx
  have hx' : v[i]? = some x := by rw [List.getElem?_eq_getElem hi, e]
  have ex := h.each i _ hx'
  obtain ⟨z, hz⟩ : ∃ z, v.getLast? = some z := by
    cases hl : v.getLast? with
    | none => rw [List.getLast?_eq_none_iff] at hl; subst hl; simp at hi
    | some z => exact ⟨z, rfl⟩
  have ee : endV v = nextS z := by unfold endV; rw [hz]
  obtain ⟨h0, hz'⟩ := getLast_idx hz
  have ez := h.each _ z hz'
  rw [ee]
  by_cases hil : i = v.length - 1
  · rw [hil, hz'] at hx'
    cases hx'
    exact ⟨ez.2.2.1, ltT_irr _⟩
  · obtain ⟨a1, a2⟩ := at_lt h (v.length - 1) i _ z hx' hz' (by omega)
    exact ⟨ltT_trans ex.1 ez.1 ez.2.1 a1 ez.2.2.1, leT_trans ex.2.1 ez.1 ez.2.1 a2 (ltT_asym ez.2.2.1)⟩
theorem own_sa {v : List Ev} (h : Val v) : SA (ownV v) ∧ OkL (ownV v) := by
  refine ⟨?_, ?_⟩
  · unfold SA ownV
    refine List.pairwise_append.2 ⟨?_, ?_, ?_⟩
    · rw [List.pairwise_iff_getElem]
      intro i j hi hj hij
      simp only [List.length_map] at hi hj
      simp only [List.getElem_map]
      exact (at_lt h j i _ _ (List.getElem?_eq_getElem hi) (List.getElem?_eq_getElem hj) hij).1
    · split
      · exact List.Pairwise.nil
      · exact List.pairwise_singleton _ _
    · intro a ha b hb
      obtain ⟨x, hx, rfl⟩ := List.mem_map.1 ha
      split at hb
      · cases hb
      · rw [List.mem_singleton.1 hb]; exact (end_ge h hx).1
  · intro t ht
    unfold ownV at ht
    rcases List.mem_append.1 ht with ht | ht
    · obtain ⟨x, hx, rfl⟩ := List.mem_map.1 ht
      exact (val_mem h x hx).1
    · split at ht
      · cases ht
      · rw [List.mem_singleton.1 ht]; exact endV_ok h
theorem own_mem {v : List Ev} (h : Val v) (t : Tm) : t ∈ ownV v ↔ ∃ x ∈ v, t = x.at_ ∨ t = nextS x := by
  unfold ownV
  rw [List.mem_append]
  constructor
  · rintro (ht | ht)
    · obtain ⟨x, hx, rfl⟩ := List.mem_map.1 ht
      exact ⟨x, hx, .inl rfl⟩
    · split at ht
      · cases ht
      · rename_i hv
        rw [List.mem_singleton.1 ht]
        cases hl : v.getLast? with
        | none => rw [List.getLast?_eq_none_iff] at hl; exact absurd hl hv
        | some z => exact ⟨z, List.mem_of_getLast? hl, .inr (by unfold endV; rw [hl])⟩
  · rintro ⟨x, hx, rfl | rfl⟩
    · exact .inl (List.mem_map.2 ⟨x, hx, rfl⟩)
    · obtain ⟨i, hi, rfl⟩ := List.getElem_of_mem hx
      have hx' : v[i]? = some v[i] := List.getElem?_eq_getElem hi
      by_cases hn : i + 1 < v.length
      · have hy : v[i + 1]? = some v[i + 1] := List.getElem?_eq_getElem hn
        exact .inl (List.mem_map.2 ⟨v[i + 1], List.getElem_mem hn, h.next i _ _ hx' hy⟩)
      · refine .inr ?_
        rw [if_neg (fun h0 => by subst h0; simp at hi), List.mem_singleton]
        have hl : v.getLast? = some v[i] := by rw [List.getLast?_eq_getElem?, show v.length - 1 = i by omega]; exact hx'
        unfold endV; rw [hl]

/-! ### The program's merge of two ascending lists -/
def swapB (a b : List Tm) : Bool := match a, b with
  | [], _ => true
  | _ :: _, [] => false
  | x :: _, y :: _ => decide (ltT y x)
def addE (o : List Tm) (t : Tm) : List Tm := if o.getLast? = some t then o else o ++ [t]
def mrg : Nat → List Tm → List Tm → List Tm → List Tm
  | 0, o, _, _ => o
  | n + 1, o, a, b => if swapB a b = true then mrg n (addE o (b.headD (0, 1))) b.tail a else mrg n (addE o (a.headD (0, 1))) a.tail b
def mrgS (a b : List Tm) : List Tm := mrg (a.length + b.length) [] a b
/-- All of a list are not ahead of a time. -/
def geL (t : Tm) (l : List Tm) : Prop := ∀ u ∈ l, ¬ ltT u t
theorem addE_spec {o : List Tm} {t : Tm} (ho : SA o) (hok : OkL o) (ht : ok t) (hl : ∀ z, o.getLast? = some z → ¬ ltT t z) : SA (addE o t) ∧ OkL (addE o t) ∧ (addE o t).getLast? = some t ∧ ∀ u, u ∈ addE o t ↔ u ∈ o ∨ u = t := by
  unfold addE
  by_cases he : o.getLast? = some t
  · rw [if_pos he]
    exact ⟨ho, hok, he, fun u => ⟨.inl, fun h => h.elim id (fun e => e ▸ List.mem_of_getLast? he)⟩⟩
  · rw [if_neg he]
    refine ⟨?_, ?_, by simp, fun u => by rw [List.mem_append, List.mem_singleton]⟩
    · refine List.pairwise_append.2 ⟨ho, List.pairwise_singleton _ _, fun a ha b hb => ?_⟩
      rw [List.mem_singleton.1 hb]
      cases hz : o.getLast? with
      | none => rw [List.getLast?_eq_none_iff] at hz; subst hz; cases ha
      | some z =>
        have oz := hok z (List.mem_of_getLast? hz)
        have hzt : ltT z t := by
          by_cases h : ltT z t
          · exact h
          · exact absurd (by rw [hz, ltT_tri oz ht h (hl z hz)]) he
        obtain ⟨i, hi, rfl⟩ := List.getElem_of_mem ha
        obtain ⟨h0, hz'⟩ := getLast_idx hz
        by_cases hil : i = o.length - 1
        · have : o[i] = z := by
            have h2 : o[i]? = some z := by rw [hil]; exact hz'
            rw [List.getElem?_eq_getElem hi] at h2
            exact Option.some.inj h2
          rw [this]; exact hzt
        · have hlt : o.length - 1 < o.length := by omega
          have : o[o.length - 1] = z := by
            rw [List.getElem?_eq_getElem hlt] at hz'
            exact Option.some.inj hz'
          have h3 := (List.pairwise_iff_getElem.1 ho) i (o.length - 1) hi hlt (by omega)
          rw [this] at h3
          exact ltT_trans (hok _ (List.getElem_mem hi)) oz ht h3 hzt
    · intro u hu
      rcases List.mem_append.1 hu with h | h
      · exact hok u h
      · rw [List.mem_singleton.1 h]; exact ht
theorem mrg_spec : ∀ (n : Nat) (o a b : List Tm), n = a.length + b.length → SA o → OkL o → SA a → OkL a → SA b → OkL b → (∀ z, o.getLast? = some z → geL z a ∧ geL z b) →
    SA (mrg n o a b) ∧ OkL (mrg n o a b) ∧ ∀ u, u ∈ mrg n o a b ↔ u ∈ o ∨ u ∈ a ∨ u ∈ b := by
  intro n
  induction n with
  | zero =>
    intro o a b hn ho hoo _ _ _ _ _
    obtain rfl : a = [] := List.eq_nil_of_length_eq_zero (by omega)
    obtain rfl : b = [] := List.eq_nil_of_length_eq_zero (by omega)
    exact ⟨ho, hoo, fun u => by simp [mrg]⟩
  | succ n ih =>
    intro o a b hn ho hoo ha hao hb hbo hg
    -- one step with the head of p
    have step : ∀ (p q : List Tm), p ≠ [] → n + 1 = p.length + q.length → SA p → OkL p → SA q → OkL q → (∀ z, o.getLast? = some z → geL z p ∧ geL z q) → (∀ y ∈ q, ∀ x, p.head? = some x → ¬ ltT y x) →
        SA (mrg n (addE o (p.headD (0, 1))) p.tail q) ∧ OkL (mrg n (addE o (p.headD (0, 1))) p.tail q) ∧ ∀ u, u ∈ mrg n (addE o (p.headD (0, 1))) p.tail q ↔ u ∈ o ∨ u ∈ p ∨ u ∈ q := by
      intro p q hp hn' hsp hop hsq hoq hgg hmin
      cases p with
      | nil => exact absurd rfl hp
      | cons x p =>
        have hp' := List.pairwise_cons.1 hsp
        have ox := hop x (by simp)
        obtain ⟨s1, s2, s3, s4⟩ := addE_spec ho hoo ox (fun z hz => (hgg z hz).1 x (by simp))
        have r := ih (addE o x) p q (by simp at hn'; omega) s1 s2 hp'.2 (fun u hu => hop u (List.mem_cons_of_mem _ hu)) hsq hoq (fun z hz => by
          rw [s3] at hz
          cases hz
          exact ⟨fun u hu => ltT_asym (hp'.1 u hu), fun u hu => hmin u hu x rfl⟩)
        refine ⟨r.1, r.2.1, fun u => ?_⟩
        show u ∈ mrg n (addE o x) p q ↔ _
        rw [r.2.2 u, s4 u, List.mem_cons]
        grind
    unfold mrg
    by_cases hs : swapB a b = true
    · rw [if_pos hs]
      have hbne : b ≠ [] := by
        intro h0; subst h0
        cases a with
        | nil => simp at hn
        | cons x a => simp [swapB] at hs
      have r := step b a hbne (by omega) hb hbo ha hao (fun z hz => ⟨(hg z hz).2, (hg z hz).1⟩) (fun y hy x hx => by
        cases a with
        | nil => cases hy
        | cons z a =>
          cases b with
          | nil => cases hx
          | cons w b =>
            cases hx
            simp only [swapB, decide_eq_true_eq] at hs
            have ow := hbo x (by simp)
            have oz := hao z (by simp)
            rcases List.mem_cons.1 hy with h | h
            · rw [h]; exact ltT_asym hs
            · exact ltT_asym (ltT_trans ow oz (hao y hy) hs ((List.pairwise_cons.1 ha).1 y h)))
      exact ⟨r.1, r.2.1, fun u => by rw [r.2.2 u]; grind⟩
    · rw [if_neg hs]
      have hane : a ≠ [] := fun h0 => by subst h0; exact hs rfl
      exact step a b hane hn ha hao hb hbo hg (fun y hy x hx => by
        cases a with
        | nil => cases hx
        | cons z a =>
          cases hx
          cases b with
          | nil => cases hy
          | cons w b =>
            simp only [swapB, decide_eq_true_eq] at hs
            have ow := hbo w (by simp)
            have oz := hao x (by simp)
            rcases List.mem_cons.1 hy with h | h
            · rw [h]; exact hs
            · exact ltT_asym (lt_of_le' oz ow (hbo y hy) hs ((List.pairwise_cons.1 hb).1 y h)))
theorem mrgS_spec {a b : List Tm} (ha : SA a) (hao : OkL a) (hb : SA b) (hbo : OkL b) : SA (mrgS a b) ∧ OkL (mrgS a b) ∧ ∀ u, u ∈ mrgS a b ↔ u ∈ a ∨ u ∈ b := by
  obtain ⟨h1, h2, h3⟩ := mrg_spec _ [] a b rfl List.Pairwise.nil (fun t h => by cases h) ha hao hb hbo (fun z h => by cases h)
  exact ⟨h1, h2, fun u => by unfold mrgS; rw [h3 u]; simp⟩
def momP (l : List (List Ev)) : List Tm := l.foldl (fun o v => mrgS o (ownV v)) []
theorem mom_from (l : List (List Ev)) : ∀ (o : List Tm), SA o → OkL o → (∀ v ∈ l, Val v) → l.foldl (fun o v => mrgS o (ownV v)) o = l.foldl momV o ∧ SA (l.foldl momV o) ∧ OkL (l.foldl momV o) := by
  induction l with
  | nil => intro o h1 h2 _; exact ⟨rfl, h1, h2⟩
  | cons v l ih =>
    intro o h1 h2 hv
    have hV := hv v (by simp)
    obtain ⟨a1, a2, a3⟩ := mrgS_spec h1 h2 (own_sa hV).1 (own_sa hV).2
    obtain ⟨b1, b2⟩ := momV_sa v o h1 h2 (fun x hx => ⟨(val_mem hV x hx).1, (val_mem hV x hx).2.1⟩)
    have e : mrgS o (ownV v) = momV o v := sa_ext a1 b1 (fun t => by rw [a3 t, momV_mem, own_mem hV])
    simp only [List.foldl_cons]
    rw [e]
    exact ih _ b1 b2 (fun w hw => hv w (List.mem_cons_of_mem _ hw))
theorem mom_eq {l : List (List Ev)} (h : ∀ v ∈ l, Val v) : momP l = momS l ∧ SA (momS l) ∧ OkL (momS l) := mom_from l [] List.Pairwise.nil (fun t h => by cases h) h
end Go.Proofs.YtmlcnmnpkemdpaaDoor

/- Plain mathematics of settings: checks, the event that sounds at a time, slices. -/
namespace Go.Proofs.YtmlcnmnpkemdpaaDoor
/-- The first voice that is no voice: the error, its number. -/
def chkV (i : Int) : List (List Ev) → Int × Int
  | [] => (0, 0)
  | v :: l => if (checkS v).1 ≠ 0 then ((checkS v).1, i) else chkV (i + 1) l
def checkA (l : List (List Ev)) : Int × Int := if 8 < l.length then (11, 0) else chkV 0 l
theorem chkV_all {l : List (List Ev)} : ∀ {i : Int}, (chkV i l).1 = 0 → ∀ v ∈ l, (checkS v).1 = 0 := by
  induction l with
  | nil => intro i _ v hv; cases hv
  | cons v l ih =>
    intro i h
    unfold chkV at h
    split at h
    · rename_i h0; simp only at h; exact absurd h h0
    · rename_i h0
      intro w hw
      rcases List.mem_cons.1 hw with rfl | hw
      · omega
      · exact ih h w hw
theorem checkA_all {l : List (List Ev)} (h : (checkA l).1 = 0) : l.length ≤ 8 ∧ ∀ v ∈ l, (checkS v).1 = 0 := by
  unfold checkA at h
  split at h
  · cases h
  · exact ⟨by omega, chkV_all h⟩
theorem chkV_bad {v : List Ev} {l : List (List Ev)} {i : Int} (h : (checkS v).1 ≠ 0) : chkV i (v :: l) = ((checkS v).1, i) := by unfold chkV; rw [if_pos h]
theorem chkV_next {v : List Ev} {l : List (List Ev)} {i : Int} (h : (checkS v).1 = 0) : chkV i (v :: l) = chkV (i + 1) l := by
  conv => lhs; unfold chkV
  rw [if_neg (fun h0 => h0 h)]
theorem checkS_len {v : List Ev} (h : (checkS v).1 = 0) : v.length ≤ 2000 := by
  unfold checkS at h
  split at h
  · cases h
  · omega

/-! ### The event that sounds at a time -/
def holdB (x : Ev) (t : Tm) : Bool := decide (¬ ltT t x.at_) && decide (ltT t (nextS x))
def onFrom (i : Int) : List Ev → Tm → Int
  | [], _ => -1
  | x :: v, t => if holdB x t = true then i else onFrom (i + 1) v t
def onS (v : List Ev) (t : Tm) : Int := onFrom 0 v t
theorem onFrom_drop {v : List Ev} {t : Tm} {k : Nat} {x : Ev} (hx : v[k]? = some x) : onFrom k (v.drop k) t = if holdB x t = true then (k : Int) else onFrom ((k + 1 : Nat) : Int) (v.drop (k + 1)) t := by
  obtain ⟨hk, rfl⟩ := List.getElem?_eq_some_iff.1 hx
  rw [List.drop_eq_getElem_cons hk]
  rfl
theorem on_none {v : List Ev} {t : Tm} (h : ∀ x ∈ v, holdB x t = false) : ∀ i, onFrom i v t = -1 := by
  induction v with
  | nil => intro i; rfl
  | cons x v ih =>
    intro i
    unfold onFrom
    rw [h x (by simp), if_neg (by simp)]
    exact ih (fun y hy => h y (List.mem_cons_of_mem _ hy)) _
theorem on_some {v : List Ev} {t : Tm} : ∀ (k : Nat) (i : Int) {x : Ev}, v[k]? = some x → holdB x t = true → (∀ (j : Nat) y, j < k → v[j]? = some y → holdB y t = false) → onFrom i v t = i + k := by
  induction v with
  | nil => intro k i x h; simp at h
  | cons y v ih =>
    intro k i x hx hh hno
    unfold onFrom
    cases k with
    | zero =>
      simp at hx; subst hx
      rw [if_pos hh]; simp
    | succ k =>
      rw [hno 0 y (by omega) rfl, if_neg (by simp)]
      rw [ih k (i + 1) (by simpa using hx) hh (fun j z hj hz => hno (j + 1) z (by omega) (by simpa using hz))]
      push_cast; omega
/-- How far the program has gone in a voice at a time. -/
def Ptr (v : List Ev) (t : Tm) (k : Nat) : Prop := k = 0 ∨ ∃ x, v[k]? = some x ∧ ¬ ltT t x.at_
/-- It goes no further. -/
def PtrEnd (v : List Ev) (t : Tm) (k : Nat) : Prop := ∀ x, v[k + 1]? = some x → ltT t x.at_
theorem ptr_later {v : List Ev} (h : Val v) {t t' : Tm} {k : Nat} (ht : ok t) (ht' : ok t') (hp : Ptr v t k) (hle : ¬ ltT t' t) : Ptr v t' k := by
  rcases hp with rfl | ⟨x, hx, hn⟩
  · exact .inl rfl
  · exact .inr ⟨x, hx, leT_trans (h.each k x hx).1 ht ht' hn hle⟩
theorem ptr_on {v : List Ev} (h : Val v) {t : Tm} {k : Nat} (ht : ok t) (hp : Ptr v t k) (he : PtrEnd v t k) : onS v t = if ltT t (endV v) then (k : Int) else -1 := by
  by_cases hv : v = []
  · subst hv
    rw [if_neg (by unfold endV; exact zero_le ht)]; rfl
  · have hl : 0 < v.length := List.length_pos_iff.2 hv
    -- the event k
    obtain ⟨x, hx, hxt⟩ : ∃ x, v[k]? = some x ∧ ¬ ltT t x.at_ := by
      rcases hp with rfl | h0
      · obtain ⟨x, hx⟩ : ∃ x, v[0]? = some x := ⟨_, List.getElem?_eq_getElem hl⟩
        exact ⟨x, hx, by rw [h.first x hx]; exact zero_le ht⟩
      · exact h0
    have hkl : k < v.length := (List.getElem?_eq_some_iff.1 hx).1
    have ex := h.each k x hx
    have before : ∀ (j : Nat) y, j < k → v[j]? = some y → holdB y t = false := fun j y hj hy => by
      have ey := h.each j y hy
      have := (at_lt h k j y x hy hx hj).2
      unfold holdB
      rw [decide_eq_false (p := ltT t (nextS y)) (leT_trans ey.2.1 ex.1 ht this hxt), Bool.and_false]
    by_cases hend : ltT t (endV v)
    · rw [if_pos hend]
      have hh : holdB x t = true := by
        unfold holdB
        rw [decide_eq_true hxt, Bool.true_and, decide_eq_true_eq]
        by_cases hn : k + 1 < v.length
        · obtain ⟨y, hy⟩ : ∃ y, v[k + 1]? = some y := ⟨_, List.getElem?_eq_getElem hn⟩
          rw [← h.next k x y hx hy]; exact he y hy
        · have : v.getLast? = some x := by rw [List.getLast?_eq_getElem?, show v.length - 1 = k by omega]; exact hx
          unfold endV at hend; rw [this] at hend; exact hend
      unfold onS
      rw [on_some k 0 hx hh before]; omega
    · rw [if_neg hend]
      refine on_none (fun y hy => ?_) 0
      unfold holdB
      have ey := val_mem h y hy
      rw [decide_eq_false (p := ltT t (nextS y)) (leT_trans ey.2.1 (endV_ok h) ht (end_ge h hy).2 hend), Bool.and_false]

/-! ### Slices -/
structure Sl where
  at_ : Tm
  dur : Tm
  evs : List Int
def mAt (m : List Tm) (i : Nat) : Tm := m.getD i (0, 0)
theorem mAt_some {m : List Tm} {i : Nat} (h : i < m.length) : m[i]? = some (mAt m i) := by simp [mAt, List.getD, h]
/-- The length of slice i, its error. -/
def durE (m : List Tm) (i : Nat) : Tm × Int := (((subS (mAt m (i + 1)) (mAt m i)).1, (subS (mAt m (i + 1)) (mAt m i)).2.1), (subS (mAt m (i + 1)) (mAt m i)).2.2)
def slOf (l : List (List Ev)) (m : List Tm) (i : Nat) : Sl := ⟨mAt m i, (durE m i).1, l.map fun v => onS v (mAt m i)⟩
/-- The first error of the lengths of k slices from i on. -/
def durFrom (m : List Tm) : Nat → Nat → Int
  | _, 0 => 0
  | i, k + 1 => if (durE m i).2 ≠ 0 then (durE m i).2 else durFrom m (i + 1) k
def slicesE (l : List (List Ev)) : List Sl × Int :=
  if (checkA l).1 ≠ 0 then ([], (checkA l).1)
  else if durFrom (momS l) 0 ((momS l).length - 1) ≠ 0 then ([], durFrom (momS l) 0 ((momS l).length - 1))
  else ((List.range ((momS l).length - 1)).map (slOf l (momS l)), 0)
theorem durFrom_bad {m : List Tm} {i k : Nat} (h : (durE m i).2 ≠ 0) : durFrom m i (k + 1) = (durE m i).2 := by unfold durFrom; rw [if_pos h]
theorem durFrom_next {m : List Tm} {i k : Nat} (h : (durE m i).2 = 0) : durFrom m i (k + 1) = durFrom m (i + 1) k := by
  conv => lhs; unfold durFrom
  rw [if_neg (fun h0 => h0 h)]
theorem range_next {α : Type} (f : Nat → α) (k : Nat) : (List.range (k + 1)).map f = (List.range k).map f ++ [f k] := by rw [List.range_succ, List.map_append]; rfl
/-- Everything of a valid setting that the walks use. -/
theorem set_facts {l : List (List Ev)} (h : (checkA l).1 = 0) : l.length ≤ 8 ∧ (∀ v ∈ l, (checkS v).1 = 0 ∧ Val v ∧ v.length ≤ 2000) ∧ momP l = momS l ∧ SA (momS l) ∧ OkL (momS l) := by
  obtain ⟨h1, h2⟩ := checkA_all h
  exact ⟨h1, fun v hv => ⟨h2 v hv, val_of (h2 v hv), checkS_len (h2 v hv)⟩, mom_eq fun v hv => val_of (h2 v hv)⟩
theorem momV_len (v : List Ev) : ∀ o : List Tm, (momV o v).length ≤ o.length + 2 * v.length := by
  induction v with
  | nil => intro o; simp [momV]
  | cons x v ih =>
    intro o
    have h1 := ih (withS (withS o x.at_) (nextS x))
    have h2 : ∀ (o : List Tm) t, (withS o t).length ≤ o.length + 1 := fun o t => by
      induction o with
      | nil => simp [withS]
      | cons y o ih => unfold withS; split <;> (try split) <;> simp <;> omega
    have h3 := h2 o x.at_
    have h4 := h2 (withS o x.at_) (nextS x)
    show (momV (withS (withS o x.at_) (nextS x)) v).length ≤ _
    rw [List.length_cons]
    omega
theorem momS_len (l : List (List Ev)) (h : ∀ v ∈ l, v.length ≤ 2000) : (momS l).length ≤ 4000 * l.length := by
  have key : ∀ (l : List (List Ev)) (o : List Tm), (∀ v ∈ l, v.length ≤ 2000) → (l.foldl momV o).length ≤ o.length + 4000 * l.length := by
    intro l
    induction l with
    | nil => intro o _; simp
    | cons v l ih =>
      intro o hv
      have h1 := ih (momV o v) (fun w hw => hv w (List.mem_cons_of_mem _ hw))
      have h2 := momV_len v o
      have h3 := hv v (by simp)
      simp only [List.foldl_cons, List.length_cons]
      omega
  have := key l [] h
  simpa [momS] using this
end Go.Proofs.YtmlcnmnpkemdpaaDoor

/- What End, At, Starts and Back answer: plain mathematics, no program in sight. -/
namespace Go.Proofs.YtmlcnmnpkemdpaaDoor
/-! ### The end, a time's slice -/
def endT (m : List Tm) : Tm := if m.length = 0 then (0, 1) else mAt m (m.length - 1)
def endE (l : List (List Ev)) : Tm × Int := if (slicesE l).2 ≠ 0 then ((0, 0), (slicesE l).2) else (endT (momS l), 0)
def atFrom (m : List Tm) (t : Tm) : Nat → Nat → Int × Int
  | _, 0 => (0, 2)
  | i, k + 1 => if ¬ ltT t (mAt m i) ∧ ltT t (mAt m (i + 1)) then ((i : Int), 0) else atFrom m t (i + 1) k
def atE (l : List (List Ev)) (t : Tm) : Int × Int :=
  if (slicesE l).2 ≠ 0 then (0, (slicesE l).2) else if chk t.1 t.2 ≠ 0 then (0, chk t.1 t.2) else atFrom (momS l) t 0 ((momS l).length - 1)
theorem slicesE_ok {l : List (List Ev)} (h : (slicesE l).2 = 0) : (checkA l).1 = 0 ∧ slicesE l = ((List.range ((momS l).length - 1)).map (slOf l (momS l)), 0) := by
  unfold slicesE at h ⊢
  by_cases h1 : (checkA l).1 ≠ 0
  · rw [if_pos h1] at h; exact absurd h h1
  · rw [if_neg h1] at h ⊢
    by_cases h2 : durFrom (momS l) 0 ((momS l).length - 1) ≠ 0
    · rw [if_pos h2] at h; exact absurd h h2
    · rw [if_neg h2]; exact ⟨by omega, rfl⟩
theorem slicesE_err {l : List (List Ev)} (h : (slicesE l).2 ≠ 0) : (slicesE l).1 = [] := by
  unfold slicesE at h ⊢
  by_cases h1 : (checkA l).1 ≠ 0
  · rw [if_pos h1]
  · rw [if_neg h1] at h ⊢
    by_cases h2 : durFrom (momS l) 0 ((momS l).length - 1) ≠ 0
    · rw [if_pos h2]
    · rw [if_neg h2] at h; exact absurd rfl h
theorem mAt_get {m : List Tm} {i : Nat} {x : Tm} (h : m[i]? = some x) : mAt m i = x := by simp [mAt, List.getD, h]
theorem sa_lt {m : List Tm} (h : SA m) {i j : Nat} (hij : i < j) (hj : j < m.length) : ltT (mAt m i) (mAt m j) := by
  have := List.pairwise_iff_getElem.1 h i j (by omega) hj hij
  rw [mAt_get (List.getElem?_eq_getElem (by omega : i < m.length)), mAt_get (List.getElem?_eq_getElem hj)]
  exact this
theorem sa_mono {m : List Tm} (h : SA m) {i j : Nat} (hij : i ≤ j) (hj : j < m.length) : ¬ ltT (mAt m j) (mAt m i) := by
  rcases Nat.lt_or_ge i j with h1 | h1
  · exact ltT_asym (sa_lt h h1 hj)
  · rw [show i = j by omega]; exact ltT_irr _
theorem ok_mAt {m : List Tm} (ho : OkL m) {i : Nat} (hi : i < m.length) : ok (mAt m i) := ho _ (List.mem_of_getElem? (mAt_some hi))
theorem at_one {m : List Tm} (h : SA m) (ho : OkL m) {t : Tm} (ht : ok t) {n : Nat} (hn : n + 1 < m.length) (h1 : ¬ ltT t (mAt m n)) (h2 : ltT t (mAt m (n + 1))) : ∀ (k i : Nat), i ≤ n → n < i + k → atFrom m t i k = ((n : Int), 0)
  | 0, i, a, b => by omega
  | k + 1, i, a, b => by
    unfold atFrom
    by_cases e : i = n
    · subst e; rw [if_pos ⟨h1, h2⟩]
    · rw [if_neg, at_one h ho ht hn h1 h2 k (i + 1) (by omega) (by omega)]
      rintro ⟨_, h4⟩
      have := sa_mono h (i := i + 1) (j := n) (by omega) (by omega)
      exact h1 (lt_of_le ht (ok_mAt ho (by omega)) (ok_mAt ho (by omega)) h4 this)
theorem at_none {m : List Tm} (h : SA m) (ho : OkL m) {t : Tm} (ht : ok t) (he : ¬ ltT t (endT m)) : ∀ (k i : Nat), i + k ≤ m.length - 1 → atFrom m t i k = (0, 2)
  | 0, i, _ => rfl
  | k + 1, i, hk => by
    unfold atFrom
    rw [if_neg, at_none h ho ht he k (i + 1) (by omega)]
    rintro ⟨_, h4⟩
    unfold endT at he
    rw [if_neg (by omega)] at he
    exact he (lt_of_le ht (ok_mAt ho (by omega)) (ok_mAt ho (by omega)) h4 (sa_mono h (i := i + 1) (j := m.length - 1) (by omega) (by omega)))
/-! ### Who starts -/
def startB (v : List Ev) (t : Tm) : Bool := match onS v t with
  | .ofNat k => match v[k]? with | some x => decide (x.at_ = t) | none => false
  | .negSucc _ => false
def startsE (l : List (List Ev)) (n : Int) : List Bool × Int :=
  if (slicesE l).2 ≠ 0 then ([], (slicesE l).2) else if n < 0 ∨ ((slicesE l).1.length : Int) ≤ n then ([], 2) else (l.map fun v => startB v (mAt (momS l) n.toNat), 0)
/-! ### Sums of slices -/
abbrev Pt := Int × Tm
def sumI (i : Int) : Tm → List Pt → Tm × Int
  | t, [] => (t, 0)
  | t, p :: es => if p.1 ≠ i then sumI i t es else if (addS t p.2).2.2 ≠ 0 then ((0, 0), (addS t p.2).2.2) else sumI i ((addS t p.2).1, (addS t p.2).2.1) es
def backFrom (es : List Pt) : Nat → Nat → List Tm × Int
  | _, 0 => ([], 0)
  | i, k + 1 => if (sumI i (0, 1) es).2 ≠ 0 then ([], (sumI i (0, 1) es).2) else if (backFrom es (i + 1) k).2 ≠ 0 then ([], (backFrom es (i + 1) k).2) else ((sumI i (0, 1) es).1 :: (backFrom es (i + 1) k).1, 0)
def backP : List Tm → List Pt → List Tm × Int
  | out, [] => (out, 0)
  | out, p :: es => if p.1 < 0 then backP out es else if (addS (mAt out p.1.toNat) p.2).2.2 ≠ 0 then ([], (addS (mAt out p.1.toNat) p.2).2.2) else backP (out.set p.1.toNat ((addS (mAt out p.1.toNat) p.2).1, (addS (mAt out p.1.toNat) p.2).2.1)) es
theorem back_succ (es : List Pt) (i k : Nat) : backFrom es i (k + 1) = if (sumI i (0, 1) es).2 ≠ 0 then ([], (sumI i (0, 1) es).2) else if (backFrom es (i + 1) k).2 ≠ 0 then ([], (backFrom es (i + 1) k).2) else ((sumI i (0, 1) es).1 :: (backFrom es (i + 1) k).1, 0) := rfl
theorem back_skip {p : Pt} {es : List Pt} : ∀ (k i : Nat), p.1 < i → backFrom (p :: es) i k = backFrom es i k
  | 0, _, _ => rfl
  | k + 1, i, h => by
    have e : sumI i (0, 1) (p :: es) = sumI i (0, 1) es := by conv => lhs; unfold sumI; rw [if_pos (by omega)]
    unfold backFrom
    rw [e, back_skip k (i + 1) (by push_cast; omega)]
theorem back_nil : ∀ (k i : Nat), backFrom [] i k = (List.replicate k (0, 1), 0)
  | 0, _ => rfl
  | k + 1, i => by
    unfold backFrom
    rw [if_neg (by simp [sumI]), back_nil k (i + 1), if_neg (by simp)]
    simp [sumI, List.replicate_succ]
theorem sum_none {i : Int} {t : Tm} : ∀ {es : List Pt}, (∀ p ∈ es, p.1 ≠ i) → sumI i t es = (t, 0)
  | [], _ => rfl
  | p :: es, h => by unfold sumI; rw [if_pos (h p (by simp))]; exact sum_none (fun q hq => h q (by simp [hq]))
/-- The answer behind voices done, with a sum begun. -/
def backAt (done : List Tm) (t : Tm) (i k : Nat) (es : List Pt) : List Tm × Int :=
  if (sumI i t es).2 ≠ 0 then ([], (sumI i t es).2) else if (backFrom es (i + 1) k).2 ≠ 0 then ([], (backFrom es (i + 1) k).2) else (done ++ (sumI i t es).1 :: (backFrom es (i + 1) k).1, 0)
theorem back_step : ∀ (N : Nat) (es : List Pt) (k i : Nat) (done : List Tm) (t : Tm), es.length + k = N → done.length = i → es.Pairwise (fun p q => 0 ≤ p.1 → 0 ≤ q.1 → p.1 ≤ q.1) →
    (∀ p ∈ es, 0 ≤ p.1 → (i : Int) ≤ p.1 ∧ p.1 < (i : Int) + k + 1) → backP (done ++ t :: List.replicate k (0, 1)) es = backAt done t i k es := by
  intro N
  induction N with
  | zero =>
    intro es k i done t hN hd hp hb
    have e1 : es = [] := List.length_eq_zero_iff.1 (by omega)
    have e2 : k = 0 := by omega
    subst e1 e2
    simp [backP, backAt, sumI, backFrom]
  | succ N ih =>
    intro es k i done t hN hd hp hb
    cases es with
    | nil => simp [backP, backAt, sumI, back_nil]
    | cons p es =>
      obtain ⟨hp1, hp2⟩ := List.pairwise_cons.1 hp
      have hb2 : ∀ q ∈ es, 0 ≤ q.1 → (i : Int) ≤ q.1 ∧ q.1 < (i : Int) + k + 1 := fun q hq => hb q (by simp [hq])
      by_cases hneg : p.1 < 0
      · have e1 : sumI i t (p :: es) = sumI i t es := by conv => lhs; unfold sumI; rw [if_pos (by omega)]
        unfold backP
        rw [if_pos hneg, ih es k i done t (by simp at hN; omega) hd hp2 hb2]
        unfold backAt
        rw [e1, back_skip k (i + 1) (by push_cast; omega)]
      · obtain ⟨h1, h2⟩ := hb p (by simp) (by omega)
        by_cases he : p.1 = i
        · have e0 : p.1.toNat = i := by omega
          have e1 : mAt (done ++ t :: List.replicate k (0, 1)) i = t := mAt_get (by rw [List.getElem?_append_right (by omega)]; simp [hd])
          unfold backP
          rw [if_neg hneg, e0, e1]
          by_cases hx : (addS t p.2).2.2 ≠ 0
          · rw [if_pos hx]
            have e2 : sumI i t (p :: es) = ((0, 0), (addS t p.2).2.2) := by unfold sumI; rw [if_neg (by omega), if_pos hx]
            unfold backAt
            rw [e2, if_pos hx]
          · rw [if_neg hx]
            have e2 : sumI i t (p :: es) = sumI i ((addS t p.2).1, (addS t p.2).2.1) es := by conv => lhs; unfold sumI; rw [if_neg (by omega), if_neg hx]
            have e3 : (done ++ t :: List.replicate k (0, 1)).set i ((addS t p.2).1, (addS t p.2).2.1) = done ++ ((addS t p.2).1, (addS t p.2).2.1) :: List.replicate k (0, 1) := by
              rw [List.set_append_right _ _ (by omega)]; simp [hd]
            rw [e3, ih es k i done _ (by simp at hN; omega) hd hp2 hb2]
            unfold backAt
            rw [e2, back_skip k (i + 1) (by push_cast; omega)]
        · cases k with
          | zero => omega
          | succ k =>
            have hall : ∀ q ∈ p :: es, 0 ≤ q.1 → ((i + 1 : Nat) : Int) ≤ q.1 ∧ q.1 < ((i + 1 : Nat) : Int) + k + 1 := by
              intro q hq hq0
              have := hb q hq hq0
              rcases List.mem_cons.1 hq with rfl | hq2
              · constructor <;> push_cast at * <;> omega
              · have := hp1 q hq2 (by omega) hq0
                constructor <;> push_cast at * <;> omega
            have hne : ∀ q ∈ p :: es, q.1 ≠ (i : Int) := by
              intro q hq e
              have := hall q hq (by omega)
              push_cast at this; omega
            have e4 : done ++ t :: List.replicate (k + 1) (0, 1) = (done ++ [t]) ++ (0, 1) :: List.replicate k (0, 1) := by simp [List.replicate_succ]
            rw [e4, ih (p :: es) k (i + 1) (done ++ [t]) (0, 1) (by simp at hN ⊢; omega) (by simp [hd]) hp hall]
            unfold backAt
            rw [sum_none hne, back_succ]
            by_cases h5 : (sumI ((i + 1 : Nat) : Int) (0, 1) (p :: es)).2 ≠ 0
            · simp only [if_pos h5]; simp
            · by_cases h6 : (backFrom (p :: es) (i + 1 + 1) k).2 ≠ 0
              · simp only [if_neg h5, if_pos h6]; simp
              · simp only [if_neg h5, if_neg h6]; simp
theorem back_eq {es : List Pt} {n : Nat} (hp : es.Pairwise (fun p q => 0 ≤ p.1 → 0 ≤ q.1 → p.1 ≤ q.1)) (hb : ∀ p ∈ es, p.1 < (n : Int)) : backP (List.replicate n (0, 1)) es = backFrom es 0 n := by
  cases n with
  | zero =>
    have : ∀ (es : List Pt), (∀ p ∈ es, p.1 < (0 : Int)) → backP [] es = ([], 0) := by
      intro es
      induction es with
      | nil => intro _; rfl
      | cons p es ih => intro h; unfold backP; rw [if_pos (h p (by simp))]; exact ih (fun q hq => h q (by simp [hq]))
    exact this es (by simpa using hb)
  | succ n =>
    rw [List.replicate_succ]
    have := back_step _ es n 0 [] (0, 1) rfl rfl hp (fun p hp h0 => ⟨h0, by have := hb p hp; push_cast at this; omega⟩)
    rw [List.nil_append] at this
    rw [this]
    unfold backAt
    conv => rhs; unfold backFrom
    simp
/-- The durations of the events of a voice. -/
def ptsOf (l : List (List Ev)) (v : List Ev) : List Pt := (List.range ((momS l).length - 1)).map fun k => (onS v (mAt (momS l) k), (durE (momS l) k).1)
def backE (l : List (List Ev)) (voice : Int) : List Tm × Int :=
  if (slicesE l).2 ≠ 0 then ([], (slicesE l).2) else if voice < 0 ∨ (l.length : Int) ≤ voice then ([], 2) else backFrom (ptsOf l (l.getD voice.toNat [])) 0 (l.getD voice.toNat []).length
/-- Where an event holds, or the voice has ended. -/
theorem on_char {v : List Ev} (h : Val v) {t : Tm} (ht : ok t) : (∃ k x, v[k]? = some x ∧ holdB x t = true ∧ onS v t = (k : Nat)) ∨ onS v t = -1 := by
  by_cases hh : ∃ x ∈ v, holdB x t = true
  · obtain ⟨x, hx, hb⟩ := hh
    obtain ⟨k, hk⟩ := List.mem_iff_getElem?.1 hx
    refine .inl ⟨k, x, hk, hb, ?_⟩
    unfold onS
    rw [on_some k 0 hk hb (fun j y hj hy => ?_)]
    · omega
    · have h1 := (at_lt h k j y x hy hk hj).2
      unfold holdB at hb ⊢
      rw [Bool.and_eq_true, decide_eq_true_eq, decide_eq_true_eq] at hb
      have ey := h.each j y hy
      have ex := h.each k x hk
      rw [decide_eq_false (p := ltT t (nextS y)) (leT_trans ey.2.1 ex.1 ht h1 hb.1), Bool.and_false]
  · refine .inr (on_none (fun x hx => ?_) 0)
    cases hb : holdB x t
    · rfl
    · exact absurd ⟨x, hx, hb⟩ hh
theorem on_lt {v : List Ev} (h : Val v) {t : Tm} (ht : ok t) : onS v t < (v.length : Int) := by
  rcases on_char h ht with ⟨k, x, hk, _, e⟩ | e
  · rw [e]; have := (List.getElem?_eq_some_iff.1 hk).1; omega
  · rw [e]; omega
theorem on_mono {v : List Ev} (h : Val v) {t u : Tm} (ht : ok t) (hu : ok u) (hle : ¬ ltT u t) (h0 : 0 ≤ onS v t) (h1 : 0 ≤ onS v u) : onS v t ≤ onS v u := by
  rcases on_char h ht with ⟨k, x, hk, hb, e⟩ | e
  · rcases on_char h hu with ⟨j, y, hj, hc, f⟩ | f
    · rw [e, f]
      rcases Nat.lt_or_ge j k with hlt | hge
      · exfalso
        have h2 := (at_lt h k j y x hj hk hlt).2
        unfold holdB at hb hc
        rw [Bool.and_eq_true, decide_eq_true_eq, decide_eq_true_eq] at hb hc
        have ey := h.each j y hj
        have ex := h.each k x hk
        exact leT_trans ey.2.1 ex.1 hu h2 (leT_trans ex.1 ht hu hb.1 hle) hc.2
      · omega
    · rw [f] at h1; omega
  · rw [e] at h0; omega
theorem pts_mono {l : List (List Ev)} (hz : (checkA l).1 = 0) {v : List Ev} (hv : v ∈ l) : (ptsOf l v).Pairwise (fun p q => 0 ≤ p.1 → 0 ≤ q.1 → p.1 ≤ q.1) ∧ ∀ p ∈ ptsOf l v, p.1 < (v.length : Int) := by
  obtain ⟨_, f2, _, f4, f5⟩ := set_facts hz
  have hval := (f2 v hv).2.1
  constructor
  · unfold ptsOf
    rw [List.pairwise_map]
    refine List.Pairwise.imp_of_mem ?_ List.pairwise_lt_range
    intro a b ha hb hab h0 h1
    rw [List.mem_range] at ha hb
    exact on_mono hval (ok_mAt f5 (by omega)) (ok_mAt f5 (by omega)) (ltT_asym (sa_lt f4 hab (by omega))) h0 h1
  · intro p hp
    unfold ptsOf at hp
    obtain ⟨k, hk, rfl⟩ := List.mem_map.1 hp
    rw [List.mem_range] at hk
    exact on_lt hval (ok_mAt f5 (by omega))
end Go.Proofs.YtmlcnmnpkemdpaaDoor

/- Sorting by insertion, from the front and from behind: plain mathematics, no program in sight. -/
namespace Go.Proofs.YtmlcnmnpkemdpaaDoor
/-- One more element in an ascending list. -/
def ins {α : Type} (lt : α → α → Bool) (x : α) : List α → List α
  | [] => [x]
  | y :: s => if lt y x then y :: ins lt x s else x :: y :: s
def insPos {α : Type} (lt : α → α → Bool) (x : α) : List α → Nat
  | [] => 0
  | y :: s => if lt y x then insPos lt x s + 1 else 0
theorem ins_pos {α : Type} (lt : α → α → Bool) (x : α) : ∀ s : List α, ins lt x s = s.take (insPos lt x s) ++ x :: s.drop (insPos lt x s)
  | [] => rfl
  | y :: s => by
    unfold ins insPos
    by_cases h : lt y x = true
    · rw [if_pos h, if_pos h, ins_pos lt x s]; simp
    · rw [if_neg h, if_neg h]; simp
theorem insPos_le {α : Type} (lt : α → α → Bool) (x : α) : ∀ s : List α, insPos lt x s ≤ s.length
  | [] => by simp [insPos]
  | y :: s => by
    have := insPos_le lt x s
    unfold insPos
    rw [List.length_cons]
    split <;> omega
theorem insPos_is {α : Type} {lt : α → α → Bool} {x : α} : ∀ {s : List α} {k : Nat}, (∀ (j : Nat) y, j < k → s[j]? = some y → lt y x = true) → k ≤ s.length → (∀ y, s[k]? = some y → lt y x = false) → insPos lt x s = k
  | [], k, _, h, _ => by simp at h; subst h; rfl
  | z :: s, 0, _, _, h3 => by unfold insPos; rw [if_neg (by rw [h3 z rfl]; simp)]
  | z :: s, k + 1, h1, h2, h3 => by
    unfold insPos
    rw [if_pos (h1 0 z (by omega) rfl), insPos_is (k := k) (fun j y hj hy => h1 (j + 1) y (by omega) (by simpa using hy)) (by simpa using h2) (fun y hy => h3 y (by simpa using hy))]
def insAll {α : Type} (lt : α → α → Bool) (l : List α) : List α := l.foldl (fun o x => ins lt x o) []
/-- The element behind j goes forward as far as it is less. -/
def sink {α : Type} (lt : α → α → Bool) : Nat → List α → List α
  | 0, l => l
  | j + 1, l => match l[j]?, l[j + 1]? with
    | some y, some x => if lt x y then sink lt j ((l.set (j + 1) y).set j x) else l
    | _, _ => l
/-- The loop over the elements from i on, k rounds. -/
def sorts {α : Type} (lt : α → α → Bool) : Nat → Nat → List α → List α
  | _, 0, l => l
  | i, k + 1, l => sorts lt (i + 1) k (sink lt i l)
theorem ins_perm {α : Type} (lt : α → α → Bool) (x : α) (s : List α) : (ins lt x s).Perm (x :: s) := by
  induction s with
  | nil => exact List.Perm.refl _
  | cons y s ih =>
    unfold ins
    split
    · exact (List.Perm.cons y ih).trans (List.Perm.swap x y s)
    · exact List.Perm.refl _
theorem ins_last {α : Type} {lt : α → α → Bool} {x : α} : ∀ {s : List α}, (∀ z ∈ s, lt z x = true) → ins lt x s = s ++ [x]
  | [], _ => rfl
  | y :: s, h => by unfold ins; rw [if_pos (h y (by simp)), ins_last (fun z hz => h z (by simp [hz]))]; rfl
theorem ins_before {α : Type} {lt : α → α → Bool} {x y : α} (h : lt y x = false) : ∀ (s : List α), ins lt x (s ++ [y]) = ins lt x s ++ [y]
  | [] => by simp [ins, h]
  | z :: s => by
    rw [List.cons_append]
    unfold ins
    split
    · rw [ins_before h s]; rfl
    · rfl
structure Tot {α : Type} (lt : α → α → Bool) (P : α → Prop) : Prop where
  tr : ∀ a b c, P a → P b → P c → lt a b = true → lt b c = true → lt a c = true
  as : ∀ a b, P a → P b → lt a b = true → lt b a = false
  tt : ∀ a b, P a → P b → a ≠ b → lt a b = true ∨ lt b a = true
theorem ins_sorted {α : Type} {lt : α → α → Bool} {P : α → Prop} (ht : Tot lt P) {x : α} (hx : P x) : ∀ {s : List α}, (∀ y ∈ s, P y) → (∀ y ∈ s, y ≠ x) → s.Pairwise (fun a b => lt a b = true) → (ins lt x s).Pairwise (fun a b => lt a b = true)
  | [], _, _, _ => by simp [ins]
  | y :: s, hp, hn, hs => by
    obtain ⟨h1, h2⟩ := List.pairwise_cons.1 hs
    have hy := hp y (by simp)
    unfold ins
    by_cases h : lt y x = true
    · rw [if_pos h]
      refine List.pairwise_cons.2 ⟨fun z hz => ?_, ins_sorted ht hx (fun z hz => hp z (by simp [hz])) (fun z hz => hn z (by simp [hz])) h2⟩
      rcases List.mem_cons.1 ((ins_perm lt x s).mem_iff.1 hz) with rfl | hz
      · exact h
      · exact h1 z hz
    · rw [if_neg h]
      have hxy : lt x y = true := by
        rcases ht.tt y x hy hx (hn y (by simp)) with h3 | h3
        · exact absurd h3 h
        · exact h3
      refine List.pairwise_cons.2 ⟨fun z hz => ?_, hs⟩
      rcases List.mem_cons.1 hz with rfl | hz
      · exact hxy
      · exact ht.tr x y z hx hy (hp z (by simp [hz])) hxy (h1 z hz)
theorem sink_ins {α : Type} {lt : α → α → Bool} {P : α → Prop} (ht : Tot lt P) {x : α} (hx : P x) : ∀ (n : Nat) {s r : List α}, s.length = n → (∀ y ∈ s, P y) → (∀ y ∈ s, y ≠ x) → s.Pairwise (fun a b => lt a b = true) → sink lt n (s ++ x :: r) = ins lt x s ++ r := by
  intro n
  induction n with
  | zero => intro s r h _ _ _; rw [List.length_eq_zero_iff.1 h]; rfl
  | succ n ih =>
    intro s r h hp hn hs
    obtain ⟨s', y, rfl⟩ : ∃ s' y, s = s' ++ [y] := by
      refine ⟨s.dropLast, s.getLast (by intro e; rw [e] at h; simp at h), ?_⟩
      rw [List.dropLast_concat_getLast]
    have hl : s'.length = n := by simpa using h
    have e1 : (s' ++ [y] ++ x :: r)[n]? = some y := by rw [List.append_assoc, List.getElem?_append_right (by omega)]; simp [hl]
    have e2 : (s' ++ [y] ++ x :: r)[n + 1]? = some x := by rw [List.getElem?_append_right (by simp; omega)]; simp [hl]
    unfold sink
    rw [e1, e2]
    simp only
    have hy : P y := hp y (by simp)
    obtain ⟨hs1, hs2, hs3⟩ := List.pairwise_append.1 hs
    by_cases hlt : lt x y = true
    · rw [if_pos hlt]
      have e3 : ((s' ++ [y] ++ x :: r).set (n + 1) y).set n x = s' ++ x :: (y :: r) := by
        rw [List.append_assoc, List.set_append_right _ _ (by omega), List.set_append_right _ _ (by omega)]
        simp [hl]
      rw [e3, ih hl (fun z hz => hp z (by simp [hz])) (fun z hz => hn z (by simp [hz])) hs1, ins_before (ht.as x y hx hy hlt)]
      simp
    · rw [if_neg hlt, ins_last]
      · simp
      · have hyx : lt y x = true := by
          rcases ht.tt y x hy hx (hn y (by simp)) with h3 | h3
          · exact h3
          · exact absurd h3 hlt
        intro z hz
        rcases List.mem_append.1 hz with hz | hz
        · exact ht.tr z y x (hp z (by simp [hz])) hy hx (hs3 z hz y (by simp)) hyx
        · rw [List.mem_singleton.1 hz]; exact hyx
theorem insAll_spec {α : Type} {lt : α → α → Bool} {P : α → Prop} (ht : Tot lt P) : ∀ (l o : List α), (∀ y ∈ l, P y) → (∀ y ∈ o, P y) → (l ++ o).Nodup → o.Pairwise (fun a b => lt a b = true) →
    (l.foldl (fun o x => ins lt x o) o).Pairwise (fun a b => lt a b = true) ∧ (l.foldl (fun o x => ins lt x o) o).Perm (l ++ o)
  | [], o, _, _, _, h => ⟨h, List.Perm.refl _⟩
  | x :: l, o, h1, h2, h3, h4 => by
    have hx := h1 x (by simp)
    have hnx : ∀ y ∈ o, y ≠ x := by
      intro y hy e; subst e
      simp at h3
      exact h3.1.2 hy
    have hperm := ins_perm lt x o
    obtain ⟨r1, r2⟩ := insAll_spec ht l (ins lt x o) (fun y hy => h1 y (by simp [hy])) (fun y hy => by
      rcases List.mem_cons.1 (hperm.mem_iff.1 hy) with rfl | hy
      · exact hx
      · exact h2 y hy) (by
        refine (List.Perm.nodup_iff ?_).2 h3
        exact (List.Perm.append_left l hperm).trans List.perm_middle) (ins_sorted ht hx h2 hnx h4)
    exact ⟨r1, r2.trans ((List.Perm.append_left l hperm).trans List.perm_middle)⟩
theorem sorts_ins {α : Type} {lt : α → α → Bool} {P : α → Prop} (ht : Tot lt P) : ∀ (r s : List α), (∀ y ∈ s ++ r, P y) → (s ++ r).Nodup → s.Pairwise (fun a b => lt a b = true) → sorts lt s.length r.length (s ++ r) = r.foldl (fun o x => ins lt x o) s
  | [], s, _, _, _ => by simp [sorts]
  | x :: r, s, hp, hn, hs => by
    have hx := hp x (by simp)
    have hps : ∀ y ∈ s, P y := fun y hy => hp y (by simp [hy])
    have hnx : ∀ y ∈ s, y ≠ x := by
      intro y hy e; subst e
      rw [List.nodup_append] at hn
      exact hn.2.2 y hy y (by simp) rfl
    have hperm := ins_perm lt x s
    have hl : (ins lt x s).length = s.length + 1 := by rw [hperm.length_eq]; rfl
    rw [List.length_cons]
    unfold sorts
    rw [sink_ins ht hx s.length rfl hps hnx hs, List.foldl_cons, ← sorts_ins ht r (ins lt x s) ?_ ?_ (ins_sorted ht hx hps hnx hs), hl]
    · intro y hy
      refine hp y ?_
      rcases List.mem_append.1 hy with hy | hy
      · rcases List.mem_cons.1 (hperm.mem_iff.1 hy) with rfl | hy
        · simp
        · simp [hy]
      · simp [hy]
    · refine (List.Perm.nodup_iff ?_).2 hn
      exact (List.Perm.append_right r hperm).trans List.perm_middle.symm
theorem sorts_all {α : Type} {lt : α → α → Bool} {P : α → Prop} (ht : Tot lt P) {l : List α} (hp : ∀ y ∈ l, P y) (hn : l.Nodup) : sorts lt 1 (l.length - 1) l = insAll lt l := by
  cases l with
  | nil => rfl
  | cons x r => exact sorts_ins ht r [x] hp hn (by simp)
theorem sink_len {α : Type} (lt : α → α → Bool) : ∀ (j : Nat) (l : List α), (sink lt j l).length = l.length
  | 0, _ => rfl
  | j + 1, l => by
    unfold sink
    split
    · split
      · rw [sink_len lt j]; simp
      · rfl
    · rfl
/-! ### Who sounds, by pitch -/
def eventAt (v : List Ev) (t : Tm) : Option Ev := match onS v t with
  | .ofNat k => v[k]?
  | .negSucc _ => none
def soundB (v : List Ev) (t : Tm) : Bool := match eventAt v t with
  | some x => !x.rest
  | none => false
abbrev Key := Int × Int × Int
def keyOf (l : List (List Ev)) (t : Tm) (k : Nat) : Key := match eventAt (l.getD k []) t with
  | some x => (numP x.pit, x.pit.2.2, (k : Int))
  | none => (0, 0, (k : Int))
def ltK (a b : Key) : Bool := decide (a.1 < b.1 ∨ (a.1 = b.1 ∧ (a.2.1 < b.2.1 ∨ (a.2.1 = b.2.1 ∧ a.2.2 < b.2.2))))
def ltV (l : List (List Ev)) (t : Tm) (a b : Nat) : Bool := ltK (keyOf l t a) (keyOf l t b)
theorem key_last (l : List (List Ev)) (t : Tm) (k : Nat) : (keyOf l t k).2.2 = k := by unfold keyOf; split <;> rfl
theorem ltV_tot (l : List (List Ev)) (t : Tm) : Tot (ltV l t) (fun _ => True) where
  tr a b c _ _ _ h1 h2 := by unfold ltV ltK at *; rw [decide_eq_true_eq] at *; omega
  as a b _ _ h := by unfold ltV ltK at *; rw [decide_eq_true_eq] at h; rw [decide_eq_false_iff_not]; omega
  tt a b _ _ h := by
    unfold ltV ltK
    rw [decide_eq_true_eq, decide_eq_true_eq]
    have h1 := key_last l t a
    have h2 := key_last l t b
    omega
def sndS (l : List (List Ev)) (t : Tm) : List Nat := (List.range l.length).filter fun k => soundB (l.getD k []) t
theorem snd_nodup (l : List (List Ev)) (t : Tm) : (sndS l t).Nodup := List.Pairwise.filter _ List.nodup_range
def soundsE (l : List (List Ev)) (n : Int) : List Nat × Int :=
  if (slicesE l).2 ≠ 0 then ([], (slicesE l).2) else if n < 0 ∨ ((slicesE l).1.length : Int) ≤ n then ([], 2) else (insAll (ltV l (mAt (momS l) n.toNat)) (sndS l (mAt (momS l) n.toNat)), 0)
end Go.Proofs.YtmlcnmnpkemdpaaDoor

/- Plain mathematics of settings of voices made of numbers: all times are whole 24ths; slices follow one another; sums of slices. -/
namespace Go.Proofs.YtmlcnmnpkemdpaaDoor
/-! ### Times that are whole 24ths -/
def kT (t : Tm) : Int := t.1 * 24 / t.2
theorem kT_cq {k : Int} (h : inq 24 k) : kT (cq 24 k) = k := by
  obtain ⟨k1, e, _⟩ := cq_ok h
  unfold kT
  rw [e]
  exact Int.mul_ediv_cancel _ (by have := k1.2.2.1; omega)
/-- A time that is a whole number of 24ths, at most M of them. -/
def Q24 (M : Int) (t : Tm) : Prop := t = cq 24 (kT t) ∧ 0 ≤ kT t ∧ kT t ≤ M
theorem q24_of {M k : Int} (h : 0 ≤ k) (h' : k ≤ M) (hM : M ≤ 100000) : Q24 M (cq 24 k) := by
  have := kT_cq (inq_of okq24 h (show k ≤ 1099511627776 by omega))
  unfold Q24; rw [this]; exact ⟨rfl, h, h'⟩
theorem q24_in {M : Int} {t : Tm} (h : Q24 M t) (hM : M ≤ 100000) : inq 24 (kT t) := inq_of okq24 h.2.1 (by have := h.2.2; omega)
theorem q24_ok {M : Int} {t : Tm} (h : Q24 M t) (hM : M ≤ 100000) : ok t := by rw [h.1]; exact (cq_ok (q24_in h hM)).1
theorem kT_zero : kT (0, 1) = 0 := by decide
theorem q24_zero {M : Int} (h : 0 ≤ M) : Q24 M (0, 1) := by
  refine ⟨?_, by rw [kT_zero]; omega, by rw [kT_zero]; exact h⟩
  rw [kT_zero, cq_zero (by omega) (by omega)]
theorem ltT_cq {a b : Int} (ha : inq 24 a) (hb : inq 24 b) : ltT (cq 24 a) (cq 24 b) ↔ a < b := by
  have h := cq_less ha hb
  unfold lessB at h
  rw [cmp_lt (cq_ok ha).1 (cq_ok hb).1] at h
  exact decide_eq_decide.1 h
theorem ltT_k {M : Int} {t u : Tm} (ht : Q24 M t) (hu : Q24 M u) (hM : M ≤ 100000) : ltT t u ↔ kT t < kT u := by
  conv => lhs; rw [ht.1, hu.1]
  exact ltT_cq (q24_in ht hM) (q24_in hu hM)
theorem k_inj {M : Int} {t u : Tm} (ht : Q24 M t) (hu : Q24 M u) (h : kT t = kT u) : t = u := by rw [ht.1, hu.1, h]
theorem sub_k {M : Int} {t u : Tm} (ht : Q24 M t) (hu : Q24 M u) (hM : M ≤ 100000) (h : kT u ≤ kT t) : subS t u = ((cq 24 (kT t - kT u)).1, (cq 24 (kT t - kT u)).2, 0) := by
  conv => lhs; rw [ht.1, hu.1]
  exact cq_sub (q24_in ht hM) (q24_in hu hM) h
/-! ### A voice laid in 24ths -/
/-- Each event begins and ends at a whole 24th. -/
def Q24V (M : Int) (v : List Ev) : Prop := ∀ x ∈ v, Q24 M x.at_ ∧ Q24 M (nextS x) ∧ x.dur = cq 24 (kT (nextS x) - kT x.at_) ∧ kT x.at_ < kT (nextS x)
theorem lay_q {M : Int} (hM : M ≤ 100000) (l : List (Int × Pay)) : ∀ s, 0 ≤ s → pos l → s + sumM l ≤ M → Q24V M (lay 24 s l) := by
  induction l with
  | nil => intro s _ _ _ x hx; simp [lay] at hx
  | cons z l ih =>
    intro s hs hp hb x hx
    obtain ⟨⟨h1, h2⟩, h3⟩ := pos_cons hp
    have h4 := sumM_nonneg h3
    rw [sumM_cons] at hb
    rw [lay] at hx
    rcases List.mem_cons.1 hx with rfl | hx
    · have i1 := inq_of okq24 hs (show s ≤ 1099511627776 by omega)
      have i2 := inq_of okq24 (show 0 ≤ z.1 by omega) (show z.1 ≤ 1099511627776 by omega)
      have i3 := inq_of okq24 (show 0 ≤ s + z.1 by omega) (show s + z.1 ≤ 1099511627776 by omega)
      have en : nextS (z.2.ev (cq 24 s) (cq 24 z.1)) = cq 24 (s + z.1) := by
        unfold nextS
        show ((addS (cq 24 s) (cq 24 z.1)).1, (addS (cq 24 s) (cq 24 z.1)).2.1) = _
        rw [cq_add i1 i2 i3]
      show Q24 M (cq 24 s) ∧ Q24 M (nextS (z.2.ev (cq 24 s) (cq 24 z.1))) ∧ cq 24 z.1 = cq 24 (kT (nextS (z.2.ev (cq 24 s) (cq 24 z.1))) - kT (cq 24 s)) ∧ kT (cq 24 s) < kT (nextS (z.2.ev (cq 24 s) (cq 24 z.1)))
      rw [en, kT_cq i1, kT_cq i3]
      exact ⟨q24_of hs (by omega) hM, q24_of (by omega) (by omega) hM, by congr 1; omega, by omega⟩
    · exact ih (s + z.1) (by omega) h3 (by omega) x hx
theorem voice_q (most : Nat) (hm : most ≤ 20) (l : List Int) : Q24V 2880 (voiceS most l) ∧ (checkS (voiceS most l)).1 = 0 ∧ (voiceS most l).length ≤ most := by
  have h1 : ∀ z ∈ voiceZ 0 (l.take most), small z := voice_small _ 0 (by omega)
  have h2 : (voiceZ 0 (l.take most)).length ≤ most := by rw [voice_len, List.length_take]; omega
  have h3 := small_fit h1 (by omega)
  have h4 := small_sum _ h1
  refine ⟨lay_q (by omega) _ 0 (by omega) h3.1 (by omega), ?_, ?_⟩
  · unfold voiceS; rw [checkS_lay okq24 h3]
  · unfold voiceS; rw [lay_len]; exact h2
/-! ### Moments -/
theorem mem_mom (l : List (List Ev)) (t : Tm) : t ∈ momS l ↔ ∃ v ∈ l, ∃ x ∈ v, t = x.at_ ∨ t = nextS x := by
  have key : ∀ (l : List (List Ev)) (o : List Tm), t ∈ l.foldl momV o ↔ t ∈ o ∨ ∃ v ∈ l, ∃ x ∈ v, t = x.at_ ∨ t = nextS x := by
    intro l
    induction l with
    | nil => intro o; simp
    | cons v l ih =>
      intro o
      rw [List.foldl_cons, ih, momV_mem]
      simp only [List.mem_cons]
      grind
  have := key l []
  simpa [momS] using this
/-- A setting whose voices are valid and laid in 24ths. -/
structure SetQ (M : Int) (l : List (List Ev)) : Prop where
  pos : 0 ≤ M
  big : M ≤ 100000
  len : l.length ≤ 8
  each : ∀ v ∈ l, Q24V M v ∧ (checkS v).1 = 0
theorem chkV_of {l : List (List Ev)} (h : ∀ v ∈ l, (checkS v).1 = 0) : ∀ i, chkV i l = (0, 0) := by
  induction l with
  | nil => intro i; rfl
  | cons v l ih => intro i; rw [chkV_next (h v (by simp))]; exact ih (fun w hw => h w (by simp [hw])) _
section
variable {M : Int} {l : List (List Ev)} (h : SetQ M l)
include h
theorem setq_check : checkA l = (0, 0) := by
  unfold checkA; rw [if_neg (by have := h.len; omega)]; exact chkV_of (fun v hv => (h.each v hv).2) 0
theorem setq_mom : ∀ t ∈ momS l, Q24 M t := by
  intro t ht
  obtain ⟨v, hv, x, hx, e⟩ := (mem_mom l t).1 ht
  obtain ⟨q1, q2, _⟩ := (h.each v hv).1 x hx
  rcases e with rfl | rfl
  · exact q1
  · exact q2
theorem setq_q {i : Nat} (hi : i < (momS l).length) : Q24 M (mAt (momS l) i) := setq_mom h _ (List.mem_of_getElem? (mAt_some hi))
theorem setq_sa : SA (momS l) ∧ OkL (momS l) := (set_facts (by rw [setq_check h])).2.2.2
theorem setq_val : ∀ v ∈ l, Val v := fun v hv => val_of (h.each v hv).2
theorem setq_lt {i j : Nat} (hij : i < j) (hj : j < (momS l).length) : kT (mAt (momS l) i) < kT (mAt (momS l) j) :=
  (ltT_k (setq_q h (by omega)) (setq_q h hj) h.big).1 (sa_lt (setq_sa h).1 hij hj)
theorem setq_dur {i : Nat} (hi : i + 1 < (momS l).length) : durE (momS l) i = (cq 24 (kT (mAt (momS l) (i + 1)) - kT (mAt (momS l) i)), 0) := by
  unfold durE
  rw [sub_k (setq_q h hi) (setq_q h (by omega)) h.big (by have := setq_lt h (i := i) (j := i + 1) (by omega) hi; omega)]
theorem setq_durs : ∀ (k i : Nat), i + k ≤ (momS l).length - 1 → durFrom (momS l) i k = 0
  | 0, i, _ => rfl
  | k + 1, i, hk => by
    rw [durFrom_next (by rw [setq_dur h (by omega)])]
    exact setq_durs k (i + 1) (by omega)
theorem setq_slices : slicesE l = ((List.range ((momS l).length - 1)).map (slOf l (momS l)), 0) := by
  unfold slicesE
  rw [setq_check h, if_neg (fun h => h rfl), setq_durs h _ 0 (by omega), if_neg (fun h => h rfl)]
theorem setq_first (h0 : 0 < (momS l).length) : mAt (momS l) 0 = (0, 1) := by
  -- some voice has an event, its first one begins at 0; all moments are at 0 or later
  have hm := mAt_some h0
  obtain ⟨v, hv, x, hx, e⟩ := (mem_mom l _).1 (List.mem_of_getElem? hm)
  have hval := setq_val h v hv
  obtain ⟨i, hi, rfl⟩ := List.getElem_of_mem hx
  have hv0 : v[0]? = some (v[0]'(by omega)) := List.getElem?_eq_getElem (by omega)
  have e0 := hval.first _ hv0
  have hz : (0, 1) ∈ momS l := (mem_mom l _).2 ⟨v, hv, _, List.getElem_mem (by omega : 0 < v.length), .inl e0.symm⟩
  obtain ⟨j, hj, ej⟩ := List.getElem_of_mem hz
  have ej' : mAt (momS l) j = (0, 1) := mAt_get (by rw [List.getElem?_eq_getElem hj, ej])
  have hq := setq_q h h0
  rcases Nat.eq_zero_or_pos j with rfl | hj0
  · exact ej'
  · have := setq_lt h hj0 hj
    rw [ej', kT_zero] at this
    have := hq.2.1
    omega
end
end Go.Proofs.YtmlcnmnpkemdpaaDoor

/- Plain mathematics: slices of voices made of numbers follow one another from 0 to the greatest end, in each something changes, events are the sums of their slices. -/
namespace Go.Proofs.YtmlcnmnpkemdpaaDoor
section
variable {M : Int} {l : List (List Ev)} (h : SetQ M l)
include h
/-! ### Slices from 0 to the end -/
theorem whole_step {i : Nat} (hi : i + 1 < (momS l).length) : addS (mAt (momS l) i) (durE (momS l) i).1 = ((mAt (momS l) (i + 1)).1, (mAt (momS l) (i + 1)).2, 0) ∧ 1 ≤ (durE (momS l) i).1.1 ∧ ok (durE (momS l) i).1 ∧ ok (mAt (momS l) i) := by
  have q1 := setq_q h (i := i) (by omega)
  have q2 := setq_q h hi
  have hlt := setq_lt h (i := i) (j := i + 1) (by omega) hi
  have hb := h.big
  have i1 := q24_in q1 hb
  have i2 := q24_in q2 hb
  have h1 := q1.2.1
  have h2 := q2.2.2
  have i3 := inq_of okq24 (show 0 ≤ kT (mAt (momS l) (i + 1)) - kT (mAt (momS l) i) by omega) (by omega)
  rw [setq_dur h hi]
  refine ⟨?_, cq_pos i3 (by omega), (cq_ok i3).1, q24_ok q1 hb⟩
  conv => lhs; arg 1; rw [q1.1]
  have e : kT (mAt (momS l) i) + (kT (mAt (momS l) (i + 1)) - kT (mAt (momS l) i)) = kT (mAt (momS l) (i + 1)) := by omega
  rw [cq_add i1 i3 (by rw [e]; exact i2), e, ← q2.1]
theorem mom_le_end {t : Tm} (ht : t ∈ momS l) : ¬ ltT (endT (momS l)) t := by
  obtain ⟨j, hj, e⟩ := List.getElem_of_mem ht
  have ej : mAt (momS l) j = t := mAt_get (by rw [List.getElem?_eq_getElem hj, e])
  unfold endT
  rw [if_neg (by omega), ← ej]
  exact sa_mono (setq_sa h).1 (by omega) (by omega)
theorem endV_q {v : List Ev} (hv : v ∈ l) : Q24 M (endV v) ∧ (v ≠ [] → endV v ∈ momS l) := by
  unfold endV
  cases hl : v.getLast? with
  | none => 
    exact ⟨q24_zero h.pos, fun h0 => absurd (List.getLast?_eq_none_iff.1 hl) h0⟩
  | some x =>
    have hx := List.mem_of_getLast? hl
    exact ⟨((h.each v hv).1 x hx).2.1, fun _ => (mem_mom l _).2 ⟨v, hv, x, hx, .inr rfl⟩⟩
/-- What EndOf answers is not later than the end, and some voice ends there. -/
theorem endV_le {v : List Ev} (hv : v ∈ l) : ¬ ltT (endT (momS l)) (endV v) := by
  by_cases h0 : v = []
  · subst h0
    show ¬ ltT _ (0, 1)
    unfold endT
    by_cases h1 : (momS l).length = 0
    · rw [if_pos h1]; exact ltT_irr _
    · rw [if_neg h1]; exact zero_le (ok_mAt (setq_sa h).2 (by omega))
  · exact mom_le_end h ((endV_q h hv).2 h0)
theorem endT_q : Q24 M (endT (momS l)) := by
  unfold endT
  by_cases h1 : (momS l).length = 0
  · rw [if_pos h1]; exact q24_zero h.pos
  · rw [if_neg h1]; exact setq_q h (by omega)
theorem end_some (h0 : 0 < (momS l).length) : ∃ v ∈ l, endV v = endT (momS l) := by
  have hm := mAt_some (m := momS l) (i := (momS l).length - 1) (by omega)
  have he : endT (momS l) = mAt (momS l) ((momS l).length - 1) := by unfold endT; rw [if_neg (by omega)]
  obtain ⟨v, hv, x, hx, e⟩ := (mem_mom l _).1 (List.mem_of_getElem? hm)
  refine ⟨v, hv, ?_⟩
  have h1 := end_ge (setq_val h v hv) hx
  have h2 := endV_le h hv
  have q1 := (endV_q h hv).1
  have q2 := endT_q h
  have hqx := (h.each v hv).1 x hx
  rw [ltT_k q2 q1 h.big] at h2
  refine k_inj q1 q2 ?_
  rw [he] at h2 ⊢
  have qm := setq_q h (i := (momS l).length - 1) (by omega)
  rcases e with e | e
  · rw [← e] at h1
    have := h1.1
    rw [ltT_k qm q1 h.big] at this
    omega
  · rw [← e] at h1
    have := h1.2
    rw [ltT_k q1 qm h.big] at this
    omega
/-! ### In each slice something changes -/
theorem on_first {v : List Ev} (hv : v ∈ l) (h0 : 0 < v.length) : startB v (0, 1) = true := by
  have hval := setq_val h v hv
  obtain ⟨x, hx⟩ : ∃ x, v[0]? = some x := ⟨_, List.getElem?_eq_getElem h0⟩
  have e := hval.first x hx
  have hh : holdB x (0, 1) = true := by
    unfold holdB
    rw [← e, decide_eq_true (ltT_irr _), decide_eq_true (hval.each 0 x hx).2.2.1]; rfl
  have : onS v (0, 1) = (0 : Nat) := by unfold onS; rw [on_some 0 0 hx hh (fun j y hj => by omega)]; rfl
  unfold startB
  rw [this]
  show (match v[0]? with | some x => decide (x.at_ = (0, 1)) | none => false) = true
  rw [hx]
  simpa using e
theorem start_at {v : List Ev} (hv : v ∈ l) {k : Nat} {x : Ev} (hx : v[k]? = some x) : startB v x.at_ = true := by
  have hval := setq_val h v hv
  have hh : holdB x x.at_ = true := by
    unfold holdB
    rw [decide_eq_true (ltT_irr _), decide_eq_true (hval.each k x hx).2.2.1]; rfl
  have : onS v x.at_ = (k : Nat) := by
    unfold onS
    rw [on_some k 0 hx hh (fun j y hj hy => ?_)]
    · simp
    · have h1 := (at_lt hval k j y x hy hx hj).2
      unfold holdB
      rw [decide_eq_false (p := ltT x.at_ (nextS y)) h1, Bool.and_false]
  unfold startB
  rw [this]
  show (match v[k]? with | some y => decide (y.at_ = x.at_) | none => false) = true
  rw [hx]
  simp
theorem on_in {v : List Ev} (hv : v ∈ l) {t : Tm} (ht : ok t) (hlt : ltT t (endV v)) : 0 ≤ onS v t := by
  have hval := setq_val h v hv
  -- the last event that does not begin behind t
  have hne : v ≠ [] := fun e => by subst e; exact zero_le ht hlt
  have key : ∀ n : Nat, n < v.length → (∃ x, v[n]? = some x ∧ ¬ ltT t x.at_) → ∃ (k : Nat) (x : Ev), v[k]? = some x ∧ holdB x t = true := by
    intro n
    induction hn : v.length - n generalizing n with
    | zero => intro hl; omega
    | succ d ih =>
      rintro hl ⟨x, hx, hxt⟩
      by_cases hb : ltT t (nextS x)
      · exact ⟨n, x, hx, by unfold holdB; rw [decide_eq_true hxt, decide_eq_true hb]; rfl⟩
      · by_cases hl2 : n + 1 < v.length
        · obtain ⟨y, hy⟩ : ∃ y, v[n + 1]? = some y := ⟨_, List.getElem?_eq_getElem hl2⟩
          exact ih (n + 1) (by omega) hl2 ⟨y, hy, by rw [hval.next n x y hx hy]; exact hb⟩
        · exfalso
          have : v.getLast? = some x := by rw [List.getLast?_eq_getElem?, show v.length - 1 = n by omega]; exact hx
          unfold endV at hlt; rw [this] at hlt; exact hb hlt
  have hl : 0 < v.length := List.length_pos_iff.2 hne
  obtain ⟨x0, hx0⟩ : ∃ x, v[0]? = some x := ⟨_, List.getElem?_eq_getElem hl⟩
  obtain ⟨k, x, hx, hb⟩ := key 0 hl ⟨x0, hx0, by rw [hval.first x0 hx0]; exact zero_le ht⟩
  rcases on_char hval ht with ⟨j, y, _, _, e⟩ | e
  · omega
  · -- it holds somewhere
    have hex : ∃ j : Nat, ∃ y, v[j]? = some y ∧ holdB y t = true ∧ ∀ (i : Nat) z, i < j → v[i]? = some z → holdB z t = false := by
      refine ⟨k, x, hx, hb, fun i z hi hz => ?_⟩
      have h1 := (at_lt hval k i z x hz hx hi).2
      unfold holdB at hb ⊢
      rw [Bool.and_eq_true, decide_eq_true_eq, decide_eq_true_eq] at hb
      rw [decide_eq_false (p := ltT t (nextS z)) (leT_trans (hval.each i z hz).2.1 (hval.each k x hx).1 ht h1 hb.1), Bool.and_false]
    obtain ⟨j, y, hy, hb2, hno⟩ := hex
    unfold onS
    rw [on_some j 0 hy hb2 hno]
    omega
theorem on_end {v : List Ev} (hv : v ∈ l) {t : Tm} (ht : ok t) (hle : ¬ ltT t (endV v)) : onS v t = -1 := by
  refine on_none (fun y hy => ?_) 0
  have hval := setq_val h v hv
  unfold holdB
  have ey := val_mem hval y hy
  rw [decide_eq_false (p := ltT t (nextS y)) (leT_trans ey.2.1 (endV_ok hval) ht (end_ge hval hy).2 hle), Bool.and_false]
/-- Something changes at a moment. -/
theorem some_change {n : Nat} (hn : n + 1 < (momS l).length) : ∃ v ∈ l, startB v (mAt (momS l) n) = true ∨ (0 < n ∧ onS v (mAt (momS l) n) < 0 ∧ 0 ≤ onS v (mAt (momS l) (n - 1))) := by
  obtain ⟨v, hv, x, hx, e⟩ := (mem_mom l _).1 (List.mem_of_getElem? (mAt_some (m := momS l) (i := n) (by omega)))
  refine ⟨v, hv, ?_⟩
  have hval := setq_val h v hv
  obtain ⟨i, hi, rfl⟩ := List.getElem_of_mem hx
  have hx' : v[i]? = some v[i] := List.getElem?_eq_getElem hi
  rcases e with e | e
  · rw [e]; exact .inl (start_at h hv hx')
  · by_cases hl : i + 1 < v.length
    · have hy : v[i + 1]? = some v[i + 1] := List.getElem?_eq_getElem hl
      rw [e, ← hval.next i _ _ hx' hy]
      exact .inl (start_at h hv hy)
    · have hlast : v.getLast? = some v[i] := by rw [List.getLast?_eq_getElem?, show v.length - 1 = i by omega]; exact hx'
      have he : endV v = nextS v[i] := by unfold endV; rw [hlast]
      refine .inr ?_
      have hk := (h.each v hv).1 v[i] hx
      have hn0 : 0 < n := by
        rcases Nat.eq_zero_or_pos n with rfl | h0
        · exfalso
          rw [setq_first h (by omega)] at e
          have h1 := hk.2.2.2
          have h2 := hk.1.2.1
          rw [← e, kT_zero] at h1
          omega
        · exact h0
      have o1 := ok_mAt (setq_sa h).2 (i := n) (by omega)
      have o2 := ok_mAt (setq_sa h).2 (i := n - 1) (by omega)
      refine ⟨hn0, ?_, on_in h hv o2 ?_⟩
      · rw [on_end h hv o1 (by rw [he, ← e]; exact ltT_irr _)]; omega
      · rw [he, ← e]; exact sa_lt (setq_sa h).1 (by omega) (by omega)
/-! ### Events are the sums of their slices -/
end
def clampK (a b x : Int) : Int := max a (min b x)
theorem clamp_lo {a b x : Int} (h : x ≤ a) : clampK a b x = a := by unfold clampK; omega
theorem clamp_hi {a b x : Int} (hab : a ≤ b) (h : b ≤ x) : clampK a b x = b := by unfold clampK; omega
theorem clamp_in {a b x : Int} (h : a ≤ x) (h' : x ≤ b) : clampK a b x = x := by unfold clampK; omega
section
variable {M : Int} {l : List (List Ev)} (h : SetQ M l)
include h
/-- Between two moments that follow each other there is none. -/
theorem mom_gap {i : Nat} (hi : i + 1 < (momS l).length) {t : Tm} (ht : t ∈ momS l) : kT t ≤ kT (mAt (momS l) i) ∨ kT (mAt (momS l) (i + 1)) ≤ kT t := by
  obtain ⟨j, hj, e⟩ := List.getElem_of_mem ht
  have ej : mAt (momS l) j = t := mAt_get (by rw [List.getElem?_eq_getElem hj, e])
  rw [← ej]
  rcases Nat.lt_trichotomy j i with h1 | h1 | h1
  · exact .inl (by have := setq_lt h h1 (by omega); omega)
  · subst h1; exact .inl (Int.le_refl _)
  · rcases Nat.lt_or_ge (i + 1) j with h2 | h2
    · exact .inr (by have := setq_lt h h2 hj; omega)
    · have : j = i + 1 := by omega
      subst this; exact .inr (Int.le_refl _)
theorem sum_event {v : List Ev} (hv : v ∈ l) {k : Nat} {x : Ev} (hx : v[k]? = some x) : ∀ (r p : Nat), p + r ≤ (momS l).length - 1 →
    sumI (k : Int) (cq 24 (clampK (kT x.at_) (kT (nextS x)) (kT (mAt (momS l) p)) - kT x.at_)) ((List.range' p r).map fun j => (onS v (mAt (momS l) j), (durE (momS l) j).1)) = (cq 24 (clampK (kT x.at_) (kT (nextS x)) (kT (mAt (momS l) (p + r))) - kT x.at_), 0) := by
  have hxm := List.mem_of_getElem? hx
  have hval := setq_val h v hv
  obtain ⟨q1, q2, qd, qlt⟩ := (h.each v hv).1 x hxm
  have ma : x.at_ ∈ momS l := (mem_mom l _).2 ⟨v, hv, x, hxm, .inl rfl⟩
  have mb : nextS x ∈ momS l := (mem_mom l _).2 ⟨v, hv, x, hxm, .inr rfl⟩
  have hbig := h.big
  intro r
  induction r with
  | zero => intro p hp; rfl
  | succ r ih =>
    intro p hp
    rw [List.range'_succ, List.map_cons]
    have hp1 : p + 1 < (momS l).length := by omega
    have qp := setq_q h (i := p) (by omega)
    have qn := setq_q h hp1
    have hstep := setq_lt h (i := p) (j := p + 1) (by omega) hp1
    have ga := mom_gap h hp1 ma
    have gb := mom_gap h hp1 mb
    have hih := ih (p + 1) (by omega)
    have eadd : p + 1 + r = p + (r + 1) := by omega
    rw [eadd] at hih
    have b1 := q1.2; have b2 := q2.2; have b3 := qp.2; have b4 := qn.2
    by_cases hon : onS v (mAt (momS l) p) = (k : Int)
    · -- the event sounds there
      have hold : ¬ ltT (mAt (momS l) p) x.at_ ∧ ltT (mAt (momS l) p) (nextS x) := by
        rcases on_char hval (q24_ok qp hbig) with ⟨j, y, hy, hb, e⟩ | e
        · rw [hon] at e
          have : j = k := by omega
          subst this
          rw [hx] at hy; cases hy
          unfold holdB at hb
          rw [Bool.and_eq_true, decide_eq_true_eq, decide_eq_true_eq] at hb
          exact hb
        · rw [hon] at e; omega
      rw [ltT_k qp q1 hbig, ltT_k qp q2 hbig] at hold
      have c1 : clampK (kT x.at_) (kT (nextS x)) (kT (mAt (momS l) p)) = kT (mAt (momS l) p) := clamp_in (by omega) (by omega)
      have c2 : clampK (kT x.at_) (kT (nextS x)) (kT (mAt (momS l) (p + 1))) = kT (mAt (momS l) (p + 1)) := clamp_in (by omega) (by omega)
      unfold sumI
      rw [if_neg (by simpa using hon), setq_dur h hp1, c1]
      have i1 := inq_of okq24 (show 0 ≤ kT (mAt (momS l) p) - kT x.at_ by omega) (by omega)
      have i2 := inq_of okq24 (show 0 ≤ kT (mAt (momS l) (p + 1)) - kT (mAt (momS l) p) by omega) (by omega)
      have e3 : kT (mAt (momS l) p) - kT x.at_ + (kT (mAt (momS l) (p + 1)) - kT (mAt (momS l) p)) = kT (mAt (momS l) (p + 1)) - kT x.at_ := by omega
      have i3 := inq_of okq24 (show 0 ≤ kT (mAt (momS l) (p + 1)) - kT x.at_ by omega) (by omega)
      rw [← e3] at i3
      simp only
      rw [cq_add i1 i2 i3, e3, if_neg (fun h => h rfl)]
      rw [c2] at hih
      exact hih
    · have hno : kT (mAt (momS l) (p + 1)) ≤ kT x.at_ ∨ kT (nextS x) ≤ kT (mAt (momS l) p) := by
        rcases ga with ga | ga
        · rcases gb with gb | gb
          · exact .inr gb
          · exfalso
            -- it would sound
            have hh : holdB x (mAt (momS l) p) = true := by
              unfold holdB
              rw [decide_eq_true (by rw [ltT_k qp q1 hbig]; omega), decide_eq_true (by rw [ltT_k qp q2 hbig]; omega)]; rfl
            refine hon ?_
            unfold onS
            rw [on_some k 0 hx hh (fun j y hj hy => ?_)]
            · omega
            · have h1 := (at_lt hval k j y x hy hx hj).2
              unfold holdB at hh ⊢
              rw [Bool.and_eq_true, decide_eq_true_eq, decide_eq_true_eq] at hh
              rw [decide_eq_false (p := ltT _ (nextS y)) (leT_trans (hval.each j y hy).2.1 (hval.each k x hx).1 (q24_ok qp hbig) h1 hh.1), Bool.and_false]
        · exact .inl ga
      have c : clampK (kT x.at_) (kT (nextS x)) (kT (mAt (momS l) p)) = clampK (kT x.at_) (kT (nextS x)) (kT (mAt (momS l) (p + 1))) := by
        rcases hno with h1 | h1
        · rw [clamp_lo (by omega), clamp_lo h1]
        · rw [clamp_hi (by omega) h1, clamp_hi (by omega) (by omega)]
      conv => lhs; unfold sumI
      rw [if_pos (by simpa using hon), c]
      exact hih
theorem sum_whole {v : List Ev} (hv : v ∈ l) {k : Nat} {x : Ev} (hx : v[k]? = some x) : sumI (k : Int) (0, 1) (ptsOf l v) = (x.dur, 0) := by
  have hxm := List.mem_of_getElem? hx
  obtain ⟨q1, q2, qd, qlt⟩ := (h.each v hv).1 x hxm
  have ma : x.at_ ∈ momS l := (mem_mom l _).2 ⟨v, hv, x, hxm, .inl rfl⟩
  have mb : nextS x ∈ momS l := (mem_mom l _).2 ⟨v, hv, x, hxm, .inr rfl⟩
  have hl0 : 0 < (momS l).length := by
    obtain ⟨j, hj, _⟩ := List.getElem_of_mem ma; omega
  have hs := sum_event h hv hx ((momS l).length - 1) 0 (by omega)
  have b1 := q1.2
  rw [setq_first h hl0, kT_zero, clamp_lo (by omega), Int.sub_self, cq_zero (by omega) (by omega), Nat.zero_add] at hs
  have he := mom_le_end h mb
  unfold endT at he
  rw [if_neg (by omega), ltT_k (setq_q h (by omega)) q2 h.big] at he
  rw [clamp_hi (by omega) (by omega), ← qd] at hs
  unfold ptsOf
  rw [List.range_eq_range']
  exact hs
theorem back_whole {v : List Ev} (hv : v ∈ l) : ∀ (k i : Nat), i + k = v.length → backFrom (ptsOf l v) i k = ((v.drop i).map (·.dur), 0)
  | 0, i, hk => by rw [List.drop_eq_nil_of_le (by omega)]; rfl
  | k + 1, i, hk => by
    obtain ⟨x, hx⟩ : ∃ x, v[i]? = some x := ⟨_, List.getElem?_eq_getElem (by omega)⟩
    have hd : v.drop i = x :: v.drop (i + 1) := by
      obtain ⟨h1, rfl⟩ := List.getElem?_eq_some_iff.1 hx
      exact List.drop_eq_getElem_cons h1
    rw [back_succ, sum_whole h hv hx, if_neg (fun h => h rfl), back_whole hv k (i + 1) (by omega), if_neg (fun h => h rfl), hd]
    rfl
theorem back_set {i : Nat} {v : List Ev} (hv : l[i]? = some v) : backE l i = (v.map (·.dur), 0) := by
  have hm := List.mem_of_getElem? hv
  have hi := (List.getElem?_eq_some_iff.1 hv).1
  unfold backE
  rw [setq_slices h, if_neg (fun h => h rfl), if_neg (by omega)]
  have e : l.getD ((i : Nat) : Int).toNat [] = v := by simp [List.getD, hv]
  rw [e, back_whole h hm v.length 0 (by omega)]
  rfl
end
end Go.Proofs.YtmlcnmnpkemdpaaDoor

