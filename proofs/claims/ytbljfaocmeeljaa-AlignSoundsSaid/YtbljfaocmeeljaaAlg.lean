/- Plain mathematics of times: canonical fractions are equal where their values are; sums, differences, products and quotients by their values; times that are whole multiples of 1/24. -/
import Derived.Test.YtbljfaocmeeljaaMath
namespace Go.Proofs.Ytbljfaocmeeljaa

theorem cop_eq {a b c d : Nat} (hb : 0 < b) (hd : 0 < d) (h1 : Nat.Coprime a b) (h2 : Nat.Coprime c d) (e : a * d = c * b) : a = c ∧ b = d := by
  have h3 : b ∣ d := h1.symm.dvd_of_dvd_mul_left (by rw [e]; exact Nat.dvd_mul_left _ _)
  have h4 : d ∣ b := h2.symm.dvd_of_dvd_mul_left (by rw [← e]; exact Nat.dvd_mul_left _ _)
  obtain rfl := Nat.dvd_antisymm h3 h4
  exact ⟨Nat.eq_of_mul_eq_mul_right hb e, rfl⟩
theorem cop_eqI {a b c d : Int} (ha : 0 ≤ a) (hb : 1 ≤ b) (hc : 0 ≤ c) (hd : 1 ≤ d) (h1 : gg a b = 1) (h2 : gg c d = 1) (e : a * d = c * b) : a = c ∧ b = d := by
  rw [gg_one] at h1 h2
  have := cop_eq (by omega) (by omega) h1 h2 (by rw [← Int.toNat_mul ha (by omega), ← Int.toNat_mul hc (by omega), e])
  omega
theorem gg_split (a b : Int) (ha : 0 ≤ a) (hb : 1 ≤ b) : ∃ g a' b', 1 ≤ g ∧ gg a b = g ∧ a = g * a' ∧ b = g * b' ∧ a / gg a b = a' ∧ b / gg a b = b' ∧ 0 ≤ a' ∧ 1 ≤ b' ∧ gg a' b' = 1 := by
  have hp := gg_pos a b (.inr (by omega))
  have d1 : gg a b ∣ a := by
    have := Nat.gcd_dvd_left a.toNat b.toNat
    have := Int.natCast_dvd_natCast.2 this
    rw [show ((a.toNat : Nat) : Int) = a by omega] at this
    exact this
  have d2 : gg a b ∣ b := by
    have := Nat.gcd_dvd_right a.toNat b.toNat
    have := Int.natCast_dvd_natCast.2 this
    rw [show ((b.toNat : Nat) : Int) = b by omega] at this
    exact this
  refine ⟨gg a b, a / gg a b, b / gg a b, hp, rfl, (Int.mul_ediv_cancel' d1).symm, (Int.mul_ediv_cancel' d2).symm, rfl, rfl, Int.ediv_nonneg ha (by omega), quot_pos hb, gg_quot a b ha (by omega) (.inr (by omega))⟩
theorem cancel {g a b : Int} (hg : 1 ≤ g) (h : g * a = g * b) : a = b := Int.eq_of_mul_eq_mul_left (by omega) h
/-- Two canonical fractions of one value are one. -/
theorem ok_eq {a b : Int × Int} (ha : ok a) (hb : ok b) (e : a.1 * b.2 = b.1 * a.2) : a = b := by
  obtain ⟨a1, a2, a3, a4, a5⟩ := ha
  obtain ⟨b1, b2, b3, b4, b5⟩ := hb
  have := cop_eqI a1 a3 b1 b3 a5 b5 e
  exact Prod.ext this.1 this.2
/-- A quotient by its value. -/
theorem mk_val {n d : Int} {t : Int × Int} (hn : 0 ≤ n) (hd : 1 ≤ d) (ht : ok t) (e : t.1 * d = n * t.2) : mk n d = (t.1, t.2, 0) := by
  obtain ⟨g, n', d', hg, e0, e1, e2, e3, e4, h1, h2, h3⟩ := gg_split n d hn hd
  obtain ⟨t1, t2, t3, t4, t5⟩ := ht
  rw [mk_of hn hd]
  unfold ofq
  rw [e3, e4]
  rw [e1, e2] at e
  have e' : t.1 * d' = n' * t.2 := cancel hg (by grind)
  obtain ⟨rfl, rfl⟩ := cop_eqI t1 t3 h1 h2 t5 h3 e'
  rw [if_neg (by omega)]
theorem mk_small {n d : Int} (hn : 0 ≤ n) (hn' : n ≤ 1099511627776) (hd : 1 ≤ d) (hd' : d ≤ 1048576) : ∃ t : Int × Int, ok t ∧ mk n d = (t.1, t.2, 0) ∧ t.1 * d = n * t.2 := by
  obtain ⟨g, n', d', hg, e0, e1, e2, e3, e4, h1, h2, h3⟩ := gg_split n d hn hd
  have l1 : n' ≤ n := by have := Int.mul_le_mul_of_nonneg_right hg h1; omega
  have l2 : d' ≤ d := by have := Int.mul_le_mul_of_nonneg_right hg (show 0 ≤ d' by omega); omega
  refine ⟨(n', d'), ⟨h1, by simp only; omega, h2, by simp only; omega, h3⟩, ?_, by simp only; rw [e1, e2]; grind⟩
  refine mk_val hn hd ⟨h1, by simp only; omega, h2, by simp only; omega, h3⟩ ?_
  simp only; rw [e1, e2]; grind
theorem add_val {a b t : Int × Int} (ha : ok a) (hb : ok b) (ht : ok t) (e : t.1 * (a.2 * b.2) = (a.1 * b.2 + b.1 * a.2) * t.2) : addS a b = (t.1, t.2, 0) := by
  unfold addS
  rw [both_of_ok ha hb, if_neg (fun h => h rfl)]
  have h1 : 0 ≤ a.1 * b.2 := Int.mul_nonneg ha.1 (by have := hb.2.2.1; omega)
  have h2 : 0 ≤ b.1 * a.2 := Int.mul_nonneg hb.1 (by have := ha.2.2.1; omega)
  have h3 : 1 ≤ a.2 * b.2 := by have := Int.mul_le_mul ha.2.2.1 hb.2.2.1 (by omega) (by have := ha.2.2.1; omega); omega
  exact mk_val (by omega) h3 ht e
theorem sub_val {a b t : Int × Int} (ha : ok a) (hb : ok b) (ht : ok t) (e : t.1 * (a.2 * b.2) = (a.1 * b.2 - b.1 * a.2) * t.2) : subS a b = (t.1, t.2, 0) := by
  unfold subS
  rw [both_of_ok ha hb, if_neg (fun h => h rfl)]
  have h3 : 1 ≤ a.2 * b.2 := by have := Int.mul_le_mul ha.2.2.1 hb.2.2.1 (by omega) (by have := ha.2.2.1; omega); omega
  have h4 : 0 ≤ t.1 * (a.2 * b.2) := Int.mul_nonneg ht.1 (by omega)
  rw [e] at h4
  have h5 : 0 ≤ a.1 * b.2 - b.1 * a.2 := by
    rcases Int.lt_or_le (a.1 * b.2 - b.1 * a.2) 0 with h | h
    · have := Int.mul_neg_of_neg_of_pos h (show 0 < t.2 by have := ht.2.2.1; omega)
      omega
    · exact h
  exact mk_val h5 h3 ht e
theorem tms_val {a b c d : Int} {t : Int × Int} (ha : 0 ≤ a) (hb : 1 ≤ b) (hc : 0 ≤ c) (hd : 1 ≤ d) (h1 : gg a b = 1) (h2 : gg c d = 1) (ht : ok t) (e : t.1 * (b * d) = a * c * t.2) : tms a b c d = (t.1, t.2, 0) := by
  have hcop := tms_cop ha hb hc hd h1 h2
  rw [tms_ref ha hb hc hd h1 h2]
  unfold tmsR
  obtain ⟨g, a', d', hg, e0, e1, e2, e3, e4, k1, k2, k3⟩ := gg_split a d ha hd
  obtain ⟨g2, c', b', hg2, f0, f1, f2, f3, f4, l1, l2, l3⟩ := gg_split c b hc hb
  rw [e3, f3, e4, f4] at hcop
  rw [e3, f3, e4, f4]
  obtain ⟨t1, t2, t3, t4, t5⟩ := ht
  have e' : t.1 * (b' * d') = a' * c' * t.2 := by
    refine cancel hg (cancel hg2 ?_)
    rw [e1, e2, f1, f2] at e
    grind
  have hbd : 1 ≤ b' * d' := by have := Int.mul_le_mul l2 k2 (by omega) (by omega); omega
  obtain ⟨e5, e6⟩ := cop_eqI t1 t3 (Int.mul_nonneg k1 l1) hbd t5 hcop e'
  rw [if_neg, ← e5, ← e6]
  rintro (⟨h, h'⟩ | h)
  · have := (Int.ediv_lt_iff_lt_mul h).1 h'
    rw [Int.mul_comm] at this; omega
  · omega
theorem mul_val {a b t : Int × Int} (ha : ok a) (hb : ok b) (ht : ok t) (e : t.1 * (a.2 * b.2) = a.1 * b.1 * t.2) : mulS a b = (t.1, t.2, 0) := by
  unfold mulS
  rw [both_of_ok ha hb, if_neg (fun h => h rfl)]
  exact tms_val ha.1 ha.2.2.1 hb.1 hb.2.2.1 ha.2.2.2.2 hb.2.2.2.2 ht e
theorem div_val {a b t : Int × Int} (ha : ok a) (hb : ok b) (h0 : 1 ≤ b.1) (ht : ok t) (e : t.1 * (a.2 * b.1) = a.1 * b.2 * t.2) : divS a b = (t.1, t.2, 0) := by
  unfold divS
  rw [both_of_ok ha hb, if_neg (fun h => h rfl), if_neg (by omega)]
  exact tms_val ha.1 ha.2.2.1 (by have := hb.2.2.1; omega) h0 ha.2.2.2.2 (by rw [gg_comm]; exact hb.2.2.2.2) ht e

/-! ### Whole multiples of 1/24 -/
/-- The time m/24. -/
def c24 (m : Int) : Int × Int := ((mk m 24).1, (mk m 24).2.1)
/-- The numbers of 24ths that are in sight. -/
def in24 (m : Int) : Prop := 0 ≤ m ∧ m ≤ 1099511627776
theorem c24_ok {m : Int} (h : in24 m) : ok (c24 m) ∧ (c24 m).1 * 24 = m * (c24 m).2 ∧ mk m 24 = ((c24 m).1, (c24 m).2, 0) := by
  obtain ⟨t, ht, e1, e2⟩ := mk_small h.1 h.2 (show (1 : Int) ≤ 24 by omega) (by omega)
  unfold c24
  rw [e1]
  exact ⟨ht, e2, rfl⟩
theorem c24_of {m : Int} {t : Int × Int} (h : 0 ≤ m) (ht : ok t) (e : t.1 * 24 = m * t.2) : c24 m = t := by
  unfold c24; rw [mk_val h (by omega) ht e]
theorem c24_pos {m : Int} (h : in24 m) (h0 : 0 < m) : 1 ≤ (c24 m).1 := by
  obtain ⟨k, e, _⟩ := c24_ok h
  have h1 := k.1
  have h2 := k.2.2.1
  have : 0 < m * (c24 m).2 := Int.mul_pos h0 (by omega)
  omega
theorem c24_inj {m n : Int} (hm : in24 m) (hn : in24 n) (e : c24 m = c24 n) : m = n := by
  obtain ⟨k, e1, _⟩ := c24_ok hm
  obtain ⟨_, e2, _⟩ := c24_ok hn
  rw [e] at e1 k
  have h2 := k.2.2.1
  exact Int.eq_of_mul_eq_mul_right (show (c24 n).2 ≠ 0 by omega) (by omega)
theorem c24_add {m n : Int} (hm : in24 m) (hn : in24 n) (h : in24 (m + n)) : addS (c24 m) (c24 n) = ((c24 (m + n)).1, (c24 (m + n)).2, 0) := by
  obtain ⟨k1, e1, _⟩ := c24_ok hm
  obtain ⟨k2, e2, _⟩ := c24_ok hn
  obtain ⟨k3, e3, _⟩ := c24_ok h
  refine add_val k1 k2 k3 (cancel (show (1 : Int) ≤ 24 by omega) ?_)
  generalize (c24 m).1 = a at *
  generalize (c24 m).2 = a' at *
  generalize (c24 n).1 = b at *
  generalize (c24 n).2 = b' at *
  generalize (c24 (m + n)).1 = t at *
  generalize (c24 (m + n)).2 = t' at *
  grind
theorem c24_sub {m n : Int} (hm : in24 m) (hn : in24 n) (h : n ≤ m) : subS (c24 m) (c24 n) = ((c24 (m - n)).1, (c24 (m - n)).2, 0) := by
  obtain ⟨k1, e1, _⟩ := c24_ok hm
  obtain ⟨k2, e2, _⟩ := c24_ok hn
  obtain ⟨k3, e3, _⟩ := c24_ok (show in24 (m - n) from ⟨by omega, by have := hm.2; have := hn.1; omega⟩)
  refine sub_val k1 k2 k3 (cancel (show (1 : Int) ≤ 24 by omega) ?_)
  generalize (c24 m).1 = a at *
  generalize (c24 m).2 = a' at *
  generalize (c24 n).1 = b at *
  generalize (c24 n).2 = b' at *
  generalize (c24 (m - n)).1 = t at *
  generalize (c24 (m - n)).2 = t' at *
  grind
theorem c24_cross {m n : Int} (hm : in24 m) (hn : in24 n) : ((c24 m).1 * (c24 n).2 - (c24 n).1 * (c24 m).2) * 24 = (m - n) * ((c24 m).2 * (c24 n).2) := by
  obtain ⟨k1, e1, _⟩ := c24_ok hm
  obtain ⟨k2, e2, _⟩ := c24_ok hn
  generalize (c24 m).1 = a at *
  generalize (c24 m).2 = a' at *
  generalize (c24 n).1 = b at *
  generalize (c24 n).2 = b' at *
  grind
theorem c24_cmp {m n : Int} (hm : in24 m) (hn : in24 n) : cmpS (c24 m) (c24 n) = (sgn (m - n), 0) := by
  obtain ⟨k1, e1, _⟩ := c24_ok hm
  obtain ⟨k2, e2, _⟩ := c24_ok hn
  have e := c24_cross hm hn
  unfold cmpS
  rw [both_of_ok k1 k2, if_neg (fun h => h rfl)]
  have h3 : 0 < (c24 m).2 * (c24 n).2 := Int.mul_pos (by have := k1.2.2.1; omega) (by have := k2.2.2.1; omega)
  generalize (c24 m).1 * (c24 n).2 - (c24 n).1 * (c24 m).2 = x at *
  generalize (c24 m).2 * (c24 n).2 = y at *
  congr 1
  unfold sgn
  rcases Int.lt_trichotomy (m - n) 0 with h | h | h
  · have := Int.mul_neg_of_neg_of_pos h h3
    rw [if_pos (by omega), if_pos h]
  · rw [h] at e ⊢
    rw [Int.zero_mul] at e
    rw [if_neg (by omega), if_neg (by omega)]; rfl
  · have := Int.mul_pos h h3
    rw [if_neg (by omega), if_pos (by omega), if_neg (by omega), if_pos h]
end Go.Proofs.Ytbljfaocmeeljaa
