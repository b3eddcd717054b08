/- Parts of the proof of LawRounds31: Plain. -/
import Derived.Test.YtpkmiegccfhpnaaGreatDoorR01
set_option maxRecDepth 100000
set_option maxHeartbeats 16000000
/- Plain mathematics of times (layer span): greatest common divisors, validity, quotients, sums, products; no program in sight. -/
namespace Go.Proofs.YtpkmiegccfhpnaaGreatDoor
def gg (a b : Int) : Int := (Nat.gcd a.toNat b.toNat : Nat)
theorem gg_zero (a : Int) (h : 0 ≤ a) : gg a 0 = a := by simp [gg]; omega
theorem toNat_emod (a b : Int) (ha : 0 ≤ a) (hb : 0 ≤ b) : (a % b).toNat = a.toNat % b.toNat := by
 obtain ⟨m, rfl⟩ := Int.eq_ofNat_of_zero_le ha
 obtain ⟨n, rfl⟩ := Int.eq_ofNat_of_zero_le hb
 have : ((m : Int) % (n : Int)) = ((m % n : Nat) : Int) := (Int.natCast_emod m n).symm
 rw [this]; simp only [Int.toNat_natCast]
theorem gg_step (a b : Int) (ha : 0 ≤ a) (hb : 0 ≤ b) : gg a b = gg b (a % b) := by
 unfold gg
 rw [toNat_emod a b ha hb, Nat.gcd_comm, Nat.gcd_rec, Nat.gcd_comm]
theorem gg_pos (a b : Int) (h : 0 < a ∨ 0 < b) : 1 ≤ gg a b := by
 unfold gg
 have : 0 < Nat.gcd a.toNat b.toNat := by
  apply Nat.pos_of_ne_zero
  intro e
  have := Nat.gcd_eq_zero_iff.1 e
  omega
 omega
theorem gg_le_left (a b : Int) (h : 0 < a) : gg a b ≤ a := by
 unfold gg
 have := Nat.gcd_le_left b.toNat (show 0 < a.toNat by omega)
 omega
theorem gg_le_right (a b : Int) (h : 0 < b) : gg a b ≤ b := by
 unfold gg
 have := Nat.gcd_le_right (m := a.toNat) (n := b.toNat) (show 0 < b.toNat by omega)
 omega
theorem toNat_ediv (a b : Int) (ha : 0 ≤ a) (hb : 0 ≤ b) : (a / b).toNat = a.toNat / b.toNat := by
 obtain ⟨m, rfl⟩ := Int.eq_ofNat_of_zero_le ha
 obtain ⟨n, rfl⟩ := Int.eq_ofNat_of_zero_le hb
 have : ((m : Int) / (n : Int)) = ((m / n : Nat) : Int) := (Int.natCast_ediv m n).symm
 rw [this]; simp only [Int.toNat_natCast]
theorem gg_toNat (a b : Int) : (gg a b).toNat = Nat.gcd a.toNat b.toNat := by unfold gg; simp
theorem gg_quot (a b : Int) (ha : 0 ≤ a) (hb : 0 ≤ b) (h : 0 < a ∨ 0 < b) : gg (a / gg a b) (b / gg a b) = 1 := by
 have hp := gg_pos a b h
 have e := gg_toNat a b
 show ((Nat.gcd (a / gg a b).toNat (b / gg a b).toNat : Nat) : Int) = 1
 rw [toNat_ediv _ _ ha (by omega), toNat_ediv _ _ hb (by omega), e]
 have hq : (a.toNat / a.toNat.gcd b.toNat).gcd (b.toNat / a.toNat.gcd b.toNat) = 1 := by
  rcases h with h | h
  ·exact Nat.gcd_div_gcd_div_gcd_of_pos_left (by omega)
  ·exact Nat.gcd_div_gcd_div_gcd_of_pos_right (by omega)
 omega
theorem gg_comm (a b : Int) : gg a b = gg b a := by unfold gg; rw [Nat.gcd_comm]
/-! ### The functions of the layer, as both the program and the reference compute them -/
def chk (n d : Int) : Int := if n < 0 ∨ 1099511627776 < n ∨ d < 1 ∨ 1048576 < d then 2 else if 1 < gg n d then 3 else 0
def ofq (n d : Int) : Int × Int × Int := if 1099511627776 < n / gg n d ∨ 1048576 < d / gg n d then (0, 0, 4) else (n / gg n d, d / gg n d, 0)
def mk (n d : Int) : Int × Int × Int := if n < 0 ∨ d < 0 then (0, 0, 2) else if d = 0 then (0, 0, 5) else ofq n d
def firstS : List (Int × Int) → Int
 | [] => 0
 | t :: l => if chk t.1 t.2 ≠ 0 then chk t.1 t.2 else firstS l
def both (a b : Int × Int) : Int := if chk a.1 a.2 ≠ 0 then chk a.1 a.2 else chk b.1 b.2
def addS (a b : Int × Int) : Int × Int × Int := if both a b ≠ 0 then (0, 0, both a b) else mk (a.1 * b.2 + b.1 * a.2) (a.2 * b.2)
def subS (a b : Int × Int) : Int × Int × Int := if both a b ≠ 0 then (0, 0, both a b) else mk (a.1 * b.2 - b.1 * a.2) (a.2 * b.2)
def sgn (x : Int) : Int := if x < 0 then -1 else if 0 < x then 1 else 0
def cmpS (a b : Int × Int) : Int × Int := if both a b ≠ 0 then (0, both a b) else (sgn (a.1 * b.2 - b.1 * a.2), 0)
def tS (n d : Int) : Int × Int := if gg n d < 1 then (0, 1) else (n / gg n d, d / gg n d)
/-! ### Facts -/
def ok (t : Int × Int) : Prop := 0 ≤ t.1 ∧ t.1 ≤ 1099511627776 ∧ 1 ≤ t.2 ∧ t.2 ≤ 1048576 ∧ gg t.1 t.2 = 1
theorem ok_of_chk {n d : Int} (h : chk n d = 0) : ok (n, d) := by
 unfold chk at h
 split at h
 ·cases h
 ·split at h
  ·cases h
  ·rename_i h1 h2
   have hp := gg_pos n d (.inr (by omega))
   exact ⟨by simp; omega, by simp; omega, by simp; omega, by simp; omega, by simp; omega⟩
theorem chk_of_ok {t : Int × Int} (h : ok t) : chk t.1 t.2 = 0 := by
 obtain ⟨h1, h2, h3, h4, h5⟩ := h
 unfold chk
 rw [if_neg (by omega), if_neg (by omega)]
theorem both_ok {a b : Int × Int} (h : both a b = 0) : ok a ∧ ok b := by
 unfold both at h
 split at h
 ·rename_i h'; exact absurd h h'
 ·rename_i h'; exact ⟨ok_of_chk (by simpa using h'), ok_of_chk h⟩
theorem both_of_ok {a b : Int × Int} (ha : ok a) (hb : ok b) : both a b = 0 := by
 unfold both; rw [chk_of_ok ha, chk_of_ok hb]; rfl
theorem firstS_bad {t : Int × Int} {l : List (Int × Int)} (h : chk t.1 t.2 ≠ 0) : firstS (t :: l) = chk t.1 t.2 := by unfold firstS; rw [if_pos h]
theorem firstS_next {t : Int × Int} {l : List (Int × Int)} (h : chk t.1 t.2 = 0) : firstS (t :: l) = firstS l := by
 show (if chk t.1 t.2 ≠ 0 then chk t.1 t.2 else firstS l) = firstS l
 rw [if_neg (by rw [h]; exact fun h => h rfl)]
theorem firstS_two (a b : Int × Int) : firstS [a, b] = both a b := by
 unfold firstS firstS firstS both
 split
 ·rfl
 ·split
  ·rfl
  ·rename_i h; simp at h; exact h.symm
theorem ofq_ok {n d : Int} (hn : 0 ≤ n) (hd : 1 ≤ d) (h : (ofq n d).2.2 = 0) : ok ((ofq n d).1, (ofq n d).2.1) := by
 unfold ofq at h ⊢
 have hp := gg_pos n d (.inr (by omega))
 have hl := gg_le_right n d (by omega)
 split at h
 ·cases h
 ·rename_i h1
  rw [if_neg h1]
  refine ⟨Int.ediv_nonneg hn (by omega), by simp; omega, ?_, by simp; omega, gg_quot n d hn (by omega) (.inr (by omega))⟩
  exact (Int.le_ediv_iff_mul_le (by omega)).2 (by omega)
theorem mk_of {n d : Int} (hn : 0 ≤ n) (hd : 1 ≤ d) : mk n d = ofq n d := by unfold mk; rw [if_neg (by omega), if_neg (by omega)]
theorem mk_ok {n d : Int} (h : (mk n d).2.2 = 0) : ok ((mk n d).1, (mk n d).2.1) := by
 by_cases h1 : n < 0 ∨ d < 0
 ·unfold mk at h; rw [if_pos h1] at h; cases h
 ·by_cases h2 : d = 0
  ·unfold mk at h; rw [if_neg h1, if_pos h2] at h; cases h
  ·rw [mk_of (by omega) (by omega)] at h ⊢; exact ofq_ok (by omega) (by omega) h
theorem mul_bd {a b m k : Int} (ha : 0 ≤ a) (hb : 0 ≤ b) (hm : a ≤ m) (hk : b ≤ k) : 0 ≤ a * b ∧ a * b ≤ m * k :=
 ⟨Int.mul_nonneg ha hb, Int.mul_le_mul hm hk hb (by omega)⟩
/-! ### The product: the program's way and the reference's -/
theorem cop_dvd {a b c d : Nat} (h : Nat.Coprime a b) (ha : c ∣ a) (hb : d ∣ b) : Nat.Coprime c d := Nat.Coprime.coprime_dvd_left ha (Nat.Coprime.coprime_dvd_right hb h)
theorem div_dvd' {a b : Int} (ha : 0 ≤ a) (h : 0 < a ∨ 0 < b) (_hb : 0 ≤ b) : (a / gg a b).toNat ∣ a.toNat := by
 have := gg_pos a b h
 rw [toNat_ediv _ _ ha (by omega), gg_toNat]
 exact Nat.div_dvd_of_dvd (Nat.gcd_dvd_left _ _)
theorem gg_one {a b : Int} : gg a b = 1 ↔ Nat.Coprime a.toNat b.toNat := by
 unfold gg Nat.Coprime; omega
theorem tms_cop {a b c d : Int} (ha : 0 ≤ a) (hb : 1 ≤ b) (hc : 0 ≤ c) (hd : 1 ≤ d) (h1 : gg a b = 1) (h2 : gg c d = 1) :
  gg (a / gg a d * (c / gg c b)) (b / gg c b * (d / gg a d)) = 1 := by
 have p1 := gg_pos a d (.inr (by omega))
 have p2 := gg_pos c b (.inr (by omega))
 have q1 := gg_quot a d ha (by omega) (.inr (by omega))
 have q2 := gg_quot c b hc (by omega) (.inr (by omega))
 have da := div_dvd' ha (b := d) (.inr (by omega)) (by omega)
 have dc := div_dvd' hc (b := b) (.inr (by omega)) (by omega)
 have dd : (d / gg a d).toNat ∣ d.toNat := by rw [gg_comm a d]; exact div_dvd' (by omega) (.inl (by omega)) ha
 have db : (b / gg c b).toNat ∣ b.toNat := by rw [gg_comm c b]; exact div_dvd' (by omega) (.inl (by omega)) hc
 have n1 : 0 ≤ a / gg a d := Int.ediv_nonneg ha (by omega)
 have n2 : 0 ≤ c / gg c b := Int.ediv_nonneg hc (by omega)
 have n3 : 0 ≤ b / gg c b := Int.ediv_nonneg (by omega) (by omega)
 have n4 : 0 ≤ d / gg a d := Int.ediv_nonneg (by omega) (by omega)
 rw [gg_one] at h1 h2 q1 q2 ⊢
 rw [Int.toNat_mul n1 n2, Int.toNat_mul n3 n4]
 generalize (a / gg a d).toNat = a' at *
 generalize (d / gg a d).toNat = d' at *
 generalize (c / gg c b).toNat = c' at *
 generalize (b / gg c b).toNat = b' at *
 have hab := cop_dvd h1 da db
 have hcd := cop_dvd h2 dc dd
 exact Nat.Coprime.mul_left (Nat.Coprime.mul_right hab q1) (Nat.Coprime.mul_right q2 hcd)
theorem quot_pos {a b : Int} (hb : 1 ≤ b) : 1 ≤ b / gg a b := by
 have h1 := gg_pos a b (.inr (by omega))
 have h2 := gg_le_right a b (by omega)
 exact (Int.le_ediv_iff_mul_le (by omega)).2 (by omega)
end Go.Proofs.YtpkmiegccfhpnaaGreatDoor
/- Plain mathematics of times: canonical fractions are equal where their values are; sums, differences, products and quotients by their values; times that are whole multiples of 1/24. -/
namespace Go.Proofs.YtpkmiegccfhpnaaGreatDoor
theorem cop_eq {a b c d : Nat} (hb : 0 < b) (hd : 0 < d) (h1 : Nat.Coprime a b) (h2 : Nat.Coprime c d) (e : a * d = c * b) : a = c ∧ b = d := by
 have h3 : b ∣ d := h1.symm.dvd_of_dvd_mul_left (by rw [e]; exact Nat.dvd_mul_left _ _)
 have h4 : d ∣ b := h2.symm.dvd_of_dvd_mul_left (by rw [← e]; exact Nat.dvd_mul_left _ _)
 obtain rfl := Nat.dvd_antisymm h3 h4
 exact ⟨Nat.eq_of_mul_eq_mul_right hb e, rfl⟩
theorem cop_eqI {a b c d : Int} (ha : 0 ≤ a) (hb : 1 ≤ b) (hc : 0 ≤ c) (hd : 1 ≤ d) (h1 : gg a b = 1) (h2 : gg c d = 1) (e : a * d = c * b) : a = c ∧ b = d := by
 rw [gg_one] at h1 h2
 have := cop_eq (by omega) (by omega) h1 h2 (by rw [← Int.toNat_mul ha (by omega), ← Int.toNat_mul hc (by omega), e])
 omega
theorem gg_split (a b : Int) (ha : 0 ≤ a) (hb : 1 ≤ b) : ∃ g a' b', 1 ≤ g ∧ gg a b = g ∧ a = g * a' ∧ b = g * b' ∧ a / gg a b = a' ∧ b / gg a b = b' ∧ 0 ≤ a' ∧ 1 ≤ b' ∧ gg a' b' = 1 := by
 have hp := gg_pos a b (.inr (by omega))
 have d1 : gg a b ∣ a := by
  have := Nat.gcd_dvd_left a.toNat b.toNat
  have := Int.natCast_dvd_natCast.2 this
  rw [show ((a.toNat : Nat) : Int) = a by omega] at this
  exact this
 have d2 : gg a b ∣ b := by
  have := Nat.gcd_dvd_right a.toNat b.toNat
  have := Int.natCast_dvd_natCast.2 this
  rw [show ((b.toNat : Nat) : Int) = b by omega] at this
  exact this
 refine ⟨gg a b, a / gg a b, b / gg a b, hp, rfl, (Int.mul_ediv_cancel' d1).symm, (Int.mul_ediv_cancel' d2).symm, rfl, rfl, Int.ediv_nonneg ha (by omega), quot_pos hb, gg_quot a b ha (by omega) (.inr (by omega))⟩
theorem ok_eq {a b : Int × Int} (ha : ok a) (hb : ok b) (e : a.1 * b.2 = b.1 * a.2) : a = b := by
 obtain ⟨a1, a2, a3, a4, a5⟩ := ha
 obtain ⟨b1, b2, b3, b4, b5⟩ := hb
 have := cop_eqI a1 a3 b1 b3 a5 b5 e
 exact Prod.ext this.1 this.2
/-! ### Whole multiples of 1/24 -/
end Go.Proofs.YtpkmiegccfhpnaaGreatDoor
/- Plain mathematics of voices: events, whether they are a voice, chains, changes; no program in sight. -/
namespace Go.Proofs.YtpkmiegccfhpnaaGreatDoor
structure Ev where
 at_ : Int × Int
 dur : Int × Int
 pit : Int × Int × Int
 rest : Bool
 sign : Int
 pass : Int
def pchk (p : Int × Int × Int) : Int := if p.1 < 0 ∨ 6 < p.1 ∨ p.2.1 < 0 ∨ 8 < p.2.1 ∨ p.2.2 < -1 ∨ 1 < p.2.2 then 2 else 0
def oneS (x : Ev) : Int :=
 if chk x.at_.1 x.at_.2 ≠ 0 then chk x.at_.1 x.at_.2
 else if chk x.dur.1 x.dur.2 ≠ 0 then chk x.dur.1 x.dur.2
 else if x.dur.1 = 0 then 2
 else if x.rest = true ∧ x.pit ≠ (0, 0, 0) then 3
 else if x.rest = false ∧ pchk x.pit ≠ 0 then pchk x.pit
 else if x.sign < 0 ∨ x.pass < 0 then 2 else 0
def stepS (now : Int × Int) (x : Ev) : Int := if oneS x ≠ 0 then oneS x else if x.at_ ≠ now then 6 else (addS x.at_ x.dur).2.2
def nextS (x : Ev) : Int × Int := ((addS x.at_ x.dur).1, (addS x.at_ x.dur).2.1)
def checkFrom (now : Int × Int) (i : Int) : List Ev → Int × Int
 | [] => (0, 0)
 | x :: l => if stepS now x ≠ 0 then (stepS now x, i) else checkFrom (nextS x) (i + 1) l
def checkS (l : List Ev) : Int × Int := if 2000 < l.length then (11, 0) else checkFrom (0, 1) 0 l
def endS (l : List Ev) : Int × Int × Int :=
 if (checkS l).1 ≠ 0 then (0, 0, (checkS l).1) else match l.getLast? with | none => (0, 1, 0) | some x => addS x.at_ x.dur
def chainFrom (now : Int × Int) : List Ev → List Ev × Int
 | [] => ([], 0)
 | x :: l => if (addS now x.dur).2.2 ≠ 0 then ([], (addS now x.dur).2.2)
  else if (chainFrom ((addS now x.dur).1, (addS now x.dur).2.1) l).2 ≠ 0 then ([], (chainFrom ((addS now x.dur).1, (addS now x.dur).2.1) l).2)
  else ({ x with at_ := now } :: (chainFrom ((addS now x.dur).1, (addS now x.dur).2.1) l).1, 0)
def chainS (l : List Ev) : List Ev × Int := chainFrom (0, 1) l
/-! ### Pitches -/
def numP (p : Int × Int × Int) : Int := 7 * p.2.1 + p.1
/-! ### The transformations -/
def lessS (a b : Int × Int) : Prop := (cmpS a b).1 < 0
instance (a b : Int × Int) : Decidable (lessS a b) := inferInstanceAs (Decidable (_ < _))
theorem cf_one {now : Int × Int} {i : Int} {x : Ev} {l : List Ev} (h : oneS x ≠ 0) : checkFrom now i (x :: l) = (oneS x, i) := by
 have : stepS now x = oneS x := by unfold stepS; rw [if_pos h]
 rw [checkFrom, this, if_pos h]
theorem cf_at {now : Int × Int} {i : Int} {x : Ev} {l : List Ev} (h : oneS x = 0) (ha : x.at_ ≠ now) : checkFrom now i (x :: l) = (6, i) := by
 have : stepS now x = 6 := by unfold stepS; rw [if_neg (by rw [h]; exact fun h => h rfl), if_pos ha]
 rw [checkFrom, this, if_pos (by decide)]
theorem cf_add {now : Int × Int} {i : Int} {x : Ev} {l : List Ev} (h : oneS x = 0) (ha : x.at_ = now) (he : (addS x.at_ x.dur).2.2 ≠ 0) : checkFrom now i (x :: l) = ((addS x.at_ x.dur).2.2, i) := by
 have : stepS now x = (addS x.at_ x.dur).2.2 := by unfold stepS; rw [if_neg (by rw [h]; exact fun h => h rfl), if_neg (by rw [ha]; exact fun h => h rfl)]
 rw [checkFrom, this, if_pos he]
theorem cf_next {now : Int × Int} {i : Int} {x : Ev} {l : List Ev} (h : oneS x = 0) (ha : x.at_ = now) (he : (addS x.at_ x.dur).2.2 = 0) : checkFrom now i (x :: l) = checkFrom ((addS x.at_ x.dur).1, (addS x.at_ x.dur).2.1) (i + 1) l := by
 have : stepS now x = (addS x.at_ x.dur).2.2 := by unfold stepS; rw [if_neg (by rw [h]; exact fun h => h rfl), if_neg (by rw [ha]; exact fun h => h rfl)]
 rw [checkFrom, this, he, if_neg (fun h => h rfl)]; rfl
/-! ### A voice that is one is chained as it is -/
theorem chain_of_check (l : List Ev) : ∀ (now : Int × Int) (i : Int), 0 ≤ i → (checkFrom now i l).1 = 0 → chainFrom now l = (l, 0) := by
 induction l with
 | nil => intro now i _ _; rfl
 | cons x l ih =>
  intro now i hi h
  rw [checkFrom] at h
  split at h
  ·rename_i hs; exact absurd h hs
  ·rename_i hs
   have hs' : stepS now x = 0 := by simpa using hs
   unfold stepS at hs'
   split at hs'
   ·rename_i h1; exact absurd hs' h1
   ·split at hs'
    ·cases hs'
    ·rename_i h1 h2
     have hat : x.at_ = now := by simpa using h2
     subst hat
     have := ih (nextS x) (i + 1) (by omega) h
     rw [chainFrom, hs', if_neg (fun h => h rfl)]
     unfold nextS at this
     rw [this, if_neg (fun h => h rfl)]
theorem chain_valid (l : List Ev) (h : (checkS l).1 = 0) : chainS l = (l, 0) := by
 unfold checkS at h
 split at h
 ·cases h
 ·exact chain_of_check l _ 0 (by omega) h
end Go.Proofs.YtpkmiegccfhpnaaGreatDoor
/- Plain mathematics of cut voices. -/
namespace Go.Proofs.YtpkmiegccfhpnaaGreatDoor
def lessB (a b : Int × Int) : Bool := decide ((cmpS a b).1 < 0)
theorem add_of_check (l : List Ev) : ∀ (now : Int × Int) (i : Int), 0 ≤ i → (checkFrom now i l).1 = 0 → ∀ x ∈ l, (addS x.at_ x.dur).2.2 = 0 := by
 induction l with
 | nil => intro _ _ _ _ x hx; simp at hx
 | cons y l ih =>
  intro now i hi h x hx
  rw [checkFrom] at h
  split at h
  ·rename_i hs; exact absurd h hs
  ·rename_i hs
   have hs' : stepS now y = 0 := by simpa using hs
   unfold stepS at hs'
   split at hs'
   ·rename_i h1; exact absurd hs' h1
   ·split at hs'
    ·cases hs'
    ·rcases List.mem_cons.1 hx with rfl | hx
     ·exact hs'
     ·exact ih (nextS y) (i + 1) (by omega) h x hx
end Go.Proofs.YtpkmiegccfhpnaaGreatDoor
/- How long the transformed voices are. -/
namespace Go.Proofs.YtpkmiegccfhpnaaGreatDoor
end Go.Proofs.YtpkmiegccfhpnaaGreatDoor
/- Plain mathematics of the statements on small times: the times made of numbers are whole multiples of 1/24; sums and products are taken back; a whole multiple and a rest. -/
namespace Go.Proofs.YtpkmiegccfhpnaaGreatDoor
end Go.Proofs.YtpkmiegccfhpnaaGreatDoor
/- Plain mathematics of voices made of numbers: their times are whole multiples of 1/q; turned round, upside down, moved, stretched, joined, delayed, cut. -/
namespace Go.Proofs.YtpkmiegccfhpnaaGreatDoor
/-! ### Whole multiples of 1/q -/
def cq (q m : Int) : Int × Int := ((mk m q).1, (mk m q).2.1)
/-! ### Voices laid out -/
structure Pay where
 pit : Int × Int × Int
 rest : Bool
 sign : Int
 pass : Int
def Pay.ev (p : Pay) (a d : Int × Int) : Ev := ⟨a, d, p.pit, p.rest, p.sign, p.pass⟩
def Pay.good (p : Pay) : Prop := (p.rest = true → p.pit = (0, 0, 0)) ∧ (p.rest = false → pchk p.pit = 0) ∧ 0 ≤ p.sign ∧ 0 ≤ p.pass
def lay (q s : Int) : List (Int × Pay) → List Ev
 | [] => []
 | z :: l => z.2.ev (cq q s) (cq q z.1) :: lay q (s + z.1) l
def pos (l : List (Int × Pay)) : Prop := ∀ z ∈ l, 0 < z.1 ∧ z.2.good
def okq (q : Int) : Prop := 1 ≤ q ∧ q ≤ 1048576
/-! ### Pitches changed -/
/-! ### Stretched -/
end Go.Proofs.YtpkmiegccfhpnaaGreatDoor
/- Plain mathematics of voices made of numbers: what the kit's Voice makes; pitches; products; joined, delayed and cut voices; ends. -/
namespace Go.Proofs.YtpkmiegccfhpnaaGreatDoor
/-! ### What Voice makes -/
/-! ### Pitches -/
theorem pchk_bd {p : Int × Int × Int} (h : pchk p = 0) : 0 ≤ p.1 ∧ p.1 ≤ 6 ∧ 0 ≤ p.2.1 ∧ p.2.1 ≤ 8 ∧ -1 ≤ p.2.2 ∧ p.2.2 ≤ 1 := by
 unfold pchk at h
 split at h
 ·cases h
 ·omega
/-! ### Products -/
/-! ### Ends, joined and delayed voices -/
/-! ### Cut -/
section
variable {q f t : Int} (hq : okq q) (hf : 0 ≤ f) (hft : f ≤ t) (ht : t ≤ 1099511627776)
include hq hf hft ht
end
/-! ### The kit's sums -/
def plusS (a b : Int × Int) : Int × Int := tS (a.1 * b.2 + b.1 * a.2) (a.2 * b.2)
end Go.Proofs.YtpkmiegccfhpnaaGreatDoor
/- Plain mathematics of settings: times in order, moments, the event that sounds at a time, slices; no program in sight. -/
namespace Go.Proofs.YtpkmiegccfhpnaaGreatDoor
/-! ### Times in order -/
abbrev Tm := Int × Int
def ltT (a b : Tm) : Prop := a.1 * b.2 < b.1 * a.2
instance (a b : Tm) : Decidable (ltT a b) := inferInstanceAs (Decidable (_ < _))
theorem ltT_irr (a : Tm) : ¬ ltT a a := by unfold ltT; omega
theorem ltT_asym {a b : Tm} (h : ltT a b) : ¬ ltT b a := by unfold ltT at h ⊢; omega
theorem ltT_tri {a b : Tm} (ha : ok a) (hb : ok b) (h : ¬ ltT a b) (h' : ¬ ltT b a) : a = b := ok_eq ha hb (by unfold ltT at h h'; omega)
theorem ltT_trans {a b c : Tm} (ha : ok a) (hb : ok b) (hc : ok c) (h : ltT a b) (h' : ltT b c) : ltT a c := by
 obtain ⟨_, _, a2, _, _⟩ := ha; obtain ⟨_, _, b2, _, _⟩ := hb; obtain ⟨_, _, c2, _, _⟩ := hc
 unfold ltT at h h' ⊢
 have h1 : a.1 * b.2 * c.2 < b.1 * a.2 * c.2 := Int.mul_lt_mul_of_pos_right h (by omega)
 have h2 : b.1 * c.2 * a.2 < c.1 * b.2 * a.2 := Int.mul_lt_mul_of_pos_right h' (by omega)
 have e1 : a.1 * b.2 * c.2 = a.1 * c.2 * b.2 := by grind
 have e2 : b.1 * a.2 * c.2 = b.1 * c.2 * a.2 := by grind
 have e3 : c.1 * b.2 * a.2 = c.1 * a.2 * b.2 := by grind
 exact Int.lt_of_mul_lt_mul_right (a := b.2) (by omega) (by omega)
theorem leT_trans {a b c : Tm} (ha : ok a) (hb : ok b) (hc : ok c) (h : ¬ ltT b a) (h' : ¬ ltT c b) : ¬ ltT c a := by
 intro hca
 by_cases hab : ltT a b
 ·exact h' (ltT_trans hc ha hb hca hab)
 ·have := ltT_tri ha hb hab h
  rw [this] at hca
  exact h' hca
theorem lt_of_le' {a b c : Tm} (ha : ok a) (hb : ok b) (hc : ok c) (h : ¬ ltT b a) (h' : ltT b c) : ltT a c := by
 by_cases hab : ltT a b
 ·exact ltT_trans ha hb hc hab h'
 ·rw [ltT_tri ha hb hab h]; exact h'
theorem cmp_ok {a b : Tm} (ha : ok a) (hb : ok b) : cmpS a b = (sgn (a.1 * b.2 - b.1 * a.2), 0) := by unfold cmpS; rw [if_neg (fun h => h (both_of_ok ha hb))]
theorem cmp_lt {a b : Tm} (ha : ok a) (hb : ok b) : decide ((cmpS a b).1 < 0) = decide (ltT a b) := by
 rw [cmp_ok ha hb]
 unfold sgn ltT
 refine decide_eq_decide.2 ?_
 simp only
 (repeat' split) <;> omega
theorem cmp_le {a b : Tm} (ha : ok a) (hb : ok b) : decide ((cmpS a b).1 ≤ 0) = decide (¬ ltT b a) := by
 rw [cmp_ok ha hb]
 unfold sgn ltT
 refine decide_eq_decide.2 ?_
 simp only
 (repeat' split) <;> omega
theorem ok_zero : ok (0, 1) := by unfold ok; exact ⟨by decide, by decide, by decide, by decide, by decide⟩
theorem zero_le {a : Tm} (ha : ok a) : ¬ ltT a (0, 1) := by obtain ⟨h, _⟩ := ha; unfold ltT; simp only; omega
/-! ### Ascending lists -/
def SA (l : List Tm) : Prop := l.Pairwise ltT
def OkL (l : List Tm) : Prop := ∀ t ∈ l, ok t
theorem sa_ext : ∀ {l m : List Tm}, SA l → SA m → (∀ t, t ∈ l ↔ t ∈ m) → l = m
 | [], [], _, _, _ => rfl
 | [], y :: m, _, _, h => absurd ((h y).2 (by simp)) (by simp)
 | x :: l, [], _, _, h => absurd ((h x).1 (by simp)) (by simp)
 | x :: l, y :: m, hl, hm, h => by
  have hl' := List.pairwise_cons.1 hl
  have hm' := List.pairwise_cons.1 hm
  have hxy : x = y := by
   rcases List.mem_cons.1 ((h x).1 (by simp)) with e | hx
   ·exact e
   ·rcases List.mem_cons.1 ((h y).2 (by simp)) with e | hy
    ·exact e.symm
    ·exact absurd (hl'.1 y hy) (ltT_asym (hm'.1 x hx))
  subst hxy
  rw [sa_ext hl'.2 hm'.2 fun t => ?_]
  constructor
  ·intro ht
   rcases List.mem_cons.1 ((h t).1 (List.mem_cons_of_mem _ ht)) with e | hm2
   ·subst e; exact absurd (hl'.1 _ ht) (ltT_irr _)
   ·exact hm2
  ·intro ht
   rcases List.mem_cons.1 ((h t).2 (List.mem_cons_of_mem _ ht)) with e | hm2
   ·subst e; exact absurd (hm'.1 _ ht) (ltT_irr _)
   ·exact hm2
def withS : List Tm → Tm → List Tm
 | [], t => [t]
 | x :: l, t => if ltT x t then x :: withS l t else if x = t then x :: l else t :: x :: l
theorem with_mem (l : List Tm) (t u : Tm) : u ∈ withS l t ↔ u ∈ l ∨ u = t := by
 induction l with
 | nil => simp [withS]
 | cons x l ih =>
  unfold withS
  split
  ·rw [List.mem_cons, ih, List.mem_cons, or_assoc]
  ·split
   ·rename_i h; subst h
    simp only [List.mem_cons]
    grind
   ·simp only [List.mem_cons]
    grind
theorem with_ok {l : List Tm} {t : Tm} (hl : OkL l) (ht : ok t) : OkL (withS l t) := fun u hu => by
 rcases (with_mem l t u).1 hu with h | h
 ·exact hl u h
 ·exact h ▸ ht
theorem with_sa {l : List Tm} {t : Tm} (hl : SA l) (ho : OkL l) (ht : ok t) : SA (withS l t) := by
 induction l with
 | nil => exact List.pairwise_singleton _ _
 | cons x l ih =>
  have hl' := List.pairwise_cons.1 hl
  have ox := ho x (by simp)
  have ol : OkL l := fun u hu => ho u (List.mem_cons_of_mem _ hu)
  unfold withS
  split
  ·rename_i hx
   refine List.pairwise_cons.2 ⟨fun u hu => ?_, ih hl'.2 ol⟩
   rcases (with_mem l t u).1 hu with h | h
   ·exact hl'.1 u h
   ·exact h ▸ hx
  ·split
   ·exact hl
   ·rename_i h1 h2
    have htx : ltT t x := by
     by_cases h : ltT t x
     ·exact h
     ·exact absurd (ltT_tri ox ht h1 h) h2
    refine List.pairwise_cons.2 ⟨fun u hu => ?_, hl⟩
    rcases List.mem_cons.1 hu with h | h
    ·exact h ▸ htx
    ·exact ltT_trans ht ox (ol u h) htx (hl'.1 u h)
def posW : List Tm → Tm → Nat
 | [], _ => 0
 | x :: l, t => if ltT x t then posW l t + 1 else 0
theorem posW_le (l : List Tm) (t : Tm) : posW l t ≤ l.length := by
 induction l with
 | nil => simp [posW]
 | cons x l ih => unfold posW; split <;> simp <;> omega
theorem withS_pos (l : List Tm) (t : Tm) : withS l t = if l[posW l t]? = some t then l else l.take (posW l t) ++ t :: l.drop (posW l t) := by
 induction l with
 | nil => simp [withS, posW]
 | cons x l ih =>
  unfold withS posW
  split
  ·rw [ih]
   simp only [List.getElem?_cons_succ, List.take_succ_cons, List.drop_succ_cons, List.cons_append]
   split <;> rfl
  ·simp only [List.getElem?_cons_zero, List.take_zero, List.drop_zero, List.nil_append, Option.some.injEq]
theorem posW_lt {l : List Tm} {t : Tm} : ∀ {k : Nat} {x : Tm}, l[k]? = some x → k < posW l t → ltT x t := by
 induction l with
 | nil => intro k x h; simp at h
 | cons y l ih =>
  intro k x h hk
  unfold posW at hk
  split at hk
  ·rename_i hy
   cases k with
   | zero => simp at h; exact h ▸ hy
   | succ k => exact ih (by simpa using h) (by omega)
  ·omega
theorem posW_at {l : List Tm} {t x : Tm} (h : l[posW l t]? = some x) : ¬ ltT x t := by
 induction l with
 | nil => simp at h
 | cons y l ih =>
  unfold posW at h
  split at h
  ·exact ih (by simpa using h)
  ·simp at h; rename_i hy; exact h ▸ hy
theorem posW_is {l : List Tm} {t : Tm} {k : Nat} (h1 : ∀ (j : Nat) x, j < k → l[j]? = some x → ltT x t) (h2 : k ≤ l.length) (h3 : ∀ x, l[k]? = some x → ¬ ltT x t) : posW l t = k := by
 rcases Nat.lt_trichotomy (posW l t) k with h | h | h
 ·have hl : posW l t < l.length := by omega
  obtain ⟨x, hx⟩ : ∃ x, l[posW l t]? = some x := ⟨_, List.getElem?_eq_getElem hl⟩
  exact absurd (h1 _ x h hx) (posW_at hx)
 ·exact h
 ·have hl : k < l.length := by have := posW_le l t; omega
  obtain ⟨x, hx⟩ : ∃ x, l[k]? = some x := ⟨_, List.getElem?_eq_getElem hl⟩
  exact absurd (posW_lt hx h) (h3 x hx)
def momV (o : List Tm) (v : List Ev) : List Tm := v.foldl (fun o x => withS (withS o x.at_) (nextS x)) o
def momS (l : List (List Ev)) : List Tm := l.foldl momV []
/-! ### Valid voices -/
theorem next_lt {x : Ev} (ha : ok x.at_) (hd : ok x.dur) (h0 : 1 ≤ x.dur.1) (h : (addS x.at_ x.dur).2.2 = 0) : ltT x.at_ (nextS x) := by
 have eA : addS x.at_ x.dur = mk (x.at_.1 * x.dur.2 + x.dur.1 * x.at_.2) (x.at_.2 * x.dur.2) := by unfold addS; rw [if_neg (fun h => h (both_of_ok ha hd))]
 obtain ⟨a0, _, a2, _, _⟩ := ha
 obtain ⟨d0, _, d2, _, _⟩ := hd
 have hn : 0 ≤ x.at_.1 * x.dur.2 + x.dur.1 * x.at_.2 := by
  have h1 := Int.mul_nonneg a0 (show 0 ≤ x.dur.2 by omega)
  have h2 := Int.mul_nonneg d0 (show 0 ≤ x.at_.2 by omega)
  omega
 have hd1 : 1 ≤ x.at_.2 * x.dur.2 := by
  have := Int.mul_pos (show 0 < x.at_.2 by omega) (show 0 < x.dur.2 by omega)
  omega
 rw [eA, mk_of hn hd1] at h
 obtain ⟨g, a', b', hg, e0, e1, e2, e3, e4, _, _, _⟩ := gg_split _ _ hn hd1
 have eN : nextS x = (a', b') := by
  unfold nextS
  rw [eA, mk_of hn hd1]
  unfold ofq at h ⊢
  split at h
  ·cases h
  ·rename_i hs
   rw [if_neg hs, e3, e4]
 rw [eN]
 unfold ltT
 simp only
 have hp : 0 < x.dur.1 * x.at_.2 * x.at_.2 := Int.mul_pos (Int.mul_pos (by omega) (by omega)) (by omega)
 have hk : x.at_.1 * b' * g < a' * x.at_.2 * g := by
  have i1 : x.at_.1 * b' * g = x.at_.1 * (x.at_.2 * x.dur.2) := by rw [e2]; grind
  have i2 : a' * x.at_.2 * g = (x.at_.1 * x.dur.2 + x.dur.1 * x.at_.2) * x.at_.2 := by rw [e1]; grind
  have i3 : (x.at_.1 * x.dur.2 + x.dur.1 * x.at_.2) * x.at_.2 = x.at_.1 * (x.at_.2 * x.dur.2) + x.dur.1 * x.at_.2 * x.at_.2 := by grind
  omega
 exact Int.lt_of_mul_lt_mul_right (a := g) hk (by omega)
structure Val (v : List Ev) : Prop where
 each : ∀ (i : Nat) x, v[i]? = some x → ok x.at_ ∧ ok (nextS x) ∧ ltT x.at_ (nextS x) ∧ ok x.dur
 next : ∀ (i : Nat) x y, v[i]? = some x → v[i + 1]? = some y → y.at_ = nextS x
 first : ∀ x, v[0]? = some x → x.at_ = (0, 1)
theorem val_from (v : List Ev) : ∀ (now : Tm) (i : Int), (checkFrom now i v).1 = 0 →
  (∀ (i : Nat) x, v[i]? = some x → ok x.at_ ∧ ok (nextS x) ∧ ltT x.at_ (nextS x) ∧ ok x.dur) ∧ (∀ (i : Nat) x y, v[i]? = some x → v[i + 1]? = some y → y.at_ = nextS x) ∧ (∀ x, v[0]? = some x → x.at_ = now) := by
 induction v with
 | nil => intro now i _; exact ⟨fun i x h => by simp at h, fun i x y h => by simp at h, fun x h => by simp at h⟩
 | cons x v ih =>
  intro now i h
  unfold checkFrom at h
  split at h
  ·rename_i h0; simp only at h; exact absurd h h0
  ·rename_i h0
   have hs : stepS now x = 0 := by omega
   obtain ⟨h1, h2, h3⟩ := ih _ _ h
   unfold stepS at hs
   split at hs
   ·contradiction
   ·rename_i ho
    split at hs
    ·cases hs
    ·rename_i hat
     have hat' : x.at_ = now := by simpa using hat
     have ho' : oneS x = 0 := by omega
     have a1 : chk x.at_.1 x.at_.2 = 0 ∧ chk x.dur.1 x.dur.2 = 0 ∧ x.dur.1 ≠ 0 := by
      unfold oneS at ho'
      split at ho'
      ·contradiction
      ·split at ho'
       ·contradiction
       ·split at ho'
        ·cases ho'
        ·exact ⟨by omega, by omega, by assumption⟩
     have o1 : ok x.at_ := ok_of_chk a1.1
     have o2 : ok x.dur := ok_of_chk a1.2.1
     have eA : addS x.at_ x.dur = mk (x.at_.1 * x.dur.2 + x.dur.1 * x.at_.2) (x.at_.2 * x.dur.2) := by unfold addS; rw [if_neg (fun h => h (both_of_ok o1 o2))]
     have o3 : ok (nextS x) := by unfold nextS; rw [eA] at hs ⊢; exact mk_ok hs
     have hlt : ltT x.at_ (nextS x) := next_lt o1 o2 (by have := o2.1; have := a1.2.2; omega) hs
     refine ⟨fun j y hy => ?_, fun j y z hy hz => ?_, fun y hy => ?_⟩
     ·cases j with
      | zero => simp at hy; subst hy; exact ⟨o1, o3, hlt, o2⟩
      | succ j => exact h1 j y (by simpa using hy)
     ·cases j with
      | zero =>
       simp at hy; subst hy
       exact h3 z (by simpa using hz)
      | succ j => exact h2 j y z (by simpa using hy) (by simpa using hz)
     ·simp at hy; subst hy; exact hat'
theorem val_of {v : List Ev} (h : (checkS v).1 = 0) : Val v := by
 unfold checkS at h
 split at h
 ·cases h
 ·obtain ⟨h1, h2, h3⟩ := val_from v _ _ h
  exact ⟨h1, h2, h3⟩
end Go.Proofs.YtpkmiegccfhpnaaGreatDoor
/- Plain mathematics of settings: the program's moments are the reference's; the event that sounds; slices. -/
namespace Go.Proofs.YtpkmiegccfhpnaaGreatDoor
/-! ### Members -/
theorem momV_mem (v : List Ev) : ∀ (o : List Tm) (t : Tm), t ∈ momV o v ↔ t ∈ o ∨ ∃ x ∈ v, t = x.at_ ∨ t = nextS x := by
 induction v with
 | nil => intro o t; simp [momV]
 | cons x v ih =>
  intro o t
  show t ∈ momV (withS (withS o x.at_) (nextS x)) v ↔ _
  rw [ih, with_mem, with_mem]
  simp only [List.mem_cons]
  grind
theorem momV_sa (v : List Ev) : ∀ (o : List Tm), SA o → OkL o → (∀ x ∈ v, ok x.at_ ∧ ok (nextS x)) → SA (momV o v) ∧ OkL (momV o v) := by
 induction v with
 | nil => intro o h1 h2 _; exact ⟨h1, h2⟩
 | cons x v ih =>
  intro o h1 h2 h3
  have hx := h3 x (by simp)
  have a1 := with_sa h1 h2 hx.1
  have a2 := with_ok h2 hx.1
  exact ih _ (with_sa a1 a2 hx.2) (with_ok a2 hx.2) (fun y hy => h3 y (List.mem_cons_of_mem _ hy))
theorem val_mem {v : List Ev} (h : Val v) : ∀ x ∈ v, ok x.at_ ∧ ok (nextS x) ∧ ltT x.at_ (nextS x) ∧ ok x.dur := fun x hx => by
 obtain ⟨i, hi, rfl⟩ := List.getElem_of_mem hx
 exact h.each i _ (List.getElem?_eq_getElem hi)
/-! ### The program's own moments of a voice -/
def endV (v : List Ev) : Tm := match v.getLast? with | none => (0, 1) | some x => nextS x
theorem endS_val {v : List Ev} (h : (checkS v).1 = 0) : endS v = ((endV v).1, (endV v).2, 0) := by
 unfold endS endV
 rw [if_neg (fun h0 => h0 h)]
 cases hl : v.getLast? with
 | none => rfl
 | some x =>
  have hx := List.mem_of_getLast? hl
  have := add_of_check v (0, 1) 0 (by omega) (by unfold checkS at h; split at h; cases h; exact h) x hx
  simp only [nextS]
  exact Prod.ext rfl (Prod.ext rfl this)
theorem endV_ok {v : List Ev} (h : Val v) : ok (endV v) := by
 unfold endV
 cases hl : v.getLast? with
 | none => exact ok_zero
 | some x => exact (val_mem h x (List.mem_of_getLast? hl)).2.1
def ownV (v : List Ev) : List Tm := v.map (·.at_) ++ if v = [] then [] else [endV v]
theorem at_lt {v : List Ev} (h : Val v) : ∀ (j i : Nat) x y, v[i]? = some x → v[j]? = some y → i < j → ltT x.at_ y.at_ ∧ ¬ ltT y.at_ (nextS x) := by
 intro j
 induction j with
 | zero => intro i x y _ _ hij; omega
 | succ j ih =>
  intro i x y hx hy hij
  have hjl : j < v.length := by
   have := (List.getElem?_eq_some_iff.1 hy).1
   omega
  obtain ⟨z, hz⟩ : ∃ z, v[j]? = some z := ⟨_, List.getElem?_eq_getElem hjl⟩
  have e := h.next j z y hz hy
  have ez := h.each j z hz
  have ex := h.each i x hx
  by_cases hij' : i = j
  ·subst hij'
   rw [hx] at hz
   cases hz
   rw [e]
   exact ⟨ex.2.2.1, ltT_irr _⟩
  ·obtain ⟨h1, h2⟩ := ih i x z hx hz (by omega)
   rw [e]
   exact ⟨ltT_trans ex.1 ez.1 ez.2.1 h1 ez.2.2.1, leT_trans ex.2.1 ez.1 ez.2.1 h2 (ltT_asym ez.2.2.1)⟩
theorem getLast_idx {α : Type} {v : List α} {x : α} (h : v.getLast? = some x) : 0 < v.length ∧ v[v.length - 1]? = some x := by
 rw [List.getLast?_eq_getElem?] at h
 exact ⟨by have := (List.getElem?_eq_some_iff.1 h).1; omega, h⟩
theorem end_ge {v : List Ev} (h : Val v) {x : Ev} (hx : x ∈ v) : ltT x.at_ (endV v) ∧ ¬ ltT (endV v) (nextS x) := by
 obtain ⟨i, hi, e⟩ := List.getElem_of_mem hx
 have hx' : v[i]? = some x := by rw [List.getElem?_eq_getElem hi, e]
 have ex := h.each i _ hx'
 obtain ⟨z, hz⟩ : ∃ z, v.getLast? = some z := by
  cases hl : v.getLast? with
  | none => rw [List.getLast?_eq_none_iff] at hl; subst hl; simp at hi
  | some z => exact ⟨z, rfl⟩
 have ee : endV v = nextS z := by unfold endV; rw [hz]
 obtain ⟨h0, hz'⟩ := getLast_idx hz
 have ez := h.each _ z hz'
 rw [ee]
 by_cases hil : i = v.length - 1
 ·rw [hil, hz'] at hx'
  cases hx'
  exact ⟨ez.2.2.1, ltT_irr _⟩
 ·obtain ⟨a1, a2⟩ := at_lt h (v.length - 1) i _ z hx' hz' (by omega)
  exact ⟨ltT_trans ex.1 ez.1 ez.2.1 a1 ez.2.2.1, leT_trans ex.2.1 ez.1 ez.2.1 a2 (ltT_asym ez.2.2.1)⟩
theorem own_sa {v : List Ev} (h : Val v) : SA (ownV v) ∧ OkL (ownV v) := by
 refine ⟨?_, ?_⟩
 ·unfold SA ownV
  refine List.pairwise_append.2 ⟨?_, ?_, ?_⟩
  ·rw [List.pairwise_iff_getElem]
   intro i j hi hj hij
   simp only [List.length_map] at hi hj
   simp only [List.getElem_map]
   exact (at_lt h j i _ _ (List.getElem?_eq_getElem hi) (List.getElem?_eq_getElem hj) hij).1
  ·split
   ·exact List.Pairwise.nil
   ·exact List.pairwise_singleton _ _
  ·intro a ha b hb
   obtain ⟨x, hx, rfl⟩ := List.mem_map.1 ha
   split at hb
   ·cases hb
   ·rw [List.mem_singleton.1 hb]; exact (end_ge h hx).1
 ·intro t ht
  unfold ownV at ht
  rcases List.mem_append.1 ht with ht | ht
  ·obtain ⟨x, hx, rfl⟩ := List.mem_map.1 ht
   exact (val_mem h x hx).1
  ·split at ht
   ·cases ht
   ·rw [List.mem_singleton.1 ht]; exact endV_ok h
theorem own_mem {v : List Ev} (h : Val v) (t : Tm) : t ∈ ownV v ↔ ∃ x ∈ v, t = x.at_ ∨ t = nextS x := by
 unfold ownV
 rw [List.mem_append]
 constructor
 ·rintro (ht | ht)
  ·obtain ⟨x, hx, rfl⟩ := List.mem_map.1 ht
   exact ⟨x, hx, .inl rfl⟩
  ·split at ht
   ·cases ht
   ·rename_i hv
    rw [List.mem_singleton.1 ht]
    cases hl : v.getLast? with
    | none => rw [List.getLast?_eq_none_iff] at hl; exact absurd hl hv
    | some z => exact ⟨z, List.mem_of_getLast? hl, .inr (by unfold endV; rw [hl])⟩
 ·rintro ⟨x, hx, rfl | rfl⟩
  ·exact .inl (List.mem_map.2 ⟨x, hx, rfl⟩)
  ·obtain ⟨i, hi, rfl⟩ := List.getElem_of_mem hx
   have hx' : v[i]? = some v[i] := List.getElem?_eq_getElem hi
   by_cases hn : i + 1 < v.length
   ·have hy : v[i + 1]? = some v[i + 1] := List.getElem?_eq_getElem hn
    exact .inl (List.mem_map.2 ⟨v[i + 1], List.getElem_mem hn, h.next i _ _ hx' hy⟩)
   ·refine .inr ?_
    rw [if_neg (fun h0 => by subst h0; simp at hi), List.mem_singleton]
    have hl : v.getLast? = some v[i] := by rw [List.getLast?_eq_getElem?, show v.length - 1 = i by omega]; exact hx'
    unfold endV; rw [hl]
/-! ### The program's merge of two ascending lists -/
def swapB (a b : List Tm) : Bool := match a, b with
 | [], _ => true
 | _ :: _, [] => false
 | x :: _, y :: _ => decide (ltT y x)
def addE (o : List Tm) (t : Tm) : List Tm := if o.getLast? = some t then o else o ++ [t]
def mrg : Nat → List Tm → List Tm → List Tm → List Tm
 | 0, o, _, _ => o
 | n + 1, o, a, b => if swapB a b = true then mrg n (addE o (b.headD (0, 1))) b.tail a else mrg n (addE o (a.headD (0, 1))) a.tail b
def mrgS (a b : List Tm) : List Tm := mrg (a.length + b.length) [] a b
def geL (t : Tm) (l : List Tm) : Prop := ∀ u ∈ l, ¬ ltT u t
theorem addE_spec {o : List Tm} {t : Tm} (ho : SA o) (hok : OkL o) (ht : ok t) (hl : ∀ z, o.getLast? = some z → ¬ ltT t z) : SA (addE o t) ∧ OkL (addE o t) ∧ (addE o t).getLast? = some t ∧ ∀ u, u ∈ addE o t ↔ u ∈ o ∨ u = t := by
 unfold addE
 by_cases he : o.getLast? = some t
 ·rw [if_pos he]
  exact ⟨ho, hok, he, fun u => ⟨.inl, fun h => h.elim id (fun e => e ▸ List.mem_of_getLast? he)⟩⟩
 ·rw [if_neg he]
  refine ⟨?_, ?_, by simp, fun u => by rw [List.mem_append, List.mem_singleton]⟩
  ·refine List.pairwise_append.2 ⟨ho, List.pairwise_singleton _ _, fun a ha b hb => ?_⟩
   rw [List.mem_singleton.1 hb]
   cases hz : o.getLast? with
   | none => rw [List.getLast?_eq_none_iff] at hz; subst hz; cases ha
   | some z =>
    have oz := hok z (List.mem_of_getLast? hz)
    have hzt : ltT z t := by
     by_cases h : ltT z t
     ·exact h
     ·exact absurd (by rw [hz, ltT_tri oz ht h (hl z hz)]) he
    obtain ⟨i, hi, rfl⟩ := List.getElem_of_mem ha
    obtain ⟨h0, hz'⟩ := getLast_idx hz
    by_cases hil : i = o.length - 1
    ·have : o[i] = z := by
      have h2 : o[i]? = some z := by rw [hil]; exact hz'
      rw [List.getElem?_eq_getElem hi] at h2
      exact Option.some.inj h2
     rw [this]; exact hzt
    ·have hlt : o.length - 1 < o.length := by omega
     have : o[o.length - 1] = z := by
      rw [List.getElem?_eq_getElem hlt] at hz'
      exact Option.some.inj hz'
     have h3 := (List.pairwise_iff_getElem.1 ho) i (o.length - 1) hi hlt (by omega)
     rw [this] at h3
     exact ltT_trans (hok _ (List.getElem_mem hi)) oz ht h3 hzt
  ·intro u hu
   rcases List.mem_append.1 hu with h | h
   ·exact hok u h
   ·rw [List.mem_singleton.1 h]; exact ht
theorem mrg_spec : ∀ (n : Nat) (o a b : List Tm), n = a.length + b.length → SA o → OkL o → SA a → OkL a → SA b → OkL b → (∀ z, o.getLast? = some z → geL z a ∧ geL z b) →
  SA (mrg n o a b) ∧ OkL (mrg n o a b) ∧ ∀ u, u ∈ mrg n o a b ↔ u ∈ o ∨ u ∈ a ∨ u ∈ b := by
 intro n
 induction n with
 | zero =>
  intro o a b hn ho hoo _ _ _ _ _
  obtain rfl : a = [] := List.eq_nil_of_length_eq_zero (by omega)
  obtain rfl : b = [] := List.eq_nil_of_length_eq_zero (by omega)
  exact ⟨ho, hoo, fun u => by simp [mrg]⟩
 | succ n ih =>
  intro o a b hn ho hoo ha hao hb hbo hg
  -- one step with the head of p
  have step : ∀ (p q : List Tm), p ≠ [] → n + 1 = p.length + q.length → SA p → OkL p → SA q → OkL q → (∀ z, o.getLast? = some z → geL z p ∧ geL z q) → (∀ y ∈ q, ∀ x, p.head? = some x → ¬ ltT y x) →
    SA (mrg n (addE o (p.headD (0, 1))) p.tail q) ∧ OkL (mrg n (addE o (p.headD (0, 1))) p.tail q) ∧ ∀ u, u ∈ mrg n (addE o (p.headD (0, 1))) p.tail q ↔ u ∈ o ∨ u ∈ p ∨ u ∈ q := by
   intro p q hp hn' hsp hop hsq hoq hgg hmin
   cases p with
   | nil => exact absurd rfl hp
   | cons x p =>
    have hp' := List.pairwise_cons.1 hsp
    have ox := hop x (by simp)
    obtain ⟨s1, s2, s3, s4⟩ := addE_spec ho hoo ox (fun z hz => (hgg z hz).1 x (by simp))
    have r := ih (addE o x) p q (by simp at hn'; omega) s1 s2 hp'.2 (fun u hu => hop u (List.mem_cons_of_mem _ hu)) hsq hoq (fun z hz => by
     rw [s3] at hz
     cases hz
     exact ⟨fun u hu => ltT_asym (hp'.1 u hu), fun u hu => hmin u hu x rfl⟩)
    refine ⟨r.1, r.2.1, fun u => ?_⟩
    show u ∈ mrg n (addE o x) p q ↔ _
    rw [r.2.2 u, s4 u, List.mem_cons]
    grind
  unfold mrg
  by_cases hs : swapB a b = true
  ·rw [if_pos hs]
   have hbne : b ≠ [] := by
    intro h0; subst h0
    cases a with
    | nil => simp at hn
    | cons x a => simp [swapB] at hs
   have r := step b a hbne (by omega) hb hbo ha hao (fun z hz => ⟨(hg z hz).2, (hg z hz).1⟩) (fun y hy x hx => by
    cases a with
    | nil => cases hy
    | cons z a =>
     cases b with
     | nil => cases hx
     | cons w b =>
      cases hx
      simp only [swapB, decide_eq_true_eq] at hs
      have ow := hbo x (by simp)
      have oz := hao z (by simp)
      rcases List.mem_cons.1 hy with h | h
      ·rw [h]; exact ltT_asym hs
      ·exact ltT_asym (ltT_trans ow oz (hao y hy) hs ((List.pairwise_cons.1 ha).1 y h)))
   exact ⟨r.1, r.2.1, fun u => by rw [r.2.2 u]; grind⟩
  ·rw [if_neg hs]
   have hane : a ≠ [] := fun h0 => by subst h0; exact hs rfl
   exact step a b hane hn ha hao hb hbo hg (fun y hy x hx => by
    cases a with
    | nil => cases hx
    | cons z a =>
     cases hx
     cases b with
     | nil => cases hy
     | cons w b =>
      simp only [swapB, decide_eq_true_eq] at hs
      have ow := hbo w (by simp)
      have oz := hao x (by simp)
      rcases List.mem_cons.1 hy with h | h
      ·rw [h]; exact hs
      ·exact ltT_asym (lt_of_le' oz ow (hbo y hy) hs ((List.pairwise_cons.1 hb).1 y h)))
theorem mrgS_spec {a b : List Tm} (ha : SA a) (hao : OkL a) (hb : SA b) (hbo : OkL b) : SA (mrgS a b) ∧ OkL (mrgS a b) ∧ ∀ u, u ∈ mrgS a b ↔ u ∈ a ∨ u ∈ b := by
 obtain ⟨h1, h2, h3⟩ := mrg_spec _ [] a b rfl List.Pairwise.nil (fun t h => by cases h) ha hao hb hbo (fun z h => by cases h)
 exact ⟨h1, h2, fun u => by unfold mrgS; rw [h3 u]; simp⟩
def momP (l : List (List Ev)) : List Tm := l.foldl (fun o v => mrgS o (ownV v)) []
theorem mom_from (l : List (List Ev)) : ∀ (o : List Tm), SA o → OkL o → (∀ v ∈ l, Val v) → l.foldl (fun o v => mrgS o (ownV v)) o = l.foldl momV o ∧ SA (l.foldl momV o) ∧ OkL (l.foldl momV o) := by
 induction l with
 | nil => intro o h1 h2 _; exact ⟨rfl, h1, h2⟩
 | cons v l ih =>
  intro o h1 h2 hv
  have hV := hv v (by simp)
  obtain ⟨a1, a2, a3⟩ := mrgS_spec h1 h2 (own_sa hV).1 (own_sa hV).2
  obtain ⟨b1, b2⟩ := momV_sa v o h1 h2 (fun x hx => ⟨(val_mem hV x hx).1, (val_mem hV x hx).2.1⟩)
  have e : mrgS o (ownV v) = momV o v := sa_ext a1 b1 (fun t => by rw [a3 t, momV_mem, own_mem hV])
  simp only [List.foldl_cons]
  rw [e]
  exact ih _ b1 b2 (fun w hw => hv w (List.mem_cons_of_mem _ hw))
theorem mom_eq {l : List (List Ev)} (h : ∀ v ∈ l, Val v) : momP l = momS l ∧ SA (momS l) ∧ OkL (momS l) := mom_from l [] List.Pairwise.nil (fun t h => by cases h) h
end Go.Proofs.YtpkmiegccfhpnaaGreatDoor
/- Plain mathematics of settings: checks, the event that sounds at a time, slices. -/
namespace Go.Proofs.YtpkmiegccfhpnaaGreatDoor
def chkV (i : Int) : List (List Ev) → Int × Int
 | [] => (0, 0)
 | v :: l => if (checkS v).1 ≠ 0 then ((checkS v).1, i) else chkV (i + 1) l
def checkA (l : List (List Ev)) : Int × Int := if 8 < l.length then (11, 0) else chkV 0 l
theorem chkV_all {l : List (List Ev)} : ∀ {i : Int}, (chkV i l).1 = 0 → ∀ v ∈ l, (checkS v).1 = 0 := by
 induction l with
 | nil => intro i _ v hv; cases hv
 | cons v l ih =>
  intro i h
  unfold chkV at h
  split at h
  ·rename_i h0; simp only at h; exact absurd h h0
  ·rename_i h0
   intro w hw
   rcases List.mem_cons.1 hw with rfl | hw
   ·omega
   ·exact ih h w hw
theorem checkA_all {l : List (List Ev)} (h : (checkA l).1 = 0) : l.length ≤ 8 ∧ ∀ v ∈ l, (checkS v).1 = 0 := by
 unfold checkA at h
 split at h
 ·cases h
 ·exact ⟨by omega, chkV_all h⟩
theorem chkV_bad {v : List Ev} {l : List (List Ev)} {i : Int} (h : (checkS v).1 ≠ 0) : chkV i (v :: l) = ((checkS v).1, i) := by unfold chkV; rw [if_pos h]
theorem chkV_next {v : List Ev} {l : List (List Ev)} {i : Int} (h : (checkS v).1 = 0) : chkV i (v :: l) = chkV (i + 1) l := by
 conv => lhs; unfold chkV
 rw [if_neg (fun h0 => h0 h)]
theorem checkS_len {v : List Ev} (h : (checkS v).1 = 0) : v.length ≤ 2000 := by
 unfold checkS at h
 split at h
 ·cases h
 ·omega
/-! ### The event that sounds at a time -/
def holdB (x : Ev) (t : Tm) : Bool := decide (¬ ltT t x.at_) && decide (ltT t (nextS x))
def onFrom (i : Int) : List Ev → Tm → Int
 | [], _ => -1
 | x :: v, t => if holdB x t = true then i else onFrom (i + 1) v t
def onS (v : List Ev) (t : Tm) : Int := onFrom 0 v t
theorem onFrom_drop {v : List Ev} {t : Tm} {k : Nat} {x : Ev} (hx : v[k]? = some x) : onFrom k (v.drop k) t = if holdB x t = true then (k : Int) else onFrom ((k + 1 : Nat) : Int) (v.drop (k + 1)) t := by
 obtain ⟨hk, rfl⟩ := List.getElem?_eq_some_iff.1 hx
 rw [List.drop_eq_getElem_cons hk]
 rfl
theorem on_none {v : List Ev} {t : Tm} (h : ∀ x ∈ v, holdB x t = false) : ∀ i, onFrom i v t = -1 := by
 induction v with
 | nil => intro i; rfl
 | cons x v ih =>
  intro i
  unfold onFrom
  rw [h x (by simp), if_neg (by simp)]
  exact ih (fun y hy => h y (List.mem_cons_of_mem _ hy)) _
theorem on_some {v : List Ev} {t : Tm} : ∀ (k : Nat) (i : Int) {x : Ev}, v[k]? = some x → holdB x t = true → (∀ (j : Nat) y, j < k → v[j]? = some y → holdB y t = false) → onFrom i v t = i + k := by
 induction v with
 | nil => intro k i x h; simp at h
 | cons y v ih =>
  intro k i x hx hh hno
  unfold onFrom
  cases k with
  | zero =>
   simp at hx; subst hx
   rw [if_pos hh]; simp
  | succ k =>
   rw [hno 0 y (by omega) rfl, if_neg (by simp)]
   rw [ih k (i + 1) (by simpa using hx) hh (fun j z hj hz => hno (j + 1) z (by omega) (by simpa using hz))]
   push_cast; omega
def Ptr (v : List Ev) (t : Tm) (k : Nat) : Prop := k = 0 ∨ ∃ x, v[k]? = some x ∧ ¬ ltT t x.at_
def PtrEnd (v : List Ev) (t : Tm) (k : Nat) : Prop := ∀ x, v[k + 1]? = some x → ltT t x.at_
theorem ptr_later {v : List Ev} (h : Val v) {t t' : Tm} {k : Nat} (ht : ok t) (ht' : ok t') (hp : Ptr v t k) (hle : ¬ ltT t' t) : Ptr v t' k := by
 rcases hp with rfl | ⟨x, hx, hn⟩
 ·exact .inl rfl
 ·exact .inr ⟨x, hx, leT_trans (h.each k x hx).1 ht ht' hn hle⟩
theorem ptr_on {v : List Ev} (h : Val v) {t : Tm} {k : Nat} (ht : ok t) (hp : Ptr v t k) (he : PtrEnd v t k) : onS v t = if ltT t (endV v) then (k : Int) else -1 := by
 by_cases hv : v = []
 ·subst hv
  rw [if_neg (by unfold endV; exact zero_le ht)]; rfl
 ·have hl : 0 < v.length := List.length_pos_iff.2 hv
  -- the event k
  obtain ⟨x, hx, hxt⟩ : ∃ x, v[k]? = some x ∧ ¬ ltT t x.at_ := by
   rcases hp with rfl | h0
   ·obtain ⟨x, hx⟩ : ∃ x, v[0]? = some x := ⟨_, List.getElem?_eq_getElem hl⟩
    exact ⟨x, hx, by rw [h.first x hx]; exact zero_le ht⟩
   ·exact h0
  have hkl : k < v.length := (List.getElem?_eq_some_iff.1 hx).1
  have ex := h.each k x hx
  have before : ∀ (j : Nat) y, j < k → v[j]? = some y → holdB y t = false := fun j y hj hy => by
   have ey := h.each j y hy
   have := (at_lt h k j y x hy hx hj).2
   unfold holdB
   rw [decide_eq_false (p := ltT t (nextS y)) (leT_trans ey.2.1 ex.1 ht this hxt), Bool.and_false]
  by_cases hend : ltT t (endV v)
  ·rw [if_pos hend]
   have hh : holdB x t = true := by
    unfold holdB
    rw [decide_eq_true hxt, Bool.true_and, decide_eq_true_eq]
    by_cases hn : k + 1 < v.length
    ·obtain ⟨y, hy⟩ : ∃ y, v[k + 1]? = some y := ⟨_, List.getElem?_eq_getElem hn⟩
     rw [← h.next k x y hx hy]; exact he y hy
    ·have : v.getLast? = some x := by rw [List.getLast?_eq_getElem?, show v.length - 1 = k by omega]; exact hx
     unfold endV at hend; rw [this] at hend; exact hend
   unfold onS
   rw [on_some k 0 hx hh before]; omega
  ·rw [if_neg hend]
   refine on_none (fun y hy => ?_) 0
   unfold holdB
   have ey := val_mem h y hy
   rw [decide_eq_false (p := ltT t (nextS y)) (leT_trans ey.2.1 (endV_ok h) ht (end_ge h hy).2 hend), Bool.and_false]
/-! ### Slices -/
structure Sl where
 at_ : Tm
 dur : Tm
 evs : List Int
def mAt (m : List Tm) (i : Nat) : Tm := m.getD i (0, 0)
theorem mAt_some {m : List Tm} {i : Nat} (h : i < m.length) : m[i]? = some (mAt m i) := by simp [mAt, List.getD, h]
def durE (m : List Tm) (i : Nat) : Tm × Int := (((subS (mAt m (i + 1)) (mAt m i)).1, (subS (mAt m (i + 1)) (mAt m i)).2.1), (subS (mAt m (i + 1)) (mAt m i)).2.2)
def slOf (l : List (List Ev)) (m : List Tm) (i : Nat) : Sl := ⟨mAt m i, (durE m i).1, l.map fun v => onS v (mAt m i)⟩
def durFrom (m : List Tm) : Nat → Nat → Int
 | _, 0 => 0
 | i, k + 1 => if (durE m i).2 ≠ 0 then (durE m i).2 else durFrom m (i + 1) k
def slicesE (l : List (List Ev)) : List Sl × Int :=
 if (checkA l).1 ≠ 0 then ([], (checkA l).1)
 else if durFrom (momS l) 0 ((momS l).length - 1) ≠ 0 then ([], durFrom (momS l) 0 ((momS l).length - 1))
 else ((List.range ((momS l).length - 1)).map (slOf l (momS l)), 0)
theorem durFrom_bad {m : List Tm} {i k : Nat} (h : (durE m i).2 ≠ 0) : durFrom m i (k + 1) = (durE m i).2 := by unfold durFrom; rw [if_pos h]
theorem durFrom_next {m : List Tm} {i k : Nat} (h : (durE m i).2 = 0) : durFrom m i (k + 1) = durFrom m (i + 1) k := by
 conv => lhs; unfold durFrom
 rw [if_neg (fun h0 => h0 h)]
theorem range_next {α : Type} (f : Nat → α) (k : Nat) : (List.range (k + 1)).map f = (List.range k).map f ++ [f k] := by rw [List.range_succ, List.map_append]; rfl
theorem set_facts {l : List (List Ev)} (h : (checkA l).1 = 0) : l.length ≤ 8 ∧ (∀ v ∈ l, (checkS v).1 = 0 ∧ Val v ∧ v.length ≤ 2000) ∧ momP l = momS l ∧ SA (momS l) ∧ OkL (momS l) := by
 obtain ⟨h1, h2⟩ := checkA_all h
 exact ⟨h1, fun v hv => ⟨h2 v hv, val_of (h2 v hv), checkS_len (h2 v hv)⟩, mom_eq fun v hv => val_of (h2 v hv)⟩
theorem momV_len (v : List Ev) : ∀ o : List Tm, (momV o v).length ≤ o.length + 2 * v.length := by
 induction v with
 | nil => intro o; simp [momV]
 | cons x v ih =>
  intro o
  have h1 := ih (withS (withS o x.at_) (nextS x))
  have h2 : ∀ (o : List Tm) t, (withS o t).length ≤ o.length + 1 := fun o t => by
   induction o with
   | nil => simp [withS]
   | cons y o ih => unfold withS; split <;> (try split) <;> simp <;> omega
  have h3 := h2 o x.at_
  have h4 := h2 (withS o x.at_) (nextS x)
  show (momV (withS (withS o x.at_) (nextS x)) v).length ≤ _
  rw [List.length_cons]
  omega
theorem momS_len (l : List (List Ev)) (h : ∀ v ∈ l, v.length ≤ 2000) : (momS l).length ≤ 4000 * l.length := by
 have key : ∀ (l : List (List Ev)) (o : List Tm), (∀ v ∈ l, v.length ≤ 2000) → (l.foldl momV o).length ≤ o.length + 4000 * l.length := by
  intro l
  induction l with
  | nil => intro o _; simp
  | cons v l ih =>
   intro o hv
   have h1 := ih (momV o v) (fun w hw => hv w (List.mem_cons_of_mem _ hw))
   have h2 := momV_len v o
   have h3 := hv v (by simp)
   simp only [List.foldl_cons, List.length_cons]
   omega
 have := key l [] h
 simpa [momS] using this
end Go.Proofs.YtpkmiegccfhpnaaGreatDoor
/- What End, At, Starts and Back answer: plain mathematics, no program in sight. -/
namespace Go.Proofs.YtpkmiegccfhpnaaGreatDoor
/-! ### The end, a time's slice -/
def endT (m : List Tm) : Tm := if m.length = 0 then (0, 1) else mAt m (m.length - 1)
theorem slicesE_ok {l : List (List Ev)} (h : (slicesE l).2 = 0) : (checkA l).1 = 0 ∧ slicesE l = ((List.range ((momS l).length - 1)).map (slOf l (momS l)), 0) := by
 unfold slicesE at h ⊢
 by_cases h1 : (checkA l).1 ≠ 0
 ·rw [if_pos h1] at h; exact absurd h h1
 ·rw [if_neg h1] at h ⊢
  by_cases h2 : durFrom (momS l) 0 ((momS l).length - 1) ≠ 0
  ·rw [if_pos h2] at h; exact absurd h h2
  ·rw [if_neg h2]; exact ⟨by omega, rfl⟩
theorem ok_mAt {m : List Tm} (ho : OkL m) {i : Nat} (hi : i < m.length) : ok (mAt m i) := ho _ (List.mem_of_getElem? (mAt_some hi))
/-! ### Who starts -/
/-! ### Sums of slices -/
theorem on_char {v : List Ev} (h : Val v) {t : Tm} (ht : ok t) : (∃ k x, v[k]? = some x ∧ holdB x t = true ∧ onS v t = (k : Nat)) ∨ onS v t = -1 := by
 by_cases hh : ∃ x ∈ v, holdB x t = true
 ·obtain ⟨x, hx, hb⟩ := hh
  obtain ⟨k, hk⟩ := List.mem_iff_getElem?.1 hx
  refine .inl ⟨k, x, hk, hb, ?_⟩
  unfold onS
  rw [on_some k 0 hk hb (fun j y hj hy => ?_)]
  ·omega
  ·have h1 := (at_lt h k j y x hy hk hj).2
   unfold holdB at hb ⊢
   rw [Bool.and_eq_true, decide_eq_true_eq, decide_eq_true_eq] at hb
   have ey := h.each j y hy
   have ex := h.each k x hk
   rw [decide_eq_false (p := ltT t (nextS y)) (leT_trans ey.2.1 ex.1 ht h1 hb.1), Bool.and_false]
 ·refine .inr (on_none (fun x hx => ?_) 0)
  cases hb : holdB x t
  ·rfl
  ·exact absurd ⟨x, hx, hb⟩ hh
end Go.Proofs.YtpkmiegccfhpnaaGreatDoor
/- Sorting by insertion, from the front and from behind: plain mathematics, no program in sight. -/
namespace Go.Proofs.YtpkmiegccfhpnaaGreatDoor
def sink {α : Type} (lt : α → α → Bool) : Nat → List α → List α
 | 0, l => l
 | j + 1, l => match l[j]?, l[j + 1]? with
  | some y, some x => if lt x y then sink lt j ((l.set (j + 1) y).set j x) else l
  | _, _ => l
/-! ### Who sounds, by pitch -/
def eventAt (v : List Ev) (t : Tm) : Option Ev := match onS v t with
 | .ofNat k => v[k]?
 | .negSucc _ => none
abbrev Key := Int × Int × Int
def keyOf (l : List (List Ev)) (t : Tm) (k : Nat) : Key := match eventAt (l.getD k []) t with
 | some x => (numP x.pit, x.pit.2.2, (k : Int))
 | none => (0, 0, (k : Int))
end Go.Proofs.YtpkmiegccfhpnaaGreatDoor
/- Plain mathematics of settings of voices made of numbers: all times are whole 24ths; slices follow one another; sums of slices. -/
namespace Go.Proofs.YtpkmiegccfhpnaaGreatDoor
/-! ### Times that are whole 24ths -/
def kT (t : Tm) : Int := t.1 * 24 / t.2
def Q24 (M : Int) (t : Tm) : Prop := t = cq 24 (kT t) ∧ 0 ≤ kT t ∧ kT t ≤ M
/-! ### A voice laid in 24ths -/
def Q24V (M : Int) (v : List Ev) : Prop := ∀ x ∈ v, Q24 M x.at_ ∧ Q24 M (nextS x) ∧ x.dur = cq 24 (kT (nextS x) - kT x.at_) ∧ kT x.at_ < kT (nextS x)
/-! ### Moments -/
structure SetQ (M : Int) (l : List (List Ev)) : Prop where
 pos : 0 ≤ M
 big : M ≤ 100000
 len : l.length ≤ 8
 each : ∀ v ∈ l, Q24V M v ∧ (checkS v).1 = 0
section
variable {M : Int} {l : List (List Ev)} (h : SetQ M l)
include h
end
end Go.Proofs.YtpkmiegccfhpnaaGreatDoor
/- Plain mathematics: slices of voices made of numbers follow one another from 0 to the greatest end, in each something changes, events are the sums of their slices. -/
namespace Go.Proofs.YtpkmiegccfhpnaaGreatDoor
section
variable {M : Int} {l : List (List Ev)} (h : SetQ M l)
include h
/-! ### Slices from 0 to the end -/
/-! ### In each slice something changes -/
/-! ### Events are the sums of their slices -/
end
section
variable {M : Int} {l : List (List Ev)} (h : SetQ M l)
include h
end
end Go.Proofs.YtpkmiegccfhpnaaGreatDoor
