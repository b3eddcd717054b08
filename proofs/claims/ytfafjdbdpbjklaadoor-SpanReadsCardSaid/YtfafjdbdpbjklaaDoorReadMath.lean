/- Plain mathematics of the texts of times: digits, numbers, what a text is read as; no program in sight. -/
import Derived.Test.YtfafjdbdpbjklaaDoorMath
namespace Go.Proofs.YtfafjdbdpbjklaaDoor

/-- The number that digits spell, as the program counts it: greater numbers count as 2^58. -/
def numR : List UInt8 → Int → Int × Bool
  | [], n => (n, true)
  | b :: l, n => if (b.toNat : Int) < 48 ∨ 57 < (b.toNat : Int) then (0, false) else numR l (if 288230376151711744 < 10 * n + ((b.toNat : Int) - 48) then 288230376151711744 else 10 * n + ((b.toNat : Int) - 48))
def numS (l : List UInt8) : Int × Bool := if l = [] ∨ (l.head? = some 48 ∧ 1 < l.length) then (0, false) else numR l 0

theorem drop_cons (s : ByteArray) (pos : Nat) (h : pos < s.size) : s.data.toList.drop pos = (s[pos]'h) :: s.data.toList.drop (pos + 1) := by
  have h' : pos < s.data.toList.length := by rw [Array.length_toList]; exact h
  rw [List.drop_eq_getElem_cons h']
  rfl
theorem drop_end (s : ByteArray) (pos : Nat) (h : ¬ pos < s.size) : s.data.toList.drop pos = [] := by
  apply List.drop_eq_nil_of_le
  have : s.data.toList.length = s.size := by rw [Array.length_toList]; rfl
  omega
theorem numR_bad (b : UInt8) (l : List UInt8) (n : Int) (h : (b.toNat : Int) < 48 ∨ 57 < (b.toNat : Int)) : numR (b :: l) n = (0, false) := by
  unfold numR; rw [if_pos h]
theorem numR_dig (b : UInt8) (l : List UInt8) (n : Int) (h : ¬ ((b.toNat : Int) < 48 ∨ 57 < (b.toNat : Int))) : numR (b :: l) n = numR l (if 288230376151711744 < 10 * n + ((b.toNat : Int) - 48) then 288230376151711744 else 10 * n + ((b.toNat : Int) - 48)) := by
  rw [numR, if_neg h]

/-! ### Plain numbers, and the reference's count -/
def dig (b : UInt8) : Prop := 48 ≤ (b.toNat : Int) ∧ (b.toNat : Int) ≤ 57
instance (b : UInt8) : Decidable (dig b) := inferInstanceAs (Decidable (_ ∧ _))
def plainS (l : List UInt8) : Bool := l.all (fun b => decide (dig b)) && (l == [48] || (!l.isEmpty && !(l.head? == some 48)))
/-- The number that digits spell, unless it is greater than 'most'. -/
def numT (most : Int) : List UInt8 → Int → Int × Bool
  | [], n => (n, true)
  | b :: l, n => if most < 10 * n + ((b.toNat : Int) - 48) then (0, false) else numT most l (10 * n + ((b.toNat : Int) - 48))
theorem numR_false (l : List UInt8) (n : Int) (h : ¬ ∀ b ∈ l, dig b) : numR l n = (0, false) := by
  induction l generalizing n with
  | nil => exact absurd (fun b hb => by simp at hb) h
  | cons b l ih =>
    by_cases hb : (b.toNat : Int) < 48 ∨ 57 < (b.toNat : Int)
    · exact numR_bad b l n hb
    · rw [numR_dig b l n hb]
      apply ih
      intro hl
      apply h
      intro c hc
      rcases List.mem_cons.1 hc with rfl | hc
      · unfold dig; omega
      · exact hl c hc
theorem numR_ge (l : List UInt8) (h : ∀ b ∈ l, dig b) : ∀ n : Int, 0 ≤ n → n ≤ 288230376151711744 → ∃ m, numR l n = (m, true) ∧ n ≤ m ∧ m ≤ 288230376151711744 := by
  induction l with
  | nil => intro n h0 h1; exact ⟨n, rfl, by omega, h1⟩
  | cons b l ih =>
    intro n h0 h1
    have hb : dig b := h b (by simp)
    unfold dig at hb
    rw [numR_dig b l n (by omega)]
    by_cases hk : 288230376151711744 < 10 * n + ((b.toNat : Int) - 48)
    · rw [if_pos hk]
      obtain ⟨m, e, h2, h3⟩ := ih (fun c hc => h c (by simp [hc])) 288230376151711744 (by omega) (by omega)
      exact ⟨m, e, by omega, h3⟩
    · rw [if_neg hk]
      obtain ⟨m, e, h2, h3⟩ := ih (fun c hc => h c (by simp [hc])) (10 * n + ((b.toNat : Int) - 48)) (by omega) (by omega)
      exact ⟨m, e, by omega, h3⟩
theorem numT_eq (most : Int) (hm : most ≤ 1099511627776) (l : List UInt8) (h : ∀ b ∈ l, dig b) : ∀ n : Int, 0 ≤ n → n ≤ most → numT most l n = (if most < (numR l n).1 then (0, false) else ((numR l n).1, true)) := by
  induction l with
  | nil => intro n h0 h1; show (n, true) = (if most < n then (0, false) else (n, true)); rw [if_neg (by omega)]
  | cons b l ih =>
    intro n h0 h1
    have hb : dig b := h b (by simp)
    unfold dig at hb
    rw [numR_dig b l n (by omega), numT, if_neg (by omega : ¬ 288230376151711744 < 10 * n + ((b.toNat : Int) - 48))]
    by_cases hk : most < 10 * n + ((b.toNat : Int) - 48)
    · rw [if_pos hk]
      obtain ⟨m, e, h2, h3⟩ := numR_ge l (fun c hc => h c (by simp [hc])) (10 * n + ((b.toNat : Int) - 48)) (by omega) (by omega)
      rw [e, if_pos (by show most < m; omega)]
    · rw [if_neg hk]
      exact ih (fun c hc => h c (by simp [hc])) _ (by omega) (by omega)
theorem plainS_digs (l : List UInt8) (h : plainS l = true) : ∀ b ∈ l, dig b := by
  unfold plainS at h
  simp only [Bool.and_eq_true, List.all_eq_true, decide_eq_true_eq] at h
  exact h.1
theorem numS_plain (l : List UInt8) : (numS l).2 = plainS l := by
  unfold numS
  by_cases h0 : l = [] ∨ (l.head? = some 48 ∧ 1 < l.length)
  · rw [if_pos h0]
    rcases h0 with rfl | ⟨h0, h1⟩
    · rfl
    · cases l with
      | nil => simp at h1
      | cons b l =>
        simp only [List.head?_cons, Option.some.injEq] at h0
        subst h0
        have : l ≠ [] := by intro e; subst e; simp at h1
        simp [plainS, this]
  · rw [if_neg h0]
    by_cases hd : ∀ b ∈ l, dig b
    · obtain ⟨m, e, h2, h3⟩ := numR_ge l hd 0 (by omega) (by omega)
      rw [e]
      cases l with
      | nil => simp at h0
      | cons b l =>
        have hall : (b :: l).all (fun b => decide (dig b)) = true := by simpa using hd
        unfold plainS
        rw [hall]
        by_cases hb : b = 48
        · subst hb
          have : l = [] := by
            cases l with
            | nil => rfl
            | cons c l => simp at h0
          subst this
          rfl
        · simp [hb]
    · rw [numR_false l 0 hd]
      unfold plainS
      have : l.all (fun b => decide (dig b)) = false := by
        apply Bool.eq_false_iff.2
        intro hh
        apply hd
        simpa using hh
      rw [this]; rfl
theorem numS_num (l : List UInt8) (h : plainS l = true) (most : Int) (h0 : 0 ≤ most) (hm : most ≤ 1099511627776) : numT most l 0 = (if most < (numS l).1 then (0, false) else ((numS l).1, true)) := by
  have e : numS l = numR l 0 := by
    have := numS_plain l
    rw [h] at this
    unfold numS at this ⊢
    split at this
    · simp at this
    · rw [if_neg (by assumption)]
  rw [e]
  exact numT_eq most hm l (plainS_digs l h) 0 (by omega) h0
theorem numS_nonneg (l : List UInt8) : 0 ≤ (numS l).1 := by
  unfold numS
  split
  · simp
  · by_cases hd : ∀ b ∈ l, dig b
    · obtain ⟨m, e, h2, h3⟩ := numR_ge l hd 0 (by omega) (by omega)
      rw [e]; exact h2
    · rw [numR_false l 0 hd]; simp

/-! ### A text is cut at its first stroke, and read -/
def cutAt : List UInt8 → List UInt8 × Option (List UInt8)
  | [] => ([], none)
  | b :: l => if b = 47 then ([], some l) else (b :: (cutAt l).1, (cutAt l).2)
/-- What the program makes of the two parts: numerator, denominator, error. -/
def parP (a : List UInt8) (dd : Option (List UInt8)) : Int × Int × Int :=
  let y := match dd with | none => (1, true) | some d => numS d
  if (numS a).2 = false ∨ y.2 = false then (0, 0, 3)
  else if 1099511627776 < (numS a).1 ∨ 1048576 < y.1 then (0, 0, 4)
  else if (dd.isSome = true ∧ y.1 < 2) ∨ chk (numS a).1 y.1 ≠ 0 then (0, 0, 3)
  else ((numS a).1, y.1, 0)
theorem parP_none (a : List UInt8) : parP a none = if (numS a).2 = false then (0, 0, 3) else if 1099511627776 < (numS a).1 then (0, 0, 4) else if chk (numS a).1 1 ≠ 0 then (0, 0, 3) else ((numS a).1, 1, 0) := by unfold parP; simp
theorem parP_some (a d : List UInt8) : parP a (some d) = if (numS a).2 = false ∨ (numS d).2 = false then (0, 0, 3) else if 1099511627776 < (numS a).1 ∨ 1048576 < (numS d).1 then (0, 0, 4) else if (numS d).1 < 2 ∨ chk (numS a).1 (numS d).1 ≠ 0 then (0, 0, 3) else ((numS a).1, (numS d).1, 0) := by unfold parP; simp
/-- What the reference makes of them. -/
def parR (a : List UInt8) (dd : Option (List UInt8)) : Int × Int × Int :=
  if plainS a = false then (0, 0, 3)
  else match dd with
  | none => if (numT 1099511627776 a 0).2 = false then (0, 0, 4) else ((numT 1099511627776 a 0).1, 1, 0)
  | some d => if plainS d = false then (0, 0, 3)
    else if (numT 1099511627776 a 0).2 = false then (0, 0, 4)
    else if (numT 1048576 d 0).2 = false then (0, 0, 4)
    else if (numT 1048576 d 0).1 < 2 ∨ gg (numT 1099511627776 a 0).1 (numT 1048576 d 0).1 ≠ 1 then (0, 0, 3)
    else ((numT 1099511627776 a 0).1, (numT 1048576 d 0).1, 0)
def parS (l : List UInt8) : Int × Int × Int := parP (cutAt l).1 (cutAt l).2
theorem par_eq (a : List UInt8) (dd : Option (List UInt8)) : parR a dd = parP a dd := by
  unfold parR parP
  have pa := numS_plain a
  have na := numS_nonneg a
  by_cases ha : plainS a = false
  · rw [if_pos ha, if_pos (Or.inl (by rw [pa]; exact ha))]
  · have ha' : plainS a = true := by simpa using ha
    have ea := numS_num a ha' 1099511627776 (by omega) (by omega)
    rw [if_neg ha]
    cases dd with
    | none =>
      simp only [pa, ha', ea]
      by_cases hk : 1099511627776 < (numS a).1
      · simp [hk]
      · have hc : chk (numS a).1 1 = 0 := by
          unfold chk
          have : gg (numS a).1 1 = 1 := by unfold gg; simp
          rw [this]; simp; omega
        simp [hk, hc]
    | some d =>
      have pd := numS_plain d
      have nd := numS_nonneg d
      by_cases hd : plainS d = false
      · simp [pa, pd, hd]
      · have hd' : plainS d = true := by simpa using hd
        have ed := numS_num d hd' 1048576 (by omega) (by omega)
        simp only [pa, pd, ha', hd', ea, ed]
        by_cases hk : 1099511627776 < (numS a).1
        · simp [hk]
        · by_cases hj : 1048576 < (numS d).1
          · simp [hk, hj]
          · simp only [hk, hj, if_false]
            by_cases h2 : (numS d).1 < 2
            · simp [h2]
            · have hp := gg_pos (numS a).1 (numS d).1 (Or.inr (by omega))
              have hc : chk (numS a).1 (numS d).1 = if 1 < gg (numS a).1 (numS d).1 then 3 else 0 := by
                unfold chk; rw [if_neg (by omega)]
              by_cases hg : gg (numS a).1 (numS d).1 = 1
              · simp [h2, hc, hg]
              · have : 1 < gg (numS a).1 (numS d).1 := by omega
                simp [h2, hc, hg, this]
end Go.Proofs.YtfafjdbdpbjklaaDoor
