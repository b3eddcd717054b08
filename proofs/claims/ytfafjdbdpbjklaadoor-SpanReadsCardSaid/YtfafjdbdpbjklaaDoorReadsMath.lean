/- Plain mathematics of texts that are read back: digits and their number. -/
import Derived.Test.YtfafjdbdpbjklaaDoorReadMath
import Derived.Lib.ItoaNum
import Derived.Lib.ItoaMem
namespace Go.Proofs.YtfafjdbdpbjklaaDoor

theorem dd_small (v : Nat) (h : v < 10) : Lib.decDigits v = [UInt8.ofNat (48 + v)] := by rw [Lib.decDigits, dif_pos h]
theorem dd_big (v : Nat) (h : ¬ v < 10) : Lib.decDigits v = Lib.decDigits (v / 10) ++ [UInt8.ofNat (48 + v % 10)] := by rw [Lib.decDigits, dif_neg h]
theorem dig_nat (k : Nat) (h : k < 10) : (UInt8.ofNat (48 + k)).toNat = 48 + k := by
  simp [UInt8.toNat_ofNat']; omega
theorem dd_dig (n : Nat) : ∀ b ∈ Lib.decDigits n, dig b := by
  induction n using Nat.strongRecOn with
  | _ n ih =>
    by_cases h : n < 10
    · rw [dd_small n h]
      intro b hb
      rw [List.mem_singleton] at hb; subst hb
      have := dig_nat n h
      unfold dig; omega
    · rw [dd_big n h]
      intro b hb
      rcases List.mem_append.1 hb with hb | hb
      · exact ih _ (by omega) b hb
      · rw [List.mem_singleton] at hb
        subst hb
        unfold dig; have := dig_nat (n % 10) (by omega); omega
theorem dd_ne (n : Nat) : Lib.decDigits n ≠ [] := by
  by_cases h : n < 10
  · rw [dd_small n h]; simp
  · rw [dd_big n h]; simp
theorem dd_head (n : Nat) (h : 1 ≤ n) : (Lib.decDigits n).head? ≠ some 48 := by
  induction n using Nat.strongRecOn with
  | _ n ih =>
    by_cases h' : n < 10
    · rw [dd_small n h']
      intro e
      simp only [List.head?_cons, Option.some.injEq] at e
      have := dig_nat n h'
      rw [e] at this
      have h2 : (48 : UInt8).toNat = 48 := rfl
      omega
    · rw [dd_big n h', List.head?_append]
      have := ih (n / 10) (by omega) (by omega)
      cases hh : (Lib.decDigits (n / 10)).head? with
      | none => exact absurd (List.head?_eq_none_iff.1 hh) (dd_ne _)
      | some b => rw [hh] at this; simpa using this
theorem dd_long (n : Nat) (h : 1 < (Lib.decDigits n).length) : 10 ≤ n := by
  by_cases h' : n < 10
  · rw [dd_small n h'] at h; simp at h
  · omega
theorem numR_snoc (b : UInt8) (hb : dig b) (l : List UInt8) : ∀ (a m : Int), numR l a = (m, true) → numR (l ++ [b]) a = (if 288230376151711744 < 10 * m + ((b.toNat : Int) - 48) then 288230376151711744 else 10 * m + ((b.toNat : Int) - 48), true) := by
  unfold dig at hb
  induction l with
  | nil =>
    intro a m h
    simp only [numR, Prod.mk.injEq, and_true] at h
    subst h
    rw [List.nil_append, numR_dig _ _ _ (by omega)]; rfl
  | cons c l ih =>
    intro a m h
    by_cases hc : (c.toNat : Int) < 48 ∨ 57 < (c.toNat : Int)
    · rw [numR_bad _ _ _ hc] at h; cases h
    · rw [numR_dig _ _ _ hc] at h
      rw [List.cons_append, numR_dig _ _ _ hc]
      exact ih _ _ h
theorem numR_dd (n : Nat) (h : (n : Int) ≤ 1099511627776) : numR (Lib.decDigits n) 0 = ((n : Int), true) := by
  induction n using Nat.strongRecOn with
  | _ n ih =>
    by_cases h' : n < 10
    · rw [dd_small n h']
      have := dig_nat n h'
      rw [numR_dig _ _ _ (by omega), this]
      simp only [numR]
      rw [if_neg (by omega)]
      congr 1; omega
    · rw [dd_big n h']
      have := dig_nat (n % 10) (by omega)
      rw [numR_snoc _ (by unfold dig; omega) _ 0 ((n / 10 : Nat) : Int) (ih _ (by omega) (by omega)), this, if_neg (by omega)]
      congr 1; omega
theorem numS_itoa (n : Int) (h0 : 0 ≤ n) (h : n ≤ 1099511627776) : numS (Lib.itoa n) = (n, true) := by
  obtain ⟨m, rfl⟩ := Int.eq_ofNat_of_zero_le h0
  rw [Lib.itoa_nonneg]
  unfold numS
  rw [if_neg, numR_dd m h]
  rintro (h1 | ⟨h1, h2⟩)
  · exact dd_ne m h1
  · exact dd_head m (by have := dd_long m h2; omega) h1
theorem itoa_dig (n : Int) (h0 : 0 ≤ n) : ∀ b ∈ Lib.itoa n, dig b := by
  obtain ⟨m, rfl⟩ := Int.eq_ofNat_of_zero_le h0
  rw [Lib.itoa_nonneg]; exact dd_dig m
theorem cutAt_none (l : List UInt8) (h : ∀ b ∈ l, dig b) : cutAt l = (l, none) := by
  induction l with
  | nil => rfl
  | cons b l ih =>
    have hb := h b (by simp)
    have : b ≠ 47 := by rintro rfl; unfold dig at hb; revert hb; decide
    rw [cutAt, if_neg this, ih fun c hc => h c (by simp [hc])]
theorem cutAt_some (l m : List UInt8) (h : ∀ b ∈ l, dig b) : cutAt (l ++ [47] ++ m) = (l, some m) := by
  induction l with
  | nil => rfl
  | cons b l ih =>
    have hb := h b (by simp)
    have : b ≠ 47 := by rintro rfl; unfold dig at hb; revert hb; decide
    rw [List.cons_append, List.cons_append, cutAt, if_neg this, ih fun c hc => h c (by simp [hc])]
theorem cutAt_back (s : List UInt8) : (∀ a, cutAt s = (a, none) → s = a) ∧ ∀ a d, cutAt s = (a, some d) → s = a ++ [47] ++ d := by
  induction s with
  | nil => exact ⟨fun a h => by simpa [cutAt] using h, fun a d h => by simp [cutAt] at h⟩
  | cons b s ih =>
    rw [cutAt]
    by_cases hb : b = 47
    · rw [if_pos hb]
      subst hb
      exact ⟨fun a h => by simp at h, fun a d h => by simp at h; obtain ⟨rfl, rfl⟩ := h; rfl⟩
    · rw [if_neg hb]
      refine ⟨fun a h => ?_, fun a d h => ?_⟩
      · simp only [Prod.mk.injEq] at h
        rw [← h.1]
        exact congrArg (b :: ·) (ih.1 _ (Prod.ext rfl h.2))
      · simp only [Prod.mk.injEq] at h
        rw [← h.1]
        have := ih.2 (cutAt s).1 d (Prod.ext rfl h.2)
        rw [List.cons_append, List.cons_append, ← this]
/-- The text of a time. -/
def txtR (n d : Int) : List UInt8 := if d = 1 then Lib.itoa n else Lib.itoa n ++ [47] ++ Lib.itoa d
/-- The text of a time is read as this time. -/
theorem par_txt {t : Int × Int} (h : ok t) : parS (txtR t.1 t.2) = (t.1, t.2, 0) := by
  have hc := chk_of_ok h
  obtain ⟨h1, h2, h3, h4, h5⟩ := h
  have e1 := numS_itoa t.1 h1 h2
  have e2 := numS_itoa t.2 (by omega) (by omega)
  unfold parS txtR
  by_cases hd : t.2 = 1
  · rw [if_pos hd, cutAt_none _ (itoa_dig _ h1), parP_none, e1]
    rw [hd] at hc ⊢
    simp only [Bool.true_eq_false, if_false]
    rw [if_neg (by omega), if_neg (by rw [hc]; exact fun h => h rfl)]
  · rw [if_neg hd, cutAt_some _ _ (itoa_dig _ h1), parP_some, e1, e2]
    simp only [Bool.true_eq_false, or_self, if_false]
    rw [if_neg (by omega), if_neg (by rw [hc]; rintro (h | h); exact absurd h (by omega); exact h rfl)]

/-! ### A number that is read is the number of its digits -/
theorem numT_snoc (most : Int) (b : UInt8) (l : List UInt8) : ∀ (a m : Int), numT most (l ++ [b]) a = (m, true) → ∃ m', numT most l a = (m', true) ∧ m = 10 * m' + ((b.toNat : Int) - 48) := by
  induction l with
  | nil =>
    intro a m h
    rw [List.nil_append, numT] at h
    split at h
    · cases h
    · simp only [numT, Prod.mk.injEq, and_true] at h
      exact ⟨a, rfl, h.symm⟩
  | cons c l ih =>
    intro a m h
    rw [List.cons_append, numT] at h
    split at h
    · cases h
    · rename_i hn
      obtain ⟨m', e1, e2⟩ := ih _ _ h
      exact ⟨m', by rw [numT, if_neg hn]; exact e1, e2⟩
theorem digs_back (most : Int) (k : Nat) : ∀ (l : List UInt8) (m : Int), l.length = k → l ≠ [] → (∀ b ∈ l, dig b) → (1 < l.length → l.head? ≠ some 48) → numT most l 0 = (m, true) → 0 ≤ m ∧ Lib.decDigits m.toNat = l ∧ (l.head? ≠ some 48 → 1 ≤ m) := by
  induction k with
  | zero => intro l m hk hne; exact absurd (List.eq_nil_of_length_eq_zero hk) hne
  | succ k ih =>
    intro l m hk hne hd hh hm
    have hsplit := List.dropLast_concat_getLast hne
    generalize l.dropLast = l' at hsplit
    generalize l.getLast hne = b at hsplit
    subst hsplit
    have hb : dig b := hd b (by simp)
    obtain ⟨m', e1, e2⟩ := numT_snoc most b l' 0 m hm
    unfold dig at hb
    by_cases hl : l' = []
    · subst hl
      simp only [numT, Prod.mk.injEq, and_true] at e1
      subst e1
      refine ⟨by omega, ?_, fun h48 => ?_⟩
      · rw [dd_small _ (by omega)]
        simp only [List.nil_append, List.cons.injEq, and_true]
        apply UInt8.toNat_inj.1
        rw [dig_nat _ (by omega)]; omega
      · rcases Int.lt_or_le 0 m with h | h
        · omega
        · exfalso; apply h48
          simp only [List.nil_append, List.head?_cons, Option.some.injEq]
          apply UInt8.toNat_inj.1
          show b.toNat = 48
          omega
    · have hlen : 1 < (l' ++ [b]).length := by
        rw [List.length_append]
        have := List.length_pos_iff.2 hl
        simp; omega
      have hh' : l'.head? ≠ some 48 := by
        have := hh hlen
        rw [List.head?_append] at this
        cases hx : l'.head? with
        | none => simp
        | some c => rw [hx] at this; simpa using this
      obtain ⟨h0, h1, h2⟩ := ih l' m' (by simp at hk; exact hk) hl (fun c hc => hd c (by simp [hc])) (fun _ => hh') e1
      have h3 := h2 hh'
      refine ⟨by omega, ?_, fun _ => by omega⟩
      rw [dd_big _ (by omega), show m.toNat / 10 = m'.toNat by omega, h1]
      congr 2
      apply UInt8.toNat_inj.1
      rw [dig_nat _ (by omega)]; omega
theorem numS_back (l : List UInt8) (h : (numS l).2 = true) (hm : (numS l).1 ≤ 1099511627776) : Lib.itoa (numS l).1 = l ∧ 0 ≤ (numS l).1 := by
  have hp : plainS l = true := by rw [← numS_plain]; exact h
  have e := numS_num l hp 1099511627776 (by omega) (by omega)
  rw [if_neg (by omega)] at e
  have hd := plainS_digs l hp
  have hne : l ≠ [] := by rintro rfl; exact absurd hp (by decide)
  have hh : 1 < l.length → l.head? ≠ some 48 := by
    intro hl h48
    unfold numS at h
    rw [if_pos (.inr ⟨h48, hl⟩)] at h
    cases h
  obtain ⟨h0, h1, _⟩ := digs_back _ _ l _ rfl hne hd hh e
  refine ⟨?_, h0⟩
  obtain ⟨k, hk⟩ := Int.eq_ofNat_of_zero_le h0
  rw [hk, Lib.itoa_nonneg]
  rw [hk] at h1
  simpa using h1
/-- What is read is a time, and its text is what was read; else nothing comes with the error. -/
theorem par_back (s : List UInt8) : ((parS s).2.2 ≠ 0 → (parS s).1 = 0 ∧ (parS s).2.1 = 0) ∧ ((parS s).2.2 = 0 → chk (parS s).1 (parS s).2.1 = 0 ∧ txtR (parS s).1 (parS s).2.1 = s) := by
  unfold parS
  have hb := cutAt_back s
  generalize hc : cutAt s = c at hb ⊢
  obtain ⟨a, dd⟩ := c
  simp only
  cases dd with
  | none =>
    obtain rfl := hb.1 a rfl
    rw [parP_none]
    split
    · simp
    · rename_i h1
      split
      · simp
      · rename_i h2
        split
        · simp
        · rename_i h3
          refine ⟨fun h => absurd rfl h, fun _ => ⟨by simpa using h3, ?_⟩⟩
          unfold txtR
          rw [if_pos rfl]
          exact (numS_back s (by simpa using h1) (by omega)).1
  | some d =>
    have hs := hb.2 a d rfl
    rw [parP_some]
    split
    · simp
    · rename_i h1
      split
      · simp
      · rename_i h2
        split
        · simp
        · rename_i h3
          refine ⟨fun h => absurd rfl h, fun _ => ⟨by simp at h3; exact h3.2, ?_⟩⟩
          simp only [not_or, Bool.not_eq_false] at h1 h2
          have k3 : ¬ (numS d).1 < 2 := fun h => h3 (.inl h)
          show (if (numS d).1 = 1 then Lib.itoa (numS a).1 else Lib.itoa (numS a).1 ++ [47] ++ Lib.itoa (numS d).1) = s
          rw [if_neg (by omega), (numS_back a h1.1 (by omega)).1, (numS_back d h1.2 (by omega)).1, ← hs]
end Go.Proofs.YtfafjdbdpbjklaaDoor
