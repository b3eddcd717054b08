/- Plain mathematics of chords: consonant chords, their bass, and how many clashes there are of a kind, in whatever order the pitches stand. -/
import Derived.Test.YtmbnpblejhlefaaDoorChOct
namespace Go.Proofs.YtmbnpblejhlefaaDoor
abbrev Pt := Int × Int × Int
/-- Two pitches clash over a bass. -/
def badP (b p q : Pt) : Prop := kindP p q = 5 ∨ ((kindP p q = 3 ∨ kindP p q = 4) ∧ loP p q = b)
instance (b p q : Pt) : Decidable (badP b p q) := inferInstanceAs (Decidable (_ ∨ _))
def bassP (l : List Pt) : Pt := pAt l (bassL l)
theorem bad_iff (l : List Pt) (a b : Nat) : bad l a b ↔ badP (bassP l) (pAt l a) (pAt l b) := Iff.rfl
theorem pAt_at {l : List Pt} {k : Nat} (h : k < l.length) : pAt l k = l[k] := by simp [pAt, List.getD, h]
theorem pAt_mem {l : List Pt} {k : Nat} (h : k < l.length) : pAt l k ∈ l := by rw [pAt_at h]; exact List.getElem_mem h
theorem bassP_mem {l : List Pt} (h : 0 < l.length) : bassP l ∈ l := pAt_mem (bassL_lt h)
theorem bassN_min (l : List Pt) (k : Nat) : ∀ j, j < k → ¬ deep (pAt l j) (pAt l (bassN l k)) := by
  induction k with
  | zero => intro j h; omega
  | succ k ih =>
    intro j hj
    unfold bassN
    by_cases hd : deep (pAt l k) (pAt l (bassN l k))
    · rw [if_pos hd]
      by_cases hk : j = k
      · subst hk; unfold deep; omega
      · have := ih j (by omega)
        unfold deep at this hd ⊢
        omega
    · rw [if_neg hd]
      by_cases hk : j = k
      · subst hk; exact hd
      · exact ih j (by omega)
theorem bass_min {l : List Pt} {p : Pt} (h : p ∈ l) : ¬ deep p (bassP l) := by
  obtain ⟨j, hj, rfl⟩ := List.getElem_of_mem h
  rw [← pAt_at hj]
  exact bassN_min l l.length j hj
theorem not_deep {p q : Pt} (hp : pchk p = 0) (hq : pchk q = 0) (h : ¬ deep p q) (h' : ¬ deep q p) : p = q :=
  same_pitch hp hq (by unfold deep at h h'; omega) (by unfold deep at h h'; omega)
/-- The bass is the one pitch that is not above another one. -/
theorem bass_one {l : List Pt} (hv : ∀ p ∈ l, pchk p = 0) {p : Pt} (hp : p ∈ l) (hm : ∀ q ∈ l, ¬ deep q p) : bassP l = p := by
  have hl : 0 < l.length := List.length_pos_of_mem hp
  have hb := bassP_mem hl
  exact not_deep (hv _ hb) (hv _ hp) (hm _ hb) (bass_min hp)
theorem bass_same {l l' : List Pt} (hv : ∀ p ∈ l, pchk p = 0) (hl : 0 < l.length) (hs : ∀ p, p ∈ l ↔ p ∈ l') : bassP l' = bassP l := by
  have hb := bassP_mem hl
  exact bass_one (fun p hp => hv p ((hs p).2 hp)) ((hs _).1 hb) (fun q hq => bass_min ((hs q).2 hq))

/-! ### No clash -/
theorem rowC_nil (l : List Pt) (a : Nat) : ∀ b, rowC l a b = [] ↔ ∀ j, j < b → a < j → ¬ bad l a j := by
  intro b
  induction b with
  | zero => exact ⟨fun _ j h => by omega, fun _ => rfl⟩
  | succ b ih =>
    unfold rowC
    rw [List.append_eq_nil_iff, ih]
    constructor
    · rintro ⟨h1, h2⟩ j hj haj
      by_cases hjb : j = b
      · subst hjb
        intro hb
        rw [if_pos ⟨haj, hb⟩] at h2
        cases h2
      · exact h1 j (by omega) haj
    · intro h
      refine ⟨fun j hj haj => h j (by omega) haj, ?_⟩
      rw [if_neg]
      rintro ⟨h1, h2⟩
      exact h b (by omega) h1 h2
theorem allC_nil (l : List Pt) : ∀ a, allC l a = [] ↔ ∀ i, i < a → ∀ j, j < l.length → i < j → ¬ bad l i j := by
  intro a
  induction a with
  | zero => exact ⟨fun _ i h => by omega, fun _ => rfl⟩
  | succ a ih =>
    unfold allC
    rw [List.append_eq_nil_iff, ih, rowC_nil]
    constructor
    · rintro ⟨h1, h2⟩ i hi
      by_cases hia : i = a
      · subst hia; exact h2
      · exact h1 i (by omega)
    · intro h
      exact ⟨fun i hi => h i (by omega), h a (by omega)⟩
theorem fullC_nil (l : List Pt) : fullC l = [] ↔ l.Pairwise (fun p q => ¬ badP (bassP l) p q) := by
  unfold fullC
  rw [allC_nil, List.pairwise_iff_getElem]
  constructor
  · intro h i j hi hj hij
    have := h i hi j hj hij
    rw [bad_iff, pAt_at hi, pAt_at hj] at this
    exact this
  · intro h i hi j hj hij
    rw [bad_iff, pAt_at hi, pAt_at hj]
    exact h i j hi hj hij
theorem kindP_comm {p q : Pt} (hp : pchk p = 0) (hq : pchk q = 0) : kindP p q = kindP q p := by unfold kindP; rw [upI_comm hp hq]
theorem loP_comm {p q : Pt} (hp : pchk p = 0) (hq : pchk q = 0) : loP p q = loP q p := by
  unfold loP
  by_cases h1 : lowB p q
  · have h2 : ¬ lowB q p := by unfold lowB at h1 ⊢; omega
    rw [if_pos h1, if_neg h2]
  · by_cases h2 : lowB q p
    · rw [if_neg h1, if_pos h2]
    · rw [if_neg h1, if_neg h2]
      exact same_pitch hp hq (by unfold lowB at h1 h2; omega) (by unfold lowB at h1 h2; omega)
theorem badP_comm {b p q : Pt} (hp : pchk p = 0) (hq : pchk q = 0) : badP b p q ↔ badP b q p := by unfold badP; rw [kindP_comm hp hq, loP_comm hp hq]
theorem badP_self {b p : Pt} : ¬ badP b p p := by
  have : upI p p = (0, 0) := by
    have hl : ¬ lowB p p := by unfold lowB; omega
    rw [up_low hl]; unfold btw; simp
  have hk : kindP p p = 1 := by unfold kindP; rw [this]; decide
  unfold badP
  rw [hk]
  omega
/-- A pitch of a consonant chord doubled. -/
theorem cons_double {l : List Pt} (hv : ∀ p ∈ l, pchk p = 0) (h : fullC l = []) {x : Pt} (hx : x ∈ l) : fullC (l ++ [x]) = [] := by
  have hb : bassP (l ++ [x]) = bassP l := bass_same hv (List.length_pos_of_mem hx) (fun p => by
    rw [List.mem_append, List.mem_singleton]
    exact ⟨fun hp => .inl hp, fun hp => hp.elim id (fun e => e ▸ hx)⟩)
  rw [fullC_nil] at h ⊢
  rw [hb, List.pairwise_append]
  refine ⟨h, List.pairwise_singleton _ _, fun p hp q hq => ?_⟩
  obtain rfl := List.mem_singleton.1 hq
  obtain ⟨i, hi, rfl⟩ := List.getElem_of_mem hp
  obtain ⟨j, hj, rfl⟩ := List.getElem_of_mem hx
  rw [List.pairwise_iff_getElem] at h
  rcases Nat.lt_trichotomy i j with hij | rfl | hij
  · exact h i j hi hj hij
  · exact badP_self
  · rw [badP_comm (hv _ hp) (hv _ hx)]
    exact h j i hj hi hij
/-- A pitch taken out of a consonant chord, the bass as it was. -/
theorem cons_less {l l' : List Pt} (h : fullC l = []) (hs : l'.Sublist l) (hb : bassP l' = bassP l) : fullC l' = [] := by
  rw [fullC_nil] at h ⊢
  rw [hb]
  exact h.sublist hs
theorem mem_fits {l : List Pt} {f : Int} {x : Pt} : ∀ {k : Nat}, x ∈ fitsN l f k → fullC (l ++ [x]) = [] ∧ ∃ j : Nat, j < k ∧ x = nP (f + j)
  | 0, h => by cases h
  | k + 1, h => by
    unfold fitsN at h
    rcases List.mem_append.1 h with h | h
    · obtain ⟨h1, j, h2, h3⟩ := mem_fits h
      exact ⟨h1, j, by omega, h3⟩
    · split at h
      · rename_i hc
        obtain rfl := List.mem_singleton.1 h
        exact ⟨hc, k, by omega, rfl⟩
      · cases h

/-! ### How many clashes -/
/-- How many pairs of a list fit, the first one ahead of the second one. -/
def cntP {α : Type} (f : α → α → Bool) : List α → Nat
  | [] => 0
  | x :: l => l.countP (f x) + cntP f l
theorem cntP_perm {α : Type} {f : α → α → Bool} {l l' : List α} (h : l.Perm l') : (∀ x ∈ l, ∀ y ∈ l, f x y = f y x) → cntP f l = cntP f l' := by
  induction h with
  | nil => intro _; rfl
  | cons x hp ih =>
    intro hs
    unfold cntP
    rw [ih fun a ha b hb => hs a (List.mem_cons_of_mem _ ha) b (List.mem_cons_of_mem _ hb), hp.countP_eq]
  | swap x y l =>
    intro hs
    have e := hs y (by simp) x (by simp)
    simp only [cntP, List.countP_cons, e]
    omega
  | trans h1 h2 ih1 ih2 =>
    intro hs
    rw [ih1 hs, ih2 fun a ha b hb => hs a (h1.mem_iff.2 ha) b (h1.mem_iff.2 hb)]
/-- The pairs that clash over a bass with a kind that P takes. -/
def clB (P : Int → Bool) (b p q : Pt) : Bool := decide (badP b p q) && P (kindP p q)
theorem countP_row (P : Int → Bool) (l : List Pt) (a : Nat) : ∀ b, b ≤ l.length → (rowC l a b).countP (fun c => P c.2.2) = ((l.take b).drop (a + 1)).countP (clB P (bassP l) (pAt l a)) := by
  intro b
  induction b with
  | zero => intro _; simp [rowC]
  | succ b ih =>
    intro hb
    unfold rowC
    rw [List.countP_append, ih (by omega), take_get (pAt_some (l := l) (k := b) (by omega))]
    by_cases hab : a < b
    · rw [List.drop_append_of_le_length (by rw [List.length_take]; omega), List.countP_append]
      congr 1
      rw [List.countP_singleton]
      unfold clB
      by_cases hbad : bad l a b
      · rw [if_pos ⟨hab, hbad⟩, List.countP_singleton, decide_eq_true ((bad_iff l a b).1 hbad), Bool.true_and]
      · rw [if_neg (fun h => hbad h.2), decide_eq_false (fun h => hbad ((bad_iff l a b).2 h)), Bool.false_and]
        rfl
    · rw [if_neg (fun h => hab h.1), List.drop_eq_nil_of_le (by rw [List.length_take]; omega), List.drop_eq_nil_of_le (by rw [List.length_append, List.length_take]; simp; omega)]
      rfl
theorem countP_all (P : Int → Bool) (l : List Pt) : ∀ a, a ≤ l.length → (allC l a).countP (fun c => P c.2.2) + cntP (clB P (bassP l)) (l.drop a) = cntP (clB P (bassP l)) l := by
  intro a
  induction a with
  | zero => intro _; simp [allC]
  | succ a ih =>
    intro ha
    have e : allC l (a + 1) = allC l a ++ rowC l a l.length := rfl
    have e2 : cntP (clB P (bassP l)) (l.drop a) = (l.drop (a + 1)).countP (clB P (bassP l) (pAt l a)) + cntP (clB P (bassP l)) (l.drop (a + 1)) := by
      rw [drop_get (pAt_some (l := l) (k := a) (by omega))]; rfl
    have := ih (by omega)
    rw [e, List.countP_append, countP_row P l a l.length (Nat.le_refl _), List.take_length]
    omega
theorem countP_full (P : Int → Bool) (l : List Pt) : (fullC l).countP (fun c => P c.2.2) = cntP (clB P (bassP l)) l := by
  have := countP_all P l l.length (Nat.le_refl _)
  rw [List.drop_length] at this
  simpa [cntP, fullC] using this
/-- In another order: the same bass, as many clashes of each kind. -/
theorem perm_count {l l' : List Pt} (hv : ∀ p ∈ l, pchk p = 0) (hl : 0 < l.length) (h : l.Perm l') (P : Int → Bool) : (fullC l).countP (fun c => P c.2.2) = (fullC l').countP (fun c => P c.2.2) := by
  rw [countP_full, countP_full, bass_same hv hl (fun p => h.mem_iff)]
  refine cntP_perm h fun x hx y hy => ?_
  unfold clB
  rw [kindP_comm (hv x hx) (hv y hy)]
  congr 1
  exact decide_eq_decide.2 (badP_comm (hv x hx) (hv y hy))
theorem perm_len {l l' : List Pt} (hv : ∀ p ∈ l, pchk p = 0) (hl : 0 < l.length) (h : l.Perm l') : (fullC l).length = (fullC l').length := by
  have := perm_count hv hl h (fun _ => true)
  simpa using this
/-- The chord in another order: turned by k, backwards. -/
def otherL (l : List Pt) (k : Nat) : List Pt := (l.drop k ++ l.take k).reverse
theorem other_perm (l : List Pt) (k : Nat) : l.Perm (otherL l k) := by
  unfold otherL
  refine List.Perm.trans ?_ (List.reverse_perm _).symm
  have := List.perm_append_comm (l₁ := l.take k) (l₂ := l.drop k)
  rwa [List.take_append_drop] at this
theorem other_len (l : List Pt) (k : Nat) : (otherL l k).length = l.length := (other_perm l k).length_eq.symm
theorem other_at {l : List Pt} {k m : Nat} (hk : k < l.length) (hm : m < l.length) : (otherL l k)[m]? = some (pAt l ((l.length - 1 - m + k) % l.length)) := by
  unfold otherL
  have hL : (l.drop k ++ l.take k).length = l.length := by rw [List.length_append, List.length_drop, List.length_take]; omega
  rw [List.getElem?_reverse (by rw [hL]; exact hm), hL]
  by_cases h : l.length - 1 - m < l.length - k
  · rw [List.getElem?_append_left (by rw [List.length_drop]; omega), List.getElem?_drop, Nat.mod_eq_of_lt (by omega), Nat.add_comm]
    exact pAt_some (by omega)
  · rw [List.getElem?_append_right (by rw [List.length_drop]; omega), List.length_drop, List.getElem?_take, if_pos (by omega)]
    have : (l.length - 1 - m + k) % l.length = l.length - 1 - m - (l.length - k) := by
      rw [Nat.mod_eq_sub_mod (by omega), Nat.mod_eq_of_lt (by omega)]; omega
    rw [this]
    exact pAt_some (by omega)
end Go.Proofs.YtmbnpblejhlefaaDoor
