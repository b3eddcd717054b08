/- Plain mathematics of settings: times in order, moments, the event that sounds at a time, slices; no program in sight. -/
import Derived.Test.YtbljfaocmeeljaaCutMath
namespace Go.Proofs.Ytbljfaocmeeljaa

/-! ### Times in order -/
abbrev Tm := Int × Int
def ltT (a b : Tm) : Prop := a.1 * b.2 < b.1 * a.2
instance (a b : Tm) : Decidable (ltT a b) := inferInstanceAs (Decidable (_ < _))
theorem ltT_irr (a : Tm) : ¬ ltT a a := by unfold ltT; omega
theorem ltT_asym {a b : Tm} (h : ltT a b) : ¬ ltT b a := by unfold ltT at h ⊢; omega
theorem ltT_tri {a b : Tm} (ha : ok a) (hb : ok b) (h : ¬ ltT a b) (h' : ¬ ltT b a) : a = b := ok_eq ha hb (by unfold ltT at h h'; omega)
theorem ltT_trans {a b c : Tm} (ha : ok a) (hb : ok b) (hc : ok c) (h : ltT a b) (h' : ltT b c) : ltT a c := by
  obtain ⟨_, _, a2, _, _⟩ := ha; obtain ⟨_, _, b2, _, _⟩ := hb; obtain ⟨_, _, c2, _, _⟩ := hc
  unfold ltT at h h' ⊢
  have h1 : a.1 * b.2 * c.2 < b.1 * a.2 * c.2 := Int.mul_lt_mul_of_pos_right h (by omega)
  have h2 : b.1 * c.2 * a.2 < c.1 * b.2 * a.2 := Int.mul_lt_mul_of_pos_right h' (by omega)
  have e1 : a.1 * b.2 * c.2 = a.1 * c.2 * b.2 := by grind
  have e2 : b.1 * a.2 * c.2 = b.1 * c.2 * a.2 := by grind
  have e3 : c.1 * b.2 * a.2 = c.1 * a.2 * b.2 := by grind
  exact Int.lt_of_mul_lt_mul_right (a := b.2) (by omega) (by omega)
theorem leT_trans {a b c : Tm} (ha : ok a) (hb : ok b) (hc : ok c) (h : ¬ ltT b a) (h' : ¬ ltT c b) : ¬ ltT c a := by
  intro hca
  by_cases hab : ltT a b
  · exact h' (ltT_trans hc ha hb hca hab)
  · have := ltT_tri ha hb hab h
    rw [this] at hca
    exact h' hca
theorem lt_of_le {a b c : Tm} (ha : ok a) (hb : ok b) (hc : ok c) (h : ltT a b) (h' : ¬ ltT c b) : ltT a c := by
  by_cases hbc : ltT b c
  · exact ltT_trans ha hb hc h hbc
  · rw [← ltT_tri hb hc hbc h']; exact h
theorem lt_of_le' {a b c : Tm} (ha : ok a) (hb : ok b) (hc : ok c) (h : ¬ ltT b a) (h' : ltT b c) : ltT a c := by
  by_cases hab : ltT a b
  · exact ltT_trans ha hb hc hab h'
  · rw [ltT_tri ha hb hab h]; exact h'
theorem cmp_ok {a b : Tm} (ha : ok a) (hb : ok b) : cmpS a b = (sgn (a.1 * b.2 - b.1 * a.2), 0) := by unfold cmpS; rw [if_neg (fun h => h (both_of_ok ha hb))]
theorem cmp_lt {a b : Tm} (ha : ok a) (hb : ok b) : decide ((cmpS a b).1 < 0) = decide (ltT a b) := by
  rw [cmp_ok ha hb]
  unfold sgn ltT
  refine decide_eq_decide.2 ?_
  simp only
  (repeat' split) <;> omega
theorem cmp_le {a b : Tm} (ha : ok a) (hb : ok b) : decide ((cmpS a b).1 ≤ 0) = decide (¬ ltT b a) := by
  rw [cmp_ok ha hb]
  unfold sgn ltT
  refine decide_eq_decide.2 ?_
  simp only
  (repeat' split) <;> omega
theorem ok_zero : ok (0, 1) := by unfold ok; exact ⟨by decide, by decide, by decide, by decide, by decide⟩
theorem zero_le {a : Tm} (ha : ok a) : ¬ ltT a (0, 1) := by obtain ⟨h, _⟩ := ha; unfold ltT; simp only; omega

/-! ### Ascending lists -/
def SA (l : List Tm) : Prop := l.Pairwise ltT
def OkL (l : List Tm) : Prop := ∀ t ∈ l, ok t
theorem sa_ext : ∀ {l m : List Tm}, SA l → SA m → (∀ t, t ∈ l ↔ t ∈ m) → l = m
  | [], [], _, _, _ => rfl
  | [], y :: m, _, _, h => absurd ((h y).2 (by simp)) (by simp)
  | x :: l, [], _, _, h => absurd ((h x).1 (by simp)) (by simp)
  | x :: l, y :: m, hl, hm, h => by
    have hl' := List.pairwise_cons.1 hl
    have hm' := List.pairwise_cons.1 hm
    have hxy : x = y := by
      rcases List.mem_cons.1 ((h x).1 (by simp)) with e | hx
      · exact e
      · rcases List.mem_cons.1 ((h y).2 (by simp)) with e | hy
        · exact e.symm
        · exact absurd (hl'.1 y hy) (ltT_asym (hm'.1 x hx))
    subst hxy
    rw [sa_ext hl'.2 hm'.2 fun t => ?_]
    constructor
    · intro ht
      rcases List.mem_cons.1 ((h t).1 (List.mem_cons_of_mem _ ht)) with e | hm2
      · subst e; exact absurd (hl'.1 _ ht) (ltT_irr _)
      · exact hm2
    · intro ht
      rcases List.mem_cons.1 ((h t).2 (List.mem_cons_of_mem _ ht)) with e | hm2
      · subst e; exact absurd (hm'.1 _ ht) (ltT_irr _)
      · exact hm2
/-- Ascending times with one more, if it is not there. -/
def withS : List Tm → Tm → List Tm
  | [], t => [t]
  | x :: l, t => if ltT x t then x :: withS l t else if x = t then x :: l else t :: x :: l
theorem with_mem (l : List Tm) (t u : Tm) : u ∈ withS l t ↔ u ∈ l ∨ u = t := by
  induction l with
  | nil => simp [withS]
  | cons x l ih =>
    unfold withS
    split
    · rw [List.mem_cons, ih, List.mem_cons, or_assoc]
    · split
      · rename_i h; subst h
        simp only [List.mem_cons]
        grind
      · simp only [List.mem_cons]
        grind
theorem with_ok {l : List Tm} {t : Tm} (hl : OkL l) (ht : ok t) : OkL (withS l t) := fun u hu => by
  rcases (with_mem l t u).1 hu with h | h
  · exact hl u h
  · exact h ▸ ht
theorem with_sa {l : List Tm} {t : Tm} (hl : SA l) (ho : OkL l) (ht : ok t) : SA (withS l t) := by
  induction l with
  | nil => exact List.pairwise_singleton _ _
  | cons x l ih =>
    have hl' := List.pairwise_cons.1 hl
    have ox := ho x (by simp)
    have ol : OkL l := fun u hu => ho u (List.mem_cons_of_mem _ hu)
    unfold withS
    split
    · rename_i hx
      refine List.pairwise_cons.2 ⟨fun u hu => ?_, ih hl'.2 ol⟩
      rcases (with_mem l t u).1 hu with h | h
      · exact hl'.1 u h
      · exact h ▸ hx
    · split
      · exact hl
      · rename_i h1 h2
        have htx : ltT t x := by
          by_cases h : ltT t x
          · exact h
          · exact absurd (ltT_tri ox ht h1 h) h2
        refine List.pairwise_cons.2 ⟨fun u hu => ?_, hl⟩
        rcases List.mem_cons.1 hu with h | h
        · exact h ▸ htx
        · exact ltT_trans ht ox (ol u h) htx (hl'.1 u h)
/-- How many times stand ahead of one. -/
def posW : List Tm → Tm → Nat
  | [], _ => 0
  | x :: l, t => if ltT x t then posW l t + 1 else 0
theorem posW_le (l : List Tm) (t : Tm) : posW l t ≤ l.length := by
  induction l with
  | nil => simp [posW]
  | cons x l ih => unfold posW; split <;> simp <;> omega
theorem withS_pos (l : List Tm) (t : Tm) : withS l t = if l[posW l t]? = some t then l else l.take (posW l t) ++ t :: l.drop (posW l t) := by
  induction l with
  | nil => simp [withS, posW]
  | cons x l ih =>
    unfold withS posW
    split
    · rw [ih]
      simp only [List.getElem?_cons_succ, List.take_succ_cons, List.drop_succ_cons, List.cons_append]
      split <;> rfl
    · simp only [List.getElem?_cons_zero, List.take_zero, List.drop_zero, List.nil_append, Option.some.injEq]
theorem posW_lt {l : List Tm} {t : Tm} : ∀ {k : Nat} {x : Tm}, l[k]? = some x → k < posW l t → ltT x t := by
  induction l with
  | nil => intro k x h; simp at h
  | cons y l ih =>
    intro k x h hk
    unfold posW at hk
    split at hk
    · rename_i hy
      cases k with
      | zero => simp at h; exact h ▸ hy
      | succ k => exact ih (by simpa using h) (by omega)
    · omega
theorem posW_at {l : List Tm} {t x : Tm} (h : l[posW l t]? = some x) : ¬ ltT x t := by
  induction l with
  | nil => simp at h
  | cons y l ih =>
    unfold posW at h
    split at h
    · exact ih (by simpa using h)
    · simp at h; rename_i hy; exact h ▸ hy
theorem posW_is {l : List Tm} {t : Tm} {k : Nat} (h1 : ∀ (j : Nat) x, j < k → l[j]? = some x → ltT x t) (h2 : k ≤ l.length) (h3 : ∀ x, l[k]? = some x → ¬ ltT x t) : posW l t = k := by
  rcases Nat.lt_trichotomy (posW l t) k with h | h | h
  · have hl : posW l t < l.length := by omega
    obtain ⟨x, hx⟩ : ∃ x, l[posW l t]? = some x := ⟨_, List.getElem?_eq_getElem hl⟩
    exact absurd (h1 _ x h hx) (posW_at hx)
  · exact h
  · have hl : k < l.length := by have := posW_le l t; omega
    obtain ⟨x, hx⟩ : ∃ x, l[k]? = some x := ⟨_, List.getElem?_eq_getElem hl⟩
    exact absurd (posW_lt hx h) (h3 x hx)
/-- The moments of a voice, of a setting, as the reference lays them. -/
def momV (o : List Tm) (v : List Ev) : List Tm := v.foldl (fun o x => withS (withS o x.at_) (nextS x)) o
def momS (l : List (List Ev)) : List Tm := l.foldl momV []

/-! ### Valid voices -/
/-- A sum with a time above 0 is later. -/
theorem next_lt {x : Ev} (ha : ok x.at_) (hd : ok x.dur) (h0 : 1 ≤ x.dur.1) (h : (addS x.at_ x.dur).2.2 = 0) : ltT x.at_ (nextS x) := by
  have eA : addS x.at_ x.dur = mk (x.at_.1 * x.dur.2 + x.dur.1 * x.at_.2) (x.at_.2 * x.dur.2) := by unfold addS; rw [if_neg (fun h => h (both_of_ok ha hd))]
  obtain ⟨a0, _, a2, _, _⟩ := ha
  obtain ⟨d0, _, d2, _, _⟩ := hd
  have hn : 0 ≤ x.at_.1 * x.dur.2 + x.dur.1 * x.at_.2 := by
    have h1 := Int.mul_nonneg a0 (show 0 ≤ x.dur.2 by omega)
    have h2 := Int.mul_nonneg d0 (show 0 ≤ x.at_.2 by omega)
    omega
  have hd1 : 1 ≤ x.at_.2 * x.dur.2 := by
    have := Int.mul_pos (show 0 < x.at_.2 by omega) (show 0 < x.dur.2 by omega)
    omega
  rw [eA, mk_of hn hd1] at h
  obtain ⟨g, a', b', hg, e0, e1, e2, e3, e4, _, _, _⟩ := gg_split _ _ hn hd1
  have eN : nextS x = (a', b') := by
    unfold nextS
    rw [eA, mk_of hn hd1]
    unfold ofq at h ⊢
    split at h
    · cases h
    · rename_i hs
      rw [if_neg hs, e3, e4]
  rw [eN]
  unfold ltT
  simp only
  have hp : 0 < x.dur.1 * x.at_.2 * x.at_.2 := Int.mul_pos (Int.mul_pos (by omega) (by omega)) (by omega)
  have hk : x.at_.1 * b' * g < a' * x.at_.2 * g := by
    have i1 : x.at_.1 * b' * g = x.at_.1 * (x.at_.2 * x.dur.2) := by rw [e2]; grind
    have i2 : a' * x.at_.2 * g = (x.at_.1 * x.dur.2 + x.dur.1 * x.at_.2) * x.at_.2 := by rw [e1]; grind
    have i3 : (x.at_.1 * x.dur.2 + x.dur.1 * x.at_.2) * x.at_.2 = x.at_.1 * (x.at_.2 * x.dur.2) + x.dur.1 * x.at_.2 * x.at_.2 := by grind
    omega
  exact Int.lt_of_mul_lt_mul_right (a := g) hk (by omega)
structure Val (v : List Ev) : Prop where
  each : ∀ (i : Nat) x, v[i]? = some x → ok x.at_ ∧ ok (nextS x) ∧ ltT x.at_ (nextS x) ∧ ok x.dur
  next : ∀ (i : Nat) x y, v[i]? = some x → v[i + 1]? = some y → y.at_ = nextS x
  first : ∀ x, v[0]? = some x → x.at_ = (0, 1)
theorem val_from (v : List Ev) : ∀ (now : Tm) (i : Int), (checkFrom now i v).1 = 0 →
    (∀ (i : Nat) x, v[i]? = some x → ok x.at_ ∧ ok (nextS x) ∧ ltT x.at_ (nextS x) ∧ ok x.dur) ∧ (∀ (i : Nat) x y, v[i]? = some x → v[i + 1]? = some y → y.at_ = nextS x) ∧ (∀ x, v[0]? = some x → x.at_ = now) := by
  induction v with
  | nil => intro now i _; exact ⟨fun i x h => by simp at h, fun i x y h => by simp at h, fun x h => by simp at h⟩
  | cons x v ih =>
    intro now i h
    unfold checkFrom at h
    split at h
    · rename_i h0; simp only at h; exact absurd h h0
    · rename_i h0
      have hs : stepS now x = 0 := by omega
      obtain ⟨h1, h2, h3⟩ := ih _ _ h
      unfold stepS at hs
      split at hs
      · contradiction
      · rename_i ho
        split at hs
        · cases hs
        · rename_i hat
          have hat' : x.at_ = now := by simpa using hat
          have ho' : oneS x = 0 := by omega
          have a1 : chk x.at_.1 x.at_.2 = 0 ∧ chk x.dur.1 x.dur.2 = 0 ∧ x.dur.1 ≠ 0 := by
            unfold oneS at ho'
            split at ho'
            · contradiction
            · split at ho'
              · contradiction
              · split at ho'
                · cases ho'
                · exact ⟨by omega, by omega, by assumption⟩
          have o1 : ok x.at_ := ok_of_chk a1.1
          have o2 : ok x.dur := ok_of_chk a1.2.1
          have eA : addS x.at_ x.dur = mk (x.at_.1 * x.dur.2 + x.dur.1 * x.at_.2) (x.at_.2 * x.dur.2) := by unfold addS; rw [if_neg (fun h => h (both_of_ok o1 o2))]
          have o3 : ok (nextS x) := by unfold nextS; rw [eA] at hs ⊢; exact mk_ok hs
          have hlt : ltT x.at_ (nextS x) := next_lt o1 o2 (by have := o2.1; have := a1.2.2; omega) hs
          refine ⟨fun j y hy => ?_, fun j y z hy hz => ?_, fun y hy => ?_⟩
          · cases j with
            | zero => simp at hy; subst hy; exact ⟨o1, o3, hlt, o2⟩
            | succ j => exact h1 j y (by simpa using hy)
          · cases j with
            | zero =>
              simp at hy; subst hy
              exact h3 z (by simpa using hz)
            | succ j => exact h2 j y z (by simpa using hy) (by simpa using hz)
          · simp at hy; subst hy; exact hat'
theorem val_of {v : List Ev} (h : (checkS v).1 = 0) : Val v := by
  unfold checkS at h
  split at h
  · cases h
  · obtain ⟨h1, h2, h3⟩ := val_from v _ _ h
    exact ⟨h1, h2, h3⟩
end Go.Proofs.Ytbljfaocmeeljaa
