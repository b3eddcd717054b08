/- Sorting by insertion, from the front and from behind: plain mathematics, no program in sight. -/
import Derived.Test.YtbljfaocmeeljaaAlSpec
namespace Go.Proofs.Ytbljfaocmeeljaa
/-- One more element in an ascending list. -/
def ins {α : Type} (lt : α → α → Bool) (x : α) : List α → List α
  | [] => [x]
  | y :: s => if lt y x then y :: ins lt x s else x :: y :: s
def insPos {α : Type} (lt : α → α → Bool) (x : α) : List α → Nat
  | [] => 0
  | y :: s => if lt y x then insPos lt x s + 1 else 0
theorem ins_pos {α : Type} (lt : α → α → Bool) (x : α) : ∀ s : List α, ins lt x s = s.take (insPos lt x s) ++ x :: s.drop (insPos lt x s)
  | [] => rfl
  | y :: s => by
    unfold ins insPos
    by_cases h : lt y x = true
    · rw [if_pos h, if_pos h, ins_pos lt x s]; simp
    · rw [if_neg h, if_neg h]; simp
theorem insPos_le {α : Type} (lt : α → α → Bool) (x : α) : ∀ s : List α, insPos lt x s ≤ s.length
  | [] => by simp [insPos]
  | y :: s => by
    have := insPos_le lt x s
    unfold insPos
    rw [List.length_cons]
    split <;> omega
theorem insPos_is {α : Type} {lt : α → α → Bool} {x : α} : ∀ {s : List α} {k : Nat}, (∀ (j : Nat) y, j < k → s[j]? = some y → lt y x = true) → k ≤ s.length → (∀ y, s[k]? = some y → lt y x = false) → insPos lt x s = k
  | [], k, _, h, _ => by simp at h; subst h; rfl
  | z :: s, 0, _, _, h3 => by unfold insPos; rw [if_neg (by rw [h3 z rfl]; simp)]
  | z :: s, k + 1, h1, h2, h3 => by
    unfold insPos
    rw [if_pos (h1 0 z (by omega) rfl), insPos_is (k := k) (fun j y hj hy => h1 (j + 1) y (by omega) (by simpa using hy)) (by simpa using h2) (fun y hy => h3 y (by simpa using hy))]
def insAll {α : Type} (lt : α → α → Bool) (l : List α) : List α := l.foldl (fun o x => ins lt x o) []
/-- The element behind j goes forward as far as it is less. -/
def sink {α : Type} (lt : α → α → Bool) : Nat → List α → List α
  | 0, l => l
  | j + 1, l => match l[j]?, l[j + 1]? with
    | some y, some x => if lt x y then sink lt j ((l.set (j + 1) y).set j x) else l
    | _, _ => l
/-- The loop over the elements from i on, k rounds. -/
def sorts {α : Type} (lt : α → α → Bool) : Nat → Nat → List α → List α
  | _, 0, l => l
  | i, k + 1, l => sorts lt (i + 1) k (sink lt i l)
theorem ins_perm {α : Type} (lt : α → α → Bool) (x : α) (s : List α) : (ins lt x s).Perm (x :: s) := by
  induction s with
  | nil => exact List.Perm.refl _
  | cons y s ih =>
    unfold ins
    split
    · exact (List.Perm.cons y ih).trans (List.Perm.swap x y s)
    · exact List.Perm.refl _
theorem ins_last {α : Type} {lt : α → α → Bool} {x : α} : ∀ {s : List α}, (∀ z ∈ s, lt z x = true) → ins lt x s = s ++ [x]
  | [], _ => rfl
  | y :: s, h => by unfold ins; rw [if_pos (h y (by simp)), ins_last (fun z hz => h z (by simp [hz]))]; rfl
theorem ins_before {α : Type} {lt : α → α → Bool} {x y : α} (h : lt y x = false) : ∀ (s : List α), ins lt x (s ++ [y]) = ins lt x s ++ [y]
  | [] => by simp [ins, h]
  | z :: s => by
    rw [List.cons_append]
    unfold ins
    split
    · rw [ins_before h s]; rfl
    · rfl
structure Tot {α : Type} (lt : α → α → Bool) (P : α → Prop) : Prop where
  tr : ∀ a b c, P a → P b → P c → lt a b = true → lt b c = true → lt a c = true
  as : ∀ a b, P a → P b → lt a b = true → lt b a = false
  tt : ∀ a b, P a → P b → a ≠ b → lt a b = true ∨ lt b a = true
theorem ins_sorted {α : Type} {lt : α → α → Bool} {P : α → Prop} (ht : Tot lt P) {x : α} (hx : P x) : ∀ {s : List α}, (∀ y ∈ s, P y) → (∀ y ∈ s, y ≠ x) → s.Pairwise (fun a b => lt a b = true) → (ins lt x s).Pairwise (fun a b => lt a b = true)
  | [], _, _, _ => by simp [ins]
  | y :: s, hp, hn, hs => by
    obtain ⟨h1, h2⟩ := List.pairwise_cons.1 hs
    have hy := hp y (by simp)
    unfold ins
    by_cases h : lt y x = true
    · rw [if_pos h]
      refine List.pairwise_cons.2 ⟨fun z hz => ?_, ins_sorted ht hx (fun z hz => hp z (by simp [hz])) (fun z hz => hn z (by simp [hz])) h2⟩
      rcases List.mem_cons.1 ((ins_perm lt x s).mem_iff.1 hz) with rfl | hz
      · exact h
      · exact h1 z hz
    · rw [if_neg h]
      have hxy : lt x y = true := by
        rcases ht.tt y x hy hx (hn y (by simp)) with h3 | h3
        · exact absurd h3 h
        · exact h3
      refine List.pairwise_cons.2 ⟨fun z hz => ?_, hs⟩
      rcases List.mem_cons.1 hz with rfl | hz
      · exact hxy
      · exact ht.tr x y z hx hy (hp z (by simp [hz])) hxy (h1 z hz)
theorem sink_ins {α : Type} {lt : α → α → Bool} {P : α → Prop} (ht : Tot lt P) {x : α} (hx : P x) : ∀ (n : Nat) {s r : List α}, s.length = n → (∀ y ∈ s, P y) → (∀ y ∈ s, y ≠ x) → s.Pairwise (fun a b => lt a b = true) → sink lt n (s ++ x :: r) = ins lt x s ++ r := by
  intro n
  induction n with
  | zero => intro s r h _ _ _; rw [List.length_eq_zero_iff.1 h]; rfl
  | succ n ih =>
    intro s r h hp hn hs
    obtain ⟨s', y, rfl⟩ : ∃ s' y, s = s' ++ [y] := by
      refine ⟨s.dropLast, s.getLast (by intro e; rw [e] at h; simp at h), ?_⟩
      rw [List.dropLast_concat_getLast]
    have hl : s'.length = n := by simpa using h
    have e1 : (s' ++ [y] ++ x :: r)[n]? = some y := by rw [List.append_assoc, List.getElem?_append_right (by omega)]; simp [hl]
    have e2 : (s' ++ [y] ++ x :: r)[n + 1]? = some x := by rw [List.getElem?_append_right (by simp; omega)]; simp [hl]
    unfold sink
    rw [e1, e2]
    simp only
    have hy : P y := hp y (by simp)
    obtain ⟨hs1, hs2, hs3⟩ := List.pairwise_append.1 hs
    by_cases hlt : lt x y = true
    · rw [if_pos hlt]
      have e3 : ((s' ++ [y] ++ x :: r).set (n + 1) y).set n x = s' ++ x :: (y :: r) := by
        rw [List.append_assoc, List.set_append_right _ _ (by omega), List.set_append_right _ _ (by omega)]
        simp [hl]
      rw [e3, ih hl (fun z hz => hp z (by simp [hz])) (fun z hz => hn z (by simp [hz])) hs1, ins_before (ht.as x y hx hy hlt)]
      simp
    · rw [if_neg hlt, ins_last]
      · simp
      · have hyx : lt y x = true := by
          rcases ht.tt y x hy hx (hn y (by simp)) with h3 | h3
          · exact h3
          · exact absurd h3 hlt
        intro z hz
        rcases List.mem_append.1 hz with hz | hz
        · exact ht.tr z y x (hp z (by simp [hz])) hy hx (hs3 z hz y (by simp)) hyx
        · rw [List.mem_singleton.1 hz]; exact hyx
theorem insAll_spec {α : Type} {lt : α → α → Bool} {P : α → Prop} (ht : Tot lt P) : ∀ (l o : List α), (∀ y ∈ l, P y) → (∀ y ∈ o, P y) → (l ++ o).Nodup → o.Pairwise (fun a b => lt a b = true) →
    (l.foldl (fun o x => ins lt x o) o).Pairwise (fun a b => lt a b = true) ∧ (l.foldl (fun o x => ins lt x o) o).Perm (l ++ o)
  | [], o, _, _, _, h => ⟨h, List.Perm.refl _⟩
  | x :: l, o, h1, h2, h3, h4 => by
    have hx := h1 x (by simp)
    have hnx : ∀ y ∈ o, y ≠ x := by
      intro y hy e; subst e
      simp at h3
      exact h3.1.2 hy
    have hperm := ins_perm lt x o
    obtain ⟨r1, r2⟩ := insAll_spec ht l (ins lt x o) (fun y hy => h1 y (by simp [hy])) (fun y hy => by
      rcases List.mem_cons.1 (hperm.mem_iff.1 hy) with rfl | hy
      · exact hx
      · exact h2 y hy) (by
        refine (List.Perm.nodup_iff ?_).2 h3
        exact (List.Perm.append_left l hperm).trans List.perm_middle) (ins_sorted ht hx h2 hnx h4)
    exact ⟨r1, r2.trans ((List.Perm.append_left l hperm).trans List.perm_middle)⟩
theorem sorts_ins {α : Type} {lt : α → α → Bool} {P : α → Prop} (ht : Tot lt P) : ∀ (r s : List α), (∀ y ∈ s ++ r, P y) → (s ++ r).Nodup → s.Pairwise (fun a b => lt a b = true) → sorts lt s.length r.length (s ++ r) = r.foldl (fun o x => ins lt x o) s
  | [], s, _, _, _ => by simp [sorts]
  | x :: r, s, hp, hn, hs => by
    have hx := hp x (by simp)
    have hps : ∀ y ∈ s, P y := fun y hy => hp y (by simp [hy])
    have hnx : ∀ y ∈ s, y ≠ x := by
      intro y hy e; subst e
      rw [List.nodup_append] at hn
      exact hn.2.2 y hy y (by simp) rfl
    have hperm := ins_perm lt x s
    have hl : (ins lt x s).length = s.length + 1 := by rw [hperm.length_eq]; rfl
    rw [List.length_cons]
    unfold sorts
    rw [sink_ins ht hx s.length rfl hps hnx hs, List.foldl_cons, ← sorts_ins ht r (ins lt x s) ?_ ?_ (ins_sorted ht hx hps hnx hs), hl]
    · intro y hy
      refine hp y ?_
      rcases List.mem_append.1 hy with hy | hy
      · rcases List.mem_cons.1 (hperm.mem_iff.1 hy) with rfl | hy
        · simp
        · simp [hy]
      · simp [hy]
    · refine (List.Perm.nodup_iff ?_).2 hn
      exact (List.Perm.append_right r hperm).trans List.perm_middle.symm
theorem sorts_all {α : Type} {lt : α → α → Bool} {P : α → Prop} (ht : Tot lt P) {l : List α} (hp : ∀ y ∈ l, P y) (hn : l.Nodup) : sorts lt 1 (l.length - 1) l = insAll lt l := by
  cases l with
  | nil => rfl
  | cons x r => exact sorts_ins ht r [x] hp hn (by simp)
theorem sink_len {α : Type} (lt : α → α → Bool) : ∀ (j : Nat) (l : List α), (sink lt j l).length = l.length
  | 0, _ => rfl
  | j + 1, l => by
    unfold sink
    split
    · split
      · rw [sink_len lt j]; simp
      · rfl
    · rfl
/-! ### Who sounds, by pitch -/
def eventAt (v : List Ev) (t : Tm) : Option Ev := match onS v t with
  | .ofNat k => v[k]?
  | .negSucc _ => none
def soundB (v : List Ev) (t : Tm) : Bool := match eventAt v t with
  | some x => !x.rest
  | none => false
abbrev Key := Int × Int × Int
def keyOf (l : List (List Ev)) (t : Tm) (k : Nat) : Key := match eventAt (l.getD k []) t with
  | some x => (numP x.pit, x.pit.2.2, (k : Int))
  | none => (0, 0, (k : Int))
def ltK (a b : Key) : Bool := decide (a.1 < b.1 ∨ (a.1 = b.1 ∧ (a.2.1 < b.2.1 ∨ (a.2.1 = b.2.1 ∧ a.2.2 < b.2.2))))
def ltV (l : List (List Ev)) (t : Tm) (a b : Nat) : Bool := ltK (keyOf l t a) (keyOf l t b)
theorem key_last (l : List (List Ev)) (t : Tm) (k : Nat) : (keyOf l t k).2.2 = k := by unfold keyOf; split <;> rfl
theorem ltV_tot (l : List (List Ev)) (t : Tm) : Tot (ltV l t) (fun _ => True) where
  tr a b c _ _ _ h1 h2 := by unfold ltV ltK at *; rw [decide_eq_true_eq] at *; omega
  as a b _ _ h := by unfold ltV ltK at *; rw [decide_eq_true_eq] at h; rw [decide_eq_false_iff_not]; omega
  tt a b _ _ h := by
    unfold ltV ltK
    rw [decide_eq_true_eq, decide_eq_true_eq]
    have h1 := key_last l t a
    have h2 := key_last l t b
    omega
def sndS (l : List (List Ev)) (t : Tm) : List Nat := (List.range l.length).filter fun k => soundB (l.getD k []) t
theorem snd_nodup (l : List (List Ev)) (t : Tm) : (sndS l t).Nodup := List.Pairwise.filter _ List.nodup_range
def soundsE (l : List (List Ev)) (n : Int) : List Nat × Int :=
  if (slicesE l).2 ≠ 0 then ([], (slicesE l).2) else if n < 0 ∨ ((slicesE l).1.length : Int) ≤ n then ([], 2) else (insAll (ltV l (mAt (momS l) n.toNat)) (sndS l (mAt (momS l) n.toNat)), 0)
end Go.Proofs.Ytbljfaocmeeljaa
