/- Plain mathematics of cut voices. -/
import Derived.Test.YtbljfaocmeeljaaEvMath
namespace Go.Proofs.Ytbljfaocmeeljaa

def lessB (a b : Int × Int) : Bool := decide ((cmpS a b).1 < 0)
theorem lessB_iff (a b : Int × Int) : lessB a b = true ↔ lessS a b := by unfold lessB lessS; simp
theorem both_zero_comm {a b : Int × Int} (h : both a b = 0) : both b a = 0 := by
  obtain ⟨h1, h2⟩ := both_ok h; exact both_of_ok h2 h1
theorem cmp_turn (a b : Int × Int) : (cmpS b a).1 = -(cmpS a b).1 := by
  unfold cmpS
  by_cases h : both a b = 0
  · rw [h, both_zero_comm h, if_neg (fun h => h rfl), if_neg (fun h => h rfl)]
    simp only
    generalize hx : a.1 * b.2 - b.1 * a.2 = x
    have : b.1 * a.2 - a.1 * b.2 = -x := by omega
    rw [this]
    unfold sgn
    (repeat' split) <;> omega
  · rw [if_pos h, if_pos (fun h' => h (both_zero_comm h'))]; rfl
theorem cmp_pos (a b : Int × Int) : decide (0 < (cmpS a b).1) = lessB b a := by
  unfold lessB; rw [cmp_turn a b]; simp only [decide_eq_decide]; omega
/-- Whether the range of a cut does not fit. -/
def rangeB (l : List Ev) (f t : Int × Int) : Bool := lessB t f || lessB ((endS l).1, (endS l).2.1) t
/-- From where and to where an event sounds. -/
def fromS (f : Int × Int) (x : Ev) : Int × Int := if lessB x.at_ f = true then f else x.at_
def toS (t : Int × Int) (x : Ev) : Int × Int := if lessB t (nextS x) = true then t else nextS x
theorem cutOne_v (f t : Int × Int) (x : Ev) : cutOne f t x = if lessB (fromS f x) (toS t x) = true then (if (subS (toS t x) (fromS f x)).2.2 ≠ 0 then ([], (subS (toS t x) (fromS f x)).2.2) else ([{ x with dur := ((subS (toS t x) (fromS f x)).1, (subS (toS t x) (fromS f x)).2.1) }], 0)) else ([], 0) := by
  unfold cutOne fromS toS
  simp only [lessB_iff]
theorem cutS_v (l : List Ev) (f t : Int × Int) : cutS l f t = if (endS l).2.2 ≠ 0 then ([], (endS l).2.2) else if both f t ≠ 0 then ([], both f t) else if rangeB l f t = true then ([], 2) else if (cutAll f t l).2 ≠ 0 then ([], (cutAll f t l).2) else chainS (cutAll f t l).1 := by
  unfold cutS rangeB
  simp only [Bool.or_eq_true, lessB_iff]
def cutAt (f t : Int × Int) (done l : List Ev) : List Ev × Int := if (cutAll f t l).2 ≠ 0 then ([], (cutAll f t l).2) else (done ++ (cutAll f t l).1, 0)
theorem cutAll_err (f t : Int × Int) (l : List Ev) (h : (cutAll f t l).2 ≠ 0) : (cutAll f t l).1 = [] := by
  cases l with
  | nil => rfl
  | cons x l =>
    rw [cutAll] at h ⊢
    split
    · rfl
    · rename_i h1
      rw [if_neg h1] at h
      split
      · rfl
      · rename_i h2; rw [if_neg h2] at h; exact absurd rfl h
theorem cutAt_nil (f t : Int × Int) (l : List Ev) : cutAt f t [] l = cutAll f t l := by
  unfold cutAt
  split
  · rename_i h; rw [← cutAll_err f t l h]
  · rename_i h
    have h2 : (cutAll f t l).2 = 0 := Decidable.byContradiction h
    rw [List.nil_append, ← h2]
theorem cutAt_end (f t : Int × Int) (done : List Ev) : cutAt f t done [] = (done, 0) := by simp [cutAt, cutAll]
theorem cutAt_bad (f t : Int × Int) (done : List Ev) (x : Ev) (l : List Ev) (h : (cutOne f t x).2 ≠ 0) : cutAt f t done (x :: l) = ([], (cutOne f t x).2) := by
  unfold cutAt
  rw [cutAll, if_pos h, if_pos h]
theorem cutAt_ok (f t : Int × Int) (done : List Ev) (x : Ev) (l : List Ev) (h : (cutOne f t x).2 = 0) : cutAt f t done (x :: l) = cutAt f t (done ++ (cutOne f t x).1) l := by
  unfold cutAt
  rw [cutAll, if_neg (show ¬ ((cutOne f t x).2 ≠ 0) from fun hn => hn h)]
  generalize cutAll f t l = z
  obtain ⟨r, e⟩ := z
  by_cases h2 : e = 0
  · subst h2; simp
  · simp [h2]
theorem cutS_good (l : List Ev) (f t : Int × Int) (h1 : (endS l).2.2 = 0) (h2 : both f t = 0) (h3 : rangeB l f t = false) : cutS l f t = if (cutAll f t l).2 ≠ 0 then ([], (cutAll f t l).2) else chainS (cutAll f t l).1 := by
  rw [cutS_v, h1, if_neg (fun h => h rfl), h2, if_neg (fun h => h rfl), h3, if_neg (by simp)]
/-- In a voice every event's end is a time. -/
theorem add_of_check (l : List Ev) : ∀ (now : Int × Int) (i : Int), 0 ≤ i → (checkFrom now i l).1 = 0 → ∀ x ∈ l, (addS x.at_ x.dur).2.2 = 0 := by
  induction l with
  | nil => intro _ _ _ _ x hx; simp at hx
  | cons y l ih =>
    intro now i hi h x hx
    rw [checkFrom] at h
    split at h
    · rename_i hs; exact absurd h hs
    · rename_i hs
      have hs' : stepS now y = 0 := by simpa using hs
      unfold stepS at hs'
      split at hs'
      · rename_i h1; exact absurd hs' h1
      · split at hs'
        · cases hs'
        · rcases List.mem_cons.1 hx with rfl | hx
          · exact hs'
          · exact ih (nextS y) (i + 1) (by omega) h x hx
theorem add_of_end {l : List Ev} (h : (endS l).2.2 = 0) : ∀ x ∈ l, (addS x.at_ x.dur).2.2 = 0 := by
  have hc : (checkS l).1 = 0 := by
    unfold endS at h
    split at h
    · rename_i h1; exact absurd h h1
    · rename_i h1; simpa using h1
  unfold checkS at hc
  split at hc
  · cases hc
  · exact add_of_check l _ 0 (by omega) hc
end Go.Proofs.Ytbljfaocmeeljaa
