/- Plain mathematics of settings: checks, the event that sounds at a time, slices. -/
import Derived.Test.YtbljfaocmeeljaaAlMom
namespace Go.Proofs.Ytbljfaocmeeljaa
/-- The first voice that is no voice: the error, its number. -/
def chkV (i : Int) : List (List Ev) → Int × Int
  | [] => (0, 0)
  | v :: l => if (checkS v).1 ≠ 0 then ((checkS v).1, i) else chkV (i + 1) l
def checkA (l : List (List Ev)) : Int × Int := if 8 < l.length then (11, 0) else chkV 0 l
theorem chkV_all {l : List (List Ev)} : ∀ {i : Int}, (chkV i l).1 = 0 → ∀ v ∈ l, (checkS v).1 = 0 := by
  induction l with
  | nil => intro i _ v hv; cases hv
  | cons v l ih =>
    intro i h
    unfold chkV at h
    split at h
    · rename_i h0; simp only at h; exact absurd h h0
    · rename_i h0
      intro w hw
      rcases List.mem_cons.1 hw with rfl | hw
      · omega
      · exact ih h w hw
theorem checkA_all {l : List (List Ev)} (h : (checkA l).1 = 0) : l.length ≤ 8 ∧ ∀ v ∈ l, (checkS v).1 = 0 := by
  unfold checkA at h
  split at h
  · cases h
  · exact ⟨by omega, chkV_all h⟩
theorem chkV_bad {v : List Ev} {l : List (List Ev)} {i : Int} (h : (checkS v).1 ≠ 0) : chkV i (v :: l) = ((checkS v).1, i) := by unfold chkV; rw [if_pos h]
theorem chkV_next {v : List Ev} {l : List (List Ev)} {i : Int} (h : (checkS v).1 = 0) : chkV i (v :: l) = chkV (i + 1) l := by
  conv => lhs; unfold chkV
  rw [if_neg (fun h0 => h0 h)]
theorem checkS_len {v : List Ev} (h : (checkS v).1 = 0) : v.length ≤ 2000 := by
  unfold checkS at h
  split at h
  · cases h
  · omega

/-! ### The event that sounds at a time -/
def holdB (x : Ev) (t : Tm) : Bool := decide (¬ ltT t x.at_) && decide (ltT t (nextS x))
def onFrom (i : Int) : List Ev → Tm → Int
  | [], _ => -1
  | x :: v, t => if holdB x t = true then i else onFrom (i + 1) v t
def onS (v : List Ev) (t : Tm) : Int := onFrom 0 v t
theorem onFrom_drop {v : List Ev} {t : Tm} {k : Nat} {x : Ev} (hx : v[k]? = some x) : onFrom k (v.drop k) t = if holdB x t = true then (k : Int) else onFrom ((k + 1 : Nat) : Int) (v.drop (k + 1)) t := by
  obtain ⟨hk, rfl⟩ := List.getElem?_eq_some_iff.1 hx
  rw [List.drop_eq_getElem_cons hk]
  rfl
theorem on_none {v : List Ev} {t : Tm} (h : ∀ x ∈ v, holdB x t = false) : ∀ i, onFrom i v t = -1 := by
  induction v with
  | nil => intro i; rfl
  | cons x v ih =>
    intro i
    unfold onFrom
    rw [h x (by simp), if_neg (by simp)]
    exact ih (fun y hy => h y (List.mem_cons_of_mem _ hy)) _
theorem on_some {v : List Ev} {t : Tm} : ∀ (k : Nat) (i : Int) {x : Ev}, v[k]? = some x → holdB x t = true → (∀ (j : Nat) y, j < k → v[j]? = some y → holdB y t = false) → onFrom i v t = i + k := by
  induction v with
  | nil => intro k i x h; simp at h
  | cons y v ih =>
    intro k i x hx hh hno
    unfold onFrom
    cases k with
    | zero =>
      simp at hx; subst hx
      rw [if_pos hh]; simp
    | succ k =>
      rw [hno 0 y (by omega) rfl, if_neg (by simp)]
      rw [ih k (i + 1) (by simpa using hx) hh (fun j z hj hz => hno (j + 1) z (by omega) (by simpa using hz))]
      push_cast; omega
/-- How far the program has gone in a voice at a time. -/
def Ptr (v : List Ev) (t : Tm) (k : Nat) : Prop := k = 0 ∨ ∃ x, v[k]? = some x ∧ ¬ ltT t x.at_
/-- It goes no further. -/
def PtrEnd (v : List Ev) (t : Tm) (k : Nat) : Prop := ∀ x, v[k + 1]? = some x → ltT t x.at_
theorem ptr_later {v : List Ev} (h : Val v) {t t' : Tm} {k : Nat} (ht : ok t) (ht' : ok t') (hp : Ptr v t k) (hle : ¬ ltT t' t) : Ptr v t' k := by
  rcases hp with rfl | ⟨x, hx, hn⟩
  · exact .inl rfl
  · exact .inr ⟨x, hx, leT_trans (h.each k x hx).1 ht ht' hn hle⟩
theorem ptr_on {v : List Ev} (h : Val v) {t : Tm} {k : Nat} (ht : ok t) (hp : Ptr v t k) (he : PtrEnd v t k) : onS v t = if ltT t (endV v) then (k : Int) else -1 := by
  by_cases hv : v = []
  · subst hv
    rw [if_neg (by unfold endV; exact zero_le ht)]; rfl
  · have hl : 0 < v.length := List.length_pos_iff.2 hv
    -- the event k
    obtain ⟨x, hx, hxt⟩ : ∃ x, v[k]? = some x ∧ ¬ ltT t x.at_ := by
      rcases hp with rfl | h0
      · obtain ⟨x, hx⟩ : ∃ x, v[0]? = some x := ⟨_, List.getElem?_eq_getElem hl⟩
        exact ⟨x, hx, by rw [h.first x hx]; exact zero_le ht⟩
      · exact h0
    have hkl : k < v.length := (List.getElem?_eq_some_iff.1 hx).1
    have ex := h.each k x hx
    have before : ∀ (j : Nat) y, j < k → v[j]? = some y → holdB y t = false := fun j y hj hy => by
      have ey := h.each j y hy
      have := (at_lt h k j y x hy hx hj).2
      unfold holdB
      rw [decide_eq_false (p := ltT t (nextS y)) (leT_trans ey.2.1 ex.1 ht this hxt), Bool.and_false]
    by_cases hend : ltT t (endV v)
    · rw [if_pos hend]
      have hh : holdB x t = true := by
        unfold holdB
        rw [decide_eq_true hxt, Bool.true_and, decide_eq_true_eq]
        by_cases hn : k + 1 < v.length
        · obtain ⟨y, hy⟩ : ∃ y, v[k + 1]? = some y := ⟨_, List.getElem?_eq_getElem hn⟩
          rw [← h.next k x y hx hy]; exact he y hy
        · have : v.getLast? = some x := by rw [List.getLast?_eq_getElem?, show v.length - 1 = k by omega]; exact hx
          unfold endV at hend; rw [this] at hend; exact hend
      unfold onS
      rw [on_some k 0 hx hh before]; omega
    · rw [if_neg hend]
      refine on_none (fun y hy => ?_) 0
      unfold holdB
      have ey := val_mem h y hy
      rw [decide_eq_false (p := ltT t (nextS y)) (leT_trans ey.2.1 (endV_ok h) ht (end_ge h hy).2 hend), Bool.and_false]

/-! ### Slices -/
structure Sl where
  at_ : Tm
  dur : Tm
  evs : List Int
def mAt (m : List Tm) (i : Nat) : Tm := m.getD i (0, 0)
theorem mAt_some {m : List Tm} {i : Nat} (h : i < m.length) : m[i]? = some (mAt m i) := by simp [mAt, List.getD, h]
/-- The length of slice i, its error. -/
def durE (m : List Tm) (i : Nat) : Tm × Int := (((subS (mAt m (i + 1)) (mAt m i)).1, (subS (mAt m (i + 1)) (mAt m i)).2.1), (subS (mAt m (i + 1)) (mAt m i)).2.2)
def slOf (l : List (List Ev)) (m : List Tm) (i : Nat) : Sl := ⟨mAt m i, (durE m i).1, l.map fun v => onS v (mAt m i)⟩
/-- The first error of the lengths of k slices from i on. -/
def durFrom (m : List Tm) : Nat → Nat → Int
  | _, 0 => 0
  | i, k + 1 => if (durE m i).2 ≠ 0 then (durE m i).2 else durFrom m (i + 1) k
def slicesE (l : List (List Ev)) : List Sl × Int :=
  if (checkA l).1 ≠ 0 then ([], (checkA l).1)
  else if durFrom (momS l) 0 ((momS l).length - 1) ≠ 0 then ([], durFrom (momS l) 0 ((momS l).length - 1))
  else ((List.range ((momS l).length - 1)).map (slOf l (momS l)), 0)
theorem durFrom_bad {m : List Tm} {i k : Nat} (h : (durE m i).2 ≠ 0) : durFrom m i (k + 1) = (durE m i).2 := by unfold durFrom; rw [if_pos h]
theorem durFrom_next {m : List Tm} {i k : Nat} (h : (durE m i).2 = 0) : durFrom m i (k + 1) = durFrom m (i + 1) k := by
  conv => lhs; unfold durFrom
  rw [if_neg (fun h0 => h0 h)]
theorem range_next {α : Type} (f : Nat → α) (k : Nat) : (List.range (k + 1)).map f = (List.range k).map f ++ [f k] := by rw [List.range_succ, List.map_append]; rfl
/-- Everything of a valid setting that the walks use. -/
theorem set_facts {l : List (List Ev)} (h : (checkA l).1 = 0) : l.length ≤ 8 ∧ (∀ v ∈ l, (checkS v).1 = 0 ∧ Val v ∧ v.length ≤ 2000) ∧ momP l = momS l ∧ SA (momS l) ∧ OkL (momS l) := by
  obtain ⟨h1, h2⟩ := checkA_all h
  exact ⟨h1, fun v hv => ⟨h2 v hv, val_of (h2 v hv), checkS_len (h2 v hv)⟩, mom_eq fun v hv => val_of (h2 v hv)⟩
theorem momV_len (v : List Ev) : ∀ o : List Tm, (momV o v).length ≤ o.length + 2 * v.length := by
  induction v with
  | nil => intro o; simp [momV]
  | cons x v ih =>
    intro o
    have h1 := ih (withS (withS o x.at_) (nextS x))
    have h2 : ∀ (o : List Tm) t, (withS o t).length ≤ o.length + 1 := fun o t => by
      induction o with
      | nil => simp [withS]
      | cons y o ih => unfold withS; split <;> (try split) <;> simp <;> omega
    have h3 := h2 o x.at_
    have h4 := h2 (withS o x.at_) (nextS x)
    show (momV (withS (withS o x.at_) (nextS x)) v).length ≤ _
    rw [List.length_cons]
    omega
theorem momS_len (l : List (List Ev)) (h : ∀ v ∈ l, v.length ≤ 2000) : (momS l).length ≤ 4000 * l.length := by
  have key : ∀ (l : List (List Ev)) (o : List Tm), (∀ v ∈ l, v.length ≤ 2000) → (l.foldl momV o).length ≤ o.length + 4000 * l.length := by
    intro l
    induction l with
    | nil => intro o _; simp
    | cons v l ih =>
      intro o hv
      have h1 := ih (momV o v) (fun w hw => hv w (List.mem_cons_of_mem _ hw))
      have h2 := momV_len v o
      have h3 := hv v (by simp)
      simp only [List.foldl_cons, List.length_cons]
      omega
  have := key l [] h
  simpa [momS] using this
end Go.Proofs.Ytbljfaocmeeljaa
