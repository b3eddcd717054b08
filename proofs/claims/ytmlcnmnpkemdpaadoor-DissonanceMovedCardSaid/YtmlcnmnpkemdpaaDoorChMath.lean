
/- Plain mathematics of pitches, intervals and chords (layer interval); no program in sight. -/
import Derived.Test.YtmlcnmnpkemdpaaDoorEvents
import Derived.Test.YtmlcnmnpkemdpaaDoorPlain
namespace Go.Proofs.YtmlcnmnpkemdpaaDoor

/-- The half-tones of a step. -/
def halfS (s : Int) : Int := if s = 0 then 0 else if s = 1 then 2 else if s = 2 then 4 else if s = 3 then 5 else if s = 4 then 7 else if s = 5 then 9 else 11
def htP (p : Int × Int × Int) : Int := 12 * p.2.1 + halfS p.1 + p.2.2
theorem halfS_bd (s : Int) : 0 ≤ halfS s ∧ halfS s ≤ 11 := by unfold halfS; (repeat' split) <;> omega
theorem numP_bd {p : Int × Int × Int} (h : pchk p = 0) : 0 ≤ numP p ∧ numP p ≤ 62 := by have := pchk_ok h; unfold numP; omega
theorem htP_bd {p : Int × Int × Int} (h : pchk p = 0) : -1 ≤ htP p ∧ htP p ≤ 108 := by have := pchk_ok h; have := halfS_bd p.1; unfold htP; omega
def htE (p : Int × Int × Int) : Int × Int := if pchk p ≠ 0 then (0, pchk p) else (htP p, 0)
/-! ### Intervals -/
/-- The second pitch is the lower one. -/
def lowB (p q : Int × Int × Int) : Prop := numP q < numP p ∨ (numP q = numP p ∧ htP q < htP p)
instance (p q : Int × Int × Int) : Decidable (lowB p q) := inferInstanceAs (Decidable (_ ∨ _))
def loP (p q : Int × Int × Int) : Int × Int × Int := if lowB p q then q else p
def hiP (p q : Int × Int × Int) : Int × Int × Int := if lowB p q then p else q
/-- The interval from p to q. -/
def btw (p q : Int × Int × Int) : Int × Int := (numP q - numP p, htP q - htP p)
def upI (p q : Int × Int × Int) : Int × Int := btw (loP p q) (hiP p q)
def simI (x : Int × Int) : Int × Int := (x.1 % 7, x.2 - 12 * (x.1 / 7))
def bothP (p q : Int × Int × Int) : Int := if pchk p ≠ 0 then pchk p else pchk q
theorem bothP_ok {p q : Int × Int × Int} (h : bothP p q = 0) : pchk p = 0 ∧ pchk q = 0 := by
  unfold bothP at h
  split at h
  · contradiction
  · exact ⟨by omega, h⟩
def upE (p q : Int × Int × Int) : (Int × Int) × Int := if bothP p q ≠ 0 then ((0, 0), bothP p q) else (upI p q, 0)
def simE (p q : Int × Int × Int) : (Int × Int) × Int := if bothP p q ≠ 0 then ((0, 0), bothP p q) else (simI (upI p q), 0)
theorem loP_pchk {p q : Int × Int × Int} (h : pchk p = 0) (h' : pchk q = 0) : pchk (loP p q) = 0 := by unfold loP; split <;> assumption
theorem hiP_pchk {p q : Int × Int × Int} (h : pchk p = 0) (h' : pchk q = 0) : pchk (hiP p q) = 0 := by unfold hiP; split <;> assumption
theorem upI_bd {p q : Int × Int × Int} (h : pchk p = 0) (h' : pchk q = 0) : 0 ≤ (upI p q).1 ∧ (upI p q).1 ≤ 62 ∧ -110 ≤ (upI p q).2 ∧ (upI p q).2 ≤ 110 := by
  have a := numP_bd (loP_pchk h h'); have b := numP_bd (hiP_pchk h h'); have c := htP_bd (loP_pchk h h'); have d := htP_bd (hiP_pchk h h')
  have hge : numP (loP p q) ≤ numP (hiP p q) := by
    unfold loP hiP
    by_cases h0 : lowB p q
    · rw [if_pos h0, if_pos h0]; unfold lowB at h0; omega
    · rw [if_neg h0, if_neg h0]; unfold lowB at h0; omega
  unfold upI btw
  simp only
  omega
theorem simI_bd {p q : Int × Int × Int} (h : pchk p = 0) (h' : pchk q = 0) : 0 ≤ (simI (upI p q)).1 ∧ (simI (upI p q)).1 ≤ 6 ∧ -300 ≤ (simI (upI p q)).2 ∧ (simI (upI p q)).2 ≤ 300 := by
  have := upI_bd h h'
  unfold simI; simp only; omega
/-- The kind of a simple interval. -/
def kindX (x : Int × Int) : Int :=
  if (x.1 = 0 ∧ x.2 = 0) ∨ (x.1 = 4 ∧ x.2 = 7) then 1
  else if (x.1 = 2 ∧ (x.2 = 3 ∨ x.2 = 4)) ∨ (x.1 = 5 ∧ (x.2 = 8 ∨ x.2 = 9)) then 2
  else if x.1 = 3 ∧ x.2 = 5 then 3
  else if (x.1 = 3 ∧ x.2 = 6) ∨ (x.1 = 4 ∧ x.2 = 6) then 4 else 5
def kindP (p q : Int × Int × Int) : Int := kindX (simI (upI p q))
def kindE (p q : Int × Int × Int) : Int × Int := if bothP p q ≠ 0 then (0, bothP p q) else (kindP p q, 0)
/-- The program's table of kinds, row by row. -/
def kindTab : List Int :=
  [1, 0, 0, 0, 0, 0, 0, 0, 0, 0, 0, 0, 0,
   0, 0, 0, 0, 0, 0, 0, 0, 0, 0, 0, 0, 0,
   0, 0, 0, 2, 2, 0, 0, 0, 0, 0, 0, 0, 0,
   0, 0, 0, 0, 0, 3, 4, 0, 0, 0, 0, 0, 0,
   0, 0, 0, 0, 0, 0, 4, 1, 0, 0, 0, 0, 0,
   0, 0, 0, 0, 0, 0, 0, 0, 2, 2, 0, 0, 0,
   0, 0, 0, 0, 0, 0, 0, 0, 0, 0, 0, 0, 0]
theorem kindTab_all : ∀ s : Fin 7, ∀ h : Fin 13, kindX ((s.val : Int), (h.val : Int)) = if kindTab.getD (s.val * 13 + h.val) 0 ≠ 0 then kindTab.getD (s.val * 13 + h.val) 0 else 5 := by decide
theorem kindTab_in (s h : Nat) (hs : s < 7) (hh : h < 13) : kindX ((s : Int), (h : Int)) = if kindTab.getD (s * 13 + h) 0 ≠ 0 then kindTab.getD (s * 13 + h) 0 else 5 := kindTab_all ⟨s, hs⟩ ⟨h, hh⟩
theorem kindX_out (s h : Int) (hh : h < 0 ∨ 13 ≤ h) : kindX (s, h) = 5 := by
  unfold kindX
  rw [if_neg (by simp only; omega), if_neg (by simp only; omega), if_neg (by simp only; omega), if_neg (by simp only; omega)]

/-! ### Chords -/
def firstE : List (Int × Int × Int) → Int
  | [] => 0
  | p :: l => if pchk p ≠ 0 then pchk p else firstE l
def chordE (l : List (Int × Int × Int)) : Int := if 8 < l.length then 11 else firstE l
theorem firstE_all {l : List (Int × Int × Int)} (h : firstE l = 0) : ∀ p ∈ l, pchk p = 0 := by
  induction l with
  | nil => simp
  | cons p l ih =>
    unfold firstE at h
    split at h
    · contradiction
    · intro q hq
      rcases List.mem_cons.1 hq with rfl | hq
      · omega
      · exact ih h q hq
theorem chordE_ok {l : List (Int × Int × Int)} (h : chordE l = 0) : l.length ≤ 8 ∧ ∀ p ∈ l, pchk p = 0 := by
  unfold chordE at h
  split at h
  · cases h
  · exact ⟨by omega, firstE_all h⟩
def pAt (l : List (Int × Int × Int)) (k : Nat) : Int × Int × Int := l.getD k (0, 0, 0)
theorem pAt_get {l : List (Int × Int × Int)} {k : Nat} {p : Int × Int × Int} (h : l[k]? = some p) : pAt l k = p := by simp [pAt, List.getD, h]
theorem pAt_some {l : List (Int × Int × Int)} {k : Nat} (h : k < l.length) : l[k]? = some (pAt l k) := by simp [pAt, List.getD, h]
/-- The first pitch is deeper than the second one. -/
def deep (p q : Int × Int × Int) : Prop := htP p < htP q ∨ (htP p = htP q ∧ numP p < numP q)
instance (p q : Int × Int × Int) : Decidable (deep p q) := inferInstanceAs (Decidable (_ ∨ _))
/-- The index of the bass among the first k pitches. -/
def bassN (l : List (Int × Int × Int)) : Nat → Nat
  | 0 => 0
  | k + 1 => if deep (pAt l k) (pAt l (bassN l k)) then k else bassN l k
theorem bassN_le (l : List (Int × Int × Int)) (k : Nat) : bassN l (k + 1) ≤ k := by
  induction k with
  | zero =>
    unfold bassN; split <;> simp [bassN]
  | succ k ih =>
    unfold bassN; split
    · omega
    · omega
theorem bassN_one (l : List (Int × Int × Int)) : bassN l 1 = 0 := Nat.le_zero.1 (bassN_le l 0)
def bassL (l : List (Int × Int × Int)) : Nat := bassN l l.length
theorem bassL_lt {l : List (Int × Int × Int)} (h : 0 < l.length) : bassL l < l.length := by
  unfold bassL
  obtain ⟨k, hk⟩ : ∃ k, l.length = k + 1 := ⟨l.length - 1, by omega⟩
  rw [hk]
  have := bassN_le l k
  omega
def bassE (l : List (Int × Int × Int)) : Int × Int := if chordE l ≠ 0 then (0, chordE l) else if l.length = 0 then (0, 18) else ((bassL l : Int), 0)
/-- Whether two pitches of a chord clash. -/
def bad (l : List (Int × Int × Int)) (a b : Nat) : Prop :=
  kindP (pAt l a) (pAt l b) = 5 ∨ ((kindP (pAt l a) (pAt l b) = 3 ∨ kindP (pAt l a) (pAt l b) = 4) ∧ loP (pAt l a) (pAt l b) = pAt l (bassL l))
instance (l : List (Int × Int × Int)) (a b : Nat) : Decidable (bad l a b) := inferInstanceAs (Decidable (_ ∨ _))
def rowC (l : List (Int × Int × Int)) (a : Nat) : Nat → List (Int × Int × Int)
  | 0 => []
  | b + 1 => rowC l a b ++ if a < b ∧ bad l a b then [((a : Int), (b : Int), kindP (pAt l a) (pAt l b))] else []
def allC (l : List (Int × Int × Int)) : Nat → List (Int × Int × Int)
  | 0 => []
  | a + 1 => allC l a ++ rowC l a l.length
def fullC (l : List (Int × Int × Int)) : List (Int × Int × Int) := allC l l.length
theorem rowC_skip (l : List (Int × Int × Int)) (a b : Nat) (h : b ≤ a + 1) : rowC l a b = [] := by
  induction b with
  | zero => rfl
  | succ b ih => unfold rowC; rw [ih (by omega), if_neg (by omega)]; rfl
theorem rowC_len (l : List (Int × Int × Int)) (a b : Nat) : (rowC l a b).length ≤ b := by
  induction b with
  | zero => simp [rowC]
  | succ b ih => unfold rowC; rw [List.length_append]; split <;> simp <;> omega
theorem allC_len (l : List (Int × Int × Int)) (a : Nat) : (allC l a).length ≤ a * l.length := by
  induction a with
  | zero => simp [allC]
  | succ a ih => unfold allC; rw [List.length_append, Nat.succ_mul]; exact Nat.add_le_add ih (rowC_len l a l.length)
theorem rowC_more {l : List (Int × Int × Int)} {a b b' : Nat} (h : b ≤ b') (hne : rowC l a b ≠ []) : rowC l a b' ≠ [] := by
  induction b' with
  | zero => obtain rfl : b = 0 := by omega
            exact hne
  | succ n ih =>
    by_cases hb : b = n + 1
    · subst hb; exact hne
    · unfold rowC
      intro h0
      exact ih (by omega) (List.append_eq_nil_iff.1 h0).1
theorem allC_more {l : List (Int × Int × Int)} {a a' : Nat} (h : a ≤ a') (hne : allC l a ≠ []) : allC l a' ≠ [] := by
  induction a' with
  | zero => obtain rfl : a = 0 := by omega
            exact hne
  | succ n ih =>
    by_cases hb : a = n + 1
    · subst hb; exact hne
    · unfold allC
      intro h0
      exact ih (by omega) (List.append_eq_nil_iff.1 h0).1
theorem full_ne {l : List (Int × Int × Int)} {a b : Nat} (ha : a < l.length) (hb : b ≤ l.length) (hne : allC l a ++ rowC l a b ≠ []) : fullC l ≠ [] := by
  have h1 : allC l (a + 1) ≠ [] := by
    unfold allC
    intro h0
    obtain ⟨h1, h2⟩ := List.append_eq_nil_iff.1 h0
    by_cases hr : rowC l a b = []
    · exact hne (by rw [h1, hr]; rfl)
    · exact rowC_more hb hr h2
  exact allC_more (by omega) h1
def clashE (l : List (Int × Int × Int)) : List (Int × Int × Int) × Int := if chordE l ≠ 0 then ([], chordE l) else (fullC l, 0)
/-- The pitches without alteration that fit, from a number on. -/
def nP (n : Int) : Int × Int × Int := (n % 7, n / 7, 0)
def fitsN (l : List (Int × Int × Int)) (f : Int) : Nat → List (Int × Int × Int)
  | 0 => []
  | k + 1 => fitsN l f k ++ if fullC (l ++ [nP (f + k)]) = [] then [nP (f + k)] else []
theorem fitsN_len (l : List (Int × Int × Int)) (f : Int) (k : Nat) : (fitsN l f k).length ≤ k := by
  induction k with
  | zero => simp [fitsN]
  | succ k ih => unfold fitsN; rw [List.length_append]; split <;> simp <;> omega
/-- How many rounds the search of fitting pitches has. -/
def fitsK (l : List (Int × Int × Int)) (f t : Int) : Nat := if l.length < 8 then (t + 1 - f).toNat else 0
def fitsE (l : List (Int × Int × Int)) (f t : Int) : List (Int × Int × Int) × Int :=
  if chordE l ≠ 0 then ([], chordE l) else if f < 0 ∨ 62 < f ∨ t < 0 ∨ 62 < t then ([], 2) else (fitsN l f (fitsK l f t), 0)
theorem nP_ok {n : Int} (h0 : 0 ≤ n) (h1 : n ≤ 62) : pchk (nP n) = 0 := by
  unfold pchk nP; rw [if_neg (by simp only; omega)]
theorem ofP_nP {n : Int} (h0 : 0 ≤ n) (h1 : n ≤ 62) : ofP n 0 = (nP n, 0) := by
  unfold ofP nP; rw [if_neg (by omega)]
end Go.Proofs.YtmlcnmnpkemdpaaDoor
