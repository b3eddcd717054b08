/- Plain mathematics of voices: events, whether they are a voice, chains, changes; no program in sight. -/
import Derived.Test.YtbljfaocmeeljaaAlg
namespace Go.Proofs.Ytbljfaocmeeljaa

/-- An event: onset, duration, pitch (step, octave, alteration), whether it rests, sign, pass. -/
structure Ev where
  at_ : Int × Int
  dur : Int × Int
  pit : Int × Int × Int
  rest : Bool
  sign : Int
  pass : Int
def pchk (p : Int × Int × Int) : Int := if p.1 < 0 ∨ 6 < p.1 ∨ p.2.1 < 0 ∨ 8 < p.2.1 ∨ p.2.2 < -1 ∨ 1 < p.2.2 then 2 else 0
/-- The error of an event, without its place. -/
def oneS (x : Ev) : Int :=
  if chk x.at_.1 x.at_.2 ≠ 0 then chk x.at_.1 x.at_.2
  else if chk x.dur.1 x.dur.2 ≠ 0 then chk x.dur.1 x.dur.2
  else if x.dur.1 = 0 then 2
  else if x.rest = true ∧ x.pit ≠ (0, 0, 0) then 3
  else if x.rest = false ∧ pchk x.pit ≠ 0 then pchk x.pit
  else if x.sign < 0 ∨ x.pass < 0 then 2 else 0
/-- The error of an event behind a time. -/
def stepS (now : Int × Int) (x : Ev) : Int := if oneS x ≠ 0 then oneS x else if x.at_ ≠ now then 6 else (addS x.at_ x.dur).2.2
def nextS (x : Ev) : Int × Int := ((addS x.at_ x.dur).1, (addS x.at_ x.dur).2.1)
/-- The first error of events from a time on, and its place. -/
def checkFrom (now : Int × Int) (i : Int) : List Ev → Int × Int
  | [] => (0, 0)
  | x :: l => if stepS now x ≠ 0 then (stepS now x, i) else checkFrom (nextS x) (i + 1) l
def checkS (l : List Ev) : Int × Int := if 2000 < l.length then (11, 0) else checkFrom (0, 1) 0 l
/-- The end of a voice: numerator, denominator, error. -/
def endS (l : List Ev) : Int × Int × Int :=
  if (checkS l).1 ≠ 0 then (0, 0, (checkS l).1) else match l.getLast? with | none => (0, 1, 0) | some x => addS x.at_ x.dur
/-- Events one behind the other, from a time on. -/
def chainFrom (now : Int × Int) : List Ev → List Ev × Int
  | [] => ([], 0)
  | x :: l => if (addS now x.dur).2.2 ≠ 0 then ([], (addS now x.dur).2.2)
    else if (chainFrom ((addS now x.dur).1, (addS now x.dur).2.1) l).2 ≠ 0 then ([], (chainFrom ((addS now x.dur).1, (addS now x.dur).2.1) l).2)
    else ({ x with at_ := now } :: (chainFrom ((addS now x.dur).1, (addS now x.dur).2.1) l).1, 0)
def chainS (l : List Ev) : List Ev × Int := chainFrom (0, 1) l
/-- A change of all events; the first error. -/
def mapS (g : Ev → Ev × Int) : List Ev → List Ev × Int
  | [] => ([], 0)
  | x :: l => if (g x).2 ≠ 0 then ([], (g x).2) else if (mapS g l).2 ≠ 0 then ([], (mapS g l).2) else ((g x).1 :: (mapS g l).1, 0)
/-- A change, and the chain. -/
def allS (g : Ev → Ev × Int) (l : List Ev) : List Ev × Int := if (mapS g l).2 ≠ 0 then ([], (mapS g l).2) else chainS (mapS g l).1

/-! ### Pitches -/
def numP (p : Int × Int × Int) : Int := 7 * p.2.1 + p.1
/-- The pitch of a number and an alteration, and the error. -/
def ofP (n a : Int) : (Int × Int × Int) × Int := if n < 0 ∨ 62 < n ∨ a < -1 ∨ 1 < a then ((0, 0, 0), 2) else ((n % 7, n / 7, a), 0)
def moveP (p : Int × Int × Int) (steps : Int) : (Int × Int × Int) × Int := if pchk p ≠ 0 then ((0, 0, 0), pchk p) else if steps < -62 ∨ 62 < steps then ((0, 0, 0), 2) else ofP (numP p + steps) p.2.2
def mirrorP (p axis : Int × Int × Int) : (Int × Int × Int) × Int := if pchk p ≠ 0 then ((0, 0, 0), pchk p) else if pchk axis ≠ 0 then ((0, 0, 0), pchk axis) else ofP (2 * numP axis - numP p) (-p.2.2)
/-- What a change of pitches makes of an event. -/
def pitchedS (f : Int × Int × Int → (Int × Int × Int) × Int) (x : Ev) : Ev × Int := if x.rest = true then (x, 0) else ({ x with pit := (f x.pit).1 }, (f x.pit).2)
def stretchedS (by_ : Int × Int) (x : Ev) : Ev × Int := ({ x with dur := ((mulS x.dur by_).1, (mulS x.dur by_).2.1) }, (mulS x.dur by_).2.2)

/-! ### The transformations -/
def retroS (l : List Ev) : List Ev × Int := if (checkS l).1 ≠ 0 then ([], (checkS l).1) else chainS l.reverse
def mirrorS (l : List Ev) (axis : Int × Int × Int) : List Ev × Int := if (checkS l).1 ≠ 0 then ([], (checkS l).1) else if pchk axis ≠ 0 then ([], pchk axis) else allS (pitchedS fun p => mirrorP p axis) l
def moveS (l : List Ev) (steps : Int) : List Ev × Int := if (checkS l).1 ≠ 0 then ([], (checkS l).1) else allS (pitchedS fun p => moveP p steps) l
/-- The error of a time that has to be above 0. -/
def aboveS (t : Int × Int) : Int := if chk t.1 t.2 ≠ 0 then chk t.1 t.2 else if t.1 = 0 then 5 else 0
def stretchS (l : List Ev) (b : Int × Int) : List Ev × Int := if (checkS l).1 ≠ 0 then ([], (checkS l).1) else if aboveS b ≠ 0 then ([], aboveS b) else allS (stretchedS b) l
def restEv (b : Int × Int) : Ev := { at_ := (0, 0), dur := b, pit := (0, 0, 0), rest := true, sign := 0, pass := 0 }
def delayS (l : List Ev) (b : Int × Int) : List Ev × Int := if (checkS l).1 ≠ 0 then ([], (checkS l).1) else if aboveS b ≠ 0 then ([], aboveS b) else if 2000 ≤ l.length then ([], 11) else chainS (restEv b :: l)
def joinS (l m : List Ev) : List Ev × Int := if (checkS l).1 ≠ 0 then ([], (checkS l).1) else if (checkS m).1 ≠ 0 then ([], (checkS m).1) else if 2000 < l.length + m.length then ([], 11) else chainS (l ++ m)
def lessS (a b : Int × Int) : Prop := (cmpS a b).1 < 0
instance (a b : Int × Int) : Decidable (lessS a b) := inferInstanceAs (Decidable (_ < _))
/-- What is left of an event between two times: nothing, or the event with its duration there; or an error. -/
def cutOne (f t : Int × Int) (x : Ev) : List Ev × Int :=
  let a := if lessS x.at_ f then f else x.at_
  let b := if lessS t (nextS x) then t else nextS x
  if lessS a b then (if (subS b a).2.2 ≠ 0 then ([], (subS b a).2.2) else ([{ x with dur := ((subS b a).1, (subS b a).2.1) }], 0)) else ([], 0)
def cutAll (f t : Int × Int) : List Ev → List Ev × Int
  | [] => ([], 0)
  | x :: l => if (cutOne f t x).2 ≠ 0 then ([], (cutOne f t x).2) else if (cutAll f t l).2 ≠ 0 then ([], (cutAll f t l).2) else ((cutOne f t x).1 ++ (cutAll f t l).1, 0)
def cutS (l : List Ev) (f t : Int × Int) : List Ev × Int :=
  if (endS l).2.2 ≠ 0 then ([], (endS l).2.2)
  else if both f t ≠ 0 then ([], both f t)
  else if lessS t f ∨ lessS ((endS l).1, (endS l).2.1) t then ([], 2)
  else if (cutAll f t l).2 ≠ 0 then ([], (cutAll f t l).2) else chainS (cutAll f t l).1

theorem cf_one {now : Int × Int} {i : Int} {x : Ev} {l : List Ev} (h : oneS x ≠ 0) : checkFrom now i (x :: l) = (oneS x, i) := by
  have : stepS now x = oneS x := by unfold stepS; rw [if_pos h]
  rw [checkFrom, this, if_pos h]
theorem cf_at {now : Int × Int} {i : Int} {x : Ev} {l : List Ev} (h : oneS x = 0) (ha : x.at_ ≠ now) : checkFrom now i (x :: l) = (6, i) := by
  have : stepS now x = 6 := by unfold stepS; rw [if_neg (by rw [h]; exact fun h => h rfl), if_pos ha]
  rw [checkFrom, this, if_pos (by decide)]
theorem cf_add {now : Int × Int} {i : Int} {x : Ev} {l : List Ev} (h : oneS x = 0) (ha : x.at_ = now) (he : (addS x.at_ x.dur).2.2 ≠ 0) : checkFrom now i (x :: l) = ((addS x.at_ x.dur).2.2, i) := by
  have : stepS now x = (addS x.at_ x.dur).2.2 := by unfold stepS; rw [if_neg (by rw [h]; exact fun h => h rfl), if_neg (by rw [ha]; exact fun h => h rfl)]
  rw [checkFrom, this, if_pos he]
theorem cf_next {now : Int × Int} {i : Int} {x : Ev} {l : List Ev} (h : oneS x = 0) (ha : x.at_ = now) (he : (addS x.at_ x.dur).2.2 = 0) : checkFrom now i (x :: l) = checkFrom ((addS x.at_ x.dur).1, (addS x.at_ x.dur).2.1) (i + 1) l := by
  have : stepS now x = (addS x.at_ x.dur).2.2 := by unfold stepS; rw [if_neg (by rw [h]; exact fun h => h rfl), if_neg (by rw [ha]; exact fun h => h rfl)]
  rw [checkFrom, this, he, if_neg (fun h => h rfl)]; rfl
/-! ### A voice that is one is chained as it is -/
theorem chain_of_check (l : List Ev) : ∀ (now : Int × Int) (i : Int), 0 ≤ i → (checkFrom now i l).1 = 0 → chainFrom now l = (l, 0) := by
  induction l with
  | nil => intro now i _ _; rfl
  | cons x l ih =>
    intro now i hi h
    rw [checkFrom] at h
    split at h
    · rename_i hs; exact absurd h hs
    · rename_i hs
      have hs' : stepS now x = 0 := by simpa using hs
      unfold stepS at hs'
      split at hs'
      · rename_i h1; exact absurd hs' h1
      · split at hs'
        · cases hs'
        · rename_i h1 h2
          have hat : x.at_ = now := by simpa using h2
          subst hat
          have := ih (nextS x) (i + 1) (by omega) h
          rw [chainFrom, hs', if_neg (fun h => h rfl)]
          unfold nextS at this
          rw [this, if_neg (fun h => h rfl)]
theorem chain_valid (l : List Ev) (h : (checkS l).1 = 0) : chainS l = (l, 0) := by
  unfold checkS at h
  split at h
  · cases h
  · exact chain_of_check l _ 0 (by omega) h
/-- Changes that keep durations keep the chain. -/
theorem mapS_len (g : Ev → Ev × Int) (l : List Ev) (h : (mapS g l).2 = 0) : (mapS g l).1.length = l.length := by
  induction l with
  | nil => rfl
  | cons x l ih =>
    rw [mapS] at h ⊢
    split at h
    · rename_i h1; exact absurd h h1
    · split at h
      · rename_i h1 h2; exact absurd h h2
      · rename_i h1 h2
        rw [if_neg h1, if_neg h2]
        simp only [List.length_cons]
        rw [ih (by simpa using h2)]
theorem chain_map (g : Ev → Ev × Int) (hg : ∀ x, (g x).2 = 0 → (g x).1.dur = x.dur ∧ (g x).1.at_ = x.at_) (l : List Ev) : ∀ now, chainFrom now l = (l, 0) → (mapS g l).2 = 0 → chainFrom now (mapS g l).1 = ((mapS g l).1, 0) := by
  induction l with
  | nil => intro now _ _; rfl
  | cons x l ih =>
    intro now hc h
    rw [mapS] at h ⊢
    split at h
    · rename_i h1; exact absurd h h1
    · split at h
      · rename_i h1 h2; exact absurd h h2
      · rename_i h1 h2
        rw [if_neg h1, if_neg h2]
        obtain ⟨gd, ga⟩ := hg x (by simpa using h1)
        rw [chainFrom] at hc ⊢
        simp only [gd]
        split at hc
        · cases hc
        · rename_i h3
          split at hc
          · cases hc
          · rename_i h4
            rw [if_neg h3]
            simp only [Prod.mk.injEq, List.cons.injEq, and_true] at hc
            have := ih _ (Prod.ext hc.2 (by simpa using h4)) (by simpa using h2)
            rw [this, if_neg (fun h => h rfl)]
            congr 2
            have e := congrArg Ev.at_ hc.1
            simp only at e
            rw [← ga] at e
            rw [e, ← gd]
theorem pitched_keeps (f : Int × Int × Int → (Int × Int × Int) × Int) (x : Ev) : (pitchedS f x).1.dur = x.dur ∧ (pitchedS f x).1.at_ = x.at_ := by
  unfold pitchedS; split <;> exact ⟨rfl, rfl⟩
/-- What the reference makes: the changed events, without a chain. -/
theorem all_pitched (f : Int × Int × Int → (Int × Int × Int) × Int) (l : List Ev) (h : (checkS l).1 = 0) : allS (pitchedS f) l = mapS (pitchedS f) l := by
  unfold allS
  split
  · rename_i h1
    have : ∀ l, (mapS (pitchedS f) l).2 ≠ 0 → (mapS (pitchedS f) l).1 = [] := by
      intro l
      induction l with
      | nil => intro _; rfl
      | cons x l ih =>
        rw [mapS]
        split
        · intro _; rfl
        · split
          · intro _; rfl
          · intro h; exact absurd rfl h
    exact (Prod.ext (this l h1) rfl : mapS (pitchedS f) l = ([], (mapS (pitchedS f) l).2)).symm
  · rename_i h1
    unfold chainS
    rw [chain_map _ (fun x _ => pitched_keeps f x) l _ (chain_valid l h) (by simpa using h1)]
    exact Prod.ext rfl (by simpa using h1 : (mapS (pitchedS f) l).2 = 0).symm
end Go.Proofs.Ytbljfaocmeeljaa
