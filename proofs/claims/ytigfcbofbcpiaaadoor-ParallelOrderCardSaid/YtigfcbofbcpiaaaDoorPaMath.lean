
/- Plain mathematics of motions: what a voice sounds in a slice, by how many steps it moves, forbidden motions; no program in sight. -/
import Derived.Test.YtigfcbofbcpiaaaDoorPlain
import Derived.Test.YtigfcbofbcpiaaaDoorChMath
namespace Go.Proofs.YtigfcbofbcpiaaaDoor
/-! ### What sounds in a slice -/
def sndP (v : List Ev) (t : Tm) : Option Ev := match eventAt v t with
  | some x => if x.rest = true then none else some x
  | none => none
def zeroEv : Ev := ⟨(0, 0), (0, 0), (0, 0, 0), false, 0, 0⟩
def sndV (v : List Ev) (t : Tm) : Ev × Bool := match sndP v t with
  | some x => (x, true)
  | none => (zeroEv, false)
def pitA (v : List Ev) (t : Tm) : Int × Int × Int := (sndV v t).1.pit
theorem event_neg {v : List Ev} {t : Tm} (h : onS v t < 0) : eventAt v t = none := by
  unfold eventAt
  cases e : onS v t with
  | ofNat k => rw [e] at h; exact absurd h (by show ¬ ((k : Int) < 0); omega)
  | negSucc k => rfl
theorem event_at {v : List Ev} {t : Tm} {k : Nat} (h : onS v t = (k : Int)) : eventAt v t = v[k]? := by unfold eventAt; rw [h]
theorem sndV_neg {v : List Ev} {t : Tm} (h : onS v t < 0) : sndV v t = (zeroEv, false) := by unfold sndV sndP; rw [event_neg h]
theorem sndV_rest {v : List Ev} {t : Tm} {k : Nat} {x : Ev} (h : onS v t = (k : Int)) (hx : v[k]? = some x) (hr : x.rest = true) : sndV v t = (zeroEv, false) := by
  unfold sndV sndP; rw [event_at h, hx]; simp [hr]
theorem sndV_note {v : List Ev} {t : Tm} {k : Nat} {x : Ev} (h : onS v t = (k : Int)) (hx : v[k]? = some x) (hr : x.rest = false) : sndV v t = (x, true) := by
  unfold sndV sndP; rw [event_at h, hx]; simp [hr]
theorem sndV_val {v : List Ev} {t : Tm} (h : (sndV v t).2 = true) : ∃ (k : Nat), onS v t = (k : Int) ∧ v[k]? = some (sndV v t).1 ∧ (sndV v t).1.rest = false := by
  unfold sndV sndP at h ⊢
  cases ho : onS v t with
  | negSucc k =>
    have e : eventAt v t = none := by unfold eventAt; rw [ho]
    rw [e] at h; simp at h
  | ofNat k =>
    have e : eventAt v t = v[k]? := by unfold eventAt; rw [ho]
    rw [e] at h ⊢
    refine ⟨k, rfl, ?_⟩
    cases hx : v[k]? with
    | none => rw [hx] at h; simp at h
    | some x =>
      rw [hx] at h
      by_cases hr : x.rest = true
      · simp [hr] at h
      · simp [hr]
/-! ### Motions of one voice -/
/-- By how many steps a voice moves into slice n, and whether it does. -/
def mvV (v : List Ev) (m : List Tm) (n : Nat) : Int × Bool :=
  if n < 1 then (0, false)
  else if (sndV v (mAt m (n - 1))).2 = true ∧ (sndV v (mAt m n)).2 = true ∧ (sndV v (mAt m n)).1.at_ = mAt m n then (numP (pitA v (mAt m n)) - numP (pitA v (mAt m (n - 1))), true)
  else (0, false)
/-- Two times at which a voice sounds lie in different events where the second one is the later one's onset. -/
theorem mv_same {l : List (List Ev)} (hz : (checkA l).1 = 0) {v : List Ev} (hv : v ∈ l) {n : Nat} (hn0 : 0 < n) (hn : n < (momS l).length) (h1 : (sndV v (mAt (momS l) (n - 1))).2 = true) (h2 : (sndV v (mAt (momS l) n)).2 = true) :
    (sndV v (mAt (momS l) n)).1.at_ = mAt (momS l) n ↔ onS v (mAt (momS l) n) ≠ onS v (mAt (momS l) (n - 1)) := by
  obtain ⟨_, f2, _, f4, f5⟩ := set_facts hz
  have hval := (f2 v hv).2.1
  obtain ⟨j, ej, xj, _⟩ := sndV_val h1
  obtain ⟨k, ek, xk, _⟩ := sndV_val h2
  have o1 := ok_mAt f5 (i := n - 1) (by omega)
  have o2 := ok_mAt f5 (i := n) hn
  have hlt := sa_lt f4 (i := n - 1) (j := n) (by omega) hn
  -- where the events hold
  have hold : ∀ {t : Tm} {i : Nat} {x : Ev}, ok t → onS v t = (i : Int) → v[i]? = some x → ¬ ltT t x.at_ ∧ ltT t (nextS x) := by
    intro t i x ht hi hx
    rcases on_char hval ht with ⟨i', x', hx', hb, e⟩ | e
    · rw [hi] at e
      have : i' = i := by omega
      subst this
      rw [hx] at hx'; cases hx'
      unfold holdB at hb
      rw [Bool.and_eq_true, decide_eq_true_eq, decide_eq_true_eq] at hb
      exact hb
    · rw [hi] at e; omega
  have b1 := hold o1 ej xj
  have b2 := hold o2 ek xk
  rw [ek, ej]
  constructor
  · intro hat hjk
    have : k = j := by omega
    subst this
    rw [xj] at xk
    have e := Option.some.inj xk
    rw [← e] at hat
    rw [hat] at b1
    exact b1.1 hlt
  · intro hne
    have hle := on_mono hval o1 o2 (ltT_asym hlt) (by rw [ej]; omega) (by rw [ek]; omega)
    rw [ek, ej] at hle
    have hjk : j < k := by omega
    have h3 := (at_lt hval k j _ _ xj xk hjk).2
    have oj := hval.each j _ xj
    have okk := hval.each k _ xk
    have hm : (sndV v (mAt (momS l) n)).1.at_ ∈ momS l := (mem_mom l _).2 ⟨v, hv, _, List.mem_of_getElem? xk, .inl rfl⟩
    obtain ⟨i, hi, e⟩ := List.getElem_of_mem hm
    have ei : mAt (momS l) i = (sndV v (mAt (momS l) n)).1.at_ := mAt_get (by rw [List.getElem?_eq_getElem hi, e])
    rw [← ei] at b2 h3 okk ⊢
    have hlow : ltT (mAt (momS l) (n - 1)) (mAt (momS l) i) := lt_of_le o1 oj.2.1 okk.1 b1.2 h3
    have hin : i = n := by
      rcases Nat.lt_trichotomy i n with h | h | h
      · exact absurd hlow (sa_mono f4 (i := i) (j := n - 1) (by omega) (by omega))
      · exact h
      · exact absurd (sa_lt f4 h hi) b2.1
    rw [hin]
/-! ### Motions of two voices -/
/-- The simple steps of two pitches, and whether their interval is perfect. -/
def prfE (p q : Int × Int × Int) : Int × Bool := ((simI (upI p q)).1, decide (kindP p q = 1))
/-- The kind of the forbidden motion, and the steps. -/
def motE (va vb : List Ev) (m : List Tm) (n : Nat) : Int × Int :=
  if (mvV va m n).2 = false ∨ (mvV vb m n).2 = false ∨ sgn (mvV va m n).1 * sgn (mvV vb m n).1 = 0 then (0, 0)
  else if (prfE (pitA va (mAt m n)) (pitA vb (mAt m n))).2 = false then (0, 0)
  else if (prfE (pitA va (mAt m (n - 1))) (pitA vb (mAt m (n - 1)))).2 = true ∧ (prfE (pitA va (mAt m (n - 1))) (pitA vb (mAt m (n - 1)))).1 = (prfE (pitA va (mAt m n)) (pitA vb (mAt m n))).1 then
    (if sgn (mvV va m n).1 = sgn (mvV vb m n).1 then 1 else 3, (prfE (pitA va (mAt m n)) (pitA vb (mAt m n))).1)
  else if sgn (mvV va m n).1 = sgn (mvV vb m n).1 ∧ (1 < (if numP (pitA vb (mAt m n)) < numP (pitA va (mAt m n)) then (mvV va m n).1 else (mvV vb m n).1) ∨ (if numP (pitA vb (mAt m n)) < numP (pitA va (mAt m n)) then (mvV va m n).1 else (mvV vb m n).1) < -1) then
    (2, (prfE (pitA va (mAt m n)) (pitA vb (mAt m n))).1)
  else (0, 0)
structure Par where
  n : Int
  a : Int
  b : Int
  kind : Int
  steps : Int
def motL (l : List (List Ev)) (m : List Tm) (n a b : Nat) : List Par :=
  if 0 < (motE (l.getD a []) (l.getD b []) m n).1 then [⟨n, a, b, (motE (l.getD a []) (l.getD b []) m n).1, (motE (l.getD a []) (l.getD b []) m n).2⟩] else []
/-- Those of slice n and voice a with the voices from b on, k of them. -/
def rowM (l : List (List Ev)) (m : List Tm) (n a b k : Nat) : List Par := (List.range' b k).flatMap fun j => motL l m n a j
def allM (l : List (List Ev)) (m : List Tm) (n : Nat) : List Par := (List.range l.length).flatMap fun a => rowM l m n a (a + 1) (l.length - (a + 1))
/-- Those of slice n up to the pair (a, b). -/
def accM (l : List (List Ev)) (m : List Tm) (n a b : Nat) : List Par := ((List.range a).flatMap fun j => rowM l m n j (j + 1) (l.length - (j + 1))) ++ rowM l m n a (a + 1) (b - (a + 1))
theorem acc_zero (l : List (List Ev)) (m : List Tm) (n : Nat) : accM l m n 0 1 = [] := by simp [accM, rowM]
theorem acc_next (l : List (List Ev)) (m : List Tm) (n : Nat) {a b : Nat} (h : a < b) : accM l m n a (b + 1) = accM l m n a b ++ motL l m n a b := by
  unfold accM rowM
  rw [show b + 1 - (a + 1) = (b - (a + 1)) + 1 by omega, List.range'_concat, List.flatMap_append, List.append_assoc]
  congr 2
  simp only [List.flatMap_cons, List.flatMap_nil, List.append_nil]
  congr 1
  omega
theorem acc_row (l : List (List Ev)) (m : List Tm) (n a : Nat) : accM l m n a l.length = accM l m n (a + 1) (a + 2) := by
  unfold accM
  rw [List.range_succ, List.flatMap_append]
  simp [rowM]
theorem acc_end (l : List (List Ev)) (m : List Tm) (n : Nat) : accM l m n l.length (l.length + 1) = allM l m n := by
  unfold accM allM
  simp [rowM]
theorem motL_len (l : List (List Ev)) (m : List Tm) (n a b : Nat) : (motL l m n a b).length ≤ 1 := by unfold motL; split <;> simp
theorem flat_bd {α β : Type} (f : α → List β) (c : Nat) (h : ∀ x, (f x).length ≤ c) : ∀ l : List α, (l.flatMap f).length ≤ l.length * c
  | [] => by simp
  | x :: l => by
    rw [List.flatMap_cons, List.length_append, List.length_cons, Nat.succ_mul]
    have := h x; have := flat_bd f c h l; omega
theorem rowM_len (l : List (List Ev)) (m : List Tm) (n a b k : Nat) : (rowM l m n a b k).length ≤ k := by
  unfold rowM
  have := flat_bd (fun j => motL l m n a j) 1 (fun x => motL_len l m n a x) (List.range' b k)
  rw [List.length_range'] at this
  omega
theorem accM_len (l : List (List Ev)) (m : List Tm) (n a b : Nat) (h8 : l.length ≤ 8) (ha : a ≤ 8) (hb : b ≤ 9) : (accM l m n a b).length ≤ 100 := by
  unfold accM
  rw [List.length_append]
  have h1 := rowM_len l m n a (a + 1) (b - (a + 1))
  have h2 := flat_bd (fun j => rowM l m n j (j + 1) (l.length - (j + 1))) 8 (fun x => Nat.le_trans (rowM_len l m n x (x + 1) _) (by omega)) (List.range a)
  rw [List.length_range] at h2
  omega
theorem allM_len (l : List (List Ev)) (m : List Tm) (n : Nat) (h8 : l.length ≤ 8) : (allM l m n).length ≤ 100 := by
  rw [← acc_end]; exact accM_len l m n _ _ h8 h8 (by omega)
theorem all_len (l : List (List Ev)) (m : List Tm) (h8 : l.length ≤ 8) (k : Nat) : ((List.range k).flatMap (allM l m)).length ≤ k * 100 := by
  have := flat_bd (allM l m) 100 (fun n => allM_len l m n h8) (List.range k)
  rwa [List.length_range] at this
def findE (l : List (List Ev)) : List Par × Int := if (slicesE l).2 ≠ 0 then ([], (slicesE l).2) else ((List.range ((momS l).length - 1)).flatMap (allM l (momS l)), 0)
def movesE (l : List (List Ev)) (voice n : Int) : Int × Int :=
  if (slicesE l).2 ≠ 0 then (0, (slicesE l).2)
  else if voice < 0 ∨ (l.length : Int) ≤ voice ∨ n < 0 ∨ (((momS l).length - 1 : Nat) : Int) ≤ n then (0, 2)
  else if (mvV (l.getD voice.toNat []) (momS l) n.toNat).2 = true then ((mvV (l.getD voice.toNat []) (momS l) n.toNat).1, 0) else (0, 18)
def pairE (l : List (List Ev)) (a b : Int) : List Par × Int :=
  if (findE l).2 ≠ 0 then ([], (findE l).2)
  else if a < 0 ∨ b < 0 ∨ (l.length : Int) ≤ a ∨ (l.length : Int) ≤ b ∨ a = b then ([], 2)
  else ((findE l).1.filter fun p => decide (p.a = min a b) && decide (p.b = max a b), 0)
def cntP (k : Int) (l : List Par) : Int := ((l.filter fun p => decide (p.kind = k)).length : Nat)
def countE (l : List (List Ev)) : List Int × Int :=
  if (findE l).2 ≠ 0 then ([], (findE l).2) else ([((findE l).1.length : Nat), cntP 1 (findE l).1, cntP 2 (findE l).1, cntP 3 (findE l).1], 0)
def zeroPar : Par := ⟨0, 0, 0, 0, 0⟩
def firstP (l : List (List Ev)) : Par × Bool × Int := match (findE l).1 with
  | [] => (zeroPar, false, (findE l).2)
  | p :: _ => if (findE l).2 ≠ 0 then (zeroPar, false, (findE l).2) else (p, true, 0)
end Go.Proofs.YtigfcbofbcpiaaaDoor
