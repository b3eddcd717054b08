/- What End, At, Starts and Back answer: plain mathematics, no program in sight. -/
import Derived.Test.YtbljfaocmeeljaaAlSl
namespace Go.Proofs.Ytbljfaocmeeljaa
/-! ### The end, a time's slice -/
def endT (m : List Tm) : Tm := if m.length = 0 then (0, 1) else mAt m (m.length - 1)
def endE (l : List (List Ev)) : Tm × Int := if (slicesE l).2 ≠ 0 then ((0, 0), (slicesE l).2) else (endT (momS l), 0)
def atFrom (m : List Tm) (t : Tm) : Nat → Nat → Int × Int
  | _, 0 => (0, 2)
  | i, k + 1 => if ¬ ltT t (mAt m i) ∧ ltT t (mAt m (i + 1)) then ((i : Int), 0) else atFrom m t (i + 1) k
def atE (l : List (List Ev)) (t : Tm) : Int × Int :=
  if (slicesE l).2 ≠ 0 then (0, (slicesE l).2) else if chk t.1 t.2 ≠ 0 then (0, chk t.1 t.2) else atFrom (momS l) t 0 ((momS l).length - 1)
theorem slicesE_ok {l : List (List Ev)} (h : (slicesE l).2 = 0) : (checkA l).1 = 0 ∧ slicesE l = ((List.range ((momS l).length - 1)).map (slOf l (momS l)), 0) := by
  unfold slicesE at h ⊢
  by_cases h1 : (checkA l).1 ≠ 0
  · rw [if_pos h1] at h; exact absurd h h1
  · rw [if_neg h1] at h ⊢
    by_cases h2 : durFrom (momS l) 0 ((momS l).length - 1) ≠ 0
    · rw [if_pos h2] at h; exact absurd h h2
    · rw [if_neg h2]; exact ⟨by omega, rfl⟩
theorem slicesE_err {l : List (List Ev)} (h : (slicesE l).2 ≠ 0) : (slicesE l).1 = [] := by
  unfold slicesE at h ⊢
  by_cases h1 : (checkA l).1 ≠ 0
  · rw [if_pos h1]
  · rw [if_neg h1] at h ⊢
    by_cases h2 : durFrom (momS l) 0 ((momS l).length - 1) ≠ 0
    · rw [if_pos h2]
    · rw [if_neg h2] at h; exact absurd rfl h
theorem mAt_get {m : List Tm} {i : Nat} {x : Tm} (h : m[i]? = some x) : mAt m i = x := by simp [mAt, List.getD, h]
theorem sa_lt {m : List Tm} (h : SA m) {i j : Nat} (hij : i < j) (hj : j < m.length) : ltT (mAt m i) (mAt m j) := by
  have := List.pairwise_iff_getElem.1 h i j (by omega) hj hij
  rw [mAt_get (List.getElem?_eq_getElem (by omega : i < m.length)), mAt_get (List.getElem?_eq_getElem hj)]
  exact this
theorem sa_mono {m : List Tm} (h : SA m) {i j : Nat} (hij : i ≤ j) (hj : j < m.length) : ¬ ltT (mAt m j) (mAt m i) := by
  rcases Nat.lt_or_ge i j with h1 | h1
  · exact ltT_asym (sa_lt h h1 hj)
  · rw [show i = j by omega]; exact ltT_irr _
theorem ok_mAt {m : List Tm} (ho : OkL m) {i : Nat} (hi : i < m.length) : ok (mAt m i) := ho _ (List.mem_of_getElem? (mAt_some hi))
theorem at_one {m : List Tm} (h : SA m) (ho : OkL m) {t : Tm} (ht : ok t) {n : Nat} (hn : n + 1 < m.length) (h1 : ¬ ltT t (mAt m n)) (h2 : ltT t (mAt m (n + 1))) : ∀ (k i : Nat), i ≤ n → n < i + k → atFrom m t i k = ((n : Int), 0)
  | 0, i, a, b => by omega
  | k + 1, i, a, b => by
    unfold atFrom
    by_cases e : i = n
    · subst e; rw [if_pos ⟨h1, h2⟩]
    · rw [if_neg, at_one h ho ht hn h1 h2 k (i + 1) (by omega) (by omega)]
      rintro ⟨_, h4⟩
      have := sa_mono h (i := i + 1) (j := n) (by omega) (by omega)
      exact h1 (lt_of_le ht (ok_mAt ho (by omega)) (ok_mAt ho (by omega)) h4 this)
theorem at_none {m : List Tm} (h : SA m) (ho : OkL m) {t : Tm} (ht : ok t) (he : ¬ ltT t (endT m)) : ∀ (k i : Nat), i + k ≤ m.length - 1 → atFrom m t i k = (0, 2)
  | 0, i, _ => rfl
  | k + 1, i, hk => by
    unfold atFrom
    rw [if_neg, at_none h ho ht he k (i + 1) (by omega)]
    rintro ⟨_, h4⟩
    unfold endT at he
    rw [if_neg (by omega)] at he
    exact he (lt_of_le ht (ok_mAt ho (by omega)) (ok_mAt ho (by omega)) h4 (sa_mono h (i := i + 1) (j := m.length - 1) (by omega) (by omega)))
/-! ### Who starts -/
def startB (v : List Ev) (t : Tm) : Bool := match onS v t with
  | .ofNat k => match v[k]? with | some x => decide (x.at_ = t) | none => false
  | .negSucc _ => false
def startsE (l : List (List Ev)) (n : Int) : List Bool × Int :=
  if (slicesE l).2 ≠ 0 then ([], (slicesE l).2) else if n < 0 ∨ ((slicesE l).1.length : Int) ≤ n then ([], 2) else (l.map fun v => startB v (mAt (momS l) n.toNat), 0)
/-! ### Sums of slices -/
abbrev Pt := Int × Tm
def sumI (i : Int) : Tm → List Pt → Tm × Int
  | t, [] => (t, 0)
  | t, p :: es => if p.1 ≠ i then sumI i t es else if (addS t p.2).2.2 ≠ 0 then ((0, 0), (addS t p.2).2.2) else sumI i ((addS t p.2).1, (addS t p.2).2.1) es
def backFrom (es : List Pt) : Nat → Nat → List Tm × Int
  | _, 0 => ([], 0)
  | i, k + 1 => if (sumI i (0, 1) es).2 ≠ 0 then ([], (sumI i (0, 1) es).2) else if (backFrom es (i + 1) k).2 ≠ 0 then ([], (backFrom es (i + 1) k).2) else ((sumI i (0, 1) es).1 :: (backFrom es (i + 1) k).1, 0)
def backP : List Tm → List Pt → List Tm × Int
  | out, [] => (out, 0)
  | out, p :: es => if p.1 < 0 then backP out es else if (addS (mAt out p.1.toNat) p.2).2.2 ≠ 0 then ([], (addS (mAt out p.1.toNat) p.2).2.2) else backP (out.set p.1.toNat ((addS (mAt out p.1.toNat) p.2).1, (addS (mAt out p.1.toNat) p.2).2.1)) es
theorem back_succ (es : List Pt) (i k : Nat) : backFrom es i (k + 1) = if (sumI i (0, 1) es).2 ≠ 0 then ([], (sumI i (0, 1) es).2) else if (backFrom es (i + 1) k).2 ≠ 0 then ([], (backFrom es (i + 1) k).2) else ((sumI i (0, 1) es).1 :: (backFrom es (i + 1) k).1, 0) := rfl
theorem back_skip {p : Pt} {es : List Pt} : ∀ (k i : Nat), p.1 < i → backFrom (p :: es) i k = backFrom es i k
  | 0, _, _ => rfl
  | k + 1, i, h => by
    have e : sumI i (0, 1) (p :: es) = sumI i (0, 1) es := by conv => lhs; unfold sumI; rw [if_pos (by omega)]
    unfold backFrom
    rw [e, back_skip k (i + 1) (by push_cast; omega)]
theorem back_nil : ∀ (k i : Nat), backFrom [] i k = (List.replicate k (0, 1), 0)
  | 0, _ => rfl
  | k + 1, i => by
    unfold backFrom
    rw [if_neg (by simp [sumI]), back_nil k (i + 1), if_neg (by simp)]
    simp [sumI, List.replicate_succ]
theorem sum_none {i : Int} {t : Tm} : ∀ {es : List Pt}, (∀ p ∈ es, p.1 ≠ i) → sumI i t es = (t, 0)
  | [], _ => rfl
  | p :: es, h => by unfold sumI; rw [if_pos (h p (by simp))]; exact sum_none (fun q hq => h q (by simp [hq]))
/-- The answer behind voices done, with a sum begun. -/
def backAt (done : List Tm) (t : Tm) (i k : Nat) (es : List Pt) : List Tm × Int :=
  if (sumI i t es).2 ≠ 0 then ([], (sumI i t es).2) else if (backFrom es (i + 1) k).2 ≠ 0 then ([], (backFrom es (i + 1) k).2) else (done ++ (sumI i t es).1 :: (backFrom es (i + 1) k).1, 0)
theorem back_step : ∀ (N : Nat) (es : List Pt) (k i : Nat) (done : List Tm) (t : Tm), es.length + k = N → done.length = i → es.Pairwise (fun p q => 0 ≤ p.1 → 0 ≤ q.1 → p.1 ≤ q.1) →
    (∀ p ∈ es, 0 ≤ p.1 → (i : Int) ≤ p.1 ∧ p.1 < (i : Int) + k + 1) → backP (done ++ t :: List.replicate k (0, 1)) es = backAt done t i k es := by
  intro N
  induction N with
  | zero =>
    intro es k i done t hN hd hp hb
    have e1 : es = [] := List.length_eq_zero_iff.1 (by omega)
    have e2 : k = 0 := by omega
    subst e1 e2
    simp [backP, backAt, sumI, backFrom]
  | succ N ih =>
    intro es k i done t hN hd hp hb
    cases es with
    | nil => simp [backP, backAt, sumI, back_nil]
    | cons p es =>
      obtain ⟨hp1, hp2⟩ := List.pairwise_cons.1 hp
      have hb2 : ∀ q ∈ es, 0 ≤ q.1 → (i : Int) ≤ q.1 ∧ q.1 < (i : Int) + k + 1 := fun q hq => hb q (by simp [hq])
      by_cases hneg : p.1 < 0
      · have e1 : sumI i t (p :: es) = sumI i t es := by conv => lhs; unfold sumI; rw [if_pos (by omega)]
        unfold backP
        rw [if_pos hneg, ih es k i done t (by simp at hN; omega) hd hp2 hb2]
        unfold backAt
        rw [e1, back_skip k (i + 1) (by push_cast; omega)]
      · obtain ⟨h1, h2⟩ := hb p (by simp) (by omega)
        by_cases he : p.1 = i
        · have e0 : p.1.toNat = i := by omega
          have e1 : mAt (done ++ t :: List.replicate k (0, 1)) i = t := mAt_get (by rw [List.getElem?_append_right (by omega)]; simp [hd])
          unfold backP
          rw [if_neg hneg, e0, e1]
          by_cases hx : (addS t p.2).2.2 ≠ 0
          · rw [if_pos hx]
            have e2 : sumI i t (p :: es) = ((0, 0), (addS t p.2).2.2) := by unfold sumI; rw [if_neg (by omega), if_pos hx]
            unfold backAt
            rw [e2, if_pos hx]
          · rw [if_neg hx]
            have e2 : sumI i t (p :: es) = sumI i ((addS t p.2).1, (addS t p.2).2.1) es := by conv => lhs; unfold sumI; rw [if_neg (by omega), if_neg hx]
            have e3 : (done ++ t :: List.replicate k (0, 1)).set i ((addS t p.2).1, (addS t p.2).2.1) = done ++ ((addS t p.2).1, (addS t p.2).2.1) :: List.replicate k (0, 1) := by
              rw [List.set_append_right _ _ (by omega)]; simp [hd]
            rw [e3, ih es k i done _ (by simp at hN; omega) hd hp2 hb2]
            unfold backAt
            rw [e2, back_skip k (i + 1) (by push_cast; omega)]
        · cases k with
          | zero => omega
          | succ k =>
            have hall : ∀ q ∈ p :: es, 0 ≤ q.1 → ((i + 1 : Nat) : Int) ≤ q.1 ∧ q.1 < ((i + 1 : Nat) : Int) + k + 1 := by
              intro q hq hq0
              have := hb q hq hq0
              rcases List.mem_cons.1 hq with rfl | hq2
              · constructor <;> push_cast at * <;> omega
              · have := hp1 q hq2 (by omega) hq0
                constructor <;> push_cast at * <;> omega
            have hne : ∀ q ∈ p :: es, q.1 ≠ (i : Int) := by
              intro q hq e
              have := hall q hq (by omega)
              push_cast at this; omega
            have e4 : done ++ t :: List.replicate (k + 1) (0, 1) = (done ++ [t]) ++ (0, 1) :: List.replicate k (0, 1) := by simp [List.replicate_succ]
            rw [e4, ih (p :: es) k (i + 1) (done ++ [t]) (0, 1) (by simp at hN ⊢; omega) (by simp [hd]) hp hall]
            unfold backAt
            rw [sum_none hne, back_succ]
            by_cases h5 : (sumI ((i + 1 : Nat) : Int) (0, 1) (p :: es)).2 ≠ 0
            · simp only [if_pos h5]; simp
            · by_cases h6 : (backFrom (p :: es) (i + 1 + 1) k).2 ≠ 0
              · simp only [if_neg h5, if_pos h6]; simp
              · simp only [if_neg h5, if_neg h6]; simp
theorem back_eq {es : List Pt} {n : Nat} (hp : es.Pairwise (fun p q => 0 ≤ p.1 → 0 ≤ q.1 → p.1 ≤ q.1)) (hb : ∀ p ∈ es, p.1 < (n : Int)) : backP (List.replicate n (0, 1)) es = backFrom es 0 n := by
  cases n with
  | zero =>
    have : ∀ (es : List Pt), (∀ p ∈ es, p.1 < (0 : Int)) → backP [] es = ([], 0) := by
      intro es
      induction es with
      | nil => intro _; rfl
      | cons p es ih => intro h; unfold backP; rw [if_pos (h p (by simp))]; exact ih (fun q hq => h q (by simp [hq]))
    exact this es (by simpa using hb)
  | succ n =>
    rw [List.replicate_succ]
    have := back_step _ es n 0 [] (0, 1) rfl rfl hp (fun p hp h0 => ⟨h0, by have := hb p hp; push_cast at this; omega⟩)
    rw [List.nil_append] at this
    rw [this]
    unfold backAt
    conv => rhs; unfold backFrom
    simp
/-- The durations of the events of a voice. -/
def ptsOf (l : List (List Ev)) (v : List Ev) : List Pt := (List.range ((momS l).length - 1)).map fun k => (onS v (mAt (momS l) k), (durE (momS l) k).1)
def backE (l : List (List Ev)) (voice : Int) : List Tm × Int :=
  if (slicesE l).2 ≠ 0 then ([], (slicesE l).2) else if voice < 0 ∨ (l.length : Int) ≤ voice then ([], 2) else backFrom (ptsOf l (l.getD voice.toNat [])) 0 (l.getD voice.toNat []).length
/-- Where an event holds, or the voice has ended. -/
theorem on_char {v : List Ev} (h : Val v) {t : Tm} (ht : ok t) : (∃ k x, v[k]? = some x ∧ holdB x t = true ∧ onS v t = (k : Nat)) ∨ onS v t = -1 := by
  by_cases hh : ∃ x ∈ v, holdB x t = true
  · obtain ⟨x, hx, hb⟩ := hh
    obtain ⟨k, hk⟩ := List.mem_iff_getElem?.1 hx
    refine .inl ⟨k, x, hk, hb, ?_⟩
    unfold onS
    rw [on_some k 0 hk hb (fun j y hj hy => ?_)]
    · omega
    · have h1 := (at_lt h k j y x hy hk hj).2
      unfold holdB at hb ⊢
      rw [Bool.and_eq_true, decide_eq_true_eq, decide_eq_true_eq] at hb
      have ey := h.each j y hy
      have ex := h.each k x hk
      rw [decide_eq_false (p := ltT t (nextS y)) (leT_trans ey.2.1 ex.1 ht h1 hb.1), Bool.and_false]
  · refine .inr (on_none (fun x hx => ?_) 0)
    cases hb : holdB x t
    · rfl
    · exact absurd ⟨x, hx, hb⟩ hh
theorem on_lt {v : List Ev} (h : Val v) {t : Tm} (ht : ok t) : onS v t < (v.length : Int) := by
  rcases on_char h ht with ⟨k, x, hk, _, e⟩ | e
  · rw [e]; have := (List.getElem?_eq_some_iff.1 hk).1; omega
  · rw [e]; omega
theorem on_mono {v : List Ev} (h : Val v) {t u : Tm} (ht : ok t) (hu : ok u) (hle : ¬ ltT u t) (h0 : 0 ≤ onS v t) (h1 : 0 ≤ onS v u) : onS v t ≤ onS v u := by
  rcases on_char h ht with ⟨k, x, hk, hb, e⟩ | e
  · rcases on_char h hu with ⟨j, y, hj, hc, f⟩ | f
    · rw [e, f]
      rcases Nat.lt_or_ge j k with hlt | hge
      · exfalso
        have h2 := (at_lt h k j y x hj hk hlt).2
        unfold holdB at hb hc
        rw [Bool.and_eq_true, decide_eq_true_eq, decide_eq_true_eq] at hb hc
        have ey := h.each j y hj
        have ex := h.each k x hk
        exact leT_trans ey.2.1 ex.1 hu h2 (leT_trans ex.1 ht hu hb.1 hle) hc.2
      · omega
    · rw [f] at h1; omega
  · rw [e] at h0; omega
theorem pts_mono {l : List (List Ev)} (hz : (checkA l).1 = 0) {v : List Ev} (hv : v ∈ l) : (ptsOf l v).Pairwise (fun p q => 0 ≤ p.1 → 0 ≤ q.1 → p.1 ≤ q.1) ∧ ∀ p ∈ ptsOf l v, p.1 < (v.length : Int) := by
  obtain ⟨_, f2, _, f4, f5⟩ := set_facts hz
  have hval := (f2 v hv).2.1
  constructor
  · unfold ptsOf
    rw [List.pairwise_map]
    refine List.Pairwise.imp_of_mem ?_ List.pairwise_lt_range
    intro a b ha hb hab h0 h1
    rw [List.mem_range] at ha hb
    exact on_mono hval (ok_mAt f5 (by omega)) (ok_mAt f5 (by omega)) (ltT_asym (sa_lt f4 hab (by omega))) h0 h1
  · intro p hp
    unfold ptsOf at hp
    obtain ⟨k, hk, rfl⟩ := List.mem_map.1 hp
    rw [List.mem_range] at hk
    exact on_lt hval (ok_mAt f5 (by omega))
end Go.Proofs.Ytbljfaocmeeljaa
