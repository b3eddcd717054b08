/- Plain mathematics of settings: the program's moments are the reference's; the event that sounds; slices. -/
import Derived.Test.YtbljfaocmeeljaaAlMath
namespace Go.Proofs.Ytbljfaocmeeljaa

/-! ### Members -/
theorem momV_mem (v : List Ev) : ∀ (o : List Tm) (t : Tm), t ∈ momV o v ↔ t ∈ o ∨ ∃ x ∈ v, t = x.at_ ∨ t = nextS x := by
  induction v with
  | nil => intro o t; simp [momV]
  | cons x v ih =>
    intro o t
    show t ∈ momV (withS (withS o x.at_) (nextS x)) v ↔ _
    rw [ih, with_mem, with_mem]
    simp only [List.mem_cons]
    grind
theorem momV_sa (v : List Ev) : ∀ (o : List Tm), SA o → OkL o → (∀ x ∈ v, ok x.at_ ∧ ok (nextS x)) → SA (momV o v) ∧ OkL (momV o v) := by
  induction v with
  | nil => intro o h1 h2 _; exact ⟨h1, h2⟩
  | cons x v ih =>
    intro o h1 h2 h3
    have hx := h3 x (by simp)
    have a1 := with_sa h1 h2 hx.1
    have a2 := with_ok h2 hx.1
    exact ih _ (with_sa a1 a2 hx.2) (with_ok a2 hx.2) (fun y hy => h3 y (List.mem_cons_of_mem _ hy))
theorem val_mem {v : List Ev} (h : Val v) : ∀ x ∈ v, ok x.at_ ∧ ok (nextS x) ∧ ltT x.at_ (nextS x) ∧ ok x.dur := fun x hx => by
  obtain ⟨i, hi, rfl⟩ := List.getElem_of_mem hx
  exact h.each i _ (List.getElem?_eq_getElem hi)

/-! ### The program's own moments of a voice -/
def endV (v : List Ev) : Tm := match v.getLast? with | none => (0, 1) | some x => nextS x
theorem endS_val {v : List Ev} (h : (checkS v).1 = 0) : endS v = ((endV v).1, (endV v).2, 0) := by
  unfold endS endV
  rw [if_neg (fun h0 => h0 h)]
  cases hl : v.getLast? with
  | none => rfl
  | some x =>
    have hx := List.mem_of_getLast? hl
    have := add_of_check v (0, 1) 0 (by omega) (by unfold checkS at h; split at h; cases h; exact h) x hx
    simp only [nextS]
    exact Prod.ext rfl (Prod.ext rfl this)
theorem endV_ok {v : List Ev} (h : Val v) : ok (endV v) := by
  unfold endV
  cases hl : v.getLast? with
  | none => exact ok_zero
  | some x => exact (val_mem h x (List.mem_of_getLast? hl)).2.1
def ownV (v : List Ev) : List Tm := v.map (·.at_) ++ if v = [] then [] else [endV v]
/-- Event k of a valid voice begins where the one ahead of it ends; ascending. -/
theorem at_lt {v : List Ev} (h : Val v) : ∀ (j i : Nat) x y, v[i]? = some x → v[j]? = some y → i < j → ltT x.at_ y.at_ ∧ ¬ ltT y.at_ (nextS x) := by
  intro j
  induction j with
  | zero => intro i x y _ _ hij; omega
  | succ j ih =>
    intro i x y hx hy hij
    have hjl : j < v.length := by
      have := (List.getElem?_eq_some_iff.1 hy).1
      omega
    obtain ⟨z, hz⟩ : ∃ z, v[j]? = some z := ⟨_, List.getElem?_eq_getElem hjl⟩
    have e := h.next j z y hz hy
    have ez := h.each j z hz
    have ex := h.each i x hx
    by_cases hij' : i = j
    · subst hij'
      rw [hx] at hz
      cases hz
      rw [e]
      exact ⟨ex.2.2.1, ltT_irr _⟩
    · obtain ⟨h1, h2⟩ := ih i x z hx hz (by omega)
      rw [e]
      exact ⟨ltT_trans ex.1 ez.1 ez.2.1 h1 ez.2.2.1, leT_trans ex.2.1 ez.1 ez.2.1 h2 (ltT_asym ez.2.2.1)⟩
theorem getLast_idx {α : Type} {v : List α} {x : α} (h : v.getLast? = some x) : 0 < v.length ∧ v[v.length - 1]? = some x := by
  rw [List.getLast?_eq_getElem?] at h
  exact ⟨by have := (List.getElem?_eq_some_iff.1 h).1; omega, h⟩
theorem end_ge {v : List Ev} (h : Val v) {x : Ev} (hx : x ∈ v) : ltT x.at_ (endV v) ∧ ¬ ltT (endV v) (nextS x) := by
  obtain ⟨i, hi, e⟩ := List.getElem_of_mem hx
  have hx' : v[i]? = some x := by rw [List.getElem?_eq_getElem hi, e]
  have ex := h.each i _ hx'
  obtain ⟨z, hz⟩ : ∃ z, v.getLast? = some z := by
    cases hl : v.getLast? with
    | none => rw [List.getLast?_eq_none_iff] at hl; subst hl; simp at hi
    | some z => exact ⟨z, rfl⟩
  have ee : endV v = nextS z := by unfold endV; rw [hz]
  obtain ⟨h0, hz'⟩ := getLast_idx hz
  have ez := h.each _ z hz'
  rw [ee]
  by_cases hil : i = v.length - 1
  · rw [hil, hz'] at hx'
    cases hx'
    exact ⟨ez.2.2.1, ltT_irr _⟩
  · obtain ⟨a1, a2⟩ := at_lt h (v.length - 1) i _ z hx' hz' (by omega)
    exact ⟨ltT_trans ex.1 ez.1 ez.2.1 a1 ez.2.2.1, leT_trans ex.2.1 ez.1 ez.2.1 a2 (ltT_asym ez.2.2.1)⟩
theorem own_sa {v : List Ev} (h : Val v) : SA (ownV v) ∧ OkL (ownV v) := by
  refine ⟨?_, ?_⟩
  · unfold SA ownV
    refine List.pairwise_append.2 ⟨?_, ?_, ?_⟩
    · rw [List.pairwise_iff_getElem]
      intro i j hi hj hij
      simp only [List.length_map] at hi hj
      simp only [List.getElem_map]
      exact (at_lt h j i _ _ (List.getElem?_eq_getElem hi) (List.getElem?_eq_getElem hj) hij).1
    · split
      · exact List.Pairwise.nil
      · exact List.pairwise_singleton _ _
    · intro a ha b hb
      obtain ⟨x, hx, rfl⟩ := List.mem_map.1 ha
      split at hb
      · cases hb
      · rw [List.mem_singleton.1 hb]; exact (end_ge h hx).1
  · intro t ht
    unfold ownV at ht
    rcases List.mem_append.1 ht with ht | ht
    · obtain ⟨x, hx, rfl⟩ := List.mem_map.1 ht
      exact (val_mem h x hx).1
    · split at ht
      · cases ht
      · rw [List.mem_singleton.1 ht]; exact endV_ok h
theorem own_mem {v : List Ev} (h : Val v) (t : Tm) : t ∈ ownV v ↔ ∃ x ∈ v, t = x.at_ ∨ t = nextS x := by
  unfold ownV
  rw [List.mem_append]
  constructor
  · rintro (ht | ht)
    · obtain ⟨x, hx, rfl⟩ := List.mem_map.1 ht
      exact ⟨x, hx, .inl rfl⟩
    · split at ht
      · cases ht
      · rename_i hv
        rw [List.mem_singleton.1 ht]
        cases hl : v.getLast? with
        | none => rw [List.getLast?_eq_none_iff] at hl; exact absurd hl hv
        | some z => exact ⟨z, List.mem_of_getLast? hl, .inr (by unfold endV; rw [hl])⟩
  · rintro ⟨x, hx, rfl | rfl⟩
    · exact .inl (List.mem_map.2 ⟨x, hx, rfl⟩)
    · obtain ⟨i, hi, rfl⟩ := List.getElem_of_mem hx
      have hx' : v[i]? = some v[i] := List.getElem?_eq_getElem hi
      by_cases hn : i + 1 < v.length
      · have hy : v[i + 1]? = some v[i + 1] := List.getElem?_eq_getElem hn
        exact .inl (List.mem_map.2 ⟨v[i + 1], List.getElem_mem hn, h.next i _ _ hx' hy⟩)
      · refine .inr ?_
        rw [if_neg (fun h0 => by subst h0; simp at hi), List.mem_singleton]
        have hl : v.getLast? = some v[i] := by rw [List.getLast?_eq_getElem?, show v.length - 1 = i by omega]; exact hx'
        unfold endV; rw [hl]

/-! ### The program's merge of two ascending lists -/
def swapB (a b : List Tm) : Bool := match a, b with
  | [], _ => true
  | _ :: _, [] => false
  | x :: _, y :: _ => decide (ltT y x)
def addE (o : List Tm) (t : Tm) : List Tm := if o.getLast? = some t then o else o ++ [t]
def mrg : Nat → List Tm → List Tm → List Tm → List Tm
  | 0, o, _, _ => o
  | n + 1, o, a, b => if swapB a b = true then mrg n (addE o (b.headD (0, 1))) b.tail a else mrg n (addE o (a.headD (0, 1))) a.tail b
def mrgS (a b : List Tm) : List Tm := mrg (a.length + b.length) [] a b
/-- All of a list are not ahead of a time. -/
def geL (t : Tm) (l : List Tm) : Prop := ∀ u ∈ l, ¬ ltT u t
theorem addE_spec {o : List Tm} {t : Tm} (ho : SA o) (hok : OkL o) (ht : ok t) (hl : ∀ z, o.getLast? = some z → ¬ ltT t z) : SA (addE o t) ∧ OkL (addE o t) ∧ (addE o t).getLast? = some t ∧ ∀ u, u ∈ addE o t ↔ u ∈ o ∨ u = t := by
  unfold addE
  by_cases he : o.getLast? = some t
  · rw [if_pos he]
    exact ⟨ho, hok, he, fun u => ⟨.inl, fun h => h.elim id (fun e => e ▸ List.mem_of_getLast? he)⟩⟩
  · rw [if_neg he]
    refine ⟨?_, ?_, by simp, fun u => by rw [List.mem_append, List.mem_singleton]⟩
    · refine List.pairwise_append.2 ⟨ho, List.pairwise_singleton _ _, fun a ha b hb => ?_⟩
      rw [List.mem_singleton.1 hb]
      cases hz : o.getLast? with
      | none => rw [List.getLast?_eq_none_iff] at hz; subst hz; cases ha
      | some z =>
        have oz := hok z (List.mem_of_getLast? hz)
        have hzt : ltT z t := by
          by_cases h : ltT z t
          · exact h
          · exact absurd (by rw [hz, ltT_tri oz ht h (hl z hz)]) he
        obtain ⟨i, hi, rfl⟩ := List.getElem_of_mem ha
        obtain ⟨h0, hz'⟩ := getLast_idx hz
        by_cases hil : i = o.length - 1
        · have : o[i] = z := by
            have h2 : o[i]? = some z := by rw [hil]; exact hz'
            rw [List.getElem?_eq_getElem hi] at h2
            exact Option.some.inj h2
          rw [this]; exact hzt
        · have hlt : o.length - 1 < o.length := by omega
          have : o[o.length - 1] = z := by
            rw [List.getElem?_eq_getElem hlt] at hz'
            exact Option.some.inj hz'
          have h3 := (List.pairwise_iff_getElem.1 ho) i (o.length - 1) hi hlt (by omega)
          rw [this] at h3
          exact ltT_trans (hok _ (List.getElem_mem hi)) oz ht h3 hzt
    · intro u hu
      rcases List.mem_append.1 hu with h | h
      · exact hok u h
      · rw [List.mem_singleton.1 h]; exact ht
theorem mrg_spec : ∀ (n : Nat) (o a b : List Tm), n = a.length + b.length → SA o → OkL o → SA a → OkL a → SA b → OkL b → (∀ z, o.getLast? = some z → geL z a ∧ geL z b) →
    SA (mrg n o a b) ∧ OkL (mrg n o a b) ∧ ∀ u, u ∈ mrg n o a b ↔ u ∈ o ∨ u ∈ a ∨ u ∈ b := by
  intro n
  induction n with
  | zero =>
    intro o a b hn ho hoo _ _ _ _ _
    obtain rfl : a = [] := List.eq_nil_of_length_eq_zero (by omega)
    obtain rfl : b = [] := List.eq_nil_of_length_eq_zero (by omega)
    exact ⟨ho, hoo, fun u => by simp [mrg]⟩
  | succ n ih =>
    intro o a b hn ho hoo ha hao hb hbo hg
    -- one step with the head of p
    have step : ∀ (p q : List Tm), p ≠ [] → n + 1 = p.length + q.length → SA p → OkL p → SA q → OkL q → (∀ z, o.getLast? = some z → geL z p ∧ geL z q) → (∀ y ∈ q, ∀ x, p.head? = some x → ¬ ltT y x) →
        SA (mrg n (addE o (p.headD (0, 1))) p.tail q) ∧ OkL (mrg n (addE o (p.headD (0, 1))) p.tail q) ∧ ∀ u, u ∈ mrg n (addE o (p.headD (0, 1))) p.tail q ↔ u ∈ o ∨ u ∈ p ∨ u ∈ q := by
      intro p q hp hn' hsp hop hsq hoq hgg hmin
      cases p with
      | nil => exact absurd rfl hp
      | cons x p =>
        have hp' := List.pairwise_cons.1 hsp
        have ox := hop x (by simp)
        obtain ⟨s1, s2, s3, s4⟩ := addE_spec ho hoo ox (fun z hz => (hgg z hz).1 x (by simp))
        have r := ih (addE o x) p q (by simp at hn'; omega) s1 s2 hp'.2 (fun u hu => hop u (List.mem_cons_of_mem _ hu)) hsq hoq (fun z hz => by
          rw [s3] at hz
          cases hz
          exact ⟨fun u hu => ltT_asym (hp'.1 u hu), fun u hu => hmin u hu x rfl⟩)
        refine ⟨r.1, r.2.1, fun u => ?_⟩
        show u ∈ mrg n (addE o x) p q ↔ _
        rw [r.2.2 u, s4 u, List.mem_cons]
        grind
    unfold mrg
    by_cases hs : swapB a b = true
    · rw [if_pos hs]
      have hbne : b ≠ [] := by
        intro h0; subst h0
        cases a with
        | nil => simp at hn
        | cons x a => simp [swapB] at hs
      have r := step b a hbne (by omega) hb hbo ha hao (fun z hz => ⟨(hg z hz).2, (hg z hz).1⟩) (fun y hy x hx => by
        cases a with
        | nil => cases hy
        | cons z a =>
          cases b with
          | nil => cases hx
          | cons w b =>
            cases hx
            simp only [swapB, decide_eq_true_eq] at hs
            have ow := hbo x (by simp)
            have oz := hao z (by simp)
            rcases List.mem_cons.1 hy with h | h
            · rw [h]; exact ltT_asym hs
            · exact ltT_asym (ltT_trans ow oz (hao y hy) hs ((List.pairwise_cons.1 ha).1 y h)))
      exact ⟨r.1, r.2.1, fun u => by rw [r.2.2 u]; grind⟩
    · rw [if_neg hs]
      have hane : a ≠ [] := fun h0 => by subst h0; exact hs rfl
      exact step a b hane hn ha hao hb hbo hg (fun y hy x hx => by
        cases a with
        | nil => cases hx
        | cons z a =>
          cases hx
          cases b with
          | nil => cases hy
          | cons w b =>
            simp only [swapB, decide_eq_true_eq] at hs
            have ow := hbo w (by simp)
            have oz := hao x (by simp)
            rcases List.mem_cons.1 hy with h | h
            · rw [h]; exact hs
            · exact ltT_asym (lt_of_le' oz ow (hbo y hy) hs ((List.pairwise_cons.1 hb).1 y h)))
theorem mrgS_spec {a b : List Tm} (ha : SA a) (hao : OkL a) (hb : SA b) (hbo : OkL b) : SA (mrgS a b) ∧ OkL (mrgS a b) ∧ ∀ u, u ∈ mrgS a b ↔ u ∈ a ∨ u ∈ b := by
  obtain ⟨h1, h2, h3⟩ := mrg_spec _ [] a b rfl List.Pairwise.nil (fun t h => by cases h) ha hao hb hbo (fun z h => by cases h)
  exact ⟨h1, h2, fun u => by unfold mrgS; rw [h3 u]; simp⟩
def momP (l : List (List Ev)) : List Tm := l.foldl (fun o v => mrgS o (ownV v)) []
theorem mom_from (l : List (List Ev)) : ∀ (o : List Tm), SA o → OkL o → (∀ v ∈ l, Val v) → l.foldl (fun o v => mrgS o (ownV v)) o = l.foldl momV o ∧ SA (l.foldl momV o) ∧ OkL (l.foldl momV o) := by
  induction l with
  | nil => intro o h1 h2 _; exact ⟨rfl, h1, h2⟩
  | cons v l ih =>
    intro o h1 h2 hv
    have hV := hv v (by simp)
    obtain ⟨a1, a2, a3⟩ := mrgS_spec h1 h2 (own_sa hV).1 (own_sa hV).2
    obtain ⟨b1, b2⟩ := momV_sa v o h1 h2 (fun x hx => ⟨(val_mem hV x hx).1, (val_mem hV x hx).2.1⟩)
    have e : mrgS o (ownV v) = momV o v := sa_ext a1 b1 (fun t => by rw [a3 t, momV_mem, own_mem hV])
    simp only [List.foldl_cons]
    rw [e]
    exact ih _ b1 b2 (fun w hw => hv w (List.mem_cons_of_mem _ hw))
theorem mom_eq {l : List (List Ev)} (h : ∀ v ∈ l, Val v) : momP l = momS l ∧ SA (momS l) ∧ OkL (momS l) := mom_from l [] List.Pairwise.nil (fun t h => by cases h) h
end Go.Proofs.Ytbljfaocmeeljaa
