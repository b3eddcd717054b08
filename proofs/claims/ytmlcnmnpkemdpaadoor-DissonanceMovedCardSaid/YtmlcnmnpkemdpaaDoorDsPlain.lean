
/- ChPairMath, DsMath, DsAll, DsTreat, DsLaw, DsRot, DsMoved, DsSlow, DsMade: one text. -/
import Derived.Test.YtmlcnmnpkemdpaaDoorChMath
import Derived.Test.YtmlcnmnpkemdpaaDoorPlain
/- Plain mathematics of chords (the first part of ChOct and ChChordMath, by themselves): two pitches, the bass, whether two pitches clash over a bass. -/

namespace Go.Proofs.YtmlcnmnpkemdpaaDoor
abbrev Pit3 := Int × Int × Int
theorem pchk_mk {p : Int × Int × Int} (h : 0 ≤ p.1 ∧ p.1 ≤ 6 ∧ 0 ≤ p.2.1 ∧ p.2.1 ≤ 8 ∧ -1 ≤ p.2.2 ∧ p.2.2 ≤ 1) : pchk p = 0 := by unfold pchk; rw [if_neg (by omega)]
theorem bothP_mk {p q : Int × Int × Int} (h : pchk p = 0) (h' : pchk q = 0) : bothP p q = 0 := by unfold bothP; rw [h, if_neg (fun h => h rfl), h']
/-- The interval of two pitches, the first one not above the second one. -/
theorem up_low {p q : Int × Int × Int} (h : ¬ lowB p q) : upI p q = btw p q := by unfold upI loP hiP; rw [if_neg h, if_neg h]
theorem up_high {p q : Int × Int × Int} (h : lowB q p) : upI q p = btw p q := by unfold upI loP hiP; rw [if_pos h, if_pos h]
/-- Number and height of a valid pitch tell it. -/
theorem same_pitch {p q : Int × Int × Int} (h : pchk p = 0) (h' : pchk q = 0) (hn : numP p = numP q) (hh : htP p = htP q) : p = q := by
  have a := pchk_ok h; have b := pchk_ok h'
  obtain ⟨p0, p1, p2⟩ := p
  obtain ⟨q0, q1, q2⟩ := q
  unfold numP at hn
  unfold htP at hh
  simp only at a b hn hh
  obtain rfl : p1 = q1 := by omega
  obtain rfl : p0 = q0 := by omega
  obtain rfl : p2 = q2 := by omega
  rfl
theorem upI_comm {p q : Int × Int × Int} (h : pchk p = 0) (h' : pchk q = 0) : upI p q = upI q p := by
  by_cases h1 : lowB p q
  · have h2 : ¬ lowB q p := by unfold lowB at h1 ⊢; omega
    rw [up_high h1, up_low h2]
  · by_cases h2 : lowB q p
    · rw [up_low h1, up_high h2]
    · have := same_pitch h h' (by unfold lowB at h1 h2; omega) (by unfold lowB at h1 h2; omega)
      rw [this]
theorem sim_up (x : Int × Int) : simI (x.1 + 7, x.2 + 12) = simI x := by
  unfold simI
  simp only
  congr 1 <;> omega
/-- Two pitches clash over a bass. -/
def badP (b p q : Pit3) : Prop := kindP p q = 5 ∨ ((kindP p q = 3 ∨ kindP p q = 4) ∧ loP p q = b)
instance (b p q : Pit3) : Decidable (badP b p q) := inferInstanceAs (Decidable (_ ∨ _))
def bassP (l : List Pit3) : Pit3 := pAt l (bassL l)
theorem bad_iff (l : List Pit3) (a b : Nat) : bad l a b ↔ badP (bassP l) (pAt l a) (pAt l b) := Iff.rfl
theorem pAt_at {l : List Pit3} {k : Nat} (h : k < l.length) : pAt l k = l[k] := by simp [pAt, List.getD, h]
theorem pAt_mem {l : List Pit3} {k : Nat} (h : k < l.length) : pAt l k ∈ l := by rw [pAt_at h]; exact List.getElem_mem h
theorem bassP_mem {l : List Pit3} (h : 0 < l.length) : bassP l ∈ l := pAt_mem (bassL_lt h)
theorem bassN_min (l : List Pit3) (k : Nat) : ∀ j, j < k → ¬ deep (pAt l j) (pAt l (bassN l k)) := by
  induction k with
  | zero => intro j h; omega
  | succ k ih =>
    intro j hj
    unfold bassN
    by_cases hd : deep (pAt l k) (pAt l (bassN l k))
    · rw [if_pos hd]
      by_cases hk : j = k
      · subst hk; unfold deep; omega
      · have := ih j (by omega)
        unfold deep at this hd ⊢
        omega
    · rw [if_neg hd]
      by_cases hk : j = k
      · subst hk; exact hd
      · exact ih j (by omega)
theorem bass_min {l : List Pit3} {p : Pit3} (h : p ∈ l) : ¬ deep p (bassP l) := by
  obtain ⟨j, hj, rfl⟩ := List.getElem_of_mem h
  rw [← pAt_at hj]
  exact bassN_min l l.length j hj
theorem not_deep {p q : Pit3} (hp : pchk p = 0) (hq : pchk q = 0) (h : ¬ deep p q) (h' : ¬ deep q p) : p = q :=
  same_pitch hp hq (by unfold deep at h h'; omega) (by unfold deep at h h'; omega)
/-- The bass is the one pitch that is not above another one. -/
theorem bass_one {l : List Pit3} (hv : ∀ p ∈ l, pchk p = 0) {p : Pit3} (hp : p ∈ l) (hm : ∀ q ∈ l, ¬ deep q p) : bassP l = p := by
  have hl : 0 < l.length := List.length_pos_of_mem hp
  have hb := bassP_mem hl
  exact not_deep (hv _ hb) (hv _ hp) (hm _ hb) (bass_min hp)
theorem bass_same {l l' : List Pit3} (hv : ∀ p ∈ l, pchk p = 0) (hl : 0 < l.length) (hs : ∀ p, p ∈ l ↔ p ∈ l') : bassP l' = bassP l := by
  have hb := bassP_mem hl
  exact bass_one (fun p hp => hv p ((hs p).2 hp)) ((hs _).1 hb) (fun q hq => bass_min ((hs q).2 hq))

/-! ### No clash -/
theorem rowC_nil (l : List Pit3) (a : Nat) : ∀ b, rowC l a b = [] ↔ ∀ j, j < b → a < j → ¬ bad l a j := by
  intro b
  induction b with
  | zero => exact ⟨fun _ j h => by omega, fun _ => rfl⟩
  | succ b ih =>
    unfold rowC
    rw [List.append_eq_nil_iff, ih]
    constructor
    · rintro ⟨h1, h2⟩ j hj haj
      by_cases hjb : j = b
      · subst hjb
        intro hb
        rw [if_pos ⟨haj, hb⟩] at h2
        cases h2
      · exact h1 j (by omega) haj
    · intro h
      refine ⟨fun j hj haj => h j (by omega) haj, ?_⟩
      rw [if_neg]
      rintro ⟨h1, h2⟩
      exact h b (by omega) h1 h2
theorem allC_nil (l : List Pit3) : ∀ a, allC l a = [] ↔ ∀ i, i < a → ∀ j, j < l.length → i < j → ¬ bad l i j := by
  intro a
  induction a with
  | zero => exact ⟨fun _ i h => by omega, fun _ => rfl⟩
  | succ a ih =>
    unfold allC
    rw [List.append_eq_nil_iff, ih, rowC_nil]
    constructor
    · rintro ⟨h1, h2⟩ i hi
      by_cases hia : i = a
      · subst hia; exact h2
      · exact h1 i (by omega)
    · intro h
      exact ⟨fun i hi => h i (by omega), h a (by omega)⟩
theorem fullC_nil (l : List Pit3) : fullC l = [] ↔ l.Pairwise (fun p q => ¬ badP (bassP l) p q) := by
  unfold fullC
  rw [allC_nil, List.pairwise_iff_getElem]
  constructor
  · intro h i j hi hj hij
    have := h i hi j hj hij
    rw [bad_iff, pAt_at hi, pAt_at hj] at this
    exact this
  · intro h i hi j hj hij
    rw [bad_iff, pAt_at hi, pAt_at hj]
    exact h i j hi hj hij
theorem kindP_comm {p q : Pit3} (hp : pchk p = 0) (hq : pchk q = 0) : kindP p q = kindP q p := by unfold kindP; rw [upI_comm hp hq]
theorem loP_comm {p q : Pit3} (hp : pchk p = 0) (hq : pchk q = 0) : loP p q = loP q p := by
  unfold loP
  by_cases h1 : lowB p q
  · have h2 : ¬ lowB q p := by unfold lowB at h1 ⊢; omega
    rw [if_pos h1, if_neg h2]
  · by_cases h2 : lowB q p
    · rw [if_neg h1, if_pos h2]
    · rw [if_neg h1, if_neg h2]
      exact same_pitch hp hq (by unfold lowB at h1 h2; omega) (by unfold lowB at h1 h2; omega)
theorem badP_comm {b p q : Pit3} (hp : pchk p = 0) (hq : pchk q = 0) : badP b p q ↔ badP b q p := by unfold badP; rw [kindP_comm hp hq, loP_comm hp hq]
theorem badP_self {b p : Pit3} : ¬ badP b p p := by
  have : upI p p = (0, 0) := by
    have hl : ¬ lowB p p := by unfold lowB; omega
    rw [up_low hl]; unfold btw; simp
  have hk : kindP p p = 1 := by unfold kindP; rw [this]; decide
  unfold badP
  rw [hk]
  omega
end Go.Proofs.YtmlcnmnpkemdpaaDoor

/- Plain mathematics of dissonances: chords of slices, clashes of voices, treatments, the list of all; no program in sight. -/

namespace Go.Proofs.YtmlcnmnpkemdpaaDoor
/-! ### What sounds in a slice -/
def sndP (v : List Ev) (t : Tm) : Option Ev := match eventAt v t with
  | some x => if x.rest = true then none else some x
  | none => none
def sndB (v : List Ev) (t : Tm) : Bool := (sndP v t).isSome
def pitA (v : List Ev) (t : Tm) : Pit3 := match sndP v t with
  | some x => x.pit
  | none => (0, 0, 0)
theorem event_neg {v : List Ev} {t : Tm} (h : onS v t < 0) : eventAt v t = none := by
  unfold eventAt
  cases e : onS v t with
  | ofNat k => rw [e] at h; exact absurd h (by show ¬ ((k : Int) < 0); omega)
  | negSucc k => rfl
theorem event_at {v : List Ev} {t : Tm} {k : Nat} (h : onS v t = (k : Int)) : eventAt v t = v[k]? := by unfold eventAt; rw [h]
theorem snd_neg {v : List Ev} {t : Tm} (h : onS v t < 0) : sndB v t = false := by unfold sndB sndP; rw [event_neg h]; rfl
theorem snd_rest {v : List Ev} {t : Tm} {k : Nat} {x : Ev} (h : onS v t = (k : Int)) (hx : v[k]? = some x) (hr : x.rest = true) : sndB v t = false := by
  unfold sndB sndP; rw [event_at h, hx]; simp [hr]
theorem snd_note {v : List Ev} {t : Tm} {k : Nat} {x : Ev} (h : onS v t = (k : Int)) (hx : v[k]? = some x) (hr : x.rest = false) : sndB v t = true ∧ pitA v t = x.pit := by
  unfold sndB pitA sndP; rw [event_at h, hx]; simp [hr]
theorem snd_val {v : List Ev} {t : Tm} (h : sndB v t = true) : ∃ (k : Nat) (x : Ev), onS v t = (k : Int) ∧ v[k]? = some x ∧ x.rest = false ∧ pitA v t = x.pit := by
  unfold sndB at h
  cases ho : onS v t with
  | negSucc k =>
    have e : eventAt v t = none := by unfold eventAt; rw [ho]
    unfold sndP at h; rw [e] at h; simp at h
  | ofNat k =>
    have e : eventAt v t = v[k]? := by unfold eventAt; rw [ho]
    unfold sndP at h
    rw [e] at h
    cases hx : v[k]? with
    | none => rw [hx] at h; simp at h
    | some x =>
      rw [hx] at h
      cases hr : x.rest with
      | true => simp [hr] at h
      | false => exact ⟨k, x, rfl, hx, hr, (snd_note (k := k) (by rw [ho]; rfl) hx hr).2⟩
/-- The voices that sound, and their pitches. -/
def whoC (l : List (List Ev)) (t : Tm) : List Nat := (List.range l.length).filter fun v => sndB (l.getD v []) t
def whatC (l : List (List Ev)) (t : Tm) : List Pit3 := (whoC l t).map fun v => pitA (l.getD v []) t
theorem who_mem {l : List (List Ev)} {t : Tm} {v : Nat} : v ∈ whoC l t ↔ v < l.length ∧ sndB (l.getD v []) t = true := by
  unfold whoC; rw [List.mem_filter, List.mem_range]
theorem who_sa (l : List (List Ev)) (t : Tm) : (whoC l t).Pairwise (· < ·) := List.Pairwise.filter _ List.pairwise_lt_range
theorem who_le (l : List (List Ev)) (t : Tm) : (whoC l t).length ≤ l.length := by
  have := List.length_filter_le (fun v => sndB (l.getD v []) t) (List.range l.length)
  rwa [List.length_range] at this
theorem what_len (l : List (List Ev)) (t : Tm) : (whatC l t).length = (whoC l t).length := by unfold whatC; rw [List.length_map]
theorem what_at {l : List (List Ev)} {t : Tm} {i v : Nat} (h : (whoC l t)[i]? = some v) : pAt (whatC l t) i = pitA (l.getD v []) t := pAt_get (by unfold whatC; rw [List.getElem?_map, h]; rfl)
/-- The pitches of a voice are valid. -/
def PitsV (v : List Ev) : Prop := ∀ x ∈ v, x.rest = false → pchk x.pit = 0
theorem PitsV.at_ {v : List Ev} (h : PitsV v) {t : Tm} (hs : sndB v t = true) : pchk (pitA v t) = 0 := by
  obtain ⟨k, x, _, hx, hr, e⟩ := snd_val hs
  rw [e]; exact h x (List.mem_of_getElem? hx) hr
theorem pits_getD {l : List (List Ev)} (h : ∀ v ∈ l, PitsV v) (a : Nat) : PitsV (l.getD a []) := by
  rcases Nat.lt_or_ge a l.length with h1 | h1
  · rw [show l.getD a [] = l[a] by simp [List.getD, h1]]; exact h _ (List.getElem_mem h1)
  · rw [show l.getD a [] = [] by simp [List.getD, h1]]; intro x hx; cases hx
theorem what_ok {l : List (List Ev)} (h : ∀ v ∈ l, PitsV v) (t : Tm) : ∀ p ∈ whatC l t, pchk p = 0 := by
  intro p hp
  unfold whatC at hp
  obtain ⟨v, hv, rfl⟩ := List.mem_map.1 hp
  exact (pits_getD h v).at_ (who_mem.1 hv).2
/-! ### Clashes of voices -/
/-- The kind of the clash of two voices at a time; 0 if there is none. -/
def clE (l : List (List Ev)) (t : Tm) (a b : Nat) : Int :=
  if sndB (l.getD a []) t = true ∧ sndB (l.getD b []) t = true ∧ badP (bassP (whatC l t)) (pitA (l.getD a []) t) (pitA (l.getD b []) t) then kindP (pitA (l.getD a []) t) (pitA (l.getD b []) t) else 0
theorem bad_kind {b p q : Pit3} (h : badP b p q) : kindP p q ≠ 0 := by unfold badP at h; omega
theorem clE_comm {l : List (List Ev)} (h : ∀ v ∈ l, PitsV v) (t : Tm) (a b : Nat) : clE l t a b = clE l t b a := by
  unfold clE
  by_cases h1 : sndB (l.getD a []) t = true
  · by_cases h2 : sndB (l.getD b []) t = true
    · have p1 := (pits_getD h a).at_ h1
      have p2 := (pits_getD h b).at_ h2
      have e := badP_comm (b := bassP (whatC l t)) p1 p2
      rw [kindP_comm p2 p1]
      by_cases h3 : badP (bassP (whatC l t)) (pitA (l.getD a []) t) (pitA (l.getD b []) t)
      · rw [if_pos ⟨h1, h2, h3⟩, if_pos ⟨h2, h1, e.1 h3⟩]
      · rw [if_neg (fun hh => h3 hh.2.2), if_neg (fun hh => h3 (e.2 hh.2.2))]
    · rw [if_neg (fun hh => h2 hh.2.1), if_neg (fun hh => h2 hh.1)]
  · rw [if_neg (fun hh => h1 hh.1), if_neg (fun hh => h1 hh.2.1)]
theorem clE_self (l : List (List Ev)) (t : Tm) (a : Nat) : clE l t a a = 0 := by unfold clE; rw [if_neg (fun hh => badP_self hh.2.2)]
theorem clE_ne {l : List (List Ev)} {t : Tm} {a b : Nat} : clE l t a b ≠ 0 ↔ (sndB (l.getD a []) t = true ∧ sndB (l.getD b []) t = true ∧ badP (bassP (whatC l t)) (pitA (l.getD a []) t) (pitA (l.getD b []) t)) := by
  unfold clE
  constructor
  · intro h
    by_cases hc : sndB (l.getD a []) t = true ∧ sndB (l.getD b []) t = true ∧ badP (bassP (whatC l t)) (pitA (l.getD a []) t) (pitA (l.getD b []) t)
    · exact hc
    · rw [if_neg hc] at h; exact absurd rfl h
  · intro h
    rw [if_pos h]
    exact bad_kind h.2.2
theorem snd_lt {l : List (List Ev)} {t : Tm} {a : Nat} (h : sndB (l.getD a []) t = true) : a < l.length := by
  rcases Nat.lt_or_ge a l.length with h1 | h1
  · exact h1
  · rw [show l.getD a [] = [] by simp [List.getD, h1]] at h
    obtain ⟨k, x, _, hx, _⟩ := snd_val h
    simp at hx
theorem clE_out {l : List (List Ev)} {t : Tm} {a b : Nat} (h : l.length ≤ a ∨ l.length ≤ b) : clE l t a b = 0 := by
  rcases Decidable.em (clE l t a b = 0) with h1 | h1
  · exact h1
  · obtain ⟨h2, h3, _⟩ := clE_ne.1 h1
    have := snd_lt h2; have := snd_lt h3; omega
/-- The clashes of a chord, by the numbers of the voices. -/
def tripC (l : List (List Ev)) (t : Tm) (c : Pit3) : Pit3 := (((whoC l t).getD c.1.toNat 0 : Nat), ((whoC l t).getD c.2.1.toNat 0 : Nat), c.2.2)
def kindsC (l : List (List Ev)) (t : Tm) : List Pit3 := (fullC (whatC l t)).map (tripC l t)
theorem rowC_mem (L : List Pit3) (a : Nat) : ∀ (b : Nat) (c : Pit3), c ∈ rowC L a b ↔ ∃ j, a < j ∧ j < b ∧ bad L a j ∧ c = ((a : Int), (j : Int), kindP (pAt L a) (pAt L j)) := by
  intro b
  induction b with
  | zero => intro c; simp [rowC]
  | succ b ih =>
    intro c
    unfold rowC
    rw [List.mem_append, ih]
    constructor
    · rintro (⟨j, h1, h2, h3, h4⟩ | h)
      · exact ⟨j, h1, by omega, h3, h4⟩
      · by_cases hc : a < b ∧ bad L a b
        · rw [if_pos hc, List.mem_singleton] at h
          exact ⟨b, hc.1, by omega, hc.2, h⟩
        · rw [if_neg hc] at h; cases h
    · rintro ⟨j, h1, h2, h3, h4⟩
      by_cases hj : j = b
      · subst hj
        right
        rw [if_pos ⟨h1, h3⟩, List.mem_singleton]; exact h4
      · exact .inl ⟨j, h1, by omega, h3, h4⟩
theorem allC_mem (L : List Pit3) : ∀ (a : Nat) (c : Pit3), c ∈ allC L a ↔ ∃ i j, i < a ∧ i < j ∧ j < L.length ∧ bad L i j ∧ c = ((i : Int), (j : Int), kindP (pAt L i) (pAt L j)) := by
  intro a
  induction a with
  | zero => intro c; simp [allC]
  | succ a ih =>
    intro c
    unfold allC
    rw [List.mem_append, ih, rowC_mem]
    constructor
    · rintro (⟨i, j, h1, h2⟩ | ⟨j, h1, h2, h3⟩)
      · exact ⟨i, j, by omega, h2⟩
      · exact ⟨a, j, by omega, h1, h2, h3⟩
    · rintro ⟨i, j, h1, h2, h3⟩
      by_cases hi : i = a
      · subst hi; exact .inr ⟨j, h2, h3⟩
      · exact .inl ⟨i, j, by omega, h2, h3⟩
theorem fullC_mem (L : List Pit3) (c : Pit3) : c ∈ fullC L ↔ ∃ i j, i < j ∧ j < L.length ∧ bad L i j ∧ c = ((i : Int), (j : Int), kindP (pAt L i) (pAt L j)) := by
  unfold fullC
  rw [allC_mem]
  constructor
  · rintro ⟨i, j, _, h⟩; exact ⟨i, j, h⟩
  · rintro ⟨i, j, h1, h2⟩; exact ⟨i, j, by omega, h1, h2⟩
theorem sa_get {L : List Nat} (h : L.Pairwise (· < ·)) {i j x y : Nat} (hi : L[i]? = some x) (hj : L[j]? = some y) (hij : i < j) : x < y := by
  obtain ⟨h1, rfl⟩ := List.getElem?_eq_some_iff.1 hi
  obtain ⟨h2, rfl⟩ := List.getElem?_eq_some_iff.1 hj
  exact List.pairwise_iff_getElem.1 h i j h1 h2 hij
theorem getD_some {L : List Nat} {i x : Nat} (h : L[i]? = some x) : L.getD i 0 = x := by simp [List.getD, h]
theorem kinds_mem {l : List (List Ev)} {t : Tm} {c : Pit3} : c ∈ kindsC l t ↔ ∃ a b : Nat, a < b ∧ clE l t a b ≠ 0 ∧ c = ((a : Int), (b : Int), clE l t a b) := by
  unfold kindsC
  rw [List.mem_map]
  constructor
  · rintro ⟨d, hd, rfl⟩
    obtain ⟨i, j, hij, hj, hb, rfl⟩ := (fullC_mem _ _).1 hd
    rw [what_len] at hj
    obtain ⟨x, hx⟩ : ∃ x, (whoC l t)[i]? = some x := ⟨_, List.getElem?_eq_getElem (by omega)⟩
    obtain ⟨y, hy⟩ : ∃ y, (whoC l t)[j]? = some y := ⟨_, List.getElem?_eq_getElem hj⟩
    have s1 := (who_mem.1 (List.mem_of_getElem? hx)).2
    have s2 := (who_mem.1 (List.mem_of_getElem? hy)).2
    rw [bad_iff, what_at hx, what_at hy] at hb
    have e : clE l t x y = kindP (pitA (l.getD x []) t) (pitA (l.getD y []) t) := by unfold clE; rw [if_pos ⟨s1, s2, hb⟩]
    refine ⟨x, y, sa_get (who_sa l t) hx hy hij, clE_ne.2 ⟨s1, s2, hb⟩, ?_⟩
    unfold tripC
    simp only [Int.toNat_natCast, getD_some hx, getD_some hy, what_at hx, what_at hy, e]
  · rintro ⟨a, b, hab, hc, rfl⟩
    obtain ⟨s1, s2, hb⟩ := clE_ne.1 hc
    obtain ⟨i, hi, ei⟩ := List.getElem_of_mem (who_mem.2 ⟨snd_lt s1, s1⟩)
    obtain ⟨j, hj, ej⟩ := List.getElem_of_mem (who_mem.2 ⟨snd_lt s2, s2⟩)
    have hx : (whoC l t)[i]? = some a := by rw [List.getElem?_eq_getElem hi, ei]
    have hy : (whoC l t)[j]? = some b := by rw [List.getElem?_eq_getElem hj, ej]
    have hij : i < j := by
      rcases Nat.lt_trichotomy i j with h1 | h1 | h1
      · exact h1
      · subst h1; rw [hx] at hy; cases hy; omega
      · have := sa_get (who_sa l t) hy hx h1; omega
    have e : clE l t a b = kindP (pitA (l.getD a []) t) (pitA (l.getD b []) t) := by unfold clE; rw [if_pos ⟨s1, s2, hb⟩]
    refine ⟨((i : Int), (j : Int), kindP (pAt (whatC l t) i) (pAt (whatC l t) j)), (fullC_mem _ _).2 ⟨i, j, hij, by rw [what_len]; exact hj, by rw [bad_iff, what_at hx, what_at hy]; exact hb, rfl⟩, ?_⟩
    unfold tripC
    simp only [Int.toNat_natCast, getD_some hx, getD_some hy, what_at hx, what_at hy, e]
/-- What a look-up finds in a row of clashes: the last one of two voices. -/
def lookL (L : List Pit3) (a b : Int) : Int := L.foldl (fun r c => if c.1 = a ∧ c.2.1 = b then c.2.2 else r) 0
theorem look_next {L : List Pit3} {k : Nat} {c : Pit3} (h : L[k]? = some c) (a b : Int) : lookL (L.take (k + 1)) a b = if c.1 = a ∧ c.2.1 = b then c.2.2 else lookL (L.take k) a b := by
  unfold lookL
  rw [List.take_add_one, h, List.foldl_append]
  rfl
theorem look_all {v : Int} {a b : Int} : ∀ (L : List Pit3) (r : Int), (∀ c ∈ L, c.1 = a → c.2.1 = b → c.2.2 = v) → L.foldl (fun r c => if c.1 = a ∧ c.2.1 = b then c.2.2 else r) r = if ∃ c ∈ L, c.1 = a ∧ c.2.1 = b then v else r := by
  intro L
  induction L with
  | nil => intro r _; simp
  | cons c L ih =>
    intro r h
    rw [List.foldl_cons, ih _ (fun d hd => h d (by simp [hd]))]
    by_cases h1 : ∃ d ∈ L, d.1 = a ∧ d.2.1 = b
    · rw [if_pos h1, if_pos (by obtain ⟨d, hd, e⟩ := h1; exact ⟨d, by simp [hd], e⟩)]
    · rw [if_neg h1]
      by_cases h2 : c.1 = a ∧ c.2.1 = b
      · rw [if_pos h2, if_pos ⟨c, by simp, h2⟩, h c (by simp) h2.1 h2.2]
      · rw [if_neg h2, if_neg]
        rintro ⟨d, hd, e⟩
        rcases List.mem_cons.1 hd with rfl | hd
        · exact h2 e
        · exact h1 ⟨d, hd, e⟩
theorem look_kinds (l : List (List Ev)) (t : Tm) {a b : Nat} (hab : a < b) : lookL (kindsC l t) a b = clE l t a b := by
  unfold lookL
  rw [look_all (v := clE l t a b) (kindsC l t) 0 (fun c hc h1 h2 => by
    obtain ⟨x, y, _, _, rfl⟩ := kinds_mem.1 hc
    simp only at h1 h2 ⊢
    rw [show x = a by omega, show y = b by omega])]
  by_cases h : clE l t a b = 0
  · rw [h]; split <;> rfl
  · rw [if_pos ⟨_, kinds_mem.2 ⟨a, b, hab, h, rfl⟩, rfl, rfl⟩]
/-- The first one of two voices. -/
def firstK : List Pit3 → Int → Int → Int
  | [], _, _ => 0
  | c :: L, a, b => if c.1 = a ∧ c.2.1 = b then c.2.2 else firstK L a b
theorem first_all {v : Int} {a b : Int} : ∀ (L : List Pit3), (∀ c ∈ L, c.1 = a → c.2.1 = b → c.2.2 = v) → firstK L a b = if ∃ c ∈ L, c.1 = a ∧ c.2.1 = b then v else 0 := by
  intro L
  induction L with
  | nil => intro _; simp [firstK]
  | cons c L ih =>
    intro h
    unfold firstK
    by_cases h2 : c.1 = a ∧ c.2.1 = b
    · rw [if_pos h2, if_pos ⟨c, by simp, h2⟩, h c (by simp) h2.1 h2.2]
    · rw [if_neg h2, ih (fun d hd => h d (by simp [hd]))]
      by_cases h1 : ∃ d ∈ L, d.1 = a ∧ d.2.1 = b
      · rw [if_pos h1, if_pos (by obtain ⟨d, hd, e⟩ := h1; exact ⟨d, by simp [hd], e⟩)]
      · rw [if_neg h1, if_neg]
        rintro ⟨d, hd, e⟩
        rcases List.mem_cons.1 hd with rfl | hd
        · exact h2 e
        · exact h1 ⟨d, hd, e⟩
theorem first_kinds (l : List (List Ev)) (t : Tm) {a b : Nat} (hab : a < b) : firstK (kindsC l t) a b = clE l t a b := by
  rw [first_all (v := clE l t a b) (kindsC l t) (fun c hc h1 h2 => by
    obtain ⟨x, y, _, _, rfl⟩ := kinds_mem.1 hc
    simp only at h1 h2 ⊢
    rw [show x = a by omega, show y = b by omega])]
  by_cases h : clE l t a b = 0
  · rw [h]; split <;> rfl
  · rw [if_pos ⟨_, kinds_mem.2 ⟨a, b, hab, h, rfl⟩, rfl, rfl⟩]
/-! ### Treatments -/
def evI (l : List (List Ev)) (m : List Tm) (n v : Nat) : Int := onS (l.getD v []) (mAt m n)
/-- The difference of two notes that follow one another, 0 if there are none. -/
def stepD (v : List Ev) (i : Int) : Int :=
  if i < 0 then 0 else match v[i.toNat]?, v[i.toNat + 1]? with
  | some x, some y => if x.rest = true ∨ y.rest = true then 0 else numP y.pit - numP x.pit
  | _, _ => 0
def oneD (d : Int) : Int := if d = 1 ∨ d = -1 then d else 0
def shortB (x : Ev) : Bool := decide ((cmpS x.dur (1, 1)).1 ≤ 0)
def shortV (v : List Ev) (i : Int) : Bool := match v[i.toNat]? with | some x => shortB x | none => false
def passB (v : List Ev) (i : Int) : Bool := shortV v i && (decide (oneD (stepD v (i - 1)) ≠ 0) && decide (stepD v i = stepD v (i - 1)))
def sameB (v : List Ev) (i : Int) : Bool := match v[i.toNat + 1]?, v[(i - 1).toNat]? with
  | some y, some z => !y.rest && decide (y.pit = z.pit)
  | _, _ => false
def turnB (v : List Ev) (i : Int) : Bool := shortV v i && (decide (oneD (stepD v (i - 1)) ≠ 0) && sameB v i)
/-- From slice n on, k of them: the first one in which the held voice has its next event. -/
def susF (l : List (List Ev)) (m : List Tm) (mov held : Nat) (i h : Int) : Nat → Nat → Bool
  | _, 0 => false
  | n, k + 1 => if evI l m n held = h + 1 then decide (evI l m n mov = i) && decide (clE l (mAt m n) mov held = 0) else susF l m mov held i h (n + 1) k
def suspB (l : List (List Ev)) (m : List Tm) (n mov held : Nat) : Bool :=
  if n = 0 ∨ evI l m (n - 1) held ≠ evI l m n held ∨ clE l (mAt m (n - 1)) mov held ≠ 0 ∨ stepD (l.getD held []) (evI l m n held) ≠ -1 then false
  else susF l m mov held (evI l m n mov) (evI l m n held) (n + 1) (m.length - 1 - (n + 1))
def treatM (l : List (List Ev)) (m : List Tm) (n mov held : Nat) : Int :=
  if passB (l.getD mov []) (evI l m n mov) = true then 1 else if turnB (l.getD mov []) (evI l m n mov) = true then 2 else if suspB l m n mov held = true then 3 else 4
def treatD (l : List (List Ev)) (m : List Tm) (n a b : Nat) : Int :=
  if startB (l.getD a []) (mAt m n) = startB (l.getD b []) (mAt m n) then 4 else if startB (l.getD b []) (mAt m n) = true then treatM l m n b a else treatM l m n a b
theorem treatD_comm (l : List (List Ev)) (m : List Tm) (n a b : Nat) : treatD l m n a b = treatD l m n b a := by
  unfold treatD
  cases startB (l.getD a []) (mAt m n) <;> cases startB (l.getD b []) (mAt m n) <;> rfl
theorem treat_bd (l : List (List Ev)) (m : List Tm) (n a b : Nat) : 1 ≤ treatD l m n a b ∧ treatD l m n a b ≤ 4 := by
  unfold treatD treatM
  (repeat' split) <;> omega
/-! ### All dissonances -/
structure Dis where
  n : Int
  a : Int
  b : Int
  kind : Int
  treat : Int
deriving DecidableEq
/-- Whether the events of two voices in slice n have met in a dissonance of the list. -/
def metB (l : List (List Ev)) (m : List Tm) (n a b : Nat) (out : List Dis) : Bool := out.any fun d => decide (d.a = a) && (decide (d.b = b) && (decide (evI l m d.n.toNat a = evI l m n a) && decide (evI l m d.n.toNat b = evI l m n b)))
def addD (l : List (List Ev)) (m : List Tm) (n a b : Nat) (out : List Dis) : List Dis :=
  if clE l (mAt m n) a b = 0 ∨ metB l m n a b out = true then out else out ++ [⟨n, a, b, clE l (mAt m n) a b, treatD l m n a b⟩]
/-- Slice n, voice a, the voices from b on, k of them. -/
def rowD (l : List (List Ev)) (m : List Tm) (n a : Nat) : Nat → Nat → List Dis → List Dis
  | _, 0, out => out
  | b, k + 1, out => rowD l m n a (b + 1) k (addD l m n a b out)
def voicesD (l : List (List Ev)) (m : List Tm) (n : Nat) : Nat → Nat → List Dis → List Dis
  | _, 0, out => out
  | a, k + 1, out => voicesD l m n (a + 1) k (rowD l m n a (a + 1) (l.length - (a + 1)) out)
def slicesD (l : List (List Ev)) (m : List Tm) : Nat → Nat → List Dis → List Dis
  | _, 0, out => out
  | n, k + 1, out => slicesD l m (n + 1) k (voicesD l m n 0 l.length out)
def allD (l : List (List Ev)) (m : List Tm) : List Dis := slicesD l m 0 (m.length - 1) []
def dissE (l : List (List Ev)) : List Dis × Int := if (slicesE l).2 ≠ 0 then ([], (slicesE l).2) else (allD l (momS l), 0)
def untrE (l : List (List Ev)) : List Dis × Int := ((dissE l).1.filter fun d => decide (d.treat = 4), (dissE l).2)
def cntT (k : Int) (l : List Dis) : Int := ((l.filter fun d => decide (d.treat = k)).length : Nat)
def countD (l : List (List Ev)) : List Int × Int := if (dissE l).2 ≠ 0 then ([], (dissE l).2) else ([cntT 1 (dissE l).1, cntT 2 (dissE l).1, cntT 3 (dissE l).1, cntT 4 (dissE l).1], 0)
def chordD (l : List (List Ev)) (n : Int) : List Int × List Pit3 × Int :=
  if (slicesE l).2 ≠ 0 then ([], [], (slicesE l).2) else if n < 0 ∨ (((momS l).length - 1 : Nat) : Int) ≤ n then ([], [], 2)
  else ((whoC l (mAt (momS l) n.toNat)).map (fun (v : Nat) => (v : Int)), whatC l (mAt (momS l) n.toNat), 0)
/-- The first slice, going back from n, in which the two voices clash in the events that they have in slice n. -/
def backF (l : List (List Ev)) (m : List Tm) (a b : Nat) (i k : Int) : Nat → Nat → Nat
  | 0, f => f
  | j + 1, f => if evI l m j a = i ∧ evI l m j b = k then backF l m a b i k j (if clE l (mAt m j) a b ≠ 0 then j else f) else f
def treatsE (l : List (List Ev)) (n a b : Int) : Int × Int :=
  if (slicesE l).2 ≠ 0 then (0, (slicesE l).2)
  else if n < 0 ∨ (((momS l).length - 1 : Nat) : Int) ≤ n ∨ a < 0 ∨ (l.length : Int) ≤ a ∨ b < 0 ∨ (l.length : Int) ≤ b then (0, 2)
  else if a = b ∨ clE l (mAt (momS l) n.toNat) a.toNat b.toNat = 0 then (0, 0)
  else (treatD l (momS l) (backF l (momS l) a.toNat b.toNat (evI l (momS l) n.toNat a.toNat) (evI l (momS l) n.toNat b.toNat) n.toNat n.toNat) a.toNat b.toNat, 0)
end Go.Proofs.YtmlcnmnpkemdpaaDoor

/- Plain mathematics of dissonances: the list of all by what begins where; the treatment of a dissonance that began earlier. -/
namespace Go.Proofs.YtmlcnmnpkemdpaaDoor
/-- All triples: slices, two voices. -/
def rowT (n a b k : Nat) : List (Nat × Nat × Nat) := (List.range' b k).map fun b => (n, a, b)
def sliceT (L n : Nat) : List (Nat × Nat × Nat) := (List.range L).flatMap fun a => rowT n a (a + 1) (L - (a + 1))
def allT (L N : Nat) : List (Nat × Nat × Nat) := (List.range N).flatMap (sliceT L)
theorem mem_allT {L N : Nat} {x : Nat × Nat × Nat} : x ∈ allT L N ↔ x.1 < N ∧ x.2.1 < x.2.2 ∧ x.2.2 < L := by
  obtain ⟨n, a, b⟩ := x
  unfold allT sliceT rowT
  simp only [List.mem_flatMap, List.mem_range, List.mem_map, List.mem_range'_1, Prod.mk.injEq]
  constructor
  · rintro ⟨n', h1, a', h2, b', h3, rfl, rfl, rfl⟩; omega
  · rintro ⟨h1, h2, h3⟩
    exact ⟨n, h1, a, by omega, b, by omega, rfl, rfl, rfl⟩
/-- The order of triples. -/
def ltX (x y : Nat × Nat × Nat) : Prop := x.1 < y.1 ∨ (x.1 = y.1 ∧ (x.2.1 < y.2.1 ∨ (x.2.1 = y.2.1 ∧ x.2.2 < y.2.2)))
theorem rowT_sa (n a b k : Nat) : (rowT n a b k).Pairwise ltX := by
  unfold rowT
  rw [List.pairwise_map]
  exact (List.pairwise_lt_range' (s := b) (n := k)).imp fun {x y} h => .inr ⟨rfl, .inr ⟨rfl, h⟩⟩
theorem sliceT_sa (L n : Nat) : (sliceT L n).Pairwise ltX := by
  unfold sliceT
  rw [List.pairwise_flatMap]
  refine ⟨fun a _ => rowT_sa _ _ _ _, List.pairwise_lt_range.imp fun {a a'} h x hx y hy => ?_⟩
  unfold rowT at hx hy
  obtain ⟨b, _, rfl⟩ := List.mem_map.1 hx
  obtain ⟨b', _, rfl⟩ := List.mem_map.1 hy
  exact .inr ⟨rfl, .inl h⟩
theorem sliceT_fst {L n : Nat} {x : Nat × Nat × Nat} (h : x ∈ sliceT L n) : x.1 = n := by
  unfold sliceT rowT at h
  obtain ⟨a, _, h⟩ := List.mem_flatMap.1 h
  obtain ⟨b, _, rfl⟩ := List.mem_map.1 h
  rfl
theorem allT_sa (L N : Nat) : (allT L N).Pairwise ltX := by
  unfold allT
  rw [List.pairwise_flatMap]
  refine ⟨fun n _ => sliceT_sa _ _, List.pairwise_lt_range.imp fun {n n'} h x hx y hy => ?_⟩
  rw [← sliceT_fst hx, ← sliceT_fst hy] at h
  exact .inl h
section
variable (l : List (List Ev)) (m : List Tm)
def addX (out : List Dis) (x : Nat × Nat × Nat) : List Dis := addD l m x.1 x.2.1 x.2.2 out
theorem rowD_fold (n a : Nat) : ∀ (k b : Nat) (out : List Dis), rowD l m n a b k out = (rowT n a b k).foldl (addX l m) out := by
  intro k
  induction k with
  | zero => intro b out; rfl
  | succ k ih =>
    intro b out
    rw [rowD, ih]
    unfold rowT
    rw [List.range'_succ, List.map_cons, List.foldl_cons]
    rfl
theorem voicesD_fold (n : Nat) : ∀ (k a : Nat) (out : List Dis), voicesD l m n a k out = ((List.range' a k).flatMap fun a => rowT n a (a + 1) (l.length - (a + 1))).foldl (addX l m) out := by
  intro k
  induction k with
  | zero => intro a out; rfl
  | succ k ih =>
    intro a out
    rw [voicesD, ih, rowD_fold, List.range'_succ, List.flatMap_cons, List.foldl_append]
theorem slicesD_fold : ∀ (k n : Nat) (out : List Dis), slicesD l m n k out = ((List.range' n k).flatMap (sliceT l.length)).foldl (addX l m) out := by
  intro k
  induction k with
  | zero => intro n out; rfl
  | succ k ih =>
    intro n out
    rw [slicesD, ih, voicesD_fold, List.range'_succ, List.flatMap_cons, List.foldl_append]
    unfold sliceT
    rw [List.range_eq_range']
theorem allD_fold : allD l m = (allT l.length (m.length - 1)).foldl (addX l m) [] := by
  unfold allD allT
  rw [slicesD_fold, List.range_eq_range']
/-- A dissonance begins in slice n. -/
def newB (n a b : Nat) : Bool := decide (clE l (mAt m n) a b ≠ 0) && (List.range n).all fun n' => decide (evI l m n' a = evI l m n a → evI l m n' b = evI l m n b → clE l (mAt m n') a b = 0)
theorem newB_iff {n a b : Nat} : newB l m n a b = true ↔ clE l (mAt m n) a b ≠ 0 ∧ ∀ n', n' < n → evI l m n' a = evI l m n a → evI l m n' b = evI l m n b → clE l (mAt m n') a b = 0 := by
  unfold newB
  rw [Bool.and_eq_true, decide_eq_true_eq, List.all_eq_true]
  constructor
  · rintro ⟨h1, h2⟩
    exact ⟨h1, fun n' hn => by have := h2 n' (List.mem_range.2 hn); rwa [decide_eq_true_eq] at this⟩
  · rintro ⟨h1, h2⟩
    exact ⟨h1, fun n' hn => by rw [decide_eq_true_eq]; exact h2 n' (List.mem_range.1 hn)⟩
def entD (x : Nat × Nat × Nat) : Dis := ⟨x.1, x.2.1, x.2.2, clE l (mAt m x.1) x.2.1 x.2.2, treatD l m x.1 x.2.1 x.2.2⟩
def entL (x : Nat × Nat × Nat) : List Dis := if newB l m x.1 x.2.1 x.2.2 = true then [entD l m x] else []
theorem mem_ent {P : List (Nat × Nat × Nat)} {d : Dis} : d ∈ P.flatMap (entL l m) ↔ ∃ x ∈ P, newB l m x.1 x.2.1 x.2.2 = true ∧ d = entD l m x := by
  rw [List.mem_flatMap]
  constructor
  · rintro ⟨x, hx, hd⟩
    unfold entL at hd
    split at hd
    · rename_i h; exact ⟨x, hx, h, by simpa using hd⟩
    · cases hd
  · rintro ⟨x, hx, h, rfl⟩
    exact ⟨x, hx, by unfold entL; rw [if_pos h]; simp⟩
/-- The first of the slices in which two voices clash in the same events. -/
theorem first_new {a b : Nat} : ∀ n, clE l (mAt m n) a b ≠ 0 → ∃ n', n' ≤ n ∧ newB l m n' a b = true ∧ evI l m n' a = evI l m n a ∧ evI l m n' b = evI l m n b := by
  intro n
  induction n using Nat.strongRecOn with
  | ind n ih =>
    intro h
    by_cases hn : newB l m n a b = true
    · exact ⟨n, Nat.le_refl _, hn, rfl, rfl⟩
    · have : ∃ n', n' < n ∧ evI l m n' a = evI l m n a ∧ evI l m n' b = evI l m n b ∧ clE l (mAt m n') a b ≠ 0 := by
        refine Decidable.byContradiction fun hno => hn ((newB_iff l m).2 ⟨h, fun n' h1 h2 h3 => ?_⟩)
        exact Decidable.byContradiction fun h4 => hno ⟨n', h1, h2, h3, h4⟩
      obtain ⟨n', h1, h2, h3, h4⟩ := this
      obtain ⟨n'', h5, h6, h7, h8⟩ := ih n' h1 h4
      exact ⟨n'', by omega, h6, by rw [h7, h2], by rw [h8, h3]⟩
theorem metd_iff {n a b : Nat} {d : Dis} : (decide (d.a = a) && (decide (d.b = b) && (decide (evI l m d.n.toNat a = evI l m n a) && decide (evI l m d.n.toNat b = evI l m n b)))) = true ↔ d.a = a ∧ d.b = b ∧ evI l m d.n.toNat a = evI l m n a ∧ evI l m d.n.toNat b = evI l m n b := by
  rw [Bool.and_eq_true, Bool.and_eq_true, Bool.and_eq_true, decide_eq_true_eq, decide_eq_true_eq, decide_eq_true_eq, decide_eq_true_eq]
theorem met_iff {P S : List (Nat × Nat × Nat)} {N : Nat} {x : Nat × Nat × Nat} (h : allT l.length N = P ++ x :: S) : metB l m x.1 x.2.1 x.2.2 (P.flatMap (entL l m)) = true ↔ ∃ n', n' < x.1 ∧ evI l m n' x.2.1 = evI l m x.1 x.2.1 ∧ evI l m n' x.2.2 = evI l m x.1 x.2.2 ∧ clE l (mAt m n') x.2.1 x.2.2 ≠ 0 := by
  have hsa := allT_sa l.length N
  rw [h] at hsa
  obtain ⟨_, h2, h3⟩ := List.pairwise_append.1 hsa
  have hx : x ∈ allT l.length N := by rw [h]; simp
  obtain ⟨n, a, b⟩ := x
  obtain ⟨m1, m2, m3⟩ := mem_allT.1 hx
  simp only at m1 m2 m3 ⊢
  unfold metB
  rw [List.any_eq_true]
  constructor
  · rintro ⟨d, hd, hb⟩
    obtain ⟨⟨n', a', b'⟩, hp, hn, rfl⟩ := (mem_ent l m).1 hd
    have hlt := h3 _ hp _ (List.mem_cons_self ..)
    obtain ⟨ha, hb', e1, e2⟩ := (metd_iff l m).1 hb
    replace ha : (a' : Int) = a := ha
    replace hb' : (b' : Int) = b := hb'
    replace e1 : evI l m (n' : Int).toNat a = evI l m n a := e1
    replace e2 : evI l m (n' : Int).toNat b = evI l m n b := e2
    rw [Int.toNat_natCast] at e1 e2
    simp only at hn
    obtain rfl : a' = a := by omega
    obtain rfl : b' = b := by omega
    refine ⟨n', ?_, e1, e2, ((newB_iff l m).1 hn).1⟩
    unfold ltX at hlt
    simp only at hlt
    omega
  · rintro ⟨n', h4, h5, h6, h7⟩
    obtain ⟨n'', g1, g2, g3, g4⟩ := first_new l m n' h7
    have hmem : (n'', a, b) ∈ allT l.length N := mem_allT.2 ⟨by simp only; omega, m2, m3⟩
    rw [h] at hmem
    have hp : (n'', a, b) ∈ P := by
      rcases List.mem_append.1 hmem with hp | hp
      · exact hp
      · exfalso
        rcases List.mem_cons.1 hp with e | hp
        · simp only [Prod.mk.injEq] at e; omega
        · have := (List.pairwise_cons.1 h2).1 _ hp
          unfold ltX at this
          simp only at this
          omega
    refine ⟨entD l m (n'', a, b), (mem_ent l m).2 ⟨_, hp, g2, rfl⟩, (metd_iff l m).2 ⟨rfl, rfl, ?_, ?_⟩⟩
    · show evI l m (n'' : Int).toNat a = _
      rw [Int.toNat_natCast, g3, h5]
    · show evI l m (n'' : Int).toNat b = _
      rw [Int.toNat_natCast, g4, h6]
theorem fold_ent {N : Nat} : ∀ (S P : List (Nat × Nat × Nat)), allT l.length N = P ++ S → S.foldl (addX l m) (P.flatMap (entL l m)) = (P ++ S).flatMap (entL l m) := by
  intro S
  induction S with
  | nil => intro P _; simp
  | cons x S ih =>
    intro P h
    have hm := met_iff l m h
    have e : addX l m (P.flatMap (entL l m)) x = (P ++ [x]).flatMap (entL l m) := by
      rw [List.flatMap_append, List.flatMap_cons, List.flatMap_nil, List.append_nil]
      unfold addX addD entL
      by_cases hc : clE l (mAt m x.1) x.2.1 x.2.2 = 0
      · rw [if_pos (.inl hc), if_neg (fun hn => ((newB_iff l m).1 hn).1 hc), List.append_nil]
      · by_cases hmet : metB l m x.1 x.2.1 x.2.2 (P.flatMap (entL l m)) = true
        · have hn : ¬ newB l m x.1 x.2.1 x.2.2 = true := fun hn => by
            obtain ⟨n', g1, g2, g3, g4⟩ := hm.1 hmet
            exact g4 (((newB_iff l m).1 hn).2 n' g1 g2 g3)
          rw [if_pos (.inr (by unfold entL at hmet; exact hmet)), if_neg hn, List.append_nil]
        · have hn : newB l m x.1 x.2.1 x.2.2 = true := (newB_iff l m).2 ⟨hc, fun n' g1 g2 g3 => Decidable.byContradiction fun g4 => hmet (hm.2 ⟨n', g1, g2, g3, g4⟩)⟩
          rw [if_neg (fun hh => hh.elim hc (fun h2 => hmet (by unfold entL; exact h2))), if_pos hn]
          rfl
    rw [List.foldl_cons, e, ih (P ++ [x]) (by rw [h, List.append_assoc]; rfl), List.append_assoc]
    rfl
/-- All dissonances: those that begin somewhere, in the order of slices and voices. -/
theorem allD_eq : allD l m = (allT l.length (m.length - 1)).flatMap (entL l m) := by
  rw [allD_fold]
  exact fold_ent l m (N := m.length - 1) (allT l.length (m.length - 1)) [] rfl
theorem mem_allD {d : Dis} : d ∈ allD l m ↔ ∃ n a b : Nat, n < m.length - 1 ∧ a < b ∧ b < l.length ∧ newB l m n a b = true ∧ d = entD l m (n, a, b) := by
  rw [allD_eq, mem_ent]
  constructor
  · rintro ⟨⟨n, a, b⟩, hx, h1, h2⟩
    obtain ⟨m1, m2, m3⟩ := mem_allT.1 hx
    exact ⟨n, a, b, m1, m2, m3, h1, h2⟩
  · rintro ⟨n, a, b, h1, h2, h3, h4, h5⟩
    exact ⟨(n, a, b), mem_allT.2 ⟨h1, h2, h3⟩, h4, h5⟩
def ltD (x y : Dis) : Prop := x.n < y.n ∨ (x.n = y.n ∧ (x.a < y.a ∨ (x.a = y.a ∧ x.b < y.b)))
theorem allD_sa : (allD l m).Pairwise ltD := by
  rw [allD_eq, List.pairwise_flatMap]
  refine ⟨fun x _ => by unfold entL; split <;> simp, (allT_sa _ _).imp fun {x y} h d hd e he => ?_⟩
  unfold entL at hd he
  split at hd
  · split at he
    · rw [List.mem_singleton] at hd he
      subst hd he
      unfold ltX at h
      unfold ltD entD
      simp only
      omega
    · cases he
  · cases hd
theorem allD_len : (allD l m).length ≤ (allT l.length (m.length - 1)).length := by
  rw [allD_eq]
  have : ∀ P : List (Nat × Nat × Nat), (P.flatMap (entL l m)).length ≤ P.length := by
    intro P
    induction P with
    | nil => simp
    | cons x P ih =>
      rw [List.flatMap_cons, List.length_append, List.length_cons]
      have : (entL l m x).length ≤ 1 := by unfold entL; split <;> simp
      omega
  exact this _
end
theorem rowT_len (n a b k : Nat) : (rowT n a b k).length = k := by unfold rowT; rw [List.length_map, List.length_range']
theorem flat_le {α β : Type} {f : α → List β} {c : Nat} : ∀ P : List α, (∀ x ∈ P, (f x).length ≤ c) → (P.flatMap f).length ≤ P.length * c := by
  intro P
  induction P with
  | nil => intro _; simp
  | cons x P ih =>
    intro h
    rw [List.flatMap_cons, List.length_append, List.length_cons, Nat.succ_mul]
    have := h x (by simp)
    have := ih (fun y hy => h y (by simp [hy]))
    omega
theorem allT_len (L N : Nat) (hL : L ≤ 8) : (allT L N).length ≤ N * 64 := by
  unfold allT
  have h1 := flat_le (f := sliceT L) (c := 64) (List.range N) fun n _ => by
    unfold sliceT
    have := flat_le (f := fun a => rowT n a (a + 1) (L - (a + 1))) (c := 8) (List.range L) fun a _ => by rw [rowT_len]; omega
    rw [List.length_range] at this
    omega
  rwa [List.length_range] at h1
end Go.Proofs.YtmlcnmnpkemdpaaDoor

/- Plain mathematics of dissonances: the treatment of a dissonance that began earlier, going back and by the list of all. -/
namespace Go.Proofs.YtmlcnmnpkemdpaaDoor
/-- Where an event holds it is the one that is on. -/
theorem on_hold {v : List Ev} (h : Val v) {t : Tm} (ht : ok t) {k : Nat} {x : Ev} (hx : v[k]? = some x) (hh : holdB x t = true) : onS v t = (k : Int) := by
  unfold onS
  rw [on_some k 0 hx hh fun j y hj hy => ?_]
  · omega
  · have h1 := (at_lt h k j y x hy hx hj).2
    have o1 := val_mem h y (List.mem_of_getElem? hy)
    have o2 := val_mem h x (List.mem_of_getElem? hx)
    unfold holdB at hh ⊢
    rw [Bool.and_eq_true, decide_eq_true_eq, decide_eq_true_eq] at hh
    rw [Bool.and_eq_false_iff]
    right
    rw [decide_eq_false_iff_not]
    intro h2
    exact h1 (lt_of_le' o2.1 ht o1.2.1 hh.1 h2)
theorem hold_of_on {v : List Ev} (h : Val v) {t : Tm} (ht : ok t) {k : Nat} {x : Ev} (ho : onS v t = (k : Int)) (hx : v[k]? = some x) : holdB x t = true := by
  rcases on_char h ht with ⟨k', x', hx', hb, e⟩ | e
  · rw [ho] at e
    have : k' = k := by omega
    subst this
    rw [hx] at hx'; cases hx'; exact hb
  · rw [ho] at e; omega
/-- Between two times of one event there is no other one. -/
theorem on_between {v : List Ev} (h : Val v) {t u w : Tm} (ht : ok t) (hu : ok u) (hw : ok w) (h1 : ¬ ltT u t) (h2 : ¬ ltT w u) (h0 : 0 ≤ onS v t) (e : onS v w = onS v t) : onS v u = onS v t := by
  obtain ⟨k, hk⟩ : ∃ k : Nat, onS v t = (k : Int) := ⟨(onS v t).toNat, by omega⟩
  rcases on_char h ht with ⟨k', x, hx, hb, e1⟩ | e1
  · have hkk : k' = k := by omega
    subst hkk
    have hb2 := hold_of_on h hw (by rw [e, hk]) hx
    rw [hk]
    refine on_hold h hu hx ?_
    have o1 := val_mem h x (List.mem_of_getElem? hx)
    unfold holdB at hb hb2 ⊢
    rw [Bool.and_eq_true, decide_eq_true_eq, decide_eq_true_eq] at hb hb2 ⊢
    exact ⟨fun h3 => hb.1 (lt_of_le' ht hu o1.1 h1 h3), lt_of_le' hu hw o1.2.1 h2 hb2.2⟩
  · omega
section
variable {l : List (List Ev)} (hz : (checkA l).1 = 0)
include hz
theorem ev_between {v p q r : Nat} (hpq : p ≤ q) (hqr : q ≤ r) (hr : r < (momS l).length) (h0 : 0 ≤ evI l (momS l) p v) (e : evI l (momS l) r v = evI l (momS l) p v) : evI l (momS l) q v = evI l (momS l) p v := by
  obtain ⟨_, f2, _, f4, f5⟩ := set_facts hz
  unfold evI at *
  rcases Nat.lt_or_ge v l.length with h1 | h1
  · have hm : l.getD v [] ∈ l := by rw [show l.getD v [] = l[v] by simp [List.getD, h1]]; exact List.getElem_mem h1
    exact on_between (f2 _ hm).2.1 (ok_mAt f5 (by omega)) (ok_mAt f5 (by omega)) (ok_mAt f5 hr) (sa_mono f4 hpq (by omega)) (sa_mono f4 hqr hr) h0 e
  · rw [show l.getD v [] = [] by simp [List.getD, h1]] at h0
    have : onS [] (mAt (momS l) p) = -1 := rfl
    omega
end
theorem snd_ev {v : List Ev} {t : Tm} (h : sndB v t = true) : 0 ≤ onS v t := by
  obtain ⟨k, x, e, _⟩ := snd_val h
  omega
section
variable (l : List (List Ev)) (m : List Tm)
theorem backF_new {a b n n' : Nat} {i k : Int} (h1 : newB l m n' a b = true) (e1 : evI l m n' a = i) (e2 : evI l m n' b = k) (hc : ∀ q, n' ≤ q → q < n → evI l m q a = i ∧ evI l m q b = k) :
    ∀ j f, j ≤ n → n' ≤ f → (n' < j ∨ f = n') → backF l m a b i k j f = n' := by
  intro j
  induction j with
  | zero => intro f _ _ h; rcases h with h | h; · omega
            exact h
  | succ j ih =>
    intro f hj hf h
    unfold backF
    obtain ⟨g1, g2⟩ := (newB_iff l m).1 h1
    by_cases he : evI l m j a = i ∧ evI l m j b = k
    · rw [if_pos he]
      rcases Nat.lt_trichotomy n' j with h2 | h2 | h2
      · refine ih _ (by omega) ?_ (.inl h2)
        split <;> omega
      · subst h2
        rw [if_pos g1]
        exact ih _ (by omega) (Nat.le_refl _) (.inr rfl)
      · have hfn : f = n' := by rcases h with h | h <;> omega
        have := g2 j h2 (by rw [e1]; exact he.1) (by rw [e2]; exact he.2)
        rw [if_neg (fun hh => hh this)]
        exact ih _ (by omega) hf (.inr hfn)
    · rw [if_neg he]
      rcases h with h | h
      · exact absurd (hc j (by omega) (by omega)) he
      · exact h
def pickD (n a b : Nat) (d : Dis) : Bool := decide (d.a = a) && (decide (d.b = b) && (decide (d.n ≤ n) && (decide (evI l m d.n.toNat a = evI l m n a) && decide (evI l m d.n.toNat b = evI l m n b))))
theorem pickD_iff {n a b : Nat} {d : Dis} : pickD l m n a b d = true ↔ d.a = a ∧ d.b = b ∧ d.n ≤ n ∧ evI l m d.n.toNat a = evI l m n a ∧ evI l m d.n.toNat b = evI l m n b := by
  unfold pickD
  rw [Bool.and_eq_true, Bool.and_eq_true, Bool.and_eq_true, Bool.and_eq_true, decide_eq_true_eq, decide_eq_true_eq, decide_eq_true_eq, decide_eq_true_eq, decide_eq_true_eq]
/-- From the end of the list: k rows are left. -/
def refT (n a b : Nat) (L : List Dis) : Nat → Int
  | 0 => 0
  | k + 1 => match L[k]? with
    | some d => if pickD l m n a b d = true then d.treat else refT n a b L k
    | none => 0
theorem refT_of {n a b : Nat} {L : List Dis} {v : Int} (h : ∀ d ∈ L, pickD l m n a b d = true → d.treat = v) : ∀ k, k ≤ L.length → (∃ j d, j < k ∧ L[j]? = some d ∧ pickD l m n a b d = true) → refT l m n a b L k = v := by
  intro k
  induction k with
  | zero => rintro _ ⟨j, d, hj, _⟩; omega
  | succ k ih =>
    rintro hk ⟨j, d, hj, hd, hp⟩
    unfold refT
    obtain ⟨e, he⟩ : ∃ e, L[k]? = some e := ⟨_, List.getElem?_eq_getElem (by omega)⟩
    rw [he]
    simp only
    by_cases hpe : pickD l m n a b e = true
    · rw [if_pos hpe]; exact h e (List.mem_of_getElem? he) hpe
    · rw [if_neg hpe]
      refine ih (by omega) ⟨j, d, ?_, hd, hp⟩
      rcases Nat.lt_or_ge j k with h1 | h1
      · exact h1
      · have : j = k := by omega
        subst this
        rw [hd] at he; cases he; exact absurd hp hpe
end
/-- Going back finds what the list tells. -/
theorem treat_back {l : List (List Ev)} (hz : (checkA l).1 = 0) {n a b : Nat} (hn : n < (momS l).length - 1) (hab : a < b) (hb : b < l.length) (hc : clE l (mAt (momS l) n) a b ≠ 0) :
    refT l (momS l) n a b (allD l (momS l)) (allD l (momS l)).length = treatD l (momS l) (backF l (momS l) a b (evI l (momS l) n a) (evI l (momS l) n b) n n) a b := by
  obtain ⟨n', h1, h2, h3, h4⟩ := first_new l (momS l) n hc
  obtain ⟨s1, s2, _⟩ := clE_ne.1 hc
  have g1 : 0 ≤ evI l (momS l) n a := snd_ev s1
  have g2 : 0 ≤ evI l (momS l) n b := snd_ev s2
  have hback := backF_new l (momS l) (n := n) h2 h3 h4 (fun q hq1 hq2 => ⟨by rw [ev_between hz hq1 (Nat.le_of_lt hq2) (by omega) (by omega) h3.symm, h3], by rw [ev_between hz hq1 (Nat.le_of_lt hq2) (by omega) (by omega) h4.symm, h4]⟩) n n (Nat.le_refl _) h1 (by omega)
  rw [hback]
  refine refT_of l (momS l) (v := treatD l (momS l) n' a b) (fun d hd hp => ?_) _ (Nat.le_refl _) ?_
  · obtain ⟨n'', a', b', k1, k2, k3, k4, rfl⟩ := (mem_allD l (momS l)).1 hd
    obtain ⟨e1, e2, e3, e4, e5⟩ := (pickD_iff l (momS l)).1 hp
    replace e1 : (a' : Int) = a := e1
    replace e2 : (b' : Int) = b := e2
    replace e3 : (n'' : Int) ≤ n := e3
    replace e4 : evI l (momS l) (n'' : Int).toNat a = evI l (momS l) n a := e4
    replace e5 : evI l (momS l) (n'' : Int).toNat b = evI l (momS l) n b := e5
    rw [Int.toNat_natCast] at e4 e5
    obtain rfl : a' = a := by omega
    obtain rfl : b' = b := by omega
    have hnn : n'' = n' := by
      obtain ⟨c1, c2⟩ := (newB_iff l (momS l)).1 k4
      obtain ⟨c3, c4⟩ := (newB_iff l (momS l)).1 h2
      rcases Nat.lt_trichotomy n'' n' with h | h | h
      · exact absurd (c4 n'' h (by rw [e4, h3]) (by rw [e5, h4])) c1
      · exact h
      · exact absurd (c2 n' h (by rw [e4, h3]) (by rw [e5, h4])) c3
    subst hnn
    rfl
  · obtain ⟨j, hj, e⟩ := List.getElem_of_mem ((mem_allD l (momS l)).2 ⟨n', a, b, by omega, hab, hb, h2, rfl⟩)
    refine ⟨j, entD l (momS l) (n', a, b), hj, by rw [List.getElem?_eq_getElem hj, e], (pickD_iff l (momS l)).2 ⟨rfl, rfl, ?_, ?_, ?_⟩⟩
    · show (n' : Int) ≤ n; omega
    · show evI l (momS l) (n' : Int).toNat a = _
      rw [Int.toNat_natCast, h3]
    · show evI l (momS l) (n' : Int).toNat b = _
      rw [Int.toNat_natCast, h4]
theorem backF_comm {l : List (List Ev)} (h : ∀ v ∈ l, PitsV v) (m : List Tm) (a b : Nat) (i k : Int) : ∀ j f, backF l m a b i k j f = backF l m b a k i j f := by
  intro j
  induction j with
  | zero => intro f; rfl
  | succ j ih =>
    intro f
    unfold backF
    rw [clE_comm h]
    by_cases he : evI l m j a = i ∧ evI l m j b = k
    · rw [if_pos he, if_pos (show evI l m j b = k ∧ evI l m j a = i from ⟨he.2, he.1⟩), ih]
    · rw [if_neg he, if_neg (show ¬ (evI l m j b = k ∧ evI l m j a = i) from fun hh => he ⟨hh.2, hh.1⟩)]
theorem one_pit {x : Ev} (h : oneS x = 0) (hr : x.rest = false) : pchk x.pit = 0 := by
  refine Decidable.byContradiction fun hp => ?_
  unfold oneS at h
  (repeat' split at h) <;> simp_all
theorem val_pits {v : List Ev} (h : (checkS v).1 = 0) : PitsV v := by
  have key : ∀ (v : List Ev) (now : Int × Int) (i : Int), 0 ≤ i → (checkFrom now i v).1 = 0 → PitsV v := by
    intro v
    induction v with
    | nil => intro _ _ _ _ x hx; cases hx
    | cons y v ih =>
      intro now i hi h
      by_cases h1 : oneS y = 0
      · by_cases h2 : y.at_ = now
        · by_cases h3 : (addS y.at_ y.dur).2.2 = 0
          · rw [cf_next h1 h2 h3] at h
            intro x hx hr
            rcases List.mem_cons.1 hx with rfl | hx
            · exact one_pit h1 hr
            · exact ih _ _ (by omega) h x hx hr
          · rw [cf_add h1 h2 h3] at h; exact absurd h h3
        · rw [cf_at h1 h2] at h; simp at h
      · rw [cf_one h1] at h; exact absurd h h1
  unfold checkS at h
  split at h
  · simp at h
  · exact key v _ _ (Int.le_refl 0) h
end Go.Proofs.YtmlcnmnpkemdpaaDoor

/- Plain mathematics of dissonances: settings that are alike; another order of three voices; a voice that rests. -/
namespace Go.Proofs.YtmlcnmnpkemdpaaDoor
/-! ### Settings that are alike -/
section
variable (l l' : List (List Ev)) (m m' : List Tm)
/-- Voice a of the one setting and voice a' of the other one have the same events in all slices. -/
structure VoiceEq (N a a' : Nat) : Prop where
  ev : ∀ n, n < N → evI l' m' n a' = evI l m n a
  st : ∀ n, n < N → startB (l'.getD a' []) (mAt m' n) = startB (l.getD a []) (mAt m n)
  step : ∀ i, stepD (l'.getD a' []) i = stepD (l.getD a []) i
  same : ∀ i, oneD (stepD (l.getD a []) (i - 1)) ≠ 0 → sameB (l'.getD a' []) i = sameB (l.getD a []) i
structure PairEq (N a b a' b' : Nat) : Prop where
  va : VoiceEq l l' m m' N a a'
  vb : VoiceEq l l' m m' N b b'
  cl : ∀ n, n < N → clE l' (mAt m' n) a' b' = clE l (mAt m n) a b
variable {l l' m m'}
theorem VoiceEq.turn {N a a' : Nat} (h : VoiceEq l l' m m' N a a') (i : Int) : (decide (oneD (stepD (l'.getD a' []) (i - 1)) ≠ 0) && sameB (l'.getD a' []) i) = (decide (oneD (stepD (l.getD a []) (i - 1)) ≠ 0) && sameB (l.getD a []) i) := by
  rw [h.step]
  by_cases h1 : oneD (stepD (l.getD a []) (i - 1)) ≠ 0
  · rw [h.same i h1]
  · rw [decide_eq_false h1]; rfl
theorem PairEq.swap {N a b a' b' : Nat} (h : PairEq l l' m m' N a b a' b') (hp : ∀ v ∈ l, PitsV v) (hp' : ∀ v ∈ l', PitsV v) : PairEq l l' m m' N b a b' a' :=
  ⟨h.vb, h.va, fun n hn => by rw [clE_comm hp', clE_comm hp, h.cl n hn]⟩
theorem PairEq.new {N a b a' b' : Nat} (h : PairEq l l' m m' N a b a' b') {n : Nat} (hn : n < N) : newB l' m' n a' b' = newB l m n a b := by
  rw [Bool.eq_iff_iff, newB_iff, newB_iff, h.cl n hn]
  refine and_congr Iff.rfl ⟨fun hh n' h1 h2 h3 => ?_, fun hh n' h1 h2 h3 => ?_⟩
  · rw [← h.cl n' (by omega)]
    exact hh n' h1 (by rw [h.va.ev n' (by omega), h.va.ev n hn, h2]) (by rw [h.vb.ev n' (by omega), h.vb.ev n hn, h3])
  · rw [h.cl n' (by omega)]
    exact hh n' h1 (by rw [← h.va.ev n' (by omega), ← h.va.ev n hn, h2]) (by rw [← h.vb.ev n' (by omega), ← h.vb.ev n hn, h3])
theorem PairEq.sus {N a b a' b' : Nat} (h : PairEq l l' m m' N a b a' b') (i k : Int) : ∀ c n, n + c ≤ N → susF l' m' a' b' i k n c = susF l m a b i k n c := by
  intro c
  induction c with
  | zero => intro n _; rfl
  | succ c ih =>
    intro n hn
    unfold susF
    rw [h.vb.ev n (by omega), h.va.ev n (by omega), h.cl n (by omega), ih (n + 1) (by omega)]
theorem PairEq.susp {N a b a' b' : Nat} (h : PairEq l l' m m' N a b a' b') (hN : N = m.length - 1) (hN' : N = m'.length - 1) {n : Nat} (hn : n < N) : suspB l' m' n a' b' = suspB l m n a b := by
  unfold suspB
  rw [h.vb.ev (n - 1) (by omega), h.vb.ev n hn, h.va.ev n hn, h.cl (n - 1) (by omega), h.vb.step, ← hN, ← hN']
  rw [h.sus _ _ (N - (n + 1)) (n + 1) (by omega)]
theorem PairEq.tM {N a b a' b' : Nat} (h : PairEq l l' m m' N a b a' b') (hN : N = m.length - 1) (hN' : N = m'.length - 1) (hs : ∀ i, shortV (l'.getD a' []) i = shortV (l.getD a []) i) {n : Nat} (hn : n < N) : treatM l' m' n a' b' = treatM l m n a b := by
  unfold treatM passB turnB
  rw [h.susp hN hN' hn, h.va.ev n hn, hs, h.va.turn, h.va.step, h.va.step]
theorem PairEq.treat {N a b a' b' : Nat} (h : PairEq l l' m m' N a b a' b') (hp : ∀ v ∈ l, PitsV v) (hp' : ∀ v ∈ l', PitsV v) (hN : N = m.length - 1) (hN' : N = m'.length - 1) (hs : ∀ i, shortV (l'.getD a' []) i = shortV (l.getD a []) i) (hs' : ∀ i, shortV (l'.getD b' []) i = shortV (l.getD b []) i) {n : Nat} (hn : n < N) : treatD l' m' n a' b' = treatD l m n a b := by
  unfold treatD
  rw [h.va.st n hn, h.vb.st n hn, h.tM hN hN' hs hn, (h.swap hp hp').tM hN hN' hs' hn]
/-- Slower: what was not short is not short. -/
theorem PairEq.slowM {N a b a' b' : Nat} (h : PairEq l l' m m' N a b a' b') (hN : N = m.length - 1) (hN' : N = m'.length - 1) (hs : ∀ i, shortV (l'.getD a' []) i = true → shortV (l.getD a []) i = true) {n : Nat} (hn : n < N) (h3 : 3 ≤ treatM l m n a b) : treatM l' m' n a' b' = treatM l m n a b := by
  unfold treatM passB turnB at *
  rw [h.susp hN hN' hn, h.va.ev n hn, h.va.turn, h.va.step, h.va.step]
  have hs := hs (evI l m n a)
  generalize shortV (l'.getD a' []) (evI l m n a) = x at *
  generalize shortV (l.getD a []) (evI l m n a) = y at *
  cases x with
  | false =>
    cases y with
    | false => rfl
    | true =>
      rw [Bool.false_and, Bool.false_and, if_neg (by simp), if_neg (by simp)]
      rw [Bool.true_and, Bool.true_and] at h3 ⊢
      split at h3
      · omega
      · split at h3
        · omega
        · rename_i h1 h2
          rw [if_neg h1, if_neg h2]
  | true => rw [hs rfl]
theorem PairEq.slow {N a b a' b' : Nat} (h : PairEq l l' m m' N a b a' b') (hp : ∀ v ∈ l, PitsV v) (hp' : ∀ v ∈ l', PitsV v) (hN : N = m.length - 1) (hN' : N = m'.length - 1) (hs : ∀ i, shortV (l'.getD a' []) i = true → shortV (l.getD a []) i = true) (hs' : ∀ i, shortV (l'.getD b' []) i = true → shortV (l.getD b []) i = true) {n : Nat} (hn : n < N) (h3 : 3 ≤ treatD l m n a b) : treatD l' m' n a' b' = treatD l m n a b := by
  unfold treatD at *
  rw [h.va.st n hn, h.vb.st n hn]
  split at h3
  · rename_i h1; rw [if_pos h1, if_pos h1]
  · rename_i h1
    rw [if_neg h1, if_neg h1]
    split at h3
    · rename_i h2; rw [if_pos h2, if_pos h2]; exact (h.swap hp hp').slowM hN hN' hs' hn h3
    · rename_i h2; rw [if_neg h2, if_neg h2]; exact h.slowM hN hN' hs hn h3
end
theorem newB_comm {l : List (List Ev)} (hp : ∀ v ∈ l, PitsV v) (m : List Tm) (n a b : Nat) : newB l m n a b = newB l m n b a := by
  rw [Bool.eq_iff_iff, newB_iff, newB_iff, clE_comm hp]
  refine and_congr Iff.rfl ⟨fun hh n' g1 g2 g3 => ?_, fun hh n' g1 g2 g3 => ?_⟩
  · rw [clE_comm hp]; exact hh n' g1 g3 g2
  · rw [clE_comm hp]; exact hh n' g1 g3 g2
/-- Voices that are equal, at the same moments. -/
theorem VoiceEq.of_eq {l l' : List (List Ev)} {m : List Tm} {N a a' : Nat} (h : l'.getD a' [] = l.getD a []) : VoiceEq l l' m m N a a' := by
  refine ⟨fun n _ => ?_, fun n _ => by rw [h], fun i => by rw [h], fun i _ => by rw [h]⟩
  unfold evI; rw [h]
/-- Two rows in order with the same members are one. -/
theorem ext_of_lt {α : Type} {lt : α → α → Prop} (ht : ∀ x y, lt x y → ¬ lt y x) : ∀ {A B : List α}, A.Pairwise lt → B.Pairwise lt → (∀ x, x ∈ A ↔ x ∈ B) → A = B := by
  intro A
  induction A with
  | nil =>
    intro B _ _ h
    cases B with
    | nil => rfl
    | cons y B => exact absurd ((h y).2 (by simp)) (by simp)
  | cons x A ih =>
    intro B hA hB h
    cases B with
    | nil => exact absurd ((h x).1 (by simp)) (by simp)
    | cons y B =>
      obtain ⟨a1, a2⟩ := List.pairwise_cons.1 hA
      obtain ⟨b1, b2⟩ := List.pairwise_cons.1 hB
      have irr : ∀ z, ¬ lt z z := fun z hz => ht z z hz hz
      have e : x = y := by
        rcases List.mem_cons.1 ((h x).1 (by simp)) with e | e
        · exact e
        · rcases List.mem_cons.1 ((h y).2 (by simp)) with e' | e'
          · exact e'.symm
          · exact absurd (b1 x e) (ht x y (a1 y e'))
      subst e
      congr 1
      refine ih a2 b2 fun z => ?_
      constructor
      · intro hz
        rcases List.mem_cons.1 ((h z).1 (by simp [hz])) with e | e
        · subst e; exact absurd (a1 z hz) (irr z)
        · exact e
      · intro hz
        rcases List.mem_cons.1 ((h z).2 (by simp [hz])) with e | e
        · subst e; exact absurd (b1 z hz) (irr z)
        · exact e
theorem ltD_asym (x y : Dis) (h : ltD x y) : ¬ ltD y x := by unfold ltD at *; omega
/-! ### A voice that rests -/
theorem getD_app {l : List (List Ev)} {r : List Ev} {v : Nat} (h : v < l.length) : (l ++ [r]).getD v [] = l.getD v [] := by
  simp [List.getD, List.getElem?_append_left h]
theorem getD_last (l : List (List Ev)) (r : List Ev) : (l ++ [r]).getD l.length [] = r := by simp [List.getD]
section
variable {l : List (List Ev)} {r : List Ev} (hr : ∀ t, sndB r t = false)
include hr
theorem who_rest (t : Tm) : whoC (l ++ [r]) t = whoC l t := by
  unfold whoC
  rw [List.length_append, List.length_singleton, List.range_succ, List.filter_append]
  have e : ([l.length].filter fun v => sndB ((l ++ [r]).getD v []) t) = [] := by
    rw [List.filter_cons_of_neg]
    · rfl
    · rw [getD_last, hr]; simp
  rw [e, List.append_nil]
  refine List.filter_congr fun v hv => ?_
  rw [getD_app (List.mem_range.1 hv)]
theorem what_rest (t : Tm) : whatC (l ++ [r]) t = whatC l t := by
  unfold whatC
  rw [who_rest hr]
  refine List.map_congr_left fun v hv => ?_
  rw [getD_app (who_mem.1 hv).1]
theorem cl_rest (t : Tm) {a b : Nat} (ha : a < l.length) (hb : b < l.length) : clE (l ++ [r]) t a b = clE l t a b := by
  unfold clE
  rw [what_rest hr, getD_app ha, getD_app hb]
theorem cl_last (t : Tm) (a : Nat) : clE (l ++ [r]) t a l.length = 0 := by
  unfold clE
  rw [getD_last, hr, if_neg (by simp)]
theorem pair_rest (m : List Tm) (N : Nat) {a b : Nat} (ha : a < l.length) (hb : b < l.length) : PairEq l (l ++ [r]) m m N a b a b :=
  ⟨VoiceEq.of_eq (getD_app ha), VoiceEq.of_eq (getD_app hb), fun _ _ => cl_rest hr _ ha hb⟩
theorem all_rest (hp : ∀ v ∈ l, PitsV v) (hpr : PitsV r) (m : List Tm) : allD (l ++ [r]) m = allD l m := by
  have hp' : ∀ v ∈ l ++ [r], PitsV v := fun v hv => by
    rcases List.mem_append.1 hv with h | h
    · exact hp v h
    · rw [List.mem_singleton] at h; subst h; exact hpr
  refine ext_of_lt ltD_asym (allD_sa _ _) (allD_sa _ _) fun d => ?_
  rw [mem_allD, mem_allD]
  have ent : ∀ n a b : Nat, n < m.length - 1 → a < l.length → b < l.length → entD (l ++ [r]) m (n, a, b) = entD l m (n, a, b) := fun n a b hn ha hb => by
    have h := pair_rest hr m (m.length - 1) ha hb
    unfold entD
    simp only
    rw [cl_rest hr _ ha hb, h.treat hp hp' rfl rfl (fun i => by rw [getD_app ha]) (fun i => by rw [getD_app hb]) hn]
  constructor
  · rintro ⟨n, a, b, h1, h2, h3, h4, h5⟩
    rw [List.length_append, List.length_singleton] at h3
    have hb : b < l.length := by
      rcases Nat.lt_or_ge b l.length with h | h
      · exact h
      · have : b = l.length := by omega
        subst this
        exact absurd (cl_last hr _ _) ((newB_iff _ _).1 h4).1
    rw [(pair_rest hr m (m.length - 1) (by omega) hb).new h1] at h4
    exact ⟨n, a, b, h1, h2, hb, h4, by rw [h5, ent n a b h1 (by omega) hb]⟩
  · rintro ⟨n, a, b, h1, h2, h3, h4, h5⟩
    refine ⟨n, a, b, h1, h2, by rw [List.length_append, List.length_singleton]; omega, ?_, by rw [h5, ent n a b h1 (by omega) h3]⟩
    rw [(pair_rest hr m (m.length - 1) (by omega) h3).new h1]
    exact h4
end
/-! ### Three voices in another order -/
def rotV (k v : Nat) : Nat := (v + k) % 3
def rotL (k : Nat) (l : List (List Ev)) : List (List Ev) := [l.getD (rotV k 0) [], l.getD (rotV k 1) [], l.getD (rotV k 2) []]
theorem rotV_lt (k v : Nat) : rotV k v < 3 := by unfold rotV; omega
theorem rot_get {k : Nat} {l : List (List Ev)} {v : Nat} (hv : v < 3) : (rotL k l).getD v [] = l.getD (rotV k v) [] := by
  match v, hv with
  | 0, _ => rfl
  | 1, _ => rfl
  | 2, _ => rfl
theorem rotV_inj {k a b : Nat} (ha : a < 3) (hb : b < 3) (h : rotV k a = rotV k b) : a = b := by unfold rotV at h; omega
/-- Where a voice came from. -/
theorem rotV_sur (k a : Nat) (ha : a < 3) : ∃ v, v < 3 ∧ rotV k v = a := ⟨(a + 3 - k % 3) % 3, by omega, by unfold rotV; omega⟩
section
variable {l : List (List Ev)} (hl : l.length = 3) (hp : ∀ v ∈ l, PitsV v) (k : Nat)
include hl hp
omit hp in
theorem rot_mem {v : List Ev} : v ∈ rotL k l → v ∈ l := by
  intro h
  have key : ∀ a, a < 3 → l.getD a [] ∈ l := fun a ha => by rw [show l.getD a [] = l[a]'(by omega) by simp [List.getD, hl, ha]]; exact List.getElem_mem _
  unfold rotL at h
  simp only [List.mem_cons, List.not_mem_nil, or_false] at h
  rcases h with rfl | rfl | rfl
  · exact key _ (rotV_lt _ _)
  · exact key _ (rotV_lt _ _)
  · exact key _ (rotV_lt _ _)
theorem rot_pits : ∀ v ∈ rotL k l, PitsV v := fun v hv => hp v (rot_mem hl k hv)
omit hp in
theorem what_rot (t : Tm) (p : Pit3) : p ∈ whatC (rotL k l) t ↔ p ∈ whatC l t := by
  unfold whatC
  rw [List.mem_map, List.mem_map]
  constructor
  · rintro ⟨v, hv, rfl⟩
    obtain ⟨h1, h2⟩ := who_mem.1 hv
    have h3 : v < 3 := h1
    rw [rot_get h3] at h2 ⊢
    exact ⟨rotV k v, who_mem.2 ⟨by rw [hl]; exact rotV_lt _ _, h2⟩, rfl⟩
  · rintro ⟨a, ha, rfl⟩
    obtain ⟨h1, h2⟩ := who_mem.1 ha
    obtain ⟨v, hv, e⟩ := rotV_sur k a (by omega)
    subst e
    exact ⟨v, who_mem.2 ⟨hv, by rw [rot_get hv]; exact h2⟩, by rw [rot_get hv]⟩
theorem cl_rot (t : Tm) {a b : Nat} (ha : a < 3) (hb : b < 3) : clE (rotL k l) t a b = clE l t (rotV k a) (rotV k b) := by
  unfold clE
  rw [rot_get ha, rot_get hb]
  by_cases h1 : sndB (l.getD (rotV k a) []) t = true
  · have hm : pitA (l.getD (rotV k a) []) t ∈ whatC l t := by
      unfold whatC
      exact List.mem_map.2 ⟨rotV k a, who_mem.2 ⟨by rw [hl]; exact rotV_lt _ _, h1⟩, rfl⟩
    rw [bass_same (l := whatC l t) (l' := whatC (rotL k l) t) (what_ok hp t) (List.length_pos_of_mem hm) (fun p => (what_rot hl k t p).symm)]
  · rw [if_neg (fun h => h1 h.1), if_neg (fun h => h1 h.1)]
theorem pair_rot (m : List Tm) (N : Nat) {a b : Nat} (ha : a < 3) (hb : b < 3) : PairEq l (rotL k l) m m N (rotV k a) (rotV k b) a b :=
  ⟨VoiceEq.of_eq (rot_get ha), VoiceEq.of_eq (rot_get hb), fun _ _ => cl_rot hl hp k _ ha hb⟩
/-- A dissonance under the numbers of the other order. -/
def rotD (k : Nat) (d : Dis) : Dis :=
  if (d.b + k) % 3 < (d.a + k) % 3 then ⟨d.n, (d.b + k) % 3, (d.a + k) % 3, d.kind, d.treat⟩ else ⟨d.n, (d.a + k) % 3, (d.b + k) % 3, d.kind, d.treat⟩
omit hl hp in
theorem rotV_int (k v : Nat) : ((rotV k v : Nat) : Int) = ((v : Int) + k) % 3 := by unfold rotV; omega
theorem rot_fwd (m : List Tm) {d : Dis} (h : d ∈ allD (rotL k l) m) : rotD k d ∈ allD l m := by
  obtain ⟨n, a, b, h1, h2, h3, h4, rfl⟩ := (mem_allD _ _).1 h
  have hb : b < 3 := h3
  have ha : a < 3 := by omega
  have hP := pair_rot hl hp k m (m.length - 1) ha hb
  have hp' := rot_pits hl hp k
  have hne : rotV k a ≠ rotV k b := fun e => by have := rotV_inj ha hb e; omega
  have e1 := hP.new h1
  have e2 := hP.treat hp hp' rfl rfl (fun i => by rw [rot_get ha]) (fun i => by rw [rot_get hb]) h1
  have e3 := hP.cl n h1
  rw [h4] at e1
  have la := rotV_lt k a
  have lb := rotV_lt k b
  have i1 := rotV_int k a
  have i2 := rotV_int k b
  rw [mem_allD]
  unfold rotD entD
  simp only
  by_cases hlt : rotV k b < rotV k a
  · refine ⟨n, rotV k b, rotV k a, h1, hlt, by omega, ?_, ?_⟩
    · rw [newB_comm hp, ← e1]
    · rw [if_pos (by omega), e2, e3, i1, i2, treatD_comm, clE_comm hp]
  · refine ⟨n, rotV k a, rotV k b, h1, by omega, by omega, e1.symm, ?_⟩
    rw [if_neg (by omega), e2, e3, i1, i2]
end
end Go.Proofs.YtmlcnmnpkemdpaaDoor

/- Plain mathematics of dissonances: three voices in another order have as many of each treatment. -/
namespace Go.Proofs.YtmlcnmnpkemdpaaDoor
theorem nodup_le {α : Type} [DecidableEq α] : ∀ {l m : List α}, l.Nodup → (∀ x ∈ l, x ∈ m) → l.length ≤ m.length := by
  intro l
  induction l with
  | nil => intro m _ _; simp
  | cons x l ih =>
    intro m h hs
    obtain ⟨h1, h2⟩ := List.nodup_cons.1 h
    have hx := hs x (by simp)
    have := ih (m := m.erase x) h2 fun y hy => (List.mem_erase_of_ne (by rintro rfl; exact h1 hy)).2 (hs y (by simp [hy]))
    rw [List.length_erase_of_mem hx] at this
    have := List.length_pos_of_mem hx
    rw [List.length_cons]; omega
theorem nodup_inj {α β : Type} {f : α → β} {l : List α} (hl : l.Nodup) (hf : ∀ x ∈ l, ∀ y ∈ l, f x = f y → x = y) : (l.map f).Nodup := by
  induction l with
  | nil => exact List.nodup_nil
  | cons x l ih =>
    rw [List.map_cons, List.nodup_cons] at *
    refine ⟨fun hm => ?_, ih hl.2 fun a ha b hb => hf a (by simp [ha]) b (by simp [hb])⟩
    obtain ⟨y, hy, e⟩ := List.mem_map.1 hm
    have := hf x (by simp) y (by simp [hy]) e.symm
    subst this
    exact hl.1 hy
theorem allD_nodup (l : List (List Ev)) (m : List Tm) : (allD l m).Nodup := (allD_sa l m).imp fun {x y} h e => by subst e; unfold ltD at h; omega
theorem rot_inj {l : List (List Ev)} {m : List Tm} (hl : l.length = 3) (k : Nat) {d e : Dis} (hd : d ∈ allD l m) (he : e ∈ allD l m) (h : rotD k d = rotD k e) : d = e := by
  obtain ⟨n, a, b, _, h2, h3, _, rfl⟩ := (mem_allD _ _).1 hd
  obtain ⟨n', a', b', _, g2, g3, _, rfl⟩ := (mem_allD _ _).1 he
  have key : n = n' ∧ a = a' ∧ b = b' := by
    unfold rotD entD at h
    simp only at h
    split at h <;> split at h <;> (rw [Dis.mk.injEq] at h; omega)
  obtain ⟨rfl, rfl, rfl⟩ := key
  rfl
theorem rotD_treat (k : Nat) (d : Dis) : (rotD k d).treat = d.treat := by unfold rotD; split <;> rfl
section
variable {l : List (List Ev)} (hl : l.length = 3) (hp : ∀ v ∈ l, PitsV v)
include hl
theorem rot_back (k : Nat) : rotL (3 - k % 3) (rotL k l) = l := by
  obtain ⟨x, y, z, rfl⟩ : ∃ x y z, l = [x, y, z] := by
    match l, hl with
    | [x, y, z], _ => exact ⟨x, y, z, rfl⟩
  have h3 : k % 3 = 0 ∨ k % 3 = 1 ∨ k % 3 = 2 := by omega
  unfold rotL rotV
  rcases h3 with h | h | h
  · rw [h, show (0 + k) % 3 = 0 by omega, show (1 + k) % 3 = 1 by omega, show (2 + k) % 3 = 2 by omega]; rfl
  · rw [h, show (0 + k) % 3 = 1 by omega, show (1 + k) % 3 = 2 by omega, show (2 + k) % 3 = 0 by omega]; rfl
  · rw [h, show (0 + k) % 3 = 2 by omega, show (1 + k) % 3 = 0 by omega, show (2 + k) % 3 = 1 by omega]; rfl
include hp
theorem rot_le (k : Nat) (m : List Tm) (P : Int → Bool) : ((allD (rotL k l) m).filter fun d => P d.treat).length ≤ ((allD l m).filter fun d => P d.treat).length := by
  have hn : (((allD (rotL k l) m).filter fun d => P d.treat).map (rotD k)).Nodup := nodup_inj ((allD_nodup _ _).filter _) fun x hx y hy e => rot_inj (show (rotL k l).length = 3 from rfl) k (List.mem_filter.1 hx).1 (List.mem_filter.1 hy).1 e
  have := nodup_le hn (m := (allD l m).filter fun d => P d.treat) fun x hx => by
    obtain ⟨d, hd, rfl⟩ := List.mem_map.1 hx
    obtain ⟨h1, h2⟩ := List.mem_filter.1 hd
    exact List.mem_filter.2 ⟨rot_fwd hl hp k m h1, by rw [rotD_treat]; exact h2⟩
  rwa [List.length_map] at this
theorem rot_len (k : Nat) (m : List Tm) (P : Int → Bool) : ((allD (rotL k l) m).filter fun d => P d.treat).length = ((allD l m).filter fun d => P d.treat).length := by
  refine Nat.le_antisymm (rot_le hl hp k m P) ?_
  have h := rot_le (l := rotL k l) rfl (rot_pits hl hp k) (3 - k % 3) m P
  rwa [rot_back hl] at h
theorem rot_count (k : Nat) (m : List Tm) : (allD (rotL k l) m).length = (allD l m).length ∧ ∀ t, cntT t (allD (rotL k l) m) = cntT t (allD l m) := by
  refine ⟨?_, fun t => ?_⟩
  · have := rot_len hl hp k m (fun _ => true)
    have e : ∀ L : List Dis, (L.filter fun _ => true) = L := fun L => List.filter_eq_self.2 (by simp)
    rw [e, e] at this
    exact this
  · unfold cntT
    rw [rot_len hl hp k m (fun x => decide (x = t))]
end
theorem rot_mom {M : Int} {l : List (List Ev)} (h : SetQ M l) (hl : l.length = 3) (k : Nat) : SetQ M (rotL k l) ∧ momS (rotL k l) = momS l := by
  have hs : SetQ M (rotL k l) := ⟨h.pos, h.big, by show 3 ≤ 8; omega, fun v hv => h.each v (rot_mem hl k hv)⟩
  refine ⟨hs, sa_ext (setq_sa hs).1 (setq_sa h).1 fun t => ?_⟩
  rw [mem_mom, mem_mom]
  constructor
  · rintro ⟨v, hv, hx⟩; exact ⟨v, rot_mem hl k hv, hx⟩
  · rintro ⟨v, hv, hx⟩
    refine ⟨v, ?_, hx⟩
    rw [← rot_back hl k] at hv
    exact rot_mem rfl _ hv
end Go.Proofs.YtmlcnmnpkemdpaaDoor

/- Plain mathematics of dissonances: an octave higher, and slower. -/
namespace Go.Proofs.YtmlcnmnpkemdpaaDoor
theorem flat_eq {α β : Type} {f g : α → List β} {P : List α} (h : ∀ x ∈ P, f x = g x) : P.flatMap f = P.flatMap g := by
  induction P with
  | nil => rfl
  | cons x P ih => rw [List.flatMap_cons, List.flatMap_cons, h x (by simp), ih (fun y hy => h y (by simp [hy]))]
/-! ### Events that are changed one by one -/
section
variable {f : Ev → Ev}
theorem getD_mapL {l : List (List Ev)} (a : Nat) : (l.map (List.map f)).getD a [] = (l.getD a []).map f := by
  rcases Nat.lt_or_ge a l.length with h | h
  · simp [List.getD, h]
  · simp [List.getD, h]
theorem onFrom_map {f : Ev → Ev} {t t' : Tm} (v : List Ev) (hh : ∀ x ∈ v, holdB (f x) t' = holdB x t) : ∀ i, onFrom i (v.map f) t' = onFrom i v t := by
  induction v with
  | nil => intro i; rfl
  | cons x v ih =>
    intro i
    rw [List.map_cons]
    unfold onFrom
    rw [hh x (by simp), ih (fun y hy => hh y (by simp [hy]))]
theorem on_map {f : Ev → Ev} {t t' : Tm} {v : List Ev} (hh : ∀ x ∈ v, holdB (f x) t' = holdB x t) : onS (v.map f) t' = onS v t := onFrom_map v hh 0
theorem event_map {t t' : Tm} {v : List Ev} (h : onS (v.map f) t' = onS v t) : eventAt (v.map f) t' = (eventAt v t).map f := by
  unfold eventAt
  rw [h]
  cases onS v t with
  | ofNat k => simp
  | negSucc k => rfl
theorem sndP_map (hr : ∀ x, (f x).rest = x.rest) {t t' : Tm} {v : List Ev} (h : onS (v.map f) t' = onS v t) : sndP (v.map f) t' = (sndP v t).map f := by
  unfold sndP
  rw [event_map h]
  cases eventAt v t with
  | none => rfl
  | some x =>
    simp only [Option.map_some, hr]
    cases x.rest <;> rfl
theorem sndB_map (hr : ∀ x, (f x).rest = x.rest) {t t' : Tm} {v : List Ev} (h : onS (v.map f) t' = onS v t) : sndB (v.map f) t' = sndB v t := by
  unfold sndB; rw [sndP_map hr h]; cases sndP v t <;> rfl
theorem pitA_map {g : Pit3 → Pit3} (hr : ∀ x, (f x).rest = x.rest) (hg : ∀ x, x.rest = false → (f x).pit = g x.pit) {t t' : Tm} {v : List Ev} (h : onS (v.map f) t' = onS v t) (hs : sndB v t = true) : pitA (v.map f) t' = g (pitA v t) := by
  obtain ⟨k, x, h1, h2, h3, h4⟩ := snd_val hs
  have h5 := (snd_note (v := v.map f) (t := t') (k := k) (x := f x) (by rw [h, h1]) (by rw [List.getElem?_map, h2]; rfl) (by rw [hr, h3])).2
  rw [h5, h4, hg x h3]
theorem stepD_map (hr : ∀ x, (f x).rest = x.rest) (hn : ∀ x y : Ev, x.rest = false → y.rest = false → numP (f y).pit - numP (f x).pit = numP y.pit - numP x.pit) (v : List Ev) (i : Int) : stepD (v.map f) i = stepD v i := by
  unfold stepD
  by_cases hi : i < 0
  · rw [if_pos hi, if_pos hi]
  · rw [if_neg hi, if_neg hi, List.getElem?_map, List.getElem?_map]
    cases v[i.toNat]? with
    | none => rfl
    | some x =>
      cases v[i.toNat + 1]? with
      | none => rfl
      | some y =>
        simp only [Option.map_some, hr]
        by_cases hc : x.rest = true ∨ y.rest = true
        · rw [if_pos hc, if_pos hc]
        · rw [if_neg hc, if_neg hc]
          have hx : x.rest = false := by
            cases h : x.rest
            · rfl
            · exact absurd (.inl h) hc
          have hy : y.rest = false := by
            cases h : y.rest
            · rfl
            · exact absurd (.inr h) hc
          exact hn x y hx hy
theorem step_notes {v : List Ev} {i : Int} (h : oneD (stepD v i) ≠ 0) : 0 ≤ i ∧ ∃ x y, v[i.toNat]? = some x ∧ v[i.toNat + 1]? = some y ∧ x.rest = false ∧ y.rest = false := by
  have h0 : stepD v i ≠ 0 := fun e => h (by rw [e]; rfl)
  unfold stepD at h0
  by_cases hi : i < 0
  · rw [if_pos hi] at h0; exact absurd rfl h0
  · rw [if_neg hi] at h0
    refine ⟨by omega, ?_⟩
    cases hx : v[i.toNat]? with
    | none => rw [hx] at h0; exact absurd rfl h0
    | some x =>
      cases hy : v[i.toNat + 1]? with
      | none => rw [hx, hy] at h0; exact absurd rfl h0
      | some y =>
        rw [hx, hy] at h0
        simp only at h0
        by_cases hc : x.rest = true ∨ y.rest = true
        · rw [if_pos hc] at h0; exact absurd rfl h0
        · refine ⟨x, y, rfl, rfl, ?_, ?_⟩
          · cases h : x.rest
            · rfl
            · exact absurd (.inl h) hc
          · cases h : y.rest
            · rfl
            · exact absurd (.inr h) hc
theorem sameB_map (hr : ∀ x, (f x).rest = x.rest) (hg : ∀ x y : Ev, x.rest = false → y.rest = false → ((f y).pit = (f x).pit ↔ y.pit = x.pit)) (v : List Ev) (i : Int) (h : oneD (stepD v (i - 1)) ≠ 0) : sameB (v.map f) i = sameB v i := by
  obtain ⟨_, x, _, hx, _, hxr, _⟩ := step_notes h
  unfold sameB
  rw [List.getElem?_map, List.getElem?_map, hx]
  cases v[i.toNat + 1]? with
  | none => rfl
  | some y =>
    simp only [Option.map_some, hr]
    cases hy : y.rest with
    | true => rfl
    | false =>
      have := hg x y hxr hy
      simp only [this]
theorem shortV_map {v : List Ev} (hs : ∀ x ∈ v, shortB (f x) = shortB x) (i : Int) : shortV (v.map f) i = shortV v i := by
  unfold shortV
  rw [List.getElem?_map]
  cases hx : v[i.toNat]? with
  | none => rfl
  | some x => exact hs x (List.mem_of_getElem? hx)
theorem start_map {t t' : Tm} {v : List Ev} (h : onS (v.map f) t' = onS v t) (ha : ∀ x ∈ v, ((f x).at_ = t' ↔ x.at_ = t)) : startB (v.map f) t' = startB v t := by
  unfold startB
  rw [h]
  cases onS v t with
  | negSucc k => rfl
  | ofNat k =>
    simp only [List.getElem?_map]
    cases hx : v[k]? with
    | none => rfl
    | some x => exact decide_eq_decide.2 (ha x (List.mem_of_getElem? hx))
end
/-! ### An octave higher -/
def upP (q : Pit3) : Pit3 := (q.1, q.2.1 + 1, q.2.2)
def octE (x : Ev) : Ev := if x.rest = true then x else { x with pit := upP x.pit }
theorem octE_at (x : Ev) : (octE x).at_ = x.at_ := by unfold octE; split <;> rfl
theorem octE_dur (x : Ev) : (octE x).dur = x.dur := by unfold octE; split <;> rfl
theorem octE_rest (x : Ev) : (octE x).rest = x.rest := by unfold octE; split <;> rfl
theorem octE_next (x : Ev) : nextS (octE x) = nextS x := by unfold nextS; rw [octE_at, octE_dur]
theorem octE_pit {x : Ev} (h : x.rest = false) : (octE x).pit = upP x.pit := by unfold octE; rw [if_neg (by simp [h])]
theorem up_num (p : Pit3) : numP (upP p) = numP p + 7 ∧ htP (upP p) = htP p + 12 := by unfold numP htP upP; simp only; omega
theorem up_one {p q : Pit3} : upP p = upP q ↔ p = q := by
  obtain ⟨a, b, c⟩ := p
  obtain ⟨d, e, f⟩ := q
  unfold upP
  simp only [Prod.mk.injEq]
  omega
theorem up_lowB (p q : Pit3) : lowB (upP p) (upP q) ↔ lowB p q := by
  have h1 := up_num p; have h2 := up_num q
  unfold lowB; omega
theorem up_lo (p q : Pit3) : loP (upP p) (upP q) = upP (loP p q) := by
  unfold loP
  by_cases h : lowB p q
  · rw [if_pos h, if_pos ((up_lowB p q).2 h)]
  · rw [if_neg h, if_neg (fun hh => h ((up_lowB p q).1 hh))]
theorem up_hi (p q : Pit3) : hiP (upP p) (upP q) = upP (hiP p q) := by
  unfold hiP
  by_cases h : lowB p q
  · rw [if_pos h, if_pos ((up_lowB p q).2 h)]
  · rw [if_neg h, if_neg (fun hh => h ((up_lowB p q).1 hh))]
theorem up_kind (p q : Pit3) : kindP (upP p) (upP q) = kindP p q := by
  have : upI (upP p) (upP q) = upI p q := by
    unfold upI
    rw [up_lo, up_hi]
    have h1 := up_num (loP p q); have h2 := up_num (hiP p q)
    unfold btw
    rw [h1.1, h1.2, h2.1, h2.2]
    ext <;> simp only <;> omega
  unfold kindP; rw [this]
theorem up_bad (b p q : Pit3) : badP (upP b) (upP p) (upP q) ↔ badP b p q := by
  unfold badP
  rw [up_kind, up_lo, up_one]
theorem up_bass {L : List Pit3} (h : ∀ p ∈ L, pchk p = 0 ∧ p.2.1 ≤ 7) (h0 : 0 < L.length) : bassP (L.map upP) = upP (bassP L) := by
  refine bass_one (fun p hp => ?_) (List.mem_map.2 ⟨_, bassP_mem h0, rfl⟩) fun q hq => ?_
  · obtain ⟨q, hq, rfl⟩ := List.mem_map.1 hp
    obtain ⟨h1, h2⟩ := h q hq
    have := pchk_ok h1
    exact pchk_mk (by unfold upP; simp only; omega)
  · obtain ⟨p, hp, rfl⟩ := List.mem_map.1 hq
    have h1 := bass_min hp
    have h2 := up_num p; have h3 := up_num (bassP L)
    unfold deep at *
    omega
/-- The pitches of a voice are valid, also an octave higher. -/
def PitsU (v : List Ev) : Prop := ∀ x ∈ v, x.rest = false → pchk x.pit = 0 ∧ x.pit.2.1 ≤ 7
theorem PitsU.pits {v : List Ev} (h : PitsU v) : PitsV v := fun x hx hr => (h x hx hr).1
theorem PitsU.up {v : List Ev} (h : PitsU v) : PitsV (v.map octE) := by
  intro x hx hr
  obtain ⟨y, hy, rfl⟩ := List.mem_map.1 hx
  rw [octE_rest] at hr
  rw [octE_pit hr]
  obtain ⟨h1, h2⟩ := h y hy hr
  have := pchk_ok h1
  exact pchk_mk (by unfold upP; simp only; omega)
section
variable {l : List (List Ev)} (hp : ∀ v ∈ l, PitsU v)
theorem up_on (v : List Ev) (t : Tm) : onS (v.map octE) t = onS v t := on_map fun x _ => by unfold holdB; rw [octE_at, octE_next]
theorem up_mom (l : List (List Ev)) : momS (l.map (List.map octE)) = momS l := by
  have key : ∀ (v : List Ev) (o : List Tm), momV o (v.map octE) = momV o v := by
    intro v
    induction v with
    | nil => intro o; rfl
    | cons x v ih =>
      intro o
      show momV (withS (withS o (octE x).at_) (nextS (octE x))) (v.map octE) = momV (withS (withS o x.at_) (nextS x)) v
      rw [octE_at, octE_next, ih]
  unfold momS
  generalize ([] : List Tm) = o
  induction l generalizing o with
  | nil => rfl
  | cons v l ih => rw [List.map_cons, List.foldl_cons, List.foldl_cons, key, ih]
theorem up_who (l : List (List Ev)) (t : Tm) : whoC (l.map (List.map octE)) t = whoC l t := by
  unfold whoC
  rw [List.length_map]
  refine List.filter_congr fun v _ => ?_
  rw [getD_mapL, sndB_map octE_rest (up_on _ t)]
theorem up_what (l : List (List Ev)) (t : Tm) : whatC (l.map (List.map octE)) t = (whatC l t).map upP := by
  unfold whatC
  rw [up_who, List.map_map]
  refine List.map_congr_left fun v hv => ?_
  show pitA ((l.map (List.map octE)).getD v []) t = upP (pitA (l.getD v []) t)
  rw [getD_mapL, pitA_map octE_rest (fun x hx => octE_pit hx) (up_on _ t) (who_mem.1 hv).2]
include hp
theorem up_at {a : Nat} {t : Tm} (hs : sndB (l.getD a []) t = true) : pchk (pitA (l.getD a []) t) = 0 ∧ (pitA (l.getD a []) t).2.1 ≤ 7 := by
  obtain ⟨k, x, _, hx, hr, e⟩ := snd_val hs
  have ha := snd_lt hs
  rw [e]
  exact hp _ (by rw [show l.getD a [] = l[a] by simp [List.getD, ha]]; exact List.getElem_mem _) x (List.mem_of_getElem? hx) hr
theorem cl_up (t : Tm) (a b : Nat) : clE (l.map (List.map octE)) t a b = clE l t a b := by
  unfold clE
  rw [getD_mapL, getD_mapL, sndB_map octE_rest (up_on _ t), sndB_map octE_rest (up_on _ t)]
  by_cases h1 : sndB (l.getD a []) t = true
  · by_cases h2 : sndB (l.getD b []) t = true
    · rw [pitA_map octE_rest (fun x hx => octE_pit hx) (up_on _ t) h1, pitA_map octE_rest (fun x hx => octE_pit hx) (up_on _ t) h2, up_what, up_bass, up_kind]
      · simp only [up_bad]
      · intro p hpm
        unfold whatC at hpm
        obtain ⟨v, hv, rfl⟩ := List.mem_map.1 hpm
        exact up_at hp (who_mem.1 hv).2
      · rw [what_len]
        exact List.length_pos_of_mem (who_mem.2 ⟨snd_lt h1, h1⟩)
    · rw [if_neg (fun h => h2 h.2.1), if_neg (fun h => h2 h.2.1)]
  · rw [if_neg (fun h => h1 h.1), if_neg (fun h => h1 h.1)]
omit hp in
theorem voice_up (m : List Tm) (N a : Nat) : VoiceEq l (l.map (List.map octE)) m m N a a := by
  have num : ∀ x y : Ev, x.rest = false → y.rest = false → numP (octE y).pit - numP (octE x).pit = numP y.pit - numP x.pit := fun x y hx hy => by
    rw [octE_pit hx, octE_pit hy, (up_num _).1, (up_num _).1]; omega
  refine ⟨fun n _ => ?_, fun n _ => ?_, fun i => ?_, fun i h => ?_⟩
  · unfold evI; rw [getD_mapL, up_on]
  · rw [getD_mapL, start_map (up_on _ _) (fun x _ => by rw [octE_at])]
  · rw [getD_mapL, stepD_map octE_rest num]
  · rw [getD_mapL, sameB_map octE_rest (fun x y hx hy => by rw [octE_pit hx, octE_pit hy, up_one]) _ i h]
theorem all_up (m : List Tm) : allD (l.map (List.map octE)) m = allD l m := by
  have hp' : ∀ v ∈ l.map (List.map octE), PitsV v := fun v hv => by
    obtain ⟨u, hu, rfl⟩ := List.mem_map.1 hv
    exact (hp u hu).up
  have hP : ∀ a b, PairEq l (l.map (List.map octE)) m m (m.length - 1) a b a b := fun a b => ⟨voice_up m _ a, voice_up m _ b, fun n _ => cl_up hp _ a b⟩
  have hs : ∀ a i, shortV ((l.map (List.map octE)).getD a []) i = shortV (l.getD a []) i := fun a i => by
    rw [getD_mapL, shortV_map (fun x _ => by unfold shortB; rw [octE_dur])]
  rw [allD_eq, allD_eq, List.length_map]
  refine flat_eq fun x hx => ?_
  have hn := (mem_allT.1 hx).1
  unfold entL entD
  rw [(hP x.2.1 x.2.2).new hn, cl_up hp, (hP x.2.1 x.2.2).treat (fun v hv => (hp v hv).pits) hp' rfl rfl (hs _) (hs _) hn]
end
end Go.Proofs.YtmlcnmnpkemdpaaDoor

/- Plain mathematics of dissonances: doubled times. -/
namespace Go.Proofs.YtmlcnmnpkemdpaaDoor
def dbl (t : Tm) : Tm := (2 * t.1, t.2)
def dblE (x : Ev) : Ev := { x with at_ := dbl x.at_, dur := dbl x.dur }
theorem dbl_lt (a b : Tm) : ltT (dbl a) (dbl b) ↔ ltT a b := by
  unfold ltT dbl
  simp only
  rw [Int.mul_assoc, Int.mul_assoc]
  omega
theorem dbl_inj {a b : Tm} : dbl a = dbl b ↔ a = b := by
  unfold dbl
  rw [Prod.ext_iff, Prod.ext_iff]
  simp only
  omega
theorem ok_whole {k : Int} (h : 0 ≤ k) (h' : k ≤ 1099511627776) : ok (k, 1) := ⟨h, h', by simp, by simp, by unfold gg; simp⟩
theorem cq_one {k : Int} (h : 0 ≤ k) (h' : k ≤ 1099511627776) : cq 1 k = (k, 1) := cq_of (by omega) h (ok_whole h h') (by simp)
/-- Events at whole times. -/
def Whole1 (x : Ev) : Prop := ∃ a d : Int, 0 ≤ a ∧ 1 ≤ d ∧ a + d ≤ 1000000 ∧ x.at_ = (a, 1) ∧ x.dur = (d, 1)
theorem whole_next {a d : Int} (h : 0 ≤ a) (h1 : 1 ≤ d) (h2 : a + d ≤ 10000000) : addS (a, 1) (d, 1) = (a + d, 1, 0) := by
  have q1 : okq 1 := ⟨by omega, by omega⟩
  have e := cq_add (q := 1) (m := a) (n := d) (inq_of q1 h (by omega)) (inq_of q1 (by omega) (by omega)) (inq_of q1 (by omega) (by omega))
  rwa [cq_one h (by omega), cq_one (by omega) (by omega), cq_one (by omega) (by omega)] at e
theorem Whole1.next {x : Ev} (h : Whole1 x) : nextS (dblE x) = dbl (nextS x) := by
  obtain ⟨a, d, h1, h2, h3, e1, e2⟩ := h
  unfold nextS dblE dbl
  simp only [e1, e2]
  rw [whole_next h1 h2 (by omega), whole_next (by omega) (by omega) (by omega)]
  simp only [Prod.mk.injEq, and_true]
  omega
theorem Whole1.long {x : Ev} (h : Whole1 x) : shortB (dblE x) = false := by
  obtain ⟨a, d, h1, h2, h3, e1, e2⟩ := h
  unfold shortB dblE dbl
  simp only [e2]
  rw [cmp_ok (ok_whole (by omega) (by omega)) (ok_whole (by omega) (by omega))]
  apply decide_eq_false
  simp only
  unfold sgn
  rw [if_neg (by omega), if_pos (by omega)]
  omega
theorem dbl_hold {x : Ev} (h : Whole1 x) (t : Tm) : holdB (dblE x) (dbl t) = holdB x t := by
  unfold holdB
  rw [h.next]
  show (decide (¬ ltT (dbl t) (dbl x.at_)) && decide (ltT (dbl t) (dbl (nextS x)))) = _
  simp only [dbl_lt]
def WholeV (v : List Ev) : Prop := ∀ x ∈ v, Whole1 x
theorem dbl_on {v : List Ev} (h : WholeV v) (t : Tm) : onS (v.map dblE) (dbl t) = onS v t := on_map fun x hx => dbl_hold (h x hx) t
section
variable {l : List (List Ev)} (hw : ∀ v ∈ l, WholeV v) (hp : ∀ v ∈ l, PitsV v)
theorem whole_getD (hw : ∀ v ∈ l, WholeV v) (a : Nat) : WholeV (l.getD a []) := by
  rcases Nat.lt_or_ge a l.length with h1 | h1
  · rw [show l.getD a [] = l[a] by simp [List.getD, h1]]; exact hw _ (List.getElem_mem h1)
  · rw [show l.getD a [] = [] by simp [List.getD, h1]]; intro x hx; cases hx
include hw
theorem dbl_mem (t : Tm) : t ∈ momS (l.map (List.map dblE)) ↔ t ∈ (momS l).map dbl := by
  rw [mem_mom, List.mem_map]
  constructor
  · rintro ⟨v, hv, x, hx, h⟩
    obtain ⟨u, hu, rfl⟩ := List.mem_map.1 hv
    obtain ⟨y, hy, rfl⟩ := List.mem_map.1 hx
    rcases h with rfl | rfl
    · exact ⟨y.at_, (mem_mom l _).2 ⟨u, hu, y, hy, .inl rfl⟩, rfl⟩
    · exact ⟨nextS y, (mem_mom l _).2 ⟨u, hu, y, hy, .inr rfl⟩, ((hw u hu y hy).next).symm⟩
  · rintro ⟨s, hs, rfl⟩
    obtain ⟨u, hu, y, hy, h⟩ := (mem_mom l _).1 hs
    refine ⟨u.map dblE, List.mem_map.2 ⟨u, hu, rfl⟩, dblE y, List.mem_map.2 ⟨y, hy, rfl⟩, ?_⟩
    rcases h with rfl | rfl
    · exact .inl rfl
    · exact .inr (hw u hu y hy).next.symm
theorem dbl_mom (h1 : SA (momS l)) (h2 : SA (momS (l.map (List.map dblE)))) : momS (l.map (List.map dblE)) = (momS l).map dbl := by
  refine sa_ext h2 ?_ (dbl_mem hw)
  unfold SA
  rw [List.pairwise_map]
  exact h1.imp fun {a b} h => (dbl_lt a b).2 h
omit hw in
theorem mAt_dbl {m : List Tm} {n : Nat} (h : n < m.length) : mAt (m.map dbl) n = dbl (mAt m n) := by
  have e := mAt_some h
  have e' := mAt_some (m := m.map dbl) (i := n) (by rw [List.length_map]; exact h)
  rw [List.getElem?_map, e] at e'
  exact (Option.some.inj e').symm
theorem dbl_on' (a : Nat) (t : Tm) : onS ((l.getD a []).map dblE) (dbl t) = onS (l.getD a []) t := dbl_on (whole_getD hw a) t
theorem dbl_snd (a : Nat) (t : Tm) : sndB ((l.getD a []).map dblE) (dbl t) = sndB (l.getD a []) t := sndB_map (f := dblE) (fun _ => rfl) (dbl_on' hw a t)
theorem dbl_pit {a : Nat} {t : Tm} (h : sndB (l.getD a []) t = true) : pitA ((l.getD a []).map dblE) (dbl t) = pitA (l.getD a []) t := pitA_map (f := dblE) (g := fun p => p) (fun _ => rfl) (fun _ _ => rfl) (dbl_on' hw a t) h
theorem dbl_who (t : Tm) : whoC (l.map (List.map dblE)) (dbl t) = whoC l t := by
  unfold whoC
  rw [List.length_map]
  refine List.filter_congr fun v _ => ?_
  rw [getD_mapL, dbl_snd hw]
theorem dbl_what (t : Tm) : whatC (l.map (List.map dblE)) (dbl t) = whatC l t := by
  unfold whatC
  rw [dbl_who hw]
  refine List.map_congr_left fun v hv => ?_
  rw [getD_mapL, dbl_pit hw (who_mem.1 hv).2]
theorem dbl_cl (t : Tm) (a b : Nat) : clE (l.map (List.map dblE)) (dbl t) a b = clE l t a b := by
  unfold clE
  rw [getD_mapL, getD_mapL, dbl_snd hw, dbl_snd hw, dbl_what hw]
  by_cases h1 : sndB (l.getD a []) t = true
  · by_cases h2 : sndB (l.getD b []) t = true
    · rw [dbl_pit hw h1, dbl_pit hw h2]
    · rw [if_neg (fun h => h2 h.2.1), if_neg (fun h => h2 h.2.1)]
  · rw [if_neg (fun h => h1 h.1), if_neg (fun h => h1 h.1)]
theorem dbl_voice (m : List Tm) (a : Nat) : VoiceEq l (l.map (List.map dblE)) m (m.map dbl) (m.length - 1) a a := by
  refine ⟨fun n hn => ?_, fun n hn => ?_, fun i => ?_, fun i h => ?_⟩
  · unfold evI; rw [getD_mapL, mAt_dbl (by omega), dbl_on' hw]
  · rw [getD_mapL, mAt_dbl (by omega), start_map (dbl_on' hw a _) (fun x _ => by show dbl x.at_ = dbl _ ↔ _; exact dbl_inj)]
  · rw [getD_mapL, stepD_map (f := dblE) (fun _ => rfl) (fun _ _ _ _ => rfl)]
  · rw [getD_mapL, sameB_map (f := dblE) (fun _ => rfl) (fun _ _ _ _ => Iff.rfl) _ i h]
omit hw in
/-- All dissonances as a list of places. -/
theorem filt_flat {α β : Type} (p : α → Bool) (f : α → β) (P : List α) : P.flatMap (fun x => if p x = true then [f x] else []) = (P.filter p).map f := by
  induction P with
  | nil => rfl
  | cons x P ih =>
    rw [List.flatMap_cons, ih, List.filter_cons]
    cases h : p x with
    | true => simp
    | false => simp
omit hw in
theorem allD_map (l : List (List Ev)) (m : List Tm) : allD l m = ((allT l.length (m.length - 1)).filter fun x => newB l m x.1 x.2.1 x.2.2).map (entD l m) := by
  rw [allD_eq]
  exact filt_flat (fun x => newB l m x.1 x.2.1 x.2.2) (entD l m) _
include hp
/-- Doubled times: as many dissonances; each one is the same but for its treatment, and that too where it was suspended or untreated. -/
theorem all_slow (h1 : SA (momS l)) (h2 : SA (momS (l.map (List.map dblE)))) :
    (allD (l.map (List.map dblE)) (momS (l.map (List.map dblE)))).length = (allD l (momS l)).length ∧
    ∀ (i : Nat) (x y : Dis), (allD l (momS l))[i]? = some x → (allD (l.map (List.map dblE)) (momS (l.map (List.map dblE))))[i]? = some y →
      y.n = x.n ∧ y.a = x.a ∧ y.b = x.b ∧ y.kind = x.kind ∧ (3 ≤ x.treat → y.treat = x.treat) := by
  have hp' : ∀ v ∈ l.map (List.map dblE), PitsV v := fun v hv => by
    obtain ⟨u, hu, rfl⟩ := List.mem_map.1 hv
    intro x hx hr
    obtain ⟨y, hy, rfl⟩ := List.mem_map.1 hx
    exact hp u hu y hy hr
  have hM : ((momS l).map dbl).length = (momS l).length := List.length_map ..
  have hP : ∀ a b, PairEq l (l.map (List.map dblE)) (momS l) ((momS l).map dbl) ((momS l).length - 1) a b a b := fun a b => ⟨dbl_voice hw _ a, dbl_voice hw _ b, fun n hn => by rw [mAt_dbl (by omega), dbl_cl hw]⟩
  have hs : ∀ a i, shortV ((l.map (List.map dblE)).getD a []) i = true → shortV (l.getD a []) i = true := fun a i h => by
    exfalso
    rw [getD_mapL] at h
    unfold shortV at h
    rw [List.getElem?_map] at h
    cases hx : (l.getD a [])[i.toNat]? with
    | none => rw [hx] at h; simp at h
    | some x =>
      rw [hx] at h
      simp only [Option.map_some] at h
      rw [(whole_getD hw a x (List.mem_of_getElem? hx)).long] at h
      cases h
  rw [dbl_mom hw h1 h2, allD_map l, allD_map (l.map (List.map dblE)), show (l.map (List.map dblE)).length = l.length from List.length_map .., hM]
  have hF : ((allT l.length ((momS l).length - 1)).filter fun x => newB (l.map (List.map dblE)) ((momS l).map dbl) x.1 x.2.1 x.2.2) = ((allT l.length ((momS l).length - 1)).filter fun x => newB l (momS l) x.1 x.2.1 x.2.2) :=
    List.filter_congr fun x hx => (hP x.2.1 x.2.2).new (mem_allT.1 hx).1
  rw [hF]
  refine ⟨by rw [List.length_map, List.length_map], fun i x y hx hy => ?_⟩
  rw [List.getElem?_map] at hx hy
  cases hz : ((allT l.length ((momS l).length - 1)).filter fun x => newB l (momS l) x.1 x.2.1 x.2.2)[i]? with
  | none => rw [hz] at hx; cases hx
  | some z =>
    rw [hz] at hx hy
    simp only [Option.map_some, Option.some.injEq] at hx hy
    subst hx hy
    have hn := (mem_allT.1 (List.mem_filter.1 (List.mem_of_getElem? hz)).1).1
    refine ⟨rfl, rfl, rfl, ?_, fun h3 => ?_⟩
    · exact (hP z.2.1 z.2.2).cl z.1 hn
    · exact (hP z.2.1 z.2.2).slow hp hp' rfl (by rw [hM]) (hs _) (hs _) hn h3
end
end Go.Proofs.YtmlcnmnpkemdpaaDoor

/- Plain mathematics of dissonances: the three voices made of numbers. -/
namespace Go.Proofs.YtmlcnmnpkemdpaaDoor
def stepT (k : Int) : Int := [1, -1, 1, -1, 2, -2, 4, -3, 0, 1, -1].getD (k % 11).toNat 0
def nextK (n k : Int) : Int := max 20 (min 44 (n + stepT k))
def durK (k : Int) : Int := 1 + k / 11 % 4
def payK (i n k : Int) : Pay := if k / 44 % 9 = 0 then ⟨(0, 0, 0), true, i, 0⟩ else ⟨(n % 7, n / 7, 0), false, i, 0⟩
/-- Numbers from number i on, each third one, at most c of them; n: the last pitch. -/
def mkL (l : List Int) : Nat → Nat → Int → List (Int × Pay)
  | 0, _, _ => []
  | c + 1, i, n => match l[i]? with
    | none => []
    | some x => (durK (x % 1048576), payK i (nextK n (x % 1048576)) (x % 1048576)) :: mkL l c (i + 3) (nextK n (x % 1048576))
def madeL (l : List Int) (v : Nat) : List (Int × Pay) := mkL l 10 v (26 + 4 * v)
def made3 (l : List Int) : List (List Ev) := [lay 1 0 (madeL l 0), lay 1 0 (madeL l 1), lay 1 0 (madeL l 2)]
def goodK (z : Int × Pay) : Prop := 1 ≤ z.1 ∧ z.1 ≤ 4 ∧ z.2.good ∧ (z.2.rest = false → pchk z.2.pit = 0 ∧ z.2.pit.2.1 ≤ 7)
theorem nextK_bd (n k : Int) : 20 ≤ nextK n k ∧ nextK n k ≤ 44 := by unfold nextK; omega
theorem pay_good (i : Nat) {n k : Int} (h : 20 ≤ n ∧ n ≤ 44) : (payK i n k).good ∧ ((payK i n k).rest = false → pchk (payK i n k).pit = 0 ∧ (payK i n k).pit.2.1 ≤ 7) := by
  unfold payK
  by_cases hc : k / 44 % 9 = 0
  · rw [if_pos hc]
    exact ⟨⟨fun _ => rfl, fun e => by simp at e, Int.natCast_nonneg _, Int.le_refl _⟩, fun e => by simp at e⟩
  · rw [if_neg hc]
    have hp : pchk (n % 7, n / 7, 0) = 0 := pchk_mk (by simp only; omega)
    exact ⟨⟨fun e => by simp at e, fun _ => hp, Int.natCast_nonneg _, Int.le_refl _⟩, fun _ => ⟨hp, by simp only; omega⟩⟩
theorem mkL_good (l : List Int) : ∀ c i n, ∀ z ∈ mkL l c i n, goodK z := by
  intro c
  induction c with
  | zero => intro i n z hz; cases hz
  | succ c ih =>
    intro i n z hz
    unfold mkL at hz
    cases hx : l[i]? with
    | none => rw [hx] at hz; cases hz
    | some x =>
      rw [hx] at hz
      rcases List.mem_cons.1 hz with rfl | hz
      · have h1 := Int.emod_nonneg (x % 1048576 / 11) (show (4 : Int) ≠ 0 by omega)
        have h2 := Int.emod_lt_of_pos (x % 1048576 / 11) (show (0 : Int) < 4 by omega)
        obtain ⟨g1, g2⟩ := pay_good i (k := x % 1048576) (nextK_bd n (x % 1048576))
        exact ⟨by simp only [durK]; omega, by simp only [durK]; omega, g1, g2⟩
      · exact ih _ _ z hz
theorem mkL_len (l : List Int) : ∀ c i n, (mkL l c i n).length ≤ c := by
  intro c
  induction c with
  | zero => intro i n; simp [mkL]
  | succ c ih =>
    intro i n
    unfold mkL
    cases l[i]? with
    | none => simp
    | some x => simp only [List.length_cons]; have := ih (i + 3) (nextK n (x % 1048576)); omega
theorem good_sum {L : List (Int × Pay)} (h : ∀ z ∈ L, goodK z) : sumM L ≤ 4 * (L.length : Int) := by
  induction L with
  | nil => simp [sumM_nil]
  | cons z L ih =>
    rw [sumM_cons, List.length_cons]
    have := (h z (by simp)).2.1
    have := ih (fun y hy => h y (by simp [hy]))
    omega
theorem good_pos {L : List (Int × Pay)} (h : ∀ z ∈ L, goodK z) : pos L := fun z hz => ⟨by have := (h z hz).1; omega, (h z hz).2.2.1⟩
theorem good_fit {L : List (Int × Pay)} (h : ∀ z ∈ L, goodK z) (hl : L.length ≤ 10) : fit L := ⟨good_pos h, by have := good_sum h; omega, by omega⟩
theorem okq1 : okq 1 := ⟨by omega, by omega⟩
/-- Voices of whole numbers are settings in 24ths. -/
theorem lay1_q {L : List (Int × Pay)} (hf : fit L) (hs : sumM L ≤ 100) : Q24V 2880 (lay 1 0 L) ∧ (checkS (lay 1 0 L)).1 = 0 := by
  have hp := sumM_nonneg hf.1
  refine ⟨?_, by rw [checkS_lay okq1 hf]⟩
  have e := lay_scale (q := 1) (c := 24) okq1 (by omega) L 0 (by omega) hf.1 (by omega)
  rw [← e]
  have ft := times_fit (k := 24) (by omega) hf (by omega)
  exact lay_q (by omega) (times 24 L) 0 (by omega) ft.1 (by rw [times_sum]; omega)
theorem lay1_whole : ∀ (L : List (Int × Pay)) (s : Int), 0 ≤ s → pos L → s + sumM L ≤ 1000000 → WholeV (lay 1 s L) := by
  intro L
  induction L with
  | nil => intro s _ _ _ x hx; simp [lay] at hx
  | cons z L ih =>
    intro s hs hp hb x hx
    obtain ⟨⟨h1, h2⟩, h3⟩ := pos_cons hp
    have h4 := sumM_nonneg h3
    rw [sumM_cons] at hb
    rw [lay] at hx
    rcases List.mem_cons.1 hx with rfl | hx
    · exact ⟨s, z.1, hs, by omega, by omega, cq_one hs (by omega), cq_one (by omega) (by omega)⟩
    · exact ih (s + z.1) (by omega) h3 (by omega) x hx
theorem lay1_dbl : ∀ (L : List (Int × Pay)) (s : Int), 0 ≤ s → pos L → s + sumM L ≤ 1000000 → (lay 1 s L).map dblE = lay 1 (2 * s) (times 2 L) := by
  intro L
  induction L with
  | nil => intro s _ _ _; rfl
  | cons z L ih =>
    intro s hs hp hb
    obtain ⟨⟨h1, h2⟩, h3⟩ := pos_cons hp
    have h4 := sumM_nonneg h3
    rw [sumM_cons] at hb
    show dblE (z.2.ev (cq 1 s) (cq 1 z.1)) :: (lay 1 (s + z.1) L).map dblE = z.2.ev (cq 1 (2 * s)) (cq 1 (z.1 * 2)) :: lay 1 (2 * s + z.1 * 2) (times 2 L)
    rw [ih (s + z.1) (by omega) h3 (by omega), cq_one hs (by omega), cq_one (by omega) (by omega), cq_one (by omega) (by omega), cq_one (by omega) (by omega), show 2 * (s + z.1) = 2 * s + z.1 * 2 by omega]
    unfold dblE dbl Pay.ev
    simp only
    rw [show 2 * z.1 = z.1 * 2 by omega]
theorem lay1_oct : ∀ (L : List (Int × Pay)) (s : Int), (lay 1 s L).map octE = lay 1 s (onZ upP L) := by
  intro L
  induction L with
  | nil => intro s; rfl
  | cons z L ih =>
    intro s
    show octE (z.2.ev (cq 1 s) (cq 1 z.1)) :: (lay 1 (s + z.1) L).map octE = (onPay upP z.2).ev (cq 1 s) (cq 1 z.1) :: lay 1 (s + z.1) (onZ upP L)
    rw [ih]
    congr 1
    unfold octE onPay Pay.ev
    cases h : z.2.rest with
    | true => simp [h]
    | false => simp
theorem lay1_pits {L : List (Int × Pay)} (h : ∀ z ∈ L, goodK z) : ∀ s, PitsU (lay 1 s L) := by
  induction L with
  | nil => intro s x hx; simp [lay] at hx
  | cons z L ih =>
    intro s x hx hr
    rw [lay] at hx
    rcases List.mem_cons.1 hx with rfl | hx
    · exact (h z (by simp)).2.2.2 hr
    · exact ih (fun y hy => h y (by simp [hy])) (s + z.1) x hx hr
section
variable (l : List Int)
theorem madeL_good (v : Nat) : ∀ z ∈ madeL l v, goodK z := mkL_good l 10 v _
theorem madeL_len (v : Nat) : (madeL l v).length ≤ 10 := mkL_len l 10 v _
theorem madeL_fit (v : Nat) : fit (madeL l v) := good_fit (madeL_good l v) (madeL_len l v)
theorem madeL_sum (v : Nat) : sumM (madeL l v) ≤ 40 := by have := good_sum (madeL_good l v); have := madeL_len l v; omega
theorem mem_made {v : List Ev} : v ∈ made3 l ↔ ∃ k, k < 3 ∧ v = lay 1 0 (madeL l k) := by
  unfold made3
  simp only [List.mem_cons, List.not_mem_nil, or_false]
  constructor
  · rintro (rfl | rfl | rfl)
    · exact ⟨0, by omega, rfl⟩
    · exact ⟨1, by omega, rfl⟩
    · exact ⟨2, by omega, rfl⟩
  · rintro ⟨k, hk, rfl⟩
    rcases (show k = 0 ∨ k = 1 ∨ k = 2 by omega) with rfl | rfl | rfl <;> simp
theorem made_set : SetQ 2880 (made3 l) where
  pos := by omega
  big := by omega
  len := by simp [made3]
  each := fun v hv => by
    obtain ⟨k, _, rfl⟩ := (mem_made l).1 hv
    exact lay1_q (madeL_fit l k) (by have := madeL_sum l k; omega)
theorem made_whole : ∀ v ∈ made3 l, WholeV v := fun v hv => by
  obtain ⟨k, _, rfl⟩ := (mem_made l).1 hv
  exact lay1_whole _ 0 (by omega) (madeL_fit l k).1 (by have := madeL_sum l k; omega)
theorem made_pits : ∀ v ∈ made3 l, PitsU v := fun v hv => by
  obtain ⟨k, _, rfl⟩ := (mem_made l).1 hv
  exact lay1_pits (madeL_good l k) 0
theorem made_len : ∀ v ∈ made3 l, v.length ≤ 10 := fun v hv => by
  obtain ⟨k, _, rfl⟩ := (mem_made l).1 hv
  rw [lay_len]; exact madeL_len l k
theorem slow_set : SetQ 2880 ((made3 l).map (List.map dblE)) where
  pos := by omega
  big := by omega
  len := by simp [made3]
  each := fun v hv => by
    obtain ⟨u, hu, rfl⟩ := List.mem_map.1 hv
    obtain ⟨k, _, rfl⟩ := (mem_made l).1 hu
    have hs := madeL_sum l k
    have hf := madeL_fit l k
    rw [lay1_dbl _ 0 (by omega) hf.1 (by omega)]
    exact lay1_q (times_fit (by omega) hf (by omega)) (by rw [times_sum]; omega)
theorem oct_set : SetQ 2880 ((made3 l).map (List.map octE)) where
  pos := by omega
  big := by omega
  len := by simp [made3]
  each := fun v hv => by
    obtain ⟨u, hu, rfl⟩ := List.mem_map.1 hv
    obtain ⟨k, _, rfl⟩ := (mem_made l).1 hu
    have hs := madeL_sum l k
    have hf := madeL_fit l k
    rw [lay1_oct]
    refine lay1_q (onZ_fit hf fun z hz hr => ?_) (by rw [onZ_sum]; omega)
    obtain ⟨h1, h2⟩ := (madeL_good l k z hz).2.2.2 hr
    have := pchk_ok h1
    exact pchk_mk (by unfold upP; simp only; omega)
end
/-- Of a setting in 24ths all dissonances are answered. -/
theorem diss_set {M : Int} {l : List (List Ev)} (h : SetQ M l) : dissE l = (allD l (momS l), 0) := by
  unfold dissE; rw [setq_slices h, if_neg (fun h => h rfl)]
theorem count_set {M : Int} {l : List (List Ev)} (h : SetQ M l) : countD l = ([cntT 1 (allD l (momS l)), cntT 2 (allD l (momS l)), cntT 3 (allD l (momS l)), cntT 4 (allD l (momS l))], 0) := by
  unfold countD; rw [diss_set h, if_neg (fun h => h rfl)]
theorem untr_set {M : Int} {l : List (List Ev)} (h : SetQ M l) : untrE l = ((allD l (momS l)).filter (fun d => decide (d.treat = 4)), 0) := by
  unfold untrE; rw [diss_set h]
/-- The numbers of the treatments add up. -/
theorem cnt_sum (l : List (List Ev)) (m : List Tm) : cntT 1 (allD l m) + cntT 2 (allD l m) + cntT 3 (allD l m) + cntT 4 (allD l m) = ((allD l m).length : Nat) := by
  have key : ∀ L : List Dis, (∀ d ∈ L, 1 ≤ d.treat ∧ d.treat ≤ 4) → cntT 1 L + cntT 2 L + cntT 3 L + cntT 4 L = (L.length : Nat) := by
    intro L
    induction L with
    | nil => intro _; rfl
    | cons d L ih =>
      intro h
      have ih := ih (fun e he => h e (by simp [he]))
      have hd := h d (by simp)
      unfold cntT at *
      simp only [List.filter_cons, List.length_cons]
      rcases (show d.treat = 1 ∨ d.treat = 2 ∨ d.treat = 3 ∨ d.treat = 4 by omega) with e | e | e | e <;> (simp [e]; omega)
  refine key _ fun d hd => ?_
  obtain ⟨n, a, b, _, _, _, _, rfl⟩ := (mem_allD l m).1 hd
  exact treat_bd _ _ _ _ _
/-- In a slice in which a dissonance begins the chord has a clash. -/
theorem begins_clash {l : List (List Ev)} {m : List Tm} {d : Dis} (hd : d ∈ allD l m) : ∃ n : Nat, d.n = (n : Int) ∧ n < m.length - 1 ∧ fullC (whatC l (mAt m n)) ≠ [] := by
  obtain ⟨n, a, b, h1, h2, h3, h4, rfl⟩ := (mem_allD l m).1 hd
  refine ⟨n, rfl, h1, fun e => ?_⟩
  have hc := ((newB_iff l m).1 h4).1
  have := kinds_mem.2 ⟨a, b, h2, hc, rfl⟩
  unfold kindsC at this
  rw [e] at this
  cases this
/-! ### A voice that rests until the end -/
def restD (t : Tm) : Ev := ⟨(0, 1), t, (0, 0, 0), true, 0, 0⟩
theorem rest_snd (t u : Tm) : sndB [restD t] u = false := by
  cases h : sndB [restD t] u with
  | false => rfl
  | true =>
    obtain ⟨k, x, _, hx, hr, _⟩ := snd_val h
    have := List.mem_of_getElem? hx
    rw [List.mem_singleton] at this
    subst this; cases hr
section
variable {M : Int} {l : List (List Ev)} (h : SetQ M l) (h8 : l.length ≤ 7) (h0 : 0 < (momS l).length)
include h h0
theorem restD_lay : [restD (endT (momS l))] = lay 24 0 [(kT (endT (momS l)), restP)] ∧ 0 < kT (endT (momS l)) ∧ kT (endT (momS l)) ≤ M ∧ fit [(kT (endT (momS l)), restP)] := by
  have q := endT_q h
  have hM := h.big
  have hpos : 0 < kT (endT (momS l)) := by
    have hm := mAt_some h0
    obtain ⟨v, hv, x, hx, _⟩ := (mem_mom _ _).1 (List.mem_of_getElem? hm)
    have hx' := (h.each v hv).1 x hx
    have h1 := mom_le_end h ((mem_mom _ _).2 ⟨v, hv, x, hx, .inr rfl⟩)
    rw [ltT_k q hx'.2.1 hM] at h1
    have := hx'.2.2.2
    have := hx'.1.2.1
    omega
  have hb := q.2.2
  refine ⟨?_, hpos, hb, fit_rest (l := []) ⟨fun z hz => by simp at hz, by rw [sumM_nil]; omega, by simp⟩ hpos (by rw [sumM_nil]; omega) (by simp)⟩
  · show [restD (endT (momS l))] = [restP.ev (cq 24 0) (cq 24 (kT (endT (momS l))))]
    rw [← q.1, cq_zero (by omega) (by omega)]
    rfl
include h8
theorem restD_set : SetQ M (l ++ [[restD (endT (momS l))]]) := by
  obtain ⟨e, h1, h2, h3⟩ := restD_lay h h0
  refine ⟨h.pos, h.big, by rw [List.length_append, List.length_singleton]; omega, fun v hv => ?_⟩
  rcases List.mem_append.1 hv with hv | hv
  · exact h.each _ hv
  · rw [List.mem_singleton] at hv
    subst hv
    rw [e]
    exact ⟨lay_q h.big _ 0 (by omega) h3.1 (by rw [sumM_cons, sumM_nil]; simp only; omega), by rw [checkS_lay okq24 h3]⟩
omit h8 in
theorem restD_next : nextS (restD (endT (momS l))) = endT (momS l) := by
  have q := endT_q h
  obtain ⟨_, h1, h2, _⟩ := restD_lay h h0
  have hM := h.big
  unfold nextS restD
  simp only
  have e0 : ((0, 1) : Tm) = cq 24 0 := (cq_zero (by omega) (by omega)).symm
  conv => lhs; rw [e0, q.1]
  rw [cq_add (inq_of okq24 (by omega) (by omega)) (q24_in q hM) (by rw [Int.zero_add]; exact q24_in q hM), Int.zero_add, ← q.1]
theorem restD_mom : momS (l ++ [[restD (endT (momS l))]]) = momS l := by
  refine sa_ext (setq_sa (restD_set h h8 h0)).1 (setq_sa h).1 fun t => ?_
  rw [mem_mom, mem_mom]
  constructor
  · rintro ⟨v, hv, x, hx, e⟩
    rcases List.mem_append.1 hv with hv | hv
    · exact ⟨v, hv, x, hx, e⟩
    · rw [List.mem_singleton] at hv
      subst hv
      rw [List.mem_singleton] at hx
      subst hx
      rw [← mem_mom]
      rcases e with rfl | rfl
      · have := mAt_some h0
        rw [setq_first h h0] at this
        exact List.mem_of_getElem? this
      · rw [restD_next h h0]
        unfold endT
        rw [if_neg (by omega)]
        exact List.mem_of_getElem? (mAt_some (by omega))
  · rintro ⟨v, hv, hx⟩
    exact ⟨v, List.mem_append_left _ hv, hx⟩
theorem diss_rest : dissE (l ++ [[restD (endT (momS l))]]) = dissE l := by
  rw [diss_set (restD_set h h8 h0), diss_set h, restD_mom h h8 h0, all_rest (rest_snd _)]
  · exact fun v hv => val_pits (h.each v hv).2
  · intro x hx hr
    rw [List.mem_singleton] at hx
    subst hx; cases hr
end
/-- The end of voices of whole numbers is a whole number. -/
theorem whole_end {l : List (List Ev)} (hw : ∀ v ∈ l, WholeV v) : ∃ k : Int, endT (momS l) = (k, 1) ∧ 0 ≤ k ∧ k ≤ 1000000 ∧ (0 < k → 0 < (momS l).length) := by
  unfold endT
  by_cases h0 : (momS l).length = 0
  · rw [if_pos h0]; exact ⟨0, rfl, by omega, by omega, fun h => by omega⟩
  · rw [if_neg h0]
    have hm := mAt_some (m := momS l) (i := (momS l).length - 1) (by omega)
    obtain ⟨v, hv, x, hx, e⟩ := (mem_mom l _).1 (List.mem_of_getElem? hm)
    obtain ⟨a, d, h1, h2, h3, e1, e2⟩ := hw v hv x hx
    rcases e with e | e
    · exact ⟨a, by rw [e, e1], h1, by omega, fun _ => by omega⟩
    · refine ⟨a + d, ?_, by omega, by omega, fun _ => by omega⟩
      rw [e]
      unfold nextS
      rw [e1, e2, whole_next h1 h2 (by omega)]
end Go.Proofs.YtmlcnmnpkemdpaaDoor

