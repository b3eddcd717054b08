
/- PaOrd, PaOrd2, PaOrd3, PaRest, PaRetro, PaBack: one text. -/
import Derived.Test.YtigfcbofbcpiaaaDoorPaMath
/- Plain mathematics: motions and another order of the voices, other pitches at the same times, a third voice that is one rest; no program in sight. -/

namespace Go.Proofs.YtigfcbofbcpiaaaDoor
/-! ### Intervals -/
theorem upI_comm {p q : Int × Int × Int} : upI p q = upI q p := by
  unfold upI loP hiP
  by_cases h : lowB p q
  · have h' : ¬ lowB q p := by unfold lowB at *; omega
    rw [if_pos h, if_pos h, if_neg h', if_neg h']
  · by_cases h' : lowB q p
    · rw [if_neg h, if_neg h, if_pos h', if_pos h']
    · have e1 : numP p = numP q := by unfold lowB at *; omega
      have e2 : htP p = htP q := by unfold lowB at *; omega
      rw [if_neg h, if_neg h, if_neg h', if_neg h']
      unfold btw
      rw [e1, e2]
theorem prf_comm (p q : Int × Int × Int) : prfE p q = prfE q p := by unfold prfE kindP; rw [upI_comm]
/-- Equal numbers are no step apart. -/
theorem prf_equal {p q : Int × Int × Int} (h : numP p = numP q) : (prfE p q).1 = 0 := by
  unfold prfE simI upI btw loP hiP
  by_cases hl : lowB p q
  · simp only [if_pos hl]; omega
  · simp only [if_neg hl]; omega
theorem prf_range (p q : Int × Int × Int) : 0 ≤ (prfE p q).1 := by unfold prfE simI; simp only; omega
/-- A perfect interval of no simple step: one letter, one alteration. -/
theorem prf_octave {p q : Int × Int × Int} (hp : pchk p = 0) (hq : pchk q = 0) : ((prfE p q).2 = true ∧ (prfE p q).1 = 0) ↔ (p.1 = q.1 ∧ p.2.2 = q.2.2) := by
  have b1 := pchk_ok hp
  have b2 := pchk_ok hq
  have key : ∀ x y : Int × Int × Int, 0 ≤ x.1 → x.1 ≤ 6 → 0 ≤ y.1 → y.1 ≤ 6 → numP x ≤ numP y → ((decide (kindX (simI (btw x y)) = 1) = true ∧ (simI (btw x y)).1 = 0) ↔ (x.1 = y.1 ∧ x.2.2 = y.2.2)) := by
    intro x y h1 h2 h3 h4 h5
    have hk : (decide (kindX (simI (btw x y)) = 1) = true ∧ (simI (btw x y)).1 = 0) ↔ ((simI (btw x y)).1 = 0 ∧ (simI (btw x y)).2 = 0) := by
      unfold kindX
      constructor
      · rintro ⟨h, h0⟩
        refine ⟨h0, ?_⟩
        rw [decide_eq_true_eq] at h
        by_cases hz : (simI (btw x y)).2 = 0
        · exact hz
        · rw [if_neg (by omega)] at h
          split at h
          · omega
          · split at h
            · omega
            · split at h <;> omega
      · rintro ⟨h0, h⟩
        exact ⟨by rw [if_pos (.inl ⟨h0, h⟩)]; rfl, h0⟩
    rw [hk]
    unfold simI btw htP
    simp only
    unfold numP at h5 ⊢
    constructor
    · rintro ⟨e1, e2⟩
      have e3 : x.1 = y.1 := by omega
      rw [e3] at e2
      exact ⟨e3, by omega⟩
    · rintro ⟨e1, e2⟩
      rw [e1]
      exact ⟨by omega, by omega⟩
  unfold prfE kindP upI
  simp only
  by_cases hl : lowB p q
  · have e1 : loP p q = q := by unfold loP; rw [if_pos hl]
    have e2 : hiP p q = p := by unfold hiP; rw [if_pos hl]
    rw [e1, e2]
    have h := key q p (by omega) (by omega) (by omega) (by omega) (by unfold lowB at hl; omega)
    rw [and_comm] at h
    rw [and_comm, h]
    constructor <;> rintro ⟨h1, h2⟩ <;> exact ⟨h1.symm, h2.symm⟩
  · have e1 : loP p q = p := by unfold loP; rw [if_neg hl]
    have e2 : hiP p q = q := by unfold hiP; rw [if_neg hl]
    rw [e1, e2]
    have h := key p q (by omega) (by omega) (by omega) (by omega) (by unfold lowB at hl; omega)
    rw [and_comm] at h
    rw [and_comm, h]
/-! ### What the motion of two voices hangs on -/
theorem mot_still {va vb : List Ev} {m : List Tm} {n : Nat} (h : ¬ ((mvV va m n).2 = true ∧ (mvV vb m n).2 = true)) : motE va vb m n = (0, 0) := by
  unfold motE
  rw [if_pos ?_]
  cases h1 : (mvV va m n).2 with
  | false => exact .inl rfl
  | true =>
    cases h2 : (mvV vb m n).2 with
    | false => exact .inr (.inl rfl)
    | true => exact absurd ⟨h1, h2⟩ h
theorem mot_congr {va vb va' vb' : List Ev} {m m' : List Tm} {n n' : Nat} (ha : mvV va' m' n' = mvV va m n) (hb : mvV vb' m' n' = mvV vb m n)
    (h : (mvV va m n).2 = true → (mvV vb m n).2 = true → prfE (pitA va' (mAt m' n')) (pitA vb' (mAt m' n')) = prfE (pitA va (mAt m n)) (pitA vb (mAt m n)) ∧ prfE (pitA va' (mAt m' (n' - 1))) (pitA vb' (mAt m' (n' - 1))) = prfE (pitA va (mAt m (n - 1))) (pitA vb (mAt m (n - 1))) ∧
      (numP (pitA vb' (mAt m' n')) < numP (pitA va' (mAt m' n')) ↔ numP (pitA vb (mAt m n)) < numP (pitA va (mAt m n)))) : motE va' vb' m' n' = motE va vb m n := by
  by_cases hm : (mvV va m n).2 = true ∧ (mvV vb m n).2 = true
  · obtain ⟨e1, e2, e3⟩ := h hm.1 hm.2
    unfold motE
    rw [ha, hb, e1, e2]
    simp only [e3]
  · rw [mot_still hm, mot_still (by rw [ha, hb]; exact hm)]
/-- Which motions are counted: no hidden ones into unisons and octaves. -/
def cB (p : Par) : Bool := decide (0 < p.kind ∧ p.kind < 4) && decide (p.kind ≠ 2 ∨ 0 < p.steps)
theorem mot_swap (va vb : List Ev) (m : List Tm) (n : Nat) : motE va vb m n = motE vb va m n ∨ (((motE va vb m n).1 = 0 ∨ ((motE va vb m n).1 = 2 ∧ (motE va vb m n).2 = 0)) ∧ ((motE vb va m n).1 = 0 ∨ ((motE vb va m n).1 = 2 ∧ (motE vb va m n).2 = 0))) := by
  by_cases hm : (mvV va m n).2 = true ∧ (mvV vb m n).2 = true
  · by_cases he : numP (pitA va (mAt m n)) = numP (pitA vb (mAt m n))
    · have h0 := prf_equal he
      have h0' := prf_equal he.symm
      unfold motE
      rw [prf_comm (pitA vb (mAt m n)) (pitA va (mAt m n)), prf_comm (pitA vb (mAt m (n - 1))) (pitA va (mAt m (n - 1)))]
      rw [h0]
      generalize mvV va m n = x at *
      generalize mvV vb m n = y at *
      obtain ⟨x, bx⟩ := x
      obtain ⟨y, by_⟩ := y
      simp only at hm ⊢
      obtain ⟨rfl, rfl⟩ := hm
      rw [Int.mul_comm (sgn y) (sgn x)]
      by_cases h1 : sgn x * sgn y = 0
      · left; simp [h1]
      · have c1 : ¬ (true = false ∨ true = false ∨ sgn x * sgn y = 0) := by simp [h1]
        simp only [if_neg c1]
        by_cases h2 : (prfE (pitA va (mAt m n)) (pitA vb (mAt m n))).2 = false
        · left; simp only [if_pos h2]
        · simp only [if_neg h2]
          by_cases h3 : (prfE (pitA va (mAt m (n - 1))) (pitA vb (mAt m (n - 1)))).2 = true ∧ (prfE (pitA va (mAt m (n - 1))) (pitA vb (mAt m (n - 1)))).1 = 0
          · left
            simp only [if_pos h3]
            by_cases h4 : sgn x = sgn y
            · simp only [if_pos h4, if_pos h4.symm]
            · simp only [if_neg h4, if_neg (fun h => h4 (Eq.symm h))]
          · simp only [if_neg h3]
            right
            simp only [if_neg (show ¬ numP (pitA vb (mAt m n)) < numP (pitA va (mAt m n)) by omega), if_neg (show ¬ numP (pitA va (mAt m n)) < numP (pitA vb (mAt m n)) by omega)]
            constructor <;> (split <;> simp)
    · left
      unfold motE
      rw [prf_comm (pitA vb (mAt m n)) (pitA va (mAt m n)), prf_comm (pitA vb (mAt m (n - 1))) (pitA va (mAt m (n - 1)))]
      generalize numP (pitA va (mAt m n)) = a at *
      generalize numP (pitA vb (mAt m n)) = b at *
      generalize prfE (pitA va (mAt m n)) (pitA vb (mAt m n)) = f at *
      generalize prfE (pitA va (mAt m (n - 1))) (pitA vb (mAt m (n - 1))) = g at *
      generalize mvV va m n = x at *
      generalize mvV vb m n = y at *
      obtain ⟨x, bx⟩ := x
      obtain ⟨y, by_⟩ := y
      simp only at hm ⊢
      obtain ⟨rfl, rfl⟩ := hm
      rw [Int.mul_comm (sgn y) (sgn x)]
      have hs : (sgn y = sgn x) = (sgn x = sgn y) := propext ⟨Eq.symm, Eq.symm⟩
      simp only [hs]
      rcases Int.lt_or_gt_of_ne he with h | h
      · simp only [if_neg (show ¬ b < a by omega), if_pos h]
      · simp only [if_pos (show b < a by omega), if_neg (show ¬ a < b by omega)]
  · left
    rw [mot_still hm, mot_still (fun h => hm ⟨h.2, h.1⟩)]
/-- Octaves in a row: which motions of the kinds 1 and 3 have no steps. -/
def octP (p q : Int × Int × Int) : Prop := (prfE p q).2 = true ∧ (prfE p q).1 = 0
theorem mot_oct (va vb : List Ev) (m : List Tm) (n : Nat) : (0 < (motE va vb m n).1 ∧ (motE va vb m n).1 ≠ 2 ∧ (motE va vb m n).2 = 0) ↔
    ((mvV va m n).2 = true ∧ (mvV vb m n).2 = true ∧ sgn (mvV va m n).1 * sgn (mvV vb m n).1 ≠ 0 ∧ octP (pitA va (mAt m n)) (pitA vb (mAt m n)) ∧ octP (pitA va (mAt m (n - 1))) (pitA vb (mAt m (n - 1)))) := by
  by_cases hm : (mvV va m n).2 = true ∧ (mvV vb m n).2 = true
  · unfold motE octP
    generalize prfE (pitA va (mAt m n)) (pitA vb (mAt m n)) = f at *
    generalize prfE (pitA va (mAt m (n - 1))) (pitA vb (mAt m (n - 1))) = g at *
    generalize (if numP (pitA vb (mAt m n)) < numP (pitA va (mAt m n)) then (mvV va m n).1 else (mvV vb m n).1) = u at *
    generalize mvV va m n = x at *
    generalize mvV vb m n = y at *
    obtain ⟨x, bx⟩ := x
    obtain ⟨y, by_⟩ := y
    obtain ⟨f1, f2⟩ := f
    obtain ⟨g1, g2⟩ := g
    simp only at hm ⊢
    obtain ⟨rfl, rfl⟩ := hm
    by_cases h1 : sgn x * sgn y = 0
    · rw [if_pos (.inr (.inr h1))]; simp [h1]
    · rw [if_neg (by simp [h1])]
      cases f2
      · simp
      · rw [if_neg (by simp)]
        by_cases h3 : g2 = true ∧ g1 = f1
        · rw [if_pos h3]
          obtain ⟨rfl, rfl⟩ := h3
          by_cases h4 : sgn x = sgn y
          · rw [if_pos h4]; simp [h1]
          · rw [if_neg h4]; simp [h1]
        · rw [if_neg h3]
          constructor
          · rintro ⟨a1, a2, a3⟩
            split at a1 <;> split at a2 <;> simp_all
          · rintro ⟨_, _, _, ⟨_, a1⟩, a2, a3⟩
            exact absurd ⟨a2, by rw [a3, a1]⟩ h3
  · rw [mot_still hm]
    constructor
    · rintro ⟨h, _⟩; simp at h
    · rintro ⟨h1, h2, _⟩; exact absurd ⟨h1, h2⟩ hm
theorem mot_oct_val {va vb : List Ev} {m : List Tm} {n : Nat} (h : 0 < (motE va vb m n).1 ∧ (motE va vb m n).1 ≠ 2 ∧ (motE va vb m n).2 = 0) : motE va vb m n = (if sgn (mvV va m n).1 = sgn (mvV vb m n).1 then 1 else 3, 0) := by
  have h0 := h
  rw [mot_oct] at h0
  obtain ⟨a1, a2, a3, ⟨a4, a5⟩, a6, a7⟩ := h0
  unfold motE
  rw [if_neg (by simp [a1, a2, a3]), if_neg (by simp [a4]), if_pos ⟨a6, by rw [a7, a5]⟩, a5]
end Go.Proofs.YtigfcbofbcpiaaaDoor

/- Plain mathematics: motions of voices with other pitches at the same times; the motions of two voices; a third voice that is one rest; no program in sight. -/
namespace Go.Proofs.YtigfcbofbcpiaaaDoor
/-! ### Other pitches at the same times -/
def evOn (g : Int × Int × Int → Int × Int × Int) (x : Ev) : Ev := if x.rest = true then x else { x with pit := g x.pit }
section
variable {g : Int × Int × Int → Int × Int × Int}
theorem evOn_at (x : Ev) : (evOn g x).at_ = x.at_ := by unfold evOn; split <;> rfl
theorem evOn_dur (x : Ev) : (evOn g x).dur = x.dur := by unfold evOn; split <;> rfl
theorem evOn_rest (x : Ev) : (evOn g x).rest = x.rest := by unfold evOn; split <;> rfl
theorem evOn_next (x : Ev) : nextS (evOn g x) = nextS x := by unfold nextS; rw [evOn_at, evOn_dur]
theorem evOn_pit {x : Ev} (h : x.rest = false) : (evOn g x).pit = g x.pit := by unfold evOn; rw [if_neg (by simp [h])]
theorem lay_onZ (q : Int) (l : List (Int × Pay)) : ∀ s, lay q s (onZ g l) = (lay q s l).map (evOn g) := by
  induction l with
  | nil => intro s; rfl
  | cons z l ih =>
    intro s
    show (onPay g z.2).ev (cq q s) (cq q z.1) :: lay q (s + z.1) (onZ g l) = evOn g (z.2.ev (cq q s) (cq q z.1)) :: (lay q (s + z.1) l).map (evOn g)
    rw [ih]
    congr 1
    unfold onPay evOn Pay.ev
    by_cases h : z.2.rest = true
    · rw [if_pos h, if_pos h]
    · rw [if_neg h, if_neg h]
theorem hold_on (x : Ev) (t : Tm) : holdB (evOn g x) t = holdB x t := by unfold holdB; rw [evOn_at, evOn_next]
theorem onFrom_map (v : List Ev) (t : Tm) : ∀ i, onFrom i (v.map (evOn g)) t = onFrom i v t := by
  induction v with
  | nil => intro i; rfl
  | cons x v ih => intro i; rw [List.map_cons]; unfold onFrom; rw [hold_on, ih]
theorem on_map (v : List Ev) (t : Tm) : onS (v.map (evOn g)) t = onS v t := onFrom_map v t 0
theorem momV_map (v : List Ev) : ∀ o, momV o (v.map (evOn g)) = momV o v := by
  induction v with
  | nil => intro o; rfl
  | cons x v ih =>
    intro o
    show momV (withS (withS o (evOn g x).at_) (nextS (evOn g x))) (v.map (evOn g)) = momV (withS (withS o x.at_) (nextS x)) v
    rw [evOn_at, evOn_next, ih]
theorem momS_map (l : List (List Ev)) : momS (l.map (List.map (evOn g))) = momS l := by
  unfold momS
  generalize ([] : List Tm) = o
  induction l generalizing o with
  | nil => rfl
  | cons v l ih => rw [List.map_cons, List.foldl_cons, List.foldl_cons, momV_map, ih]
theorem eventAt_map (v : List Ev) (t : Tm) : eventAt (v.map (evOn g)) t = (eventAt v t).map (evOn g) := by
  unfold eventAt
  rw [on_map]
  cases onS v t with
  | ofNat k => simp only; rw [List.getElem?_map]
  | negSucc k => rfl
theorem snd_map (v : List Ev) (t : Tm) : (sndV (v.map (evOn g)) t).2 = (sndV v t).2 ∧ ((sndV v t).2 = true → (sndV (v.map (evOn g)) t).1.at_ = (sndV v t).1.at_ ∧ pitA (v.map (evOn g)) t = g (pitA v t)) := by
  unfold pitA sndV sndP
  rw [eventAt_map]
  cases eventAt v t with
  | none => exact ⟨rfl, fun h => by cases h⟩
  | some x =>
    simp only [Option.map_some, evOn_rest]
    cases h : x.rest with
    | true => exact ⟨rfl, fun h => by cases h⟩
    | false => exact ⟨rfl, fun _ => ⟨evOn_at x, evOn_pit h⟩⟩
end
theorem mv_true {v : List Ev} {m : List Tm} {n : Nat} (h : (mvV v m n).2 = true) : 1 ≤ n ∧ (sndV v (mAt m (n - 1))).2 = true ∧ (sndV v (mAt m n)).2 = true ∧ (sndV v (mAt m n)).1.at_ = mAt m n ∧ (mvV v m n).1 = numP (pitA v (mAt m n)) - numP (pitA v (mAt m (n - 1))) := by
  unfold mvV at h ⊢
  by_cases h0 : n < 1
  · rw [if_pos h0] at h; cases h
  · rw [if_neg h0] at h ⊢
    by_cases h1 : (sndV v (mAt m (n - 1))).2 = true ∧ (sndV v (mAt m n)).2 = true ∧ (sndV v (mAt m n)).1.at_ = mAt m n
    · rw [if_pos h1]; exact ⟨by omega, h1.1, h1.2.1, h1.2.2, rfl⟩
    · rw [if_neg h1] at h; cases h
theorem snd_mem {v : List Ev} {t : Tm} (h : (sndV v t).2 = true) : ∃ x ∈ v, x.rest = false ∧ pitA v t = x.pit := by
  obtain ⟨k, _, hx, hr⟩ := sndV_val h
  exact ⟨_, List.mem_of_getElem? hx, hr, rfl⟩
/-- A voice with other pitches moves when it did, by the new pitches' steps. -/
theorem mv_map (g : Int × Int × Int → Int × Int × Int) (v : List Ev) (m : List Tm) (n : Nat) : mvV (v.map (evOn g)) m n = if (mvV v m n).2 = true then (numP (g (pitA v (mAt m n))) - numP (g (pitA v (mAt m (n - 1)))), true) else (0, false) := by
  have s1 := snd_map (g := g) v (mAt m (n - 1))
  have s2 := snd_map (g := g) v (mAt m n)
  by_cases h0 : n < 1
  · unfold mvV; rw [if_pos h0, if_pos h0]; rfl
  · by_cases h1 : (sndV v (mAt m (n - 1))).2 = true ∧ (sndV v (mAt m n)).2 = true ∧ (sndV v (mAt m n)).1.at_ = mAt m n
    · have e : mvV v m n = (numP (pitA v (mAt m n)) - numP (pitA v (mAt m (n - 1))), true) := by unfold mvV; rw [if_neg h0, if_pos h1]
      rw [e, if_pos rfl]
      unfold mvV
      rw [if_neg h0, if_pos ⟨by rw [s1.1]; exact h1.1, by rw [s2.1]; exact h1.2.1, by rw [(s2.2 h1.2.1).1]; exact h1.2.2⟩, (s1.2 h1.1).2, (s2.2 h1.2.1).2]
    · have e : mvV v m n = (0, false) := by unfold mvV; rw [if_neg h0, if_neg h1]
      rw [e, if_neg (by decide)]
      unfold mvV
      rw [if_neg h0, if_neg]
      rintro ⟨a1, a2, a3⟩
      rw [s1.1] at a1
      rw [s2.1] at a2
      rw [(s2.2 a2).1] at a3
      exact h1 ⟨a1, a2, a3⟩
/-- The pitches of a voice are valid. -/
def Pits (v : List Ev) : Prop := ∀ x ∈ v, x.rest = false → pchk x.pit = 0
theorem Pits.at_ {v : List Ev} (h : Pits v) {t : Tm} (hs : (sndV v t).2 = true) : pchk (pitA v t) = 0 := by
  obtain ⟨x, hx, hr, e⟩ := snd_mem hs
  rw [e]; exact h x hx hr
/-! ### An octave higher -/
theorem mov7_eq {p : Int × Int × Int} (h : pchk p = 0) : movG 7 p = (p.1, p.2.1 + 1, p.2.2) := by
  have b := pchk_ok h
  unfold movG gP numP
  ext <;> simp only <;> omega
theorem mov7_num {p : Int × Int × Int} (h : pchk p = 0) : numP (movG 7 p) = numP p + 7 ∧ htP (movG 7 p) = htP p + 12 := by
  rw [mov7_eq h]; unfold numP htP; simp only; omega
theorem mov7_prf {p q : Int × Int × Int} (hp : pchk p = 0) (hq : pchk q = 0) : prfE (movG 7 p) (movG 7 q) = prfE p q := by
  obtain ⟨a1, a2⟩ := mov7_num hp
  obtain ⟨b1, b2⟩ := mov7_num hq
  have e : upI (movG 7 p) (movG 7 q) = upI p q := by
    unfold upI loP hiP
    by_cases h : lowB p q
    · have h' : lowB (movG 7 p) (movG 7 q) := by unfold lowB at *; omega
      rw [if_pos h, if_pos h, if_pos h', if_pos h']
      unfold btw
      rw [a1, a2, b1, b2]
      ext <;> simp only <;> omega
    · have h' : ¬ lowB (movG 7 p) (movG 7 q) := by unfold lowB at *; omega
      rw [if_neg h, if_neg h, if_neg h', if_neg h']
      unfold btw
      rw [a1, a2, b1, b2]
      ext <;> simp only <;> omega
  unfold prfE kindP
  rw [e]
theorem mv_mov {v : List Ev} (h : Pits v) (m : List Tm) (n : Nat) : mvV (v.map (evOn (movG 7))) m n = mvV v m n := by
  rw [mv_map]
  by_cases hm : (mvV v m n).2 = true
  · obtain ⟨_, h1, h2, _, h4⟩ := mv_true hm
    rw [if_pos hm, (mov7_num (h.at_ h1)).1, (mov7_num (h.at_ h2)).1]
    ext
    · simp only; omega
    · exact hm.symm
  · rw [if_neg hm]
    unfold mvV at hm ⊢
    split
    · rfl
    · rename_i h0
      rw [if_neg h0] at hm
      split
      · rename_i h1; rw [if_pos h1] at hm; exact absurd rfl hm
      · rfl
theorem mot_mov {a b : List Ev} (ha : Pits a) (hb : Pits b) (m : List Tm) (n : Nat) : motE (a.map (evOn (movG 7))) (b.map (evOn (movG 7))) m n = motE a b m n := by
  refine mot_congr (mv_mov ha m n) (mv_mov hb m n) fun h1 h2 => ?_
  obtain ⟨_, a1, a2, _, _⟩ := mv_true h1
  obtain ⟨_, b1, b2, _, _⟩ := mv_true h2
  rw [((snd_map a (mAt m n)).2 a2).2, ((snd_map b (mAt m n)).2 b2).2, ((snd_map a (mAt m (n - 1))).2 a1).2, ((snd_map b (mAt m (n - 1))).2 b1).2]
  refine ⟨mov7_prf (ha.at_ a2) (hb.at_ b2), mov7_prf (ha.at_ a1) (hb.at_ b1), ?_⟩
  rw [(mov7_num (ha.at_ a2)).1, (mov7_num (hb.at_ b2)).1]
  omega
/-! ### Upside down -/
theorem mir_oct {ax p q : Int × Int × Int} (hp : pchk p = 0) (hq : pchk q = 0) (hp' : pchk (mirG ax p) = 0) (hq' : pchk (mirG ax q) = 0) : octP (mirG ax p) (mirG ax q) ↔ octP p q := by
  unfold octP
  rw [prf_octave hp hq, prf_octave hp' hq']
  have b1 := pchk_ok hp
  have b2 := pchk_ok hq
  unfold mirG gP numP
  simp only
  constructor
  · rintro ⟨e1, e2⟩; exact ⟨by omega, by omega⟩
  · rintro ⟨e1, e2⟩; exact ⟨by rw [e1]; omega, by omega⟩
theorem mv_mir {ax : Int × Int × Int} (v : List Ev) (m : List Tm) (n : Nat) : mvV (v.map (evOn (mirG ax))) m n = (-(mvV v m n).1, (mvV v m n).2) := by
  rw [mv_map]
  by_cases hm : (mvV v m n).2 = true
  · obtain ⟨_, _, _, _, h4⟩ := mv_true hm
    have e : ∀ p, numP (mirG ax p) = 2 * numP ax - numP p := fun p => numP_gP _ _
    rw [if_pos hm, e, e]
    ext
    · simp only; omega
    · exact hm.symm
  · have e : mvV v m n = (0, false) := by
      unfold mvV at hm ⊢
      split
      · rfl
      · rename_i h0
        rw [if_neg h0] at hm
        split
        · rename_i h1; rw [if_pos h1] at hm; exact absurd rfl hm
        · rfl
    rw [if_neg hm, e]; rfl
theorem sgn_neg (x : Int) : sgn (-x) = -sgn x := by unfold sgn; (repeat' split) <;> omega
theorem mot_mir {ax : Int × Int × Int} {a b : List Ev} (ha : Pits a) (hb : Pits b) (ha' : ∀ x ∈ a, x.rest = false → pchk (mirG ax x.pit) = 0) (hb' : ∀ x ∈ b, x.rest = false → pchk (mirG ax x.pit) = 0) (m : List Tm) (n : Nat) :
    ((0 < (motE (a.map (evOn (mirG ax))) (b.map (evOn (mirG ax))) m n).1 ∧ (motE (a.map (evOn (mirG ax))) (b.map (evOn (mirG ax))) m n).1 ≠ 2 ∧ (motE (a.map (evOn (mirG ax))) (b.map (evOn (mirG ax))) m n).2 = 0) ↔ (0 < (motE a b m n).1 ∧ (motE a b m n).1 ≠ 2 ∧ (motE a b m n).2 = 0)) ∧
    ((0 < (motE a b m n).1 ∧ (motE a b m n).1 ≠ 2 ∧ (motE a b m n).2 = 0) → motE (a.map (evOn (mirG ax))) (b.map (evOn (mirG ax))) m n = motE a b m n) := by
  have key : (0 < (motE (a.map (evOn (mirG ax))) (b.map (evOn (mirG ax))) m n).1 ∧ (motE (a.map (evOn (mirG ax))) (b.map (evOn (mirG ax))) m n).1 ≠ 2 ∧ (motE (a.map (evOn (mirG ax))) (b.map (evOn (mirG ax))) m n).2 = 0) ↔ (0 < (motE a b m n).1 ∧ (motE a b m n).1 ≠ 2 ∧ (motE a b m n).2 = 0) := by
    rw [mot_oct, mot_oct, mv_mir, mv_mir]
    simp only [sgn_neg, Int.neg_mul_neg]
    by_cases h1 : (mvV a m n).2 = true
    · by_cases h2 : (mvV b m n).2 = true
      · obtain ⟨_, a1, a2, _, _⟩ := mv_true h1
        obtain ⟨_, b1, b2, _, _⟩ := mv_true h2
        have valid : ∀ {v : List Ev} {t : Tm}, (∀ x ∈ v, x.rest = false → pchk (mirG ax x.pit) = 0) → (sndV v t).2 = true → pchk (mirG ax (pitA v t)) = 0 := by
          intro v t hv hs
          obtain ⟨x, hx, hr, e⟩ := snd_mem hs
          rw [e]; exact hv x hx hr
        rw [((snd_map a (mAt m n)).2 a2).2, ((snd_map b (mAt m n)).2 b2).2, ((snd_map a (mAt m (n - 1))).2 a1).2, ((snd_map b (mAt m (n - 1))).2 b1).2]
        rw [mir_oct (ha.at_ a2) (hb.at_ b2) (valid ha' a2) (valid hb' b2), mir_oct (ha.at_ a1) (hb.at_ b1) (valid ha' a1) (valid hb' b1)]
      · simp [h2]
    · simp [h1]
  refine ⟨key, fun h => ?_⟩
  rw [mot_oct_val h, mot_oct_val (key.2 h), mv_mir, mv_mir]
  simp only [sgn_neg, Int.neg_inj]
end Go.Proofs.YtigfcbofbcpiaaaDoor

/- Plain mathematics: the motions of two voices in another order, an octave higher, upside down, with a third voice that is one rest. -/
namespace Go.Proofs.YtigfcbofbcpiaaaDoor
theorem find_set {M : Int} {l : List (List Ev)} (h : SetQ M l) : findE l = ((List.range ((momS l).length - 1)).flatMap (allM l (momS l)), 0) := by
  unfold findE
  rw [show (slicesE l).2 = 0 by rw [setq_slices h], if_neg (fun h => h rfl)]
theorem all_two (a b : List Ev) (m : List Tm) (n : Nat) : allM [a, b] m n = motL [a, b] m n 0 1 := by
  unfold allM rowM
  simp [List.range_succ, List.range'_succ]
theorem mot_two (a b : List Ev) (m : List Tm) (n : Nat) : motL [a, b] m n 0 1 = if 0 < (motE a b m n).1 then [⟨n, 0, 1, (motE a b m n).1, (motE a b m n).2⟩] else [] := rfl
/-- The motions of two voices. -/
def twoM (a b : List Ev) (m : List Tm) (n : Nat) : List Par := if 0 < (motE a b m n).1 then [⟨n, 0, 1, (motE a b m n).1, (motE a b m n).2⟩] else []
theorem find_two {M : Int} {a b : List Ev} (h : SetQ M [a, b]) : findE [a, b] = ((List.range ((momS [a, b]).length - 1)).flatMap (twoM a b (momS [a, b])), 0) := by
  rw [find_set h]
  congr 2
  funext n
  rw [all_two, mot_two]; rfl
theorem flat_congr {α β : Type} {f g : α → List β} {l : List α} (h : ∀ x ∈ l, f x = g x) : l.flatMap f = l.flatMap g := by
  induction l with
  | nil => rfl
  | cons x l ih => rw [List.flatMap_cons, List.flatMap_cons, h x (by simp), ih (fun y hy => h y (by simp [hy]))]
theorem flat_count {α β γ : Type} {p : β → Bool} {q : γ → Bool} {f : α → List β} {g : α → List γ} {l : List α} (h : ∀ x ∈ l, ((f x).filter p).length = ((g x).filter q).length) : ((l.flatMap f).filter p).length = ((l.flatMap g).filter q).length := by
  induction l with
  | nil => rfl
  | cons x l ih => rw [List.flatMap_cons, List.flatMap_cons, List.filter_append, List.filter_append, List.length_append, List.length_append, h x (by simp), ih (fun y hy => h y (by simp [hy]))]
theorem flat_filter {α β : Type} {p : β → Bool} {f g : α → List β} {l : List α} (h : ∀ x ∈ l, (f x).filter p = (g x).filter p) : (l.flatMap f).filter p = (l.flatMap g).filter p := by
  induction l with
  | nil => rfl
  | cons x l ih => rw [List.flatMap_cons, List.flatMap_cons, List.filter_append, List.filter_append, h x (by simp), ih (fun y hy => h y (by simp [hy]))]
/-- How many motions of kind k are counted. -/
def cntC (k : Int) (l : List Par) : Int := ((l.filter fun p => cB p && decide (p.kind = k)).length : Nat)
theorem swap_set {M : Int} {a b : List Ev} (h : SetQ M [a, b]) : SetQ M [b, a] := ⟨h.pos, h.big, by simp, fun v hv => h.each v (by simp at hv ⊢; exact hv.symm)⟩
theorem swap_mom {M : Int} {a b : List Ev} (h : SetQ M [a, b]) : momS [b, a] = momS [a, b] := by
  refine sa_ext (setq_sa (swap_set h)).1 (setq_sa h).1 fun t => ?_
  rw [mem_mom, mem_mom]
  constructor <;> (rintro ⟨v, hv, hx⟩; exact ⟨v, by simp at hv ⊢; exact hv.symm, hx⟩)
theorem find_swap {M : Int} {a b : List Ev} (h : SetQ M [a, b]) (k : Int) : cntC k (findE [a, b]).1 = cntC k (findE [b, a]).1 := by
  rw [find_two h, find_two (swap_set h), swap_mom h]
  unfold cntC
  simp only
  congr 1
  refine flat_count fun n _ => ?_
  unfold twoM
  rcases mot_swap a b (momS [a, b]) n with e | ⟨h1, h2⟩
  · rw [e]
  · have z : ∀ x : Int × Int, (x.1 = 0 ∨ (x.1 = 2 ∧ x.2 = 0)) → ((if 0 < x.1 then [(⟨(n : Int), 0, 1, x.1, x.2⟩ : Par)] else []).filter fun p => cB p && decide (p.kind = k)) = [] := by
      intro x hx
      rcases hx with h0 | ⟨h0, h00⟩
      · rw [if_neg (by omega)]; rfl
      · rw [if_pos (by omega), h0, h00]; rfl
    rw [z _ h1, z _ h2]
theorem two_ab {M : Int} {a b : List Ev} (h : SetQ M [a, b]) : ∀ p ∈ (findE [a, b]).1, p.a = 0 ∧ p.b = 1 := by
  intro p hp
  rw [find_two h] at hp
  obtain ⟨n, _, hp⟩ := List.mem_flatMap.1 hp
  unfold twoM at hp
  split at hp
  · rw [List.mem_singleton] at hp; subst hp; exact ⟨rfl, rfl⟩
  · simp at hp
theorem pair_two {M : Int} {a b : List Ev} (h : SetQ M [a, b]) : pairE [a, b] 1 0 = ((findE [a, b]).1, 0) := by
  have he : (findE [a, b]).2 = 0 := by rw [find_two h]
  unfold pairE
  rw [if_neg (fun hh => hh he), if_neg (by simp)]
  congr 1
  rw [List.filter_eq_self]
  intro p hp
  obtain ⟨e1, e2⟩ := two_ab h p hp
  rw [e1, e2]; decide
theorem mov_set_of {M : Int} {a b : List Ev} (h : SetQ M [a, b]) {g : Int × Int × Int → Int × Int × Int} (ha : (checkS (a.map (evOn g))).1 = 0) (hb : (checkS (b.map (evOn g))).1 = 0) : SetQ M [a.map (evOn g), b.map (evOn g)] := by
  refine ⟨h.pos, h.big, by simp, fun v hv => ?_⟩
  have key : ∀ u, Q24V M u → Q24V M (u.map (evOn g)) := by
    intro u hu x hx
    obtain ⟨y, hy, rfl⟩ := List.mem_map.1 hx
    rw [evOn_at, evOn_next, evOn_dur]
    exact hu y hy
  simp only [List.mem_cons, List.not_mem_nil, or_false] at hv
  rcases hv with rfl | rfl
  · exact ⟨key a (h.each a (by simp)).1, ha⟩
  · exact ⟨key b (h.each b (by simp)).1, hb⟩
theorem find_mov {M : Int} {a b : List Ev} (h : SetQ M [a, b]) (pa : Pits a) (pb : Pits b) (ha : (checkS (a.map (evOn (movG 7)))).1 = 0) (hb : (checkS (b.map (evOn (movG 7)))).1 = 0) : findE [a.map (evOn (movG 7)), b.map (evOn (movG 7))] = findE [a, b] := by
  have e : momS [a.map (evOn (movG 7)), b.map (evOn (movG 7))] = momS [a, b] := momS_map [a, b]
  rw [find_two h, find_two (mov_set_of h ha hb), e]
  congr 1
  refine flat_congr fun n _ => ?_
  unfold twoM
  rw [mot_mov pa pb]
/-- Motions of the kinds 1 and 3 into unisons and octaves. -/
def octB (p : Par) : Bool := decide (p.kind ≠ 2) && decide (p.steps = 0)
theorem find_mir {M : Int} {ax : Int × Int × Int} {a b : List Ev} (h : SetQ M [a, b]) (pa : Pits a) (pb : Pits b) (ha' : ∀ x ∈ a, x.rest = false → pchk (mirG ax x.pit) = 0) (hb' : ∀ x ∈ b, x.rest = false → pchk (mirG ax x.pit) = 0)
    (ha : (checkS (a.map (evOn (mirG ax)))).1 = 0) (hb : (checkS (b.map (evOn (mirG ax)))).1 = 0) : (findE [a.map (evOn (mirG ax)), b.map (evOn (mirG ax))]).1.filter octB = (findE [a, b]).1.filter octB ∧ (findE [a.map (evOn (mirG ax)), b.map (evOn (mirG ax))]).2 = 0 := by
  have e : momS [a.map (evOn (mirG ax)), b.map (evOn (mirG ax))] = momS [a, b] := momS_map [a, b]
  rw [find_two h, find_two (mov_set_of h ha hb), e]
  refine ⟨?_, rfl⟩
  simp only
  refine flat_filter fun n _ => ?_
  obtain ⟨k1, k2⟩ := mot_mir pa pb ha' hb' (momS [a, b]) n
  have z : ∀ x : Int × Int, ¬ (0 < x.1 ∧ x.1 ≠ 2 ∧ x.2 = 0) → (if 0 < x.1 then [(⟨(n : Int), 0, 1, x.1, x.2⟩ : Par)] else []).filter octB = [] := by
    intro x hx
    by_cases h0 : 0 < x.1
    · rw [if_pos h0, List.filter_cons_of_neg]
      · rfl
      · unfold octB; simp only [Bool.and_eq_true, decide_eq_true_eq]; exact fun hh => hx ⟨h0, hh⟩
    · rw [if_neg h0]; rfl
  unfold twoM
  by_cases ho : 0 < (motE a b (momS [a, b]) n).1 ∧ (motE a b (momS [a, b]) n).1 ≠ 2 ∧ (motE a b (momS [a, b]) n).2 = 0
  · rw [k2 ho]
  · rw [z _ ho, z _ (fun hh => ho (k1.1 hh))]
end Go.Proofs.YtigfcbofbcpiaaaDoor

/- Plain mathematics: a third voice that is one rest until the end changes no motion. -/
namespace Go.Proofs.YtigfcbofbcpiaaaDoor
/-- One rest from the start to a time. -/
def restV (t : Tm) : Ev := ⟨(0, 1), t, (0, 0, 0), true, 0, 0⟩
theorem snd_rest (t u : Tm) : sndV [restV t] u = (zeroEv, false) := by
  unfold sndV sndP eventAt
  cases h : onS [restV t] u with
  | negSucc k => rfl
  | ofNat k =>
    cases k with
    | zero => rfl
    | succ k => rfl
theorem mv_rest (t : Tm) (m : List Tm) (n : Nat) : mvV [restV t] m n = (0, false) := by
  unfold mvV
  rw [snd_rest, snd_rest]
  simp
section
variable {M : Int} {a b : List Ev} (h : SetQ M [a, b])
include h
theorem rest_lay (h0 : 0 < (momS [a, b]).length) : [restV (endT (momS [a, b]))] = lay 24 0 [(kT (endT (momS [a, b])), restP)] ∧ 0 < kT (endT (momS [a, b])) ∧ kT (endT (momS [a, b])) ≤ M ∧ fit [(kT (endT (momS [a, b])), restP)] := by
  have q := endT_q h
  have hM := h.big
  have hpos : 0 < kT (endT (momS [a, b])) := by
    have hm := mAt_some h0
    obtain ⟨v, hv, x, hx, _⟩ := (mem_mom _ _).1 (List.mem_of_getElem? hm)
    have hx' := (h.each v hv).1 x hx
    have h1 := mom_le_end h ((mem_mom _ _).2 ⟨v, hv, x, hx, .inr rfl⟩)
    rw [ltT_k q hx'.2.1 hM] at h1
    have := hx'.2.2.2
    have := hx'.1.2.1
    omega
  have hb := q.2.2
  refine ⟨?_, hpos, hb, fit_rest (l := []) ⟨fun z hz => by simp at hz, by rw [sumM_nil]; omega, by simp⟩ hpos (by rw [sumM_nil]; omega) (by simp)⟩
  · show [restV (endT (momS [a, b]))] = [restP.ev (cq 24 0) (cq 24 (kT (endT (momS [a, b]))))]
    rw [← q.1, cq_zero (by omega) (by omega)]
    rfl
theorem rest_set (h0 : 0 < (momS [a, b]).length) : SetQ M [a, b, [restV (endT (momS [a, b]))]] := by
  obtain ⟨e, h1, h2, h3⟩ := rest_lay h h0
  refine ⟨h.pos, h.big, by simp, fun v hv => ?_⟩
  simp only [List.mem_cons, List.not_mem_nil, or_false] at hv
  rcases hv with rfl | rfl | rfl
  · exact h.each _ (by simp)
  · exact h.each _ (by simp)
  · rw [e]
    exact ⟨lay_q h.big _ 0 (by omega) h3.1 (by rw [sumM_cons, sumM_nil]; simp only; omega), by rw [checkS_lay okq24 h3]⟩
theorem rest_next (h0 : 0 < (momS [a, b]).length) : nextS (restV (endT (momS [a, b]))) = endT (momS [a, b]) := by
  have q := endT_q h
  obtain ⟨_, h1, h2, _⟩ := rest_lay h h0
  have hM := h.big
  unfold nextS restV
  simp only
  have e0 : ((0, 1) : Tm) = cq 24 0 := (cq_zero (by omega) (by omega)).symm
  conv => lhs; rw [e0, q.1]
  rw [cq_add (inq_of okq24 (by omega) (by omega)) (q24_in q hM) (by rw [Int.zero_add]; exact q24_in q hM), Int.zero_add, ← q.1]
theorem rest_mom (h0 : 0 < (momS [a, b]).length) : momS [a, b, [restV (endT (momS [a, b]))]] = momS [a, b] := by
  refine sa_ext (setq_sa (rest_set h h0)).1 (setq_sa h).1 fun t => ?_
  rw [mem_mom, mem_mom]
  constructor
  · rintro ⟨v, hv, x, hx, e⟩
    simp only [List.mem_cons, List.not_mem_nil, or_false] at hv
    rcases hv with rfl | rfl | rfl
    · exact ⟨_, by simp, x, hx, e⟩
    · exact ⟨_, by simp, x, hx, e⟩
    · rw [List.mem_singleton] at hx
      subst hx
      rw [← mem_mom]
      rcases e with rfl | rfl
      · have := mAt_some h0
        rw [setq_first h h0] at this
        exact List.mem_of_getElem? this
      · rw [rest_next h h0]
        unfold endT
        rw [if_neg (by omega)]
        exact List.mem_of_getElem? (mAt_some (by omega))
  · rintro ⟨v, hv, hx⟩
    exact ⟨v, by simp at hv ⊢; rcases hv with rfl | rfl <;> simp, hx⟩
theorem find_rest (h0 : 0 < (momS [a, b]).length) : findE [a, b, [restV (endT (momS [a, b]))]] = findE [a, b] := by
  rw [find_set (rest_set h h0), find_two h, rest_mom h h0]
  congr 1
  refine flat_congr fun n _ => ?_
  have e1 : motL [a, b, [restV (endT (momS [a, b]))]] (momS [a, b]) n 0 1 = twoM a b (momS [a, b]) n := rfl
  have e2 : motL [a, b, [restV (endT (momS [a, b]))]] (momS [a, b]) n 0 2 = [] := by
    unfold motL
    have : motE ([a, b, [restV (endT (momS [a, b]))]].getD 0 []) ([a, b, [restV (endT (momS [a, b]))]].getD 2 []) (momS [a, b]) n = (0, 0) := mot_still (fun hh => by have := hh.2; rw [show [a, b, [restV (endT (momS [a, b]))]].getD 2 [] = [restV (endT (momS [a, b]))] from rfl, mv_rest] at this; cases this)
    rw [this, if_neg (by decide)]
  have e3 : motL [a, b, [restV (endT (momS [a, b]))]] (momS [a, b]) n 1 2 = [] := by
    unfold motL
    have : motE ([a, b, [restV (endT (momS [a, b]))]].getD 1 []) ([a, b, [restV (endT (momS [a, b]))]].getD 2 []) (momS [a, b]) n = (0, 0) := mot_still (fun hh => by have := hh.2; rw [show [a, b, [restV (endT (momS [a, b]))]].getD 2 [] = [restV (endT (momS [a, b]))] from rfl, mv_rest] at this; cases this)
    rw [this, if_neg (by decide)]
  unfold allM rowM
  simp [List.range_succ, List.range'_succ, e1, e2, e3]
/-- The later one of two ends is the end. -/
theorem end_two : (if ltT (endV a) (endV b) then endV b else endV a) = endT (momS [a, b]) := by
  have qa := (endV_q h (v := a) (by simp)).1
  have qb := (endV_q h (v := b) (by simp)).1
  have la := endV_le h (v := a) (by simp)
  have lb := endV_le h (v := b) (by simp)
  have q := endT_q h
  rw [ltT_k q qa h.big] at la
  rw [ltT_k q qb h.big] at lb
  have hs : kT (endV a) = kT (endT (momS [a, b])) ∨ kT (endV b) = kT (endT (momS [a, b])) := by
    by_cases h0 : 0 < (momS [a, b]).length
    · obtain ⟨v, hv, e⟩ := end_some h h0
      simp only [List.mem_cons, List.not_mem_nil, or_false] at hv
      rcases hv with rfl | rfl
      · exact .inl (by rw [e])
      · exact .inr (by rw [e])
    · have e : endT (momS [a, b]) = (0, 1) := by unfold endT; rw [if_pos (by omega)]
      rw [e, kT_zero] at la ⊢
      exact .inl (by have := qa.2.1; omega)
  split
  · rename_i hlt
    rw [ltT_k qa qb h.big] at hlt
    exact k_inj qb q (by omega)
  · rename_i hlt
    rw [ltT_k qa qb h.big] at hlt
    exact k_inj qa q (by omega)
theorem end_zero (h0 : (endT (momS [a, b])).1 = 0) : (findE [a, b]).1 = [] := by
  by_cases h1 : 0 < (momS [a, b]).length
  · obtain ⟨_, h2, _, _⟩ := rest_lay h h1
    have q := endT_q h
    have : 1 ≤ (cq 24 (kT (endT (momS [a, b])))).1 := cq_pos (q24_in q h.big) h2
    rw [← q.1] at this
    omega
  · rw [find_two h, show (momS [a, b]).length - 1 = 0 by omega]; rfl
omit h in
theorem end_pos (h0 : (endT (momS [a, b])).1 ≠ 0) : 0 < (momS [a, b]).length := by
  rcases Nat.eq_zero_or_pos (momS [a, b]).length with h1 | h1
  · exact absurd (by unfold endT; rw [if_pos h1]) h0
  · exact h1
end
end Go.Proofs.YtigfcbofbcpiaaaDoor

/- Plain mathematics: backwards, two voices that end together have as many motions of the kinds 1 and 3. -/
namespace Go.Proofs.YtigfcbofbcpiaaaDoor
/-! ### Events of a laid voice at ticks (24ths) -/
def preS (L : List (Int × Pay)) (k : Nat) : Int := sumM (L.take k)
theorem pre_succ {L : List (Int × Pay)} {k : Nat} {z : Int × Pay} (h : L[k]? = some z) : preS L (k + 1) = preS L k + z.1 := by
  unfold preS
  rw [List.take_add_one, h, sumM_append]
  show _ + sumM [z] = _
  rw [sumM_cons, sumM_nil]; omega
theorem pre_all {L : List (Int × Pay)} {k : Nat} (h : L.length ≤ k) : preS L k = sumM L := by unfold preS; rw [List.take_of_length_le h]
theorem lay_get (q : Int) : ∀ (L : List (Int × Pay)) (s : Int) (k : Nat) (z : Int × Pay), L[k]? = some z → (lay q s L)[k]? = some (z.2.ev (cq q (s + preS L k)) (cq q z.1))
  | [], _, _, _, h => by simp at h
  | y :: L, s, 0, z, h => by
    simp at h; subst h
    show some (y.2.ev (cq q s) (cq q y.1)) = _
    unfold preS
    rw [List.take_zero, sumM_nil, Int.add_zero]
  | y :: L, s, k + 1, z, h => by
    show (lay q (s + y.1) L)[k]? = _
    rw [lay_get q L (s + y.1) k z (by simpa using h)]
    unfold preS
    rw [List.take_succ_cons, sumM_cons, Int.add_assoc]
section
variable {L : List (Int × Pay)} (hf : fit L)
include hf
theorem pre_mono {i j : Nat} (h : i ≤ j) : preS L i ≤ preS L j := by
  unfold preS
  have e : L.take j = L.take i ++ (L.take j).drop i := by
    conv => lhs; rw [← List.take_append_drop i (L.take j)]
    rw [List.take_take, Nat.min_eq_left h]
  rw [e, sumM_append]
  have := sumM_nonneg (l := (L.take j).drop i) (fun z hz => hf.1 z (List.mem_of_mem_take (List.mem_of_mem_drop hz)))
  omega
theorem pre_bd (k : Nat) : 0 ≤ preS L k ∧ preS L k ≤ sumM L := by
  have h1 := pre_mono hf (Nat.zero_le k)
  have h2 := pre_mono hf (show k ≤ max k L.length by omega)
  rw [pre_all (k := max k L.length) (by omega)] at h2
  exact ⟨by unfold preS at h1 ⊢; rw [List.take_zero, sumM_nil] at h1; exact h1, h2⟩
theorem hold_lay {k : Nat} {z : Int × Pay} (hz : L[k]? = some z) {t : Int} (ht : 0 ≤ t) (ht' : t ≤ sumM L) : holdB (z.2.ev (cq 24 (0 + preS L k)) (cq 24 z.1)) (cq 24 t) = decide (preS L k ≤ t ∧ t < preS L (k + 1)) := by
  have hp := pre_bd hf k
  have hp' := pre_bd hf (k + 1)
  have e := pre_succ hz
  have hb := hf.2.1
  have hzp := (hf.1 z (List.mem_of_getElem? hz)).1
  have i1 := inq_of okq24 hp.1 (show preS L k ≤ 1099511627776 by omega)
  have i2 := inq_of okq24 (show 0 ≤ z.1 by omega) (show z.1 ≤ 1099511627776 by omega)
  have i3 := inq_of okq24 (show 0 ≤ preS L k + z.1 by omega) (show preS L k + z.1 ≤ 1099511627776 by omega)
  have it := inq_of okq24 ht (show t ≤ 1099511627776 by omega)
  rw [Int.zero_add]
  unfold holdB
  have en : nextS (z.2.ev (cq 24 (preS L k)) (cq 24 z.1)) = cq 24 (preS L (k + 1)) := by
    unfold nextS
    show ((addS (cq 24 (preS L k)) (cq 24 z.1)).1, (addS (cq 24 (preS L k)) (cq 24 z.1)).2.1) = _
    rw [cq_add i1 i2 i3, e]
  rw [en]
  have c1 : ltT (cq 24 t) (cq 24 (preS L k)) ↔ t < preS L k := ltT_cq it i1
  have c2 : ltT (cq 24 t) (cq 24 (preS L (k + 1))) ↔ t < preS L (k + 1) := ltT_cq it (by rw [e]; exact i3)
  show (decide (¬ ltT (cq 24 t) (cq 24 (preS L k))) && decide (ltT (cq 24 t) (cq 24 (preS L (k + 1))))) = _
  rw [decide_eq_decide.2 (not_congr c1), decide_eq_decide.2 c2, ← Bool.decide_and]
  exact decide_eq_decide.2 (by omega)
/-- Where event k holds. -/
theorem on_lay {k : Nat} (hk : k < L.length) {t : Int} (h1 : preS L k ≤ t) (h2 : t < preS L (k + 1)) : onS (lay 24 0 L) (cq 24 t) = (k : Int) := by
  obtain ⟨z, hz⟩ : ∃ z, L[k]? = some z := ⟨_, List.getElem?_eq_getElem hk⟩
  have hp := pre_bd hf k
  have hp' := pre_bd hf (k + 1)
  unfold onS
  rw [on_some k 0 (lay_get 24 L 0 k z hz) (by rw [hold_lay hf hz (by omega) (by omega), decide_eq_true_eq]; exact ⟨h1, h2⟩) fun j y hj hy => ?_]
  · omega
  · obtain ⟨u, hu⟩ : ∃ u, L[j]? = some u := ⟨_, List.getElem?_eq_getElem (by omega)⟩
    rw [lay_get 24 L 0 j u hu] at hy
    cases hy
    rw [hold_lay hf hu (by omega) (by omega), decide_eq_false_iff_not]
    have := pre_mono hf (show j + 1 ≤ k by omega)
    omega
omit hf in
theorem some_event {t : Int} (h0 : 0 ≤ t) (h1 : t < sumM L) : ∃ k, k < L.length ∧ preS L k ≤ t ∧ t < preS L (k + 1) := by
  have key : ∀ n, n ≤ L.length → preS L n ≤ t ∨ ∃ k, k < n ∧ preS L k ≤ t ∧ t < preS L (k + 1) := by
    intro n
    induction n with
    | zero => intro _; exact .inl (by unfold preS; rw [List.take_zero, sumM_nil]; exact h0)
    | succ n ih =>
      intro hn
      rcases ih (by omega) with h | ⟨k, h2, h3⟩
      · rcases Int.lt_or_le t (preS L (n + 1)) with h4 | h4
        · exact .inr ⟨n, by omega, h, h4⟩
        · exact .inl h4
      · exact .inr ⟨k, by omega, h3⟩
  rcases key L.length (Nat.le_refl _) with h | ⟨k, h2, h3⟩
  · rw [pre_all (Nat.le_refl _)] at h; omega
  · exact ⟨k, h2, h3⟩
/-- What sounds there. -/
theorem snd_lay {k : Nat} {z : Int × Pay} (hz : L[k]? = some z) {t : Int} (h1 : preS L k ≤ t) (h2 : t < preS L (k + 1)) : (sndV (lay 24 0 L) (cq 24 t)).2 = !z.2.rest ∧ (z.2.rest = false → pitA (lay 24 0 L) (cq 24 t) = z.2.pit) := by
  have ho := on_lay hf (List.getElem?_eq_some_iff.1 hz).1 h1 h2
  have hg := lay_get 24 L 0 k z hz
  cases hr : z.2.rest with
  | true => rw [sndV_rest ho hg hr]; exact ⟨rfl, fun h => by cases h⟩
  | false => unfold pitA; rw [sndV_note ho hg hr]; exact ⟨rfl, fun _ => rfl⟩
end
/-! ### Backwards -/
theorem pre_rev (L : List (Int × Pay)) {k : Nat} (_ : k ≤ L.length) : preS L.reverse k = sumM L - preS L (L.length - k) := by
  unfold preS
  rw [List.take_reverse, sumM_reverse]
  have := sumM_append (L.take (L.length - k)) (L.drop (L.length - k))
  rw [List.take_append_drop] at this
  omega
/-- Backwards at a tick a voice sounds what it sounded at the mirrored one. -/
theorem rev_tick {L : List (Int × Pay)} (hf : fit L) {t : Int} (h0 : 0 ≤ t) (h1 : t < sumM L) :
    (sndV (lay 24 0 L.reverse) (cq 24 t)).2 = (sndV (lay 24 0 L) (cq 24 (sumM L - 1 - t))).2 ∧
    ((sndV (lay 24 0 L) (cq 24 (sumM L - 1 - t))).2 = true → pitA (lay 24 0 L.reverse) (cq 24 t) = pitA (lay 24 0 L) (cq 24 (sumM L - 1 - t))) ∧
    onS (lay 24 0 L.reverse) (cq 24 t) = (L.length : Int) - 1 - onS (lay 24 0 L) (cq 24 (sumM L - 1 - t)) := by
  obtain ⟨k, hk, a1, a2⟩ := some_event (L := L) (t := sumM L - 1 - t) (by omega) (by omega)
  obtain ⟨z, hz⟩ : ∃ z, L[k]? = some z := ⟨_, List.getElem?_eq_getElem hk⟩
  have hk' : L.length - 1 - k < L.reverse.length := by rw [List.length_reverse]; omega
  have hz' : L.reverse[L.length - 1 - k]? = some z := by
    rw [List.getElem?_reverse (by omega), show L.length - 1 - (L.length - 1 - k) = k by omega, hz]
  have p1 := pre_rev L (k := L.length - 1 - k) (by omega)
  have p2 := pre_rev L (k := L.length - 1 - k + 1) (by omega)
  rw [show L.length - (L.length - 1 - k) = k + 1 by omega] at p1
  rw [show L.length - (L.length - 1 - k + 1) = k by omega] at p2
  have b1 : preS L.reverse (L.length - 1 - k) ≤ t := by omega
  have b2 : t < preS L.reverse (L.length - 1 - k + 1) := by omega
  have s1 := snd_lay hf hz a1 a2
  have s2 := snd_lay (fit_reverse hf) hz' b1 b2
  have o1 := on_lay hf hk a1 a2
  have o2 := on_lay (fit_reverse hf) hk' b1 b2
  refine ⟨by rw [s1.1, s2.1], fun h => ?_, by rw [o1, o2]; omega⟩
  rw [s1.1] at h
  have hr : z.2.rest = false := by simpa using h
  rw [s1.2 hr, s2.2 hr]
end Go.Proofs.YtigfcbofbcpiaaaDoor

/- Plain mathematics: backwards, two voices that end together have as many motions of the kinds 1 and 3 (the count). -/
namespace Go.Proofs.YtigfcbofbcpiaaaDoor
/-- Which motion of the kinds 1 and 3 lies between two chords (p before, q after), or 0. -/
def k13 (pa pb qa qb : Int × Int × Int) : Int :=
  if sgn (numP qa - numP pa) * sgn (numP qb - numP pb) = 0 then 0
  else if (prfE qa qb).2 = true ∧ (prfE pa pb).2 = true ∧ (prfE pa pb).1 = (prfE qa qb).1 then (if sgn (numP qa - numP pa) = sgn (numP qb - numP pb) then 1 else 3) else 0
theorem k13_back (pa pb qa qb : Int × Int × Int) : k13 qa qb pa pb = k13 pa pb qa qb := by
  unfold k13
  rw [show numP pa - numP qa = -(numP qa - numP pa) by omega, show numP pb - numP qb = -(numP qb - numP pb) by omega, sgn_neg, sgn_neg, Int.neg_mul_neg]
  generalize sgn (numP qa - numP pa) = x
  generalize sgn (numP qb - numP pb) = y
  generalize prfE pa pb = f
  generalize prfE qa qb = g
  by_cases h : x * y = 0
  · rw [if_pos h, if_pos h]
  · rw [if_neg h, if_neg h]
    by_cases h2 : g.2 = true ∧ f.2 = true ∧ f.1 = g.1
    · rw [if_pos h2, if_pos ⟨h2.2.1, h2.1, h2.2.2.symm⟩]
      by_cases h3 : x = y
      · rw [if_pos h3, if_pos (by rw [h3])]
      · rw [if_neg h3, if_neg (by omega)]
    · rw [if_neg h2, if_neg (fun hh => h2 ⟨hh.2.1, hh.1, hh.2.2.symm⟩)]
theorem mot_k13 {va vb : List Ev} {m : List Tm} {n : Nat} {k : Int} (hk : k = 1 ∨ k = 3) :
    (motE va vb m n).1 = k ↔ ((mvV va m n).2 = true ∧ (mvV vb m n).2 = true ∧ k13 (pitA va (mAt m (n - 1))) (pitA vb (mAt m (n - 1))) (pitA va (mAt m n)) (pitA vb (mAt m n)) = k) := by
  by_cases hm : (mvV va m n).2 = true ∧ (mvV vb m n).2 = true
  · obtain ⟨_, _, _, _, e1⟩ := mv_true hm.1
    obtain ⟨_, _, _, _, e2⟩ := mv_true hm.2
    have e : (mvV va m n).2 = true ∧ (mvV vb m n).2 = true ∧ k13 (pitA va (mAt m (n - 1))) (pitA vb (mAt m (n - 1))) (pitA va (mAt m n)) (pitA vb (mAt m n)) = k ↔ k13 (pitA va (mAt m (n - 1))) (pitA vb (mAt m (n - 1))) (pitA va (mAt m n)) (pitA vb (mAt m n)) = k := ⟨fun h => h.2.2, fun h => ⟨hm.1, hm.2, h⟩⟩
    rw [e]
    unfold motE k13
    rw [← e1, ← e2, hm.1, hm.2]
    generalize (mvV va m n).1 = x
    generalize (mvV vb m n).1 = y
    generalize prfE (pitA va (mAt m (n - 1))) (pitA vb (mAt m (n - 1))) = f
    generalize prfE (pitA va (mAt m n)) (pitA vb (mAt m n)) = g
    generalize (if numP (pitA vb (mAt m n)) < numP (pitA va (mAt m n)) then x else y) = u
    by_cases h0 : sgn x * sgn y = 0
    · rw [if_pos (.inr (.inr h0)), if_pos h0]
    · rw [if_neg (by simp [h0]), if_neg h0]
      cases hg : g.2 with
      | false => rw [if_pos rfl, if_neg (by simp)]
      | true =>
        rw [if_neg (by simp)]
        by_cases h1 : f.2 = true ∧ f.1 = g.1
        · rw [if_pos h1, if_pos (show true = true ∧ f.2 = true ∧ f.1 = g.1 from ⟨rfl, h1⟩)]
        · rw [if_neg h1, if_neg (show ¬ (true = true ∧ f.2 = true ∧ f.1 = g.1) from fun hh => h1 hh.2)]
          split
          · simp only; omega
          · simp only
  · rw [mot_still hm]
    constructor
    · intro h; simp only at h; omega
    · intro h; exact absurd ⟨h.1, h.2.1⟩ hm
theorem sndV_on {v : List Ev} {t u : Tm} (h : onS v t = onS v u) : sndV v t = sndV v u := by unfold sndV sndP eventAt; rw [h]
/-- The end of event k. -/
theorem next_lay {L : List (Int × Pay)} (hf : fit L) {k : Nat} {z : Int × Pay} (hz : L[k]? = some z) : nextS (z.2.ev (cq 24 (0 + preS L k)) (cq 24 z.1)) = cq 24 (preS L (k + 1)) := by
  have hp := pre_bd hf k
  have hp' := pre_bd hf (k + 1)
  have e := pre_succ hz
  have hb := hf.2.1
  have hzp := (hf.1 z (List.mem_of_getElem? hz)).1
  have i1 := inq_of okq24 hp.1 (show preS L k ≤ 1099511627776 by omega)
  have i2 := inq_of okq24 (show 0 ≤ z.1 by omega) (show z.1 ≤ 1099511627776 by omega)
  have i3 := inq_of okq24 (show 0 ≤ preS L k + z.1 by omega) (show preS L k + z.1 ≤ 1099511627776 by omega)
  rw [Int.zero_add]
  unfold nextS
  show ((addS (cq 24 (preS L k)) (cq 24 z.1)).1, (addS (cq 24 (preS L k)) (cq 24 z.1)).2.1) = _
  rw [cq_add i1 i2 i3, e]
theorem kT_tick {t : Int} (h : 0 ≤ t) (h' : t ≤ 1099511627776) : kT (cq 24 t) = t := kT_cq (inq_of okq24 h h')
/-- A voice moves at a tick: it sounds there and just before, in another event. -/
def movB (v : List Ev) (t : Nat) : Bool := (sndV v (cq 24 ((t : Int) - 1))).2 && ((sndV v (cq 24 (t : Int))).2 && decide (onS v (cq 24 (t : Int)) ≠ onS v (cq 24 ((t : Int) - 1))))
def tickB (a b : List Ev) (k : Int) (t : Nat) : Bool := decide (1 ≤ t) && (movB a t && (movB b t && decide (k13 (pitA a (cq 24 ((t : Int) - 1))) (pitA b (cq 24 ((t : Int) - 1))) (pitA a (cq 24 (t : Int))) (pitA b (cq 24 (t : Int))) = k)))
section
variable {M : Int} {l : List (List Ev)} (h : SetQ M l) {L : List (Int × Pay)} (hf : fit L) (hv : lay 24 0 L ∈ l)
include h hf hv
/-- Between two moments nothing changes. -/
theorem on_tick {n : Nat} (hn0 : 1 ≤ n) (hn : n < (momS l).length) (hE : kT (mAt (momS l) n) ≤ sumM L) : onS (lay 24 0 L) (mAt (momS l) (n - 1)) = onS (lay 24 0 L) (cq 24 (kT (mAt (momS l) n) - 1)) := by
  have hM := h.big
  have hlt := setq_lt h (i := n - 1) (j := n) (by omega) hn
  have q0 := setq_q h (i := n - 1) (by omega)
  have q1 := setq_q h hn
  have h0 := q0.2.1
  obtain ⟨k, hk, h1, h2⟩ := some_event (L := L) h0 (by omega)
  obtain ⟨z, hz⟩ : ∃ z, L[k]? = some z := ⟨_, List.getElem?_eq_getElem hk⟩
  have hb := pre_bd hf (k + 1)
  have hfb := hf.2.1
  have hmem : cq 24 (preS L (k + 1)) ∈ momS l := (mem_mom _ _).2 ⟨_, hv, _, List.mem_of_getElem? (lay_get 24 L 0 k z hz), .inr (next_lay hf hz).symm⟩
  have hg := mom_gap h (i := n - 1) (by omega) hmem
  rw [kT_tick hb.1 (by omega), show n - 1 + 1 = n by omega] at hg
  have e := q0.1
  rw [e, on_lay hf hk h1 h2]
  rw [on_lay hf hk (t := kT (mAt (momS l) n) - 1) (by omega) (by omega)]
omit h in
/-- Where a voice moves there is a moment. -/
theorem mov_mom {t : Nat} (ht : 1 ≤ t) (hE : (t : Int) < sumM L) (hm : movB (lay 24 0 L) t = true) : cq 24 (t : Int) ∈ momS l := by
  unfold movB at hm
  rw [Bool.and_eq_true, Bool.and_eq_true, decide_eq_true_eq] at hm
  obtain ⟨_, _, hne⟩ := hm
  obtain ⟨k, hk, h1, h2⟩ := some_event (L := L) (show 0 ≤ (t : Int) by omega) hE
  obtain ⟨z, hz⟩ : ∃ z, L[k]? = some z := ⟨_, List.getElem?_eq_getElem hk⟩
  have e : preS L k = t := by
    rcases Int.lt_or_le (preS L k) t with h3 | h3
    · exact absurd (by rw [on_lay hf hk h1 h2, on_lay hf hk (t := (t : Int) - 1) (by omega) (by omega)]) hne
    · omega
  refine (mem_mom _ _).2 ⟨_, hv, _, List.mem_of_getElem? (lay_get 24 L 0 k z hz), .inl ?_⟩
  show _ = cq 24 (0 + preS L k)
  rw [Int.zero_add, e]
theorem mv_tick {n : Nat} (hn0 : 1 ≤ n) (hn : n < (momS l).length) (hE : kT (mAt (momS l) n) ≤ sumM L) : (mvV (lay 24 0 L) (momS l) n).2 = movB (lay 24 0 L) (kT (mAt (momS l) n)).toNat := by
  have ho := on_tick h hf hv hn0 hn hE
  have hs := sndV_on ho
  have q1 := setq_q h hn
  have e0 : (((kT (mAt (momS l) n)).toNat : Nat) : Int) = kT (mAt (momS l) n) := Int.toNat_of_nonneg q1.2.1
  have e1 := q1.1
  have hz : (checkA l).1 = 0 := by rw [setq_check h]
  unfold mvV movB
  rw [if_neg (by omega), e0, ← hs, ← ho, ← e1]
  by_cases c1 : (sndV (lay 24 0 L) (mAt (momS l) (n - 1))).2 = true
  · by_cases c2 : (sndV (lay 24 0 L) (mAt (momS l) n)).2 = true
    · have c3 := mv_same hz hv (n := n) (by omega) hn c1 c2
      by_cases c4 : (sndV (lay 24 0 L) (mAt (momS l) n)).1.at_ = mAt (momS l) n
      · rw [if_pos ⟨c1, c2, c4⟩, c1, c2, decide_eq_true (c3.1 c4)]; rfl
      · rw [if_neg (fun hh => c4 hh.2.2), c1, c2, decide_eq_false (fun hh => c4 (c3.2 hh))]; rfl
    · rw [if_neg (fun hh => c2 hh.2.1)]; simp [c2]
  · rw [if_neg (fun hh => c1 hh.1)]; simp [c1]
theorem pit_tick {n : Nat} (hn0 : 1 ≤ n) (hn : n < (momS l).length) (hE : kT (mAt (momS l) n) ≤ sumM L) : pitA (lay 24 0 L) (mAt (momS l) (n - 1)) = pitA (lay 24 0 L) (cq 24 (kT (mAt (momS l) n) - 1)) := by
  unfold pitA; rw [sndV_on (on_tick h hf hv hn0 hn hE)]
end
/-- The end of a laid voice is a moment. -/
theorem lay_end_mom {l : List (List Ev)} {L : List (Int × Pay)} (hf : fit L) (hv : lay 24 0 L ∈ l) (h0 : 0 < sumM L) : cq 24 (sumM L) ∈ momS l := by
  have hl : 0 < L.length := by
    rcases Nat.eq_zero_or_pos L.length with h1 | h1
    · rw [List.length_eq_zero_iff] at h1; rw [h1, sumM_nil] at h0; omega
    · exact h1
  obtain ⟨z, hz⟩ : ∃ z, L[L.length - 1]? = some z := ⟨_, List.getElem?_eq_getElem (by omega)⟩
  have e := next_lay hf hz
  rw [show L.length - 1 + 1 = L.length by omega, pre_all (Nat.le_refl _)] at e
  exact (mem_mom _ _).2 ⟨_, hv, _, List.mem_of_getElem? (lay_get 24 L 0 _ z hz), .inr e.symm⟩
theorem nodup_len {l m : List Nat} (hl : l.Nodup) (hm : m.Nodup) (h : ∀ x, x ∈ l ↔ x ∈ m) : l.length = m.length := ((List.perm_ext_iff_of_nodup hl hm).2 h).length_eq
theorem nodup_map_on {f : Nat → Nat} {l : List Nat} (hl : l.Nodup) (hf : ∀ x ∈ l, ∀ y ∈ l, f x = f y → x = y) : (l.map f).Nodup := by
  induction l with
  | nil => exact List.nodup_nil
  | cons x l ih =>
    rw [List.map_cons, List.nodup_cons] at *
    refine ⟨fun hm => ?_, ih hl.2 fun a ha b hb => hf a (by simp [ha]) b (by simp [hb])⟩
    obtain ⟨y, hy, e⟩ := List.mem_map.1 hm
    have := hf x (by simp) y (by simp [hy]) e.symm
    subst this
    exact hl.1 hy
theorem two_count {a b : List Ev} {m : List Tm} {k : Int} (hk : k = 1 ∨ k = 3) (r : List Nat) : ((r.flatMap (twoM a b m)).filter fun p => cB p && decide (p.kind = k)).length = (r.filter fun n => decide ((motE a b m n).1 = k)).length := by
  induction r with
  | nil => rfl
  | cons n r ih =>
    rw [List.flatMap_cons, List.filter_append, List.length_append, ih, List.filter_cons]
    by_cases h : (motE a b m n).1 = k
    · have e : (twoM a b m n).filter (fun p => cB p && decide (p.kind = k)) = [⟨n, 0, 1, (motE a b m n).1, (motE a b m n).2⟩] := by
        unfold twoM
        rw [if_pos (by omega), List.filter_cons_of_pos]
        · rfl
        · unfold cB; simp only [h]; rcases hk with rfl | rfl <;> simp
      rw [e, if_pos (by simp [h])]
      simp; omega
    · have e : (twoM a b m n).filter (fun p => cB p && decide (p.kind = k)) = [] := by
        unfold twoM
        split
        · rw [List.filter_cons_of_neg]
          · rfl
          · simp [h]
        · rfl
      rw [e, if_neg (by simp [h])]
      simp
section
variable {M : Int} {La Lb : List (Int × Pay)} (h : SetQ M [lay 24 0 La, lay 24 0 Lb]) (fa : fit La) (fb : fit Lb) (hs : sumM La = sumM Lb)
include h fa fb hs
omit h in
theorem end_sum {n : Nat} (hn : n < (momS [lay 24 0 La, lay 24 0 Lb]).length) : kT (mAt (momS [lay 24 0 La, lay 24 0 Lb]) n) ≤ sumM La := by
  obtain ⟨v, hv, x, hx, e⟩ := (mem_mom _ _).1 (List.mem_of_getElem? (mAt_some hn))
  have key : ∀ L : List (Int × Pay), fit L → x ∈ lay 24 0 L → kT (mAt (momS [lay 24 0 La, lay 24 0 Lb]) n) ≤ sumM L := by
    intro L hf hx
    obtain ⟨k, hk, rfl⟩ := List.getElem_of_mem hx
    rw [lay_len] at hk
    obtain ⟨z, hz⟩ : ∃ z, L[k]? = some z := ⟨_, List.getElem?_eq_getElem hk⟩
    have hg := lay_get 24 L 0 k z hz
    have hb := hf.2.1
    have p0 := pre_bd hf k
    have p1 := pre_bd hf (k + 1)
    rw [List.getElem?_eq_getElem (by rw [lay_len]; exact hk)] at hg
    rw [Option.some.inj hg] at e
    rcases e with e | e
    · rw [e]
      show kT (cq 24 (0 + preS L k)) ≤ _
      rw [Int.zero_add, kT_tick p0.1 (by omega)]; exact p0.2
    · rw [e, next_lay hf hz, kT_tick p1.1 (by omega)]; exact p1.2
  simp only [List.mem_cons, List.not_mem_nil, or_false] at hv
  rcases hv with rfl | rfl
  · exact key La fa hx
  · rw [hs]; exact key Lb fb hx
/-- The motions of kind 1 or 3, counted at the ticks. -/
theorem count_ticks {k : Int} (hk : k = 1 ∨ k = 3) : cntC k (findE [lay 24 0 La, lay 24 0 Lb]).1 = (((List.range (sumM La).toNat).filter (tickB (lay 24 0 La) (lay 24 0 Lb) k)).length : Nat) := by
  have hM := h.big
  have hsa := (setq_sa h).1
  have ha0 : 0 ≤ sumM La := sumM_nonneg fa.1
  have hfb := fa.2.1
  rw [find_two h]
  unfold cntC
  simp only
  rw [two_count hk]
  congr 1
  obtain ⟨m, hm⟩ : ∃ m, m = momS [lay 24 0 La, lay 24 0 Lb] := ⟨_, rfl⟩
  rw [← hm]
  have hk0 : ∀ n, n < m.length → Q24 M (mAt m n) := fun n hn => by rw [hm] at hn ⊢; exact setq_q h hn
  have hlt : ∀ i j, i < j → j < m.length → kT (mAt m i) < kT (mAt m j) := fun i j hij hj => by rw [hm] at hj ⊢; exact setq_lt h hij hj
  -- a counted motion lies at a tick that counts
  have one : ∀ n, n < m.length → 1 ≤ n → kT (mAt m n) ≤ sumM La → (decide ((motE (lay 24 0 La) (lay 24 0 Lb) m n).1 = k) = tickB (lay 24 0 La) (lay 24 0 Lb) k (kT (mAt m n)).toNat) := by
    intro n hn hn0 hE
    have q := hk0 n hn
    have e0 : (((kT (mAt m n)).toNat : Nat) : Int) = kT (mAt m n) := Int.toNat_of_nonneg q.2.1
    have h1 : 1 ≤ (kT (mAt m n)).toNat := by
      have := hlt (n - 1) n (by omega) hn
      have := (hk0 (n - 1) (by omega)).2.1
      omega
    unfold tickB
    rw [decide_eq_true h1, Bool.true_and, e0]
    have ma := mv_tick h fa (by simp) hn0 (by rw [← hm]; exact hn) (by rw [← hm]; exact hE)
    have mb := mv_tick h fb (by simp) hn0 (by rw [← hm]; exact hn) (by rw [← hm, ← hs]; exact hE)
    have pa := pit_tick h fa (by simp) hn0 (by rw [← hm]; exact hn) (by rw [← hm]; exact hE)
    have pb := pit_tick h fb (by simp) hn0 (by rw [← hm]; exact hn) (by rw [← hm, ← hs]; exact hE)
    rw [← hm] at ma mb pa pb
    rw [← ma, ← mb, ← pa, ← pb, ← q.1, Bool.eq_iff_iff, decide_eq_true_eq, mot_k13 hk, Bool.and_eq_true, Bool.and_eq_true, decide_eq_true_eq]
  have hmot0 : decide ((motE (lay 24 0 La) (lay 24 0 Lb) m 0).1 = k) = false := by
    rw [decide_eq_false_iff_not, mot_k13 hk]
    rintro ⟨hh, _⟩
    exact absurd (mv_true hh).1 (by omega)
  have hlast : ∀ n, n + 1 < m.length → kT (mAt m n) < sumM La := by
    intro n hn
    have := hlt n (n + 1) (by omega) hn
    have := end_sum fa fb hs (n := n + 1) (by rw [← hm]; exact hn)
    rw [← hm] at this
    omega
  have e1 : ((List.range (m.length - 1)).filter fun n => decide ((motE (lay 24 0 La) (lay 24 0 Lb) m n).1 = k)).length = (((List.range (m.length - 1)).filter fun n => decide ((motE (lay 24 0 La) (lay 24 0 Lb) m n).1 = k)).map fun n => (kT (mAt m n)).toNat).length := by rw [List.length_map]
  rw [e1]
  refine nodup_len (nodup_map_on (List.Pairwise.filter _ List.nodup_range) fun x hx y hy e => ?_) (List.Pairwise.filter _ List.nodup_range) fun t => ?_
  · rw [List.mem_filter, List.mem_range] at hx hy
    have hx0 := (hk0 x (by omega)).2.1
    have hy0 := (hk0 y (by omega)).2.1
    rcases Nat.lt_trichotomy x y with h1 | h1 | h1
    · have := hlt x y h1 (by omega); omega
    · exact h1
    · have := hlt y x h1 (by omega); omega
  · rw [List.mem_map, List.mem_filter, List.mem_range]
    constructor
    · rintro ⟨n, hn, rfl⟩
      rw [List.mem_filter, List.mem_range] at hn
      have hl := hlast n (by omega)
      have h0 := (hk0 n (by omega)).2.1
      rcases Nat.eq_zero_or_pos n with rfl | hp
      · rw [hmot0] at hn; exact absurd hn.2 (by simp)
      · rw [one n (by omega) hp (by omega)] at hn
        exact ⟨by omega, hn.2⟩
    · rintro ⟨hE, ht⟩
      have ht1 := ht
      unfold tickB at ht1
      rw [Bool.and_eq_true, Bool.and_eq_true, decide_eq_true_eq] at ht1
      obtain ⟨h1, h2, _⟩ := ht1
      have hmem := mov_mom (l := [lay 24 0 La, lay 24 0 Lb]) fa (by simp) h1 (by omega) h2
      obtain ⟨n, hn, e⟩ := List.getElem_of_mem hmem
      have e' : mAt m n = cq 24 (t : Int) := by rw [hm]; exact mAt_get (by rw [List.getElem?_eq_getElem hn, e])
      rw [← hm] at hn
      have ek : kT (mAt m n) = t := by rw [e', kT_tick (by omega) (by omega)]
      have hn0 : 1 ≤ n := by
        rcases Nat.eq_zero_or_pos n with rfl | hp
        · have := setq_first h (by rw [← hm]; exact hn)
          rw [← hm] at this
          rw [this, kT_zero] at ek
          omega
        · exact hp
      refine ⟨n, ?_, by rw [ek]; omega⟩
      have hn1 : n + 1 < m.length := by
        rcases Nat.lt_or_ge (n + 1) m.length with h3 | h3
        · exact h3
        · -- the last moment is the end
          have hend := lay_end_mom fa (show lay 24 0 La ∈ [lay 24 0 La, lay 24 0 Lb] by simp) (by omega)
          rw [← hm] at hend
          obtain ⟨j, hj, ej⟩ := List.getElem_of_mem hend
          have ej' : mAt m j = cq 24 (sumM La) := mAt_get (by rw [List.getElem?_eq_getElem hj, ej])
          have : kT (mAt m j) = sumM La := by rw [ej', kT_tick ha0 hfb]
          rcases Nat.lt_or_ge n j with h4 | h4
          · omega
          · rcases Nat.eq_or_lt_of_le h4 with h5 | h5
            · rw [h5] at this; omega
            · have := hlt j n h5 hn; omega
      rw [List.mem_filter, List.mem_range, one n hn hn0 (by omega), ek]
      exact ⟨by omega, by rw [Int.toNat_natCast]; exact ht⟩
end
/-- Backwards at tick t as at the mirrored tick. -/
theorem tick_rev {La Lb : List (Int × Pay)} (fa : fit La) (fb : fit Lb) (hs : sumM La = sumM Lb) (k : Int) {t : Nat} (h1 : 1 ≤ t) (ht : (t : Int) < sumM La) : tickB (lay 24 0 La.reverse) (lay 24 0 Lb.reverse) k t = tickB (lay 24 0 La) (lay 24 0 Lb) k ((sumM La).toNat - t) := by
  have e0 : (((sumM La).toNat - t : Nat) : Int) = sumM La - t := by omega
  have a1 := rev_tick fa (t := (t : Int) - 1) (by omega) (by omega)
  have a2 := rev_tick fa (t := (t : Int)) (by omega) (by omega)
  have b1 := rev_tick fb (t := (t : Int) - 1) (by omega) (by omega)
  have b2 := rev_tick fb (t := (t : Int)) (by omega) (by omega)
  rw [show sumM La - 1 - ((t : Int) - 1) = sumM La - t by omega] at a1
  rw [show sumM La - 1 - (t : Int) = sumM La - t - 1 by omega] at a2
  rw [← hs, show sumM La - 1 - ((t : Int) - 1) = sumM La - t by omega] at b1
  rw [← hs, show sumM La - 1 - (t : Int) = sumM La - t - 1 by omega] at b2
  have mv : ∀ {L : List (Int × Pay)} {t' : Nat}, (t' : Int) = sumM La - t →
      ((sndV (lay 24 0 L.reverse) (cq 24 ((t : Int) - 1))).2 = (sndV (lay 24 0 L) (cq 24 (sumM La - t))).2 ∧
        ((sndV (lay 24 0 L) (cq 24 (sumM La - t))).2 = true → pitA (lay 24 0 L.reverse) (cq 24 ((t : Int) - 1)) = pitA (lay 24 0 L) (cq 24 (sumM La - t))) ∧
        onS (lay 24 0 L.reverse) (cq 24 ((t : Int) - 1)) = (L.length : Int) - 1 - onS (lay 24 0 L) (cq 24 (sumM La - t))) →
      ((sndV (lay 24 0 L.reverse) (cq 24 (t : Int))).2 = (sndV (lay 24 0 L) (cq 24 (sumM La - t - 1))).2 ∧
        ((sndV (lay 24 0 L) (cq 24 (sumM La - t - 1))).2 = true → pitA (lay 24 0 L.reverse) (cq 24 (t : Int)) = pitA (lay 24 0 L) (cq 24 (sumM La - t - 1))) ∧
        onS (lay 24 0 L.reverse) (cq 24 (t : Int)) = (L.length : Int) - 1 - onS (lay 24 0 L) (cq 24 (sumM La - t - 1))) →
      movB (lay 24 0 L.reverse) t = movB (lay 24 0 L) t' := by
    intro L t' ht' c1 c2
    unfold movB
    rw [ht', c1.1, c2.1, c1.2.2, c2.2.2]
    generalize (sndV (lay 24 0 L) (cq 24 (sumM La - t))).2 = x
    generalize (sndV (lay 24 0 L) (cq 24 (sumM La - t - 1))).2 = y
    have e : decide ((L.length : Int) - 1 - onS (lay 24 0 L) (cq 24 (sumM La - t - 1)) ≠ (L.length : Int) - 1 - onS (lay 24 0 L) (cq 24 (sumM La - t))) = decide (onS (lay 24 0 L) (cq 24 (sumM La - t)) ≠ onS (lay 24 0 L) (cq 24 (sumM La - t - 1))) := decide_eq_decide.2 (by omega)
    rw [e]
    cases x <;> cases y <;> rfl
  unfold tickB
  rw [mv e0 a1 a2, mv e0 b1 b2, decide_eq_true h1, decide_eq_true (show 1 ≤ (sumM La).toNat - t by omega), e0]
  cases ma : movB (lay 24 0 La) ((sumM La).toNat - t) with
  | false => rfl
  | true =>
    cases mb : movB (lay 24 0 Lb) ((sumM La).toNat - t) with
    | false => rfl
    | true =>
      unfold movB at ma mb
      rw [e0, Bool.and_eq_true, Bool.and_eq_true] at ma mb
      rw [a1.2.1 ma.2.1, a2.2.1 ma.1, b1.2.1 mb.2.1, b2.2.1 mb.1, k13_back]
theorem find_back {M : Int} {La Lb : List (Int × Pay)} (h : SetQ M [lay 24 0 La, lay 24 0 Lb]) (h' : SetQ M [lay 24 0 La.reverse, lay 24 0 Lb.reverse]) (fa : fit La) (fb : fit Lb) (hs : sumM La = sumM Lb) {k : Int} (hk : k = 1 ∨ k = 3) :
    cntC k (findE [lay 24 0 La, lay 24 0 Lb]).1 = cntC k (findE [lay 24 0 La.reverse, lay 24 0 Lb.reverse]).1 := by
  rw [count_ticks h fa fb hs hk, count_ticks h' (fit_reverse fa) (fit_reverse fb) (by rw [sumM_reverse, sumM_reverse, hs]) hk, sumM_reverse]
  congr 1
  have e1 : ((List.range (sumM La).toNat).filter (tickB (lay 24 0 La) (lay 24 0 Lb) k)).length = (((List.range (sumM La).toNat).filter (tickB (lay 24 0 La) (lay 24 0 Lb) k)).map fun t => (sumM La).toNat - t).length := by rw [List.length_map]
  have pos : ∀ {a b : List Ev} {t : Nat}, tickB a b k t = true → 1 ≤ t := by
    intro a b t ht
    unfold tickB at ht
    rw [Bool.and_eq_true, decide_eq_true_eq] at ht
    exact ht.1
  rw [e1]
  refine nodup_len (nodup_map_on (List.Pairwise.filter _ List.nodup_range) fun x hx y hy e => ?_) (List.Pairwise.filter _ List.nodup_range) fun t => ?_
  · rw [List.mem_filter, List.mem_range] at hx hy
    omega
  · rw [List.mem_map, List.mem_filter, List.mem_range]
    constructor
    · rintro ⟨s, hs', rfl⟩
      rw [List.mem_filter, List.mem_range] at hs'
      have := pos hs'.2
      refine ⟨by omega, ?_⟩
      rw [tick_rev fa fb hs k (by omega) (by omega), show (sumM La).toNat - ((sumM La).toNat - s) = s by omega]
      exact hs'.2
    · rintro ⟨hE, ht⟩
      have := pos ht
      refine ⟨(sumM La).toNat - t, ?_, by omega⟩
      rw [List.mem_filter, List.mem_range]
      rw [tick_rev fa fb hs k this (by omega)] at ht
      exact ⟨by omega, ht⟩
end Go.Proofs.YtigfcbofbcpiaaaDoor

