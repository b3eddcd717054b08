/- Plain mathematics of voices made of numbers: their times are whole multiples of 1/q; turned round, upside down, moved, stretched, joined, delayed, cut. -/
import Derived.Test.YtiphacmmglohaaaCutMath
import Derived.Test.YtiphacmmglohaaaBackMath
namespace Go.Proofs.Ytiphacmmglohaaa

/-! ### Whole multiples of 1/q -/
def cq (q m : Int) : Int × Int := ((mk m q).1, (mk m q).2.1)
def inq (q m : Int) : Prop := 1 ≤ q ∧ q ≤ 1048576 ∧ 0 ≤ m ∧ m ≤ 1099511627776
theorem cq_ok {q m : Int} (h : inq q m) : ok (cq q m) ∧ (cq q m).1 * q = m * (cq q m).2 ∧ mk m q = ((cq q m).1, (cq q m).2, 0) := by
  obtain ⟨t, ht, e1, e2⟩ := mk_small h.2.2.1 h.2.2.2 h.1 h.2.1
  unfold cq
  rw [e1]
  exact ⟨ht, e2, rfl⟩
theorem cq_of {q m : Int} {t : Int × Int} (hq : 1 ≤ q) (h : 0 ≤ m) (ht : ok t) (e : t.1 * q = m * t.2) : cq q m = t := by
  unfold cq; rw [mk_val h hq ht e]
theorem cq_pos {q m : Int} (h : inq q m) (h0 : 0 < m) : 1 ≤ (cq q m).1 := by
  obtain ⟨k, e, _⟩ := cq_ok h
  have h1 := k.1
  have h2 := k.2.2.1
  have h3 : 0 < m * (cq q m).2 := Int.mul_pos h0 (by omega)
  rcases Int.lt_or_le (cq q m).1 1 with h4 | h4
  · have : (cq q m).1 = 0 := by omega
    rw [this, Int.zero_mul] at e
    omega
  · exact h4
theorem cq_add {q m n : Int} (hm : inq q m) (hn : inq q n) (h : inq q (m + n)) : addS (cq q m) (cq q n) = ((cq q (m + n)).1, (cq q (m + n)).2, 0) := by
  obtain ⟨k1, e1, _⟩ := cq_ok hm
  obtain ⟨k2, e2, _⟩ := cq_ok hn
  obtain ⟨k3, e3, _⟩ := cq_ok h
  refine add_val k1 k2 k3 (cancel hm.1 ?_)
  generalize (cq q m).1 = a at *
  generalize (cq q m).2 = a' at *
  generalize (cq q n).1 = b at *
  generalize (cq q n).2 = b' at *
  generalize (cq q (m + n)).1 = t at *
  generalize (cq q (m + n)).2 = t' at *
  grind
theorem cq_sub {q m n : Int} (hm : inq q m) (hn : inq q n) (h : n ≤ m) : subS (cq q m) (cq q n) = ((cq q (m - n)).1, (cq q (m - n)).2, 0) := by
  obtain ⟨k1, e1, _⟩ := cq_ok hm
  obtain ⟨k2, e2, _⟩ := cq_ok hn
  obtain ⟨k3, e3, _⟩ := cq_ok (show inq q (m - n) from ⟨hm.1, hm.2.1, by omega, by have := hm.2.2.2; have := hn.2.2.1; omega⟩)
  refine sub_val k1 k2 k3 (cancel hm.1 ?_)
  generalize (cq q m).1 = a at *
  generalize (cq q m).2 = a' at *
  generalize (cq q n).1 = b at *
  generalize (cq q n).2 = b' at *
  generalize (cq q (m - n)).1 = t at *
  generalize (cq q (m - n)).2 = t' at *
  grind
theorem cq_cross {q m n : Int} (hm : inq q m) (hn : inq q n) : ((cq q m).1 * (cq q n).2 - (cq q n).1 * (cq q m).2) * q = (m - n) * ((cq q m).2 * (cq q n).2) := by
  obtain ⟨k1, e1, _⟩ := cq_ok hm
  obtain ⟨k2, e2, _⟩ := cq_ok hn
  generalize (cq q m).1 = a at *
  generalize (cq q m).2 = a' at *
  generalize (cq q n).1 = b at *
  generalize (cq q n).2 = b' at *
  grind
theorem cq_less {q m n : Int} (hm : inq q m) (hn : inq q n) : lessB (cq q m) (cq q n) = decide (m < n) := by
  obtain ⟨k1, e1, _⟩ := cq_ok hm
  obtain ⟨k2, e2, _⟩ := cq_ok hn
  have e := cq_cross hm hn
  unfold lessB cmpS
  rw [both_of_ok k1 k2, if_neg (fun h => h rfl)]
  have h3 : 0 < (cq q m).2 * (cq q n).2 := Int.mul_pos (by have := k1.2.2.1; omega) (by have := k2.2.2.1; omega)
  have hq := hm.1
  simp only
  generalize (cq q m).1 * (cq q n).2 - (cq q n).1 * (cq q m).2 = x at *
  generalize (cq q m).2 * (cq q n).2 = y at *
  rw [decide_eq_decide]
  unfold sgn
  rcases Int.lt_trichotomy (m - n) 0 with h | h | h
  · have h5 := Int.mul_neg_of_neg_of_pos h h3
    have : x < 0 := by
      rcases Int.lt_or_le x 0 with h6 | h6
      · exact h6
      · have := Int.mul_nonneg h6 (show 0 ≤ q by omega); omega
    rw [if_pos this]; omega
  · rw [h, Int.zero_mul] at e
    have : x = 0 := by
      rcases Int.mul_eq_zero.1 e with h6 | h6
      · exact h6
      · omega
    rw [this]; simp; omega
  · have h5 := Int.mul_pos h h3
    have : 0 < x := by
      rcases Int.lt_or_le 0 x with h6 | h6
      · exact h6
      · have := Int.mul_nonneg (show 0 ≤ -x by omega) (show 0 ≤ q by omega)
        rw [Int.neg_mul] at this; omega
    rw [if_neg (by omega), if_pos this]; simp; omega
theorem cq_zero {q : Int} (h : 1 ≤ q) (_ : q ≤ 1048576) : cq q 0 = (0, 1) :=
  cq_of h (by omega) (by unfold ok; exact ⟨by omega, by omega, by omega, by omega, by decide⟩) (by simp)

/-! ### Voices laid out -/
/-- What an event is but for its times. -/
structure Pay where
  pit : Int × Int × Int
  rest : Bool
  sign : Int
  pass : Int
def Pay.ev (p : Pay) (a d : Int × Int) : Ev := ⟨a, d, p.pit, p.rest, p.sign, p.pass⟩
def Pay.good (p : Pay) : Prop := (p.rest = true → p.pit = (0, 0, 0)) ∧ (p.rest = false → pchk p.pit = 0) ∧ 0 ≤ p.sign ∧ 0 ≤ p.pass
/-- Events one behind the other, of durations m/q each. -/
def lay (q s : Int) : List (Int × Pay) → List Ev
  | [] => []
  | z :: l => z.2.ev (cq q s) (cq q z.1) :: lay q (s + z.1) l
def sumM (l : List (Int × Pay)) : Int := (l.map (·.1)).sum
theorem sumM_cons (z : Int × Pay) (l : List (Int × Pay)) : sumM (z :: l) = z.1 + sumM l := by simp [sumM]
theorem sumM_nil : sumM [] = 0 := rfl
theorem sumM_append (l m : List (Int × Pay)) : sumM (l ++ m) = sumM l + sumM m := by simp [sumM]
theorem sumM_reverse (l : List (Int × Pay)) : sumM l.reverse = sumM l := by
  induction l with
  | nil => rfl
  | cons z l ih => rw [List.reverse_cons, sumM_append, ih, sumM_cons, sumM_cons, sumM_nil]; omega
def pos (l : List (Int × Pay)) : Prop := ∀ z ∈ l, 0 < z.1 ∧ z.2.good
theorem pos_cons {z : Int × Pay} {l : List (Int × Pay)} (h : pos (z :: l)) : (0 < z.1 ∧ z.2.good) ∧ pos l := ⟨h z (by simp), fun y hy => h y (by simp [hy])⟩
theorem pos_reverse {l : List (Int × Pay)} (h : pos l) : pos l.reverse := fun z hz => h z (by simpa using hz)
theorem pos_append {l m : List (Int × Pay)} (h : pos l) (h' : pos m) : pos (l ++ m) := fun z hz => by
  rcases List.mem_append.1 hz with h1 | h1
  · exact h z h1
  · exact h' z h1
theorem sumM_nonneg {l : List (Int × Pay)} (h : pos l) : 0 ≤ sumM l := by
  induction l with
  | nil => simp [sumM]
  | cons z l ih => rw [sumM_cons]; have := (pos_cons h).1.1; have := ih (pos_cons h).2; omega
def okq (q : Int) : Prop := 1 ≤ q ∧ q ≤ 1048576
theorem inq_of {q m : Int} (hq : okq q) (h : 0 ≤ m) (h' : m ≤ 1099511627776) : inq q m := ⟨hq.1, hq.2, h, h'⟩
/-- The chain does not look at the onsets that were there. -/
def strip (x : Ev) : Ev := { x with at_ := (0, 0) }
theorem chain_strip (l : List Ev) : ∀ now, chainFrom now l = chainFrom now (l.map strip) := by
  induction l with
  | nil => intro _; rfl
  | cons x l ih =>
    intro now
    rw [List.map_cons, chainFrom, chainFrom]
    show _ = if (addS now x.dur).2.2 ≠ 0 then _ else _
    rw [ih]
    rfl
def bare (q : Int) (l : List (Int × Pay)) : List Ev := l.map fun z => z.2.ev (0, 0) (cq q z.1)
theorem lay_strip (q : Int) (l : List (Int × Pay)) : ∀ s, (lay q s l).map strip = bare q l := by
  induction l with
  | nil => intro _; rfl
  | cons z l ih => intro s; rw [lay, List.map_cons, ih]; rfl
theorem bare_reverse (q : Int) (l : List (Int × Pay)) : (bare q l).reverse = bare q l.reverse := by unfold bare; rw [List.map_reverse]
theorem bare_append (q : Int) (l m : List (Int × Pay)) : bare q l ++ bare q m = bare q (l ++ m) := by unfold bare; rw [List.map_append]
theorem chain_bare {q : Int} (hq : okq q) (l : List (Int × Pay)) : ∀ s, 0 ≤ s → pos l → s + sumM l ≤ 1099511627776 → chainFrom (cq q s) (bare q l) = (lay q s l, 0) := by
  induction l with
  | nil => intro _ _ _ _; rfl
  | cons z l ih =>
    intro s hs hp hb
    obtain ⟨⟨h1, h2⟩, h3⟩ := pos_cons hp
    have h4 := sumM_nonneg h3
    rw [sumM_cons] at hb
    have ha := cq_add (inq_of hq hs (by omega)) (inq_of hq (show 0 ≤ z.1 by omega) (by omega)) (inq_of hq (by omega) (by omega))
    show chainFrom (cq q s) (z.2.ev (0, 0) (cq q z.1) :: bare q l) = _
    rw [chainFrom, show addS (cq q s) (z.2.ev (0, 0) (cq q z.1)).dur = ((cq q (s + z.1)).1, (cq q (s + z.1)).2, 0) from ha, if_neg (fun h => h rfl)]
    show (if (chainFrom (cq q (s + z.1)) (bare q l)).2 ≠ 0 then _ else ({ z.2.ev (0, 0) (cq q z.1) with at_ := cq q s } :: (chainFrom (cq q (s + z.1)) (bare q l)).1, (0 : Int))) = _
    rw [ih (s + z.1) (by omega) h3 (by omega), if_neg (fun h => h rfl)]
    rfl
/-- A laid out voice is one. -/
theorem check_lay {q : Int} (hq : okq q) (l : List (Int × Pay)) : ∀ s i, 0 ≤ s → pos l → s + sumM l ≤ 1099511627776 → checkFrom (cq q s) i (lay q s l) = (0, 0) := by
  induction l with
  | nil => intro _ _ _ _ _; rfl
  | cons z l ih =>
    intro s i hs hp hb
    obtain ⟨⟨h1, h2⟩, h3⟩ := pos_cons hp
    have h4 := sumM_nonneg h3
    rw [sumM_cons] at hb
    have is := inq_of hq hs (show s ≤ 1099511627776 by omega)
    have iz := inq_of hq (show 0 ≤ z.1 by omega) (show z.1 ≤ 1099511627776 by omega)
    have ha := cq_add is iz (inq_of hq (by omega) (by omega))
    have k1 := (cq_ok is).1
    have k2 := (cq_ok iz).1
    have k3 := cq_pos iz h1
    have hone : oneS (z.2.ev (cq q s) (cq q z.1)) = 0 := by
      obtain ⟨g1, g2, g3, g4⟩ := h2
      unfold oneS
      show (if chk (cq q s).1 (cq q s).2 ≠ 0 then _ else if chk (cq q z.1).1 (cq q z.1).2 ≠ 0 then _ else if (cq q z.1).1 = 0 then _ else if z.2.rest = true ∧ z.2.pit ≠ (0, 0, 0) then _ else if z.2.rest = false ∧ pchk z.2.pit ≠ 0 then _ else if z.2.sign < 0 ∨ z.2.pass < 0 then _ else _) = _
      rw [chk_of_ok k1, if_neg (fun h => h rfl), chk_of_ok k2, if_neg (fun h => h rfl), if_neg (by omega), if_neg (fun h => h.2 (g1 h.1)), if_neg (fun h => h.2 (g2 h.1)), if_neg (by omega)]
    rw [lay, cf_next (now := cq q s) hone rfl (by show (addS (cq q s) (cq q z.1)).2.2 = 0; rw [ha])]
    show checkFrom ((addS (cq q s) (cq q z.1)).1, (addS (cq q s) (cq q z.1)).2.1) (i + 1) (lay q (s + z.1) l) = _
    rw [ha]
    exact ih (s + z.1) (i + 1) (by omega) h3 (by omega)
theorem lay_len (q : Int) (l : List (Int × Pay)) : ∀ s, (lay q s l).length = l.length := by
  induction l with
  | nil => intro _; rfl
  | cons z l ih => intro s; rw [lay, List.length_cons, List.length_cons, ih]
/-- A voice of at most 2000 events that is short enough. -/
def fit (l : List (Int × Pay)) : Prop := pos l ∧ sumM l ≤ 1099511627776 ∧ l.length ≤ 2000
theorem checkS_lay {q : Int} (hq : okq q) {l : List (Int × Pay)} (h : fit l) : checkS (lay q 0 l) = (0, 0) := by
  unfold checkS
  rw [lay_len, if_neg (by have := h.2.2; omega), ← cq_zero hq.1 hq.2]
  exact check_lay hq l 0 0 (by omega) h.1 (by have := h.2.1; omega)
theorem chain0 {q : Int} (hq : okq q) {l : List (Int × Pay)} (h : fit l) {m : List Ev} (hm : m.map strip = bare q l) : chainS m = (lay q 0 l, 0) := by
  unfold chainS
  rw [chain_strip, hm, ← cq_zero hq.1 hq.2]
  exact chain_bare hq l 0 (by omega) h.1 (by have := h.2.1; omega)
theorem fit_reverse {l : List (Int × Pay)} (h : fit l) : fit l.reverse := ⟨pos_reverse h.1, by rw [sumM_reverse]; exact h.2.1, by simpa using h.2.2⟩
theorem retro_lay {q : Int} (hq : okq q) {l : List (Int × Pay)} (h : fit l) : retroS (lay q 0 l) = (lay q 0 l.reverse, 0) := by
  unfold retroS
  rw [checkS_lay hq h, if_neg (fun h => h rfl)]
  exact chain0 hq (fit_reverse h) (by rw [List.map_reverse, lay_strip, bare_reverse])
/-! ### Pitches changed -/
def onPay (f : Int × Int × Int → Int × Int × Int) (p : Pay) : Pay := if p.rest = true then p else { p with pit := f p.pit }
def onZ (f : Int × Int × Int → Int × Int × Int) (l : List (Int × Pay)) : List (Int × Pay) := l.map fun z => (z.1, onPay f z.2)
theorem map_lay (q : Int) (f : Int × Int × Int → (Int × Int × Int) × Int) (g : Int × Int × Int → Int × Int × Int) (l : List (Int × Pay)) : ∀ s, (∀ z ∈ l, z.2.rest = false → f z.2.pit = (g z.2.pit, 0)) → mapS (pitchedS f) (lay q s l) = (lay q s (onZ g l), 0) := by
  induction l with
  | nil => intro _ _; rfl
  | cons z l ih =>
    intro s h
    have h1 := h z (by simp)
    have h2 := ih (s + z.1) (fun y hy => h y (by simp [hy]))
    have h3 : pitchedS f (z.2.ev (cq q s) (cq q z.1)) = ((onPay g z.2).ev (cq q s) (cq q z.1), 0) := by
      unfold pitchedS onPay
      cases hr : z.2.rest with
      | true => simp [Pay.ev, hr]
      | false => simp [Pay.ev, hr, h1 hr]
    rw [lay, mapS, h3, if_neg (fun h => h rfl), h2, if_neg (fun h => h rfl)]
    rfl
theorem onZ_id {g : Int × Int × Int → Int × Int × Int} {l : List (Int × Pay)} (h : ∀ z ∈ l, z.2.rest = false → g z.2.pit = z.2.pit) : onZ g l = l := by
  unfold onZ
  conv => rhs; rw [← List.map_id l]
  refine List.map_congr_left fun z hz => ?_
  show (z.1, if z.2.rest = true then z.2 else { z.2 with pit := g z.2.pit }) = z
  by_cases hr : z.2.rest = true
  · rw [if_pos hr]
  · rw [if_neg hr, h z hz (by simpa using hr)]
theorem onZ_comp (g g' : Int × Int × Int → Int × Int × Int) (l : List (Int × Pay)) : onZ g' (onZ g l) = onZ (fun p => g' (g p)) l := by
  unfold onZ
  rw [List.map_map]
  refine List.map_congr_left fun z _ => ?_
  show (z.1, onPay g' (onPay g z.2)) = (z.1, onPay (fun p => g' (g p)) z.2)
  unfold onPay
  by_cases hr : z.2.rest = true
  · rw [if_pos hr, if_pos hr, if_pos hr]
  · rw [if_neg hr, if_neg hr, if_neg hr]
theorem onZ_reverse (g : Int × Int × Int → Int × Int × Int) (l : List (Int × Pay)) : onZ g l.reverse = (onZ g l).reverse := by unfold onZ; rw [List.map_reverse]
theorem onZ_sum (g : Int × Int × Int → Int × Int × Int) (l : List (Int × Pay)) : sumM (onZ g l) = sumM l := by
  unfold sumM onZ; rw [List.map_map]; rfl
theorem onZ_mem {g : Int × Int × Int → Int × Int × Int} {l : List (Int × Pay)} {z : Int × Pay} (h : z ∈ onZ g l) : ∃ y ∈ l, z = (y.1, onPay g y.2) := by
  obtain ⟨y, h1, h2⟩ := List.mem_map.1 h
  exact ⟨y, h1, h2.symm⟩
theorem onZ_fit {g : Int × Int × Int → Int × Int × Int} {l : List (Int × Pay)} (h : fit l) (hg : ∀ z ∈ l, z.2.rest = false → pchk (g z.2.pit) = 0) : fit (onZ g l) := by
  refine ⟨fun z hz => ?_, by rw [onZ_sum]; exact h.2.1, by unfold onZ; rw [List.length_map]; exact h.2.2⟩
  obtain ⟨y, hy, rfl⟩ := onZ_mem hz
  obtain ⟨h1, g1, g2, g3, g4⟩ := h.1 y hy
  refine ⟨h1, ?_⟩
  unfold onPay
  cases hr : y.2.rest with
  | true => rw [if_pos rfl]; exact ⟨g1, g2, g3, g4⟩
  | false => rw [if_neg (by simp)]; exact ⟨fun e => by simp at e, fun _ => hg y hy hr, g3, g4⟩
theorem mirror_lay {q : Int} (hq : okq q) {l : List (Int × Pay)} (h : fit l) {ax : Int × Int × Int} (hax : pchk ax = 0) {g : Int × Int × Int → Int × Int × Int} (hg : ∀ z ∈ l, z.2.rest = false → mirrorP z.2.pit ax = (g z.2.pit, 0)) :
    mirrorS (lay q 0 l) ax = (lay q 0 (onZ g l), 0) := by
  have hc := checkS_lay hq h
  unfold mirrorS
  rw [hc, if_neg (fun h => h rfl), hax, if_neg (fun h => h rfl), all_pitched _ _ (by rw [hc])]
  exact map_lay q _ g l 0 hg
theorem move_lay {q : Int} (hq : okq q) {l : List (Int × Pay)} (h : fit l) {st : Int} {g : Int × Int × Int → Int × Int × Int} (hg : ∀ z ∈ l, z.2.rest = false → moveP z.2.pit st = (g z.2.pit, 0)) :
    moveS (lay q 0 l) st = (lay q 0 (onZ g l), 0) := by
  have hc := checkS_lay hq h
  unfold moveS
  rw [hc, if_neg (fun h => h rfl), all_pitched _ _ (by rw [hc])]
  exact map_lay q _ g l 0 hg
/-! ### Stretched -/
def times (k : Int) (l : List (Int × Pay)) : List (Int × Pay) := l.map fun z => (z.1 * k, z.2)
theorem times_sum (k : Int) (l : List (Int × Pay)) : sumM (times k l) = sumM l * k := by
  induction l with
  | nil => simp [times, sumM]
  | cons z l ih =>
    have : times k (z :: l) = (z.1 * k, z.2) :: times k l := rfl
    rw [this, sumM_cons, sumM_cons, ih, Int.add_mul]
theorem times_fit {k : Int} (hk : 1 ≤ k) {l : List (Int × Pay)} (h : fit l) (hb : sumM l * k ≤ 1099511627776) : fit (times k l) := by
  refine ⟨fun z hz => ?_, by rw [times_sum]; exact hb, by unfold times; rw [List.length_map]; exact h.2.2⟩
  obtain ⟨y, hy, rfl⟩ := List.mem_map.1 hz
  obtain ⟨h1, h2⟩ := h.1 y hy
  exact ⟨Int.mul_pos h1 (by omega), h2⟩
theorem times_reverse (k : Int) (l : List (Int × Pay)) : times k l.reverse = (times k l).reverse := by unfold times; rw [List.map_reverse]
theorem times_bare (q k : Int) (by_ : Int × Int) (l : List (Int × Pay)) (q' : Int) (h : ∀ z ∈ l, mulS (cq q z.1) by_ = ((cq q' (z.1 * k)).1, (cq q' (z.1 * k)).2, 0)) : ∀ s, (mapS (stretchedS by_) (lay q s l)).1.map strip = bare q' (times k l) ∧ (mapS (stretchedS by_) (lay q s l)).2 = 0 := by
  induction l with
  | nil => intro _; exact ⟨rfl, rfl⟩
  | cons z l ih =>
    intro s
    have h1 := h z (by simp)
    obtain ⟨h2, h3⟩ := ih (fun y hy => h y (by simp [hy])) (s + z.1)
    have h4 : stretchedS by_ (z.2.ev (cq q s) (cq q z.1)) = (z.2.ev (cq q s) (cq q' (z.1 * k)), 0) := by
      unfold stretchedS
      show (({ z.2.ev (cq q s) (cq q z.1) with dur := ((mulS (cq q z.1) by_).1, (mulS (cq q z.1) by_).2.1) } : Ev), (mulS (cq q z.1) by_).2.2) = _
      rw [h1]; rfl
    rw [lay, mapS, h4, if_neg (fun h => h rfl), h3, if_neg (fun h => h rfl)]
    exact ⟨by rw [List.map_cons, h2]; rfl, rfl⟩
theorem stretch_lay {q q' k : Int} (hq : okq q) (hq' : okq q') {l : List (Int × Pay)} (h : fit l) (hk : 1 ≤ k) (hb : sumM l * k ≤ 1099511627776) {by_ : Int × Int} (hby : ok by_) (h0 : by_.1 ≠ 0)
    (hm : ∀ z ∈ l, mulS (cq q z.1) by_ = ((cq q' (z.1 * k)).1, (cq q' (z.1 * k)).2, 0)) : stretchS (lay q 0 l) by_ = (lay q' 0 (times k l), 0) := by
  have hc := checkS_lay hq h
  obtain ⟨h1, h2⟩ := times_bare q k by_ l q' hm 0
  unfold stretchS
  rw [hc, if_neg (fun h => h rfl)]
  have ha : aboveS by_ = 0 := by unfold aboveS; rw [chk_of_ok hby, if_neg (fun h => h rfl), if_neg h0]
  rw [ha, if_neg (fun h => h rfl)]
  unfold allS
  rw [h2, if_neg (fun h => h rfl)]
  exact chain0 hq' (times_fit hk h hb) h1
end Go.Proofs.Ytiphacmmglohaaa
