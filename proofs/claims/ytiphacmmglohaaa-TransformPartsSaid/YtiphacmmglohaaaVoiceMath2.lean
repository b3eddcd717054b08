/- Plain mathematics of voices made of numbers: what the kit's Voice makes; pitches; products; joined, delayed and cut voices; ends. -/
import Derived.Test.YtiphacmmglohaaaVoiceMath
namespace Go.Proofs.Ytiphacmmglohaaa

/-! ### What Voice makes -/
def d24 (j : Int) : Int := [24, 48, 12, 72, 96, 36, 144, 16, 32].getD j.toNat 0
def durT (j : Int) : Int × Int := [((1 : Int), (1 : Int)), (2, 1), (1, 2), (3, 1), (4, 1), (3, 2), (6, 1), (2, 3), (4, 3)].getD j.toNat (0, 0)
theorem dur_fin : ∀ j : Fin 9, durT (j.val : Int) = cq 24 (d24 (j.val : Int)) ∧ 12 ≤ d24 (j.val : Int) ∧ d24 (j.val : Int) ≤ 144 := by decide +kernel
theorem dur_24 {j : Int} (h : 0 ≤ j) (h' : j < 9) : durT j = cq 24 (d24 j) ∧ 12 ≤ d24 j ∧ d24 j ≤ 144 := by
  have := dur_fin ⟨j.toNat, by omega⟩
  simp only [show ((j.toNat : Nat) : Int) = j by omega] at this
  exact this
def payS (i n : Int) : Pay := if n / 567 = 6 then ⟨(0, 0, 0), true, i, n / 567 % 2⟩ else ⟨(n % 7, 3 + n / 7 % 3, n / 21 % 3 - 1), false, i, n / 567 % 2⟩
def oneZ (i x : Int) : Int × Pay := (d24 (x % 3969 / 63 % 9), payS i (x % 3969))
def voiceZ (i : Int) : List Int → List (Int × Pay)
  | [] => []
  | x :: l => oneZ i x :: voiceZ (i + 1) l
def voiceS (most : Nat) (l : List Int) : List Ev := lay 24 0 (voiceZ 0 (l.take most))
/-- A small event: at most 6 minims, a pitch from c3 to b5. -/
def small (z : Int × Pay) : Prop := 12 ≤ z.1 ∧ z.1 ≤ 144 ∧ z.2.good ∧ (z.2.rest = false → 21 ≤ numP z.2.pit ∧ numP z.2.pit ≤ 41)
theorem one_small (i x : Int) (hi : 0 ≤ i) : small (oneZ i x) := by
  have h0 := Int.emod_nonneg x (show (3969 : Int) ≠ 0 by omega)
  have h1 := Int.emod_lt_of_pos x (show (0 : Int) < 3969 by omega)
  obtain ⟨_, d1, d2⟩ := dur_24 (j := x % 3969 / 63 % 9) (by omega) (by omega)
  refine ⟨d1, d2, ?_, ?_⟩
  · show (payS i (x % 3969)).good
    unfold payS
    split
    · exact ⟨fun _ => rfl, fun e => by simp at e, hi, by simp only; omega⟩
    · refine ⟨fun e => by simp at e, fun _ => ?_, hi, by simp only; omega⟩
      unfold pchk; rw [if_neg (by simp only; omega)]
  · show (payS i (x % 3969)).rest = false → 21 ≤ numP (payS i (x % 3969)).pit ∧ numP (payS i (x % 3969)).pit ≤ 41
    unfold payS
    split
    · intro e; simp at e
    · intro _; unfold numP; simp only; omega
theorem voice_small (l : List Int) : ∀ i, 0 ≤ i → ∀ z ∈ voiceZ i l, small z := by
  induction l with
  | nil => intro i _ z hz; simp [voiceZ] at hz
  | cons x l ih =>
    intro i hi z hz
    rcases List.mem_cons.1 hz with rfl | hz
    · exact one_small i x hi
    · exact ih (i + 1) (by omega) z hz
theorem voice_len (l : List Int) : ∀ i, (voiceZ i l).length = l.length := by
  induction l with
  | nil => intro _; rfl
  | cons x l ih => intro i; rw [voiceZ, List.length_cons, ih, List.length_cons]
theorem small_sum (l : List (Int × Pay)) (h : ∀ z ∈ l, small z) : sumM l ≤ 144 * (l.length : Int) := by
  induction l with
  | nil => simp [sumM]
  | cons z l ih =>
    rw [sumM_cons, List.length_cons]
    have := (h z (by simp)).2.1
    have := ih fun y hy => h y (by simp [hy])
    omega
theorem small_fit {l : List (Int × Pay)} (h : ∀ z ∈ l, small z) (hl : l.length ≤ 2000) : fit l :=
  ⟨fun z hz => ⟨by have := (h z hz).1; omega, (h z hz).2.2.1⟩, by have := small_sum l h; omega, hl⟩
theorem okq24 : okq 24 := ⟨by omega, by omega⟩
/-! ### Pitches -/
def gP (n a : Int) : Int × Int × Int := (n % 7, n / 7, a)
theorem ofP_gP {n a : Int} (h : 0 ≤ n) (h' : n ≤ 62) (ha : -1 ≤ a) (ha' : a ≤ 1) : ofP n a = (gP n a, 0) := by unfold ofP gP; rw [if_neg (by omega)]
theorem numP_gP (n a : Int) : numP (gP n a) = n := by unfold numP gP; simp only; omega
theorem pchk_gP {n a : Int} (h : 0 ≤ n) (h' : n ≤ 62) (ha : -1 ≤ a) (ha' : a ≤ 1) : pchk (gP n a) = 0 := by unfold pchk gP; rw [if_neg (by simp only; omega)]
theorem pchk_bd {p : Int × Int × Int} (h : pchk p = 0) : 0 ≤ p.1 ∧ p.1 ≤ 6 ∧ 0 ≤ p.2.1 ∧ p.2.1 ≤ 8 ∧ -1 ≤ p.2.2 ∧ p.2.2 ≤ 1 := by
  unfold pchk at h
  split at h
  · cases h
  · omega
theorem gP_self {p : Int × Int × Int} (h : pchk p = 0) : gP (numP p) p.2.2 = p := by
  have := pchk_bd h
  obtain ⟨a, b, c⟩ := p
  simp only at this
  unfold gP numP
  simp only
  refine Prod.ext (by simp only; omega) (Prod.ext (by simp only; omega) rfl)
def mirG (ax p : Int × Int × Int) : Int × Int × Int := gP (2 * numP ax - numP p) (-p.2.2)
def movG (s : Int) (p : Int × Int × Int) : Int × Int × Int := gP (numP p + s) p.2.2
theorem mirror_g {p ax : Int × Int × Int} (h : pchk p = 0) (h' : pchk ax = 0) (h0 : 0 ≤ 2 * numP ax - numP p) (h1 : 2 * numP ax - numP p ≤ 62) : mirrorP p ax = (mirG ax p, 0) := by
  have := pchk_bd h
  unfold mirrorP
  rw [h, if_neg (fun h => h rfl), h', if_neg (fun h => h rfl), ofP_gP h0 h1 (by omega) (by omega)]
  rfl
theorem move_g {p : Int × Int × Int} {s : Int} (h : pchk p = 0) (hs : -62 ≤ s) (hs' : s ≤ 62) (h0 : 0 ≤ numP p + s) (h1 : numP p + s ≤ 62) : moveP p s = (movG s p, 0) := by
  have := pchk_bd h
  unfold moveP
  rw [h, if_neg (fun h => h rfl), if_neg (by omega), ofP_gP h0 h1 (by omega) (by omega)]
  rfl
theorem mir_mir {p ax : Int × Int × Int} (h : pchk p = 0) : mirG ax (mirG ax p) = p := by
  have e : mirG ax (mirG ax p) = gP (2 * numP ax - (2 * numP ax - numP p)) (- -p.2.2) := by
    show gP (2 * numP ax - numP (gP (2 * numP ax - numP p) (-p.2.2))) (- -p.2.2) = _
    rw [numP_gP]
  rw [e, show 2 * numP ax - (2 * numP ax - numP p) = numP p by omega, Int.neg_neg, gP_self h]
theorem mov_mov {p : Int × Int × Int} (s : Int) (h : pchk p = 0) : movG (-s) (movG s p) = p := by
  have e : movG (-s) (movG s p) = gP (numP p + s + -s) p.2.2 := by
    show gP (numP (gP (numP p + s) p.2.2) + -s) p.2.2 = _
    rw [numP_gP]
  rw [e, show numP p + s + -s = numP p by omega, gP_self h]
theorem mir_mov (ax : Int × Int × Int) (s : Int) (p : Int × Int × Int) : mirG ax (movG s p) = movG (-s) (mirG ax p) := by
  show gP (2 * numP ax - numP (gP (numP p + s) p.2.2)) (-p.2.2) = gP (numP (gP (2 * numP ax - numP p) (-p.2.2)) + -s) (-p.2.2)
  rw [numP_gP, numP_gP]
  congr 1
  omega
/-! ### Products -/
theorem mul_cq {q m N D : Int} (hm : inq q m) (hm' : inq (q * D) (m * N)) (hb : ok (N, D)) : mulS (cq q m) (N, D) = ((cq (q * D) (m * N)).1, (cq (q * D) (m * N)).2, 0) := by
  obtain ⟨k1, e1, _⟩ := cq_ok hm
  obtain ⟨k2, e2, _⟩ := cq_ok hm'
  refine mul_val k1 hb k2 (cancel hm.1 ?_)
  simp only
  generalize (cq q m).1 = a at *
  generalize (cq q m).2 = a' at *
  generalize (cq (q * D) (m * N)).1 = t at *
  generalize (cq (q * D) (m * N)).2 = t' at *
  grind
theorem cq_scale {q m c : Int} (hm : inq q m) (hc : 1 ≤ c) : cq (q * c) (m * c) = cq q m := by
  obtain ⟨k1, e1, _⟩ := cq_ok hm
  have h1 := Int.mul_le_mul hm.1 hc (by omega) (by have := hm.1; omega)
  refine cq_of (by omega) (Int.mul_nonneg hm.2.2.1 (by omega)) k1 ?_
  generalize (cq q m).1 = a at *
  generalize (cq q m).2 = a' at *
  grind
theorem lay_scale {q c : Int} (hq : okq q) (hc : 1 ≤ c) (l : List (Int × Pay)) : ∀ s, 0 ≤ s → pos l → s + sumM l ≤ 1099511627776 → lay (q * c) (s * c) (times c l) = lay q s l := by
  induction l with
  | nil => intro _ _ _ _; rfl
  | cons z l ih =>
    intro s hs hp hb
    obtain ⟨⟨h1, h2⟩, h3⟩ := pos_cons hp
    have h4 := sumM_nonneg h3
    rw [sumM_cons] at hb
    show z.2.ev (cq (q * c) (s * c)) (cq (q * c) (z.1 * c)) :: lay (q * c) (s * c + z.1 * c) (times c l) = _
    rw [← Int.add_mul, ih (s + z.1) (by omega) h3 (by omega), cq_scale (inq_of hq hs (by omega)) hc, cq_scale (inq_of hq (by omega) (by omega)) hc]
    rfl
theorem times_times (a b : Int) (l : List (Int × Pay)) : times b (times a l) = times (a * b) l := by
  unfold times
  rw [List.map_map]
  refine List.map_congr_left fun z _ => ?_
  show (z.1 * a * b, z.2) = (z.1 * (a * b), z.2)
  rw [Int.mul_assoc]
/-! ### Ends, joined and delayed voices -/
theorem lay_append (q : Int) (l m : List (Int × Pay)) : ∀ s, lay q s (l ++ m) = lay q s l ++ lay q (s + sumM l) m := by
  induction l with
  | nil => intro s; simp [lay, sumM]
  | cons z l ih => intro s; rw [List.cons_append, lay, lay, ih, sumM_cons, List.cons_append, Int.add_assoc]
theorem lay_last {q : Int} (hq : okq q) (l : List (Int × Pay)) : ∀ s, 0 ≤ s → pos l → s + sumM l ≤ 1099511627776 → ∀ x, (lay q s l).getLast? = some x → addS x.at_ x.dur = ((cq q (s + sumM l)).1, (cq q (s + sumM l)).2, 0) := by
  induction l with
  | nil => intro s _ _ _ x hx; simp [lay] at hx
  | cons z l ih =>
    intro s hs hp hb x hx
    obtain ⟨⟨h1, h2⟩, h3⟩ := pos_cons hp
    have h4 := sumM_nonneg h3
    rw [sumM_cons] at hb ⊢
    cases l with
    | nil =>
      simp [lay] at hx
      subst hx
      rw [sumM_nil]
      show addS (cq q s) (cq q z.1) = _
      rw [cq_add (inq_of hq hs (by omega)) (inq_of hq (by omega) (by omega)) (inq_of hq (by omega) (by omega)), Int.add_zero]
    | cons y l =>
      have := ih (s + z.1) (by omega) h3 (by omega) x (by
        rw [lay] at hx
        simpa [lay] using hx)
      rw [this, Int.add_assoc]
theorem end_lay {q : Int} (hq : okq q) {l : List (Int × Pay)} (h : fit l) : endS (lay q 0 l) = ((cq q (sumM l)).1, (cq q (sumM l)).2, 0) := by
  unfold endS
  rw [checkS_lay hq h, if_neg (fun h => h rfl)]
  cases hx : (lay q 0 l).getLast? with
  | none =>
    have : lay q 0 l = [] := List.getLast?_eq_none_iff.1 hx
    have hl : l = [] := List.eq_nil_of_length_eq_zero (by rw [← lay_len q l 0, this]; rfl)
    subst hl
    rw [sumM_nil, cq_zero hq.1 hq.2]
  | some x =>
    have := lay_last hq l 0 (by omega) h.1 (by have := h.2.1; omega) x hx
    rw [Int.zero_add] at this
    exact this
theorem fit_append {l m : List (Int × Pay)} (h : fit l) (h' : fit m) (hs : sumM l + sumM m ≤ 1099511627776) (hl : l.length + m.length ≤ 2000) : fit (l ++ m) :=
  ⟨pos_append h.1 h'.1, by rw [sumM_append]; exact hs, by rw [List.length_append]; exact hl⟩
theorem join_lay {q : Int} (hq : okq q) {l m : List (Int × Pay)} (h : fit l) (h' : fit m) (hs : sumM l + sumM m ≤ 1099511627776) (hl : l.length + m.length ≤ 2000) : joinS (lay q 0 l) (lay q 0 m) = (lay q 0 (l ++ m), 0) := by
  unfold joinS
  rw [checkS_lay hq h, if_neg (fun h => h rfl), checkS_lay hq h', if_neg (fun h => h rfl), lay_len, lay_len, if_neg (by omega)]
  exact chain0 hq (fit_append h h' hs hl) (by rw [List.map_append, lay_strip, lay_strip, bare_append])
def restP : Pay := ⟨(0, 0, 0), true, 0, 0⟩
theorem fit_rest {l : List (Int × Pay)} (h : fit l) {j : Int} (hj : 0 < j) (hs : j + sumM l ≤ 1099511627776) (hl : l.length < 2000) : fit ((j, restP) :: l) := by
  refine ⟨fun z hz => ?_, by rw [sumM_cons]; exact hs, by rw [List.length_cons]; omega⟩
  rcases List.mem_cons.1 hz with rfl | hz
  · exact ⟨hj, fun _ => rfl, fun e => by simp [restP] at e, by simp [restP], by simp [restP]⟩
  · exact h.1 z hz
theorem delay_lay {q : Int} (hq : okq q) {l : List (Int × Pay)} (h : fit l) {j : Int} (hj : 0 < j) (hs : j + sumM l ≤ 1099511627776) (hl : l.length < 2000) : delayS (lay q 0 l) (cq q j) = (lay q 0 ((j, restP) :: l), 0) := by
  have h4 := sumM_nonneg h.1
  have ij := inq_of hq (show 0 ≤ j by omega) (show j ≤ 1099511627776 by omega)
  have k1 := (cq_ok ij).1
  have k2 := cq_pos ij hj
  unfold delayS
  rw [checkS_lay hq h, if_neg (fun h => h rfl)]
  have ha : aboveS (cq q j) = 0 := by unfold aboveS; rw [chk_of_ok k1, if_neg (fun h => h rfl), if_neg (by omega)]
  rw [ha, if_neg (fun h => h rfl), lay_len, if_neg (by omega)]
  refine chain0 hq (fit_rest h hj hs hl) ?_
  rw [List.map_cons, lay_strip]
  rfl
/-! ### Cut -/
section
variable {q f t : Int} (hq : okq q) (hf : 0 ≤ f) (hft : f ≤ t) (ht : t ≤ 1099511627776)
include hq hf hft ht
theorem cut_ev {s : Int} {z : Int × Pay} (hs : 0 ≤ s) (hz : 0 < z.1) (hb : s + z.1 ≤ 1099511627776) :
    fromS (cq q f) (z.2.ev (cq q s) (cq q z.1)) = cq q (if s < f then f else s) ∧ toS (cq q t) (z.2.ev (cq q s) (cq q z.1)) = cq q (if t < s + z.1 then t else s + z.1) := by
  have is := inq_of hq hs (show s ≤ 1099511627776 by omega)
  have iz := inq_of hq (show 0 ≤ z.1 by omega) (show z.1 ≤ 1099511627776 by omega)
  have ie := inq_of hq (show 0 ≤ s + z.1 by omega) hb
  have i_f := inq_of hq hf (show f ≤ 1099511627776 by omega)
  have i_t := inq_of hq (show 0 ≤ t by omega) ht
  have hn : nextS (z.2.ev (cq q s) (cq q z.1)) = cq q (s + z.1) := by
    unfold nextS
    show ((addS (cq q s) (cq q z.1)).1, (addS (cq q s) (cq q z.1)).2.1) = _
    rw [cq_add is iz ie]
  constructor
  · unfold fromS
    show (if lessB (cq q s) (cq q f) = true then cq q f else cq q s) = _
    rw [cq_less is i_f]
    by_cases h : s < f <;> simp [h]
  · unfold toS
    rw [hn, cq_less i_t ie]
    by_cases h : t < s + z.1 <;> simp [h]
theorem cut_before {s : Int} {z : Int × Pay} (hs : 0 ≤ s) (hz : 0 < z.1) (hb : s + z.1 ≤ f) : cutOne (cq q f) (cq q t) (z.2.ev (cq q s) (cq q z.1)) = ([], 0) := by
  obtain ⟨e1, e2⟩ := cut_ev hq hf hft ht hs hz (z := z) (by omega)
  rw [cutOne_v, e1, e2, if_pos (show s < f by omega), if_neg (show ¬ t < s + z.1 by omega), cq_less (inq_of hq hf (by omega)) (inq_of hq (by omega) (by omega)), if_neg (by simp; omega)]
theorem cut_after {s : Int} {z : Int × Pay} (hs : t ≤ s) (hz : 0 < z.1) (hb : s + z.1 ≤ 1099511627776) : cutOne (cq q f) (cq q t) (z.2.ev (cq q s) (cq q z.1)) = ([], 0) := by
  obtain ⟨e1, e2⟩ := cut_ev hq hf hft ht (show 0 ≤ s by omega) hz (z := z) hb
  rw [cutOne_v, e1, e2, if_neg (show ¬ s < f by omega), if_pos (show t < s + z.1 by omega), cq_less (inq_of hq (by omega) (by omega)) (inq_of hq (by omega) (by omega)), if_neg (by simp; omega)]
theorem cut_in {s : Int} {z : Int × Pay} (hs : f ≤ s) (hz : 0 < z.1) (hb : s + z.1 ≤ t) : cutOne (cq q f) (cq q t) (z.2.ev (cq q s) (cq q z.1)) = ([z.2.ev (cq q s) (cq q z.1)], 0) := by
  obtain ⟨e1, e2⟩ := cut_ev hq hf hft ht (show 0 ≤ s by omega) hz (z := z) (by omega)
  have is := inq_of hq (show 0 ≤ s by omega) (show s ≤ 1099511627776 by omega)
  have ie := inq_of hq (show 0 ≤ s + z.1 by omega) (show s + z.1 ≤ 1099511627776 by omega)
  rw [cutOne_v, e1, e2, if_neg (show ¬ s < f by omega), if_neg (show ¬ t < s + z.1 by omega), cq_less is ie, if_pos (by simp; omega), cq_sub ie is (by omega), if_neg (fun h => h rfl), show s + z.1 - s = z.1 by omega]
  rfl
theorem cutAll_before (a : List (Int × Pay)) (r : List Ev) : ∀ s, 0 ≤ s → pos a → s + sumM a ≤ f → cutAll (cq q f) (cq q t) (lay q s a ++ r) = cutAll (cq q f) (cq q t) r := by
  induction a with
  | nil => intro _ _ _ _; rfl
  | cons z a ih =>
    intro s hs hp hb
    obtain ⟨⟨h1, h2⟩, h3⟩ := pos_cons hp
    have h4 := sumM_nonneg h3
    rw [sumM_cons] at hb
    rw [lay, List.cons_append, cutAll, cut_before hq hf hft ht hs h1 (by omega), if_neg (fun h => h rfl), ih (s + z.1) (by omega) h3 (by omega)]
    split
    · rename_i h5; rw [← cutAll_err _ _ _ h5]
    · rename_i h5; rw [List.nil_append]; exact Prod.ext rfl (by simpa using Decidable.not_not.1 h5 |>.symm)
theorem cutAll_after (c : List (Int × Pay)) : ∀ s, t ≤ s → pos c → s + sumM c ≤ 1099511627776 → cutAll (cq q f) (cq q t) (lay q s c) = ([], 0) := by
  induction c with
  | nil => intro _ _ _ _; rfl
  | cons z c ih =>
    intro s hs hp hb
    obtain ⟨⟨h1, h2⟩, h3⟩ := pos_cons hp
    have h4 := sumM_nonneg h3
    rw [sumM_cons] at hb
    rw [lay, cutAll, cut_after hq hf hft ht hs h1 (by omega), if_neg (fun h => h rfl), ih (s + z.1) (by omega) h3 (by omega), if_neg (fun h => h rfl)]
    rfl
theorem cutAll_in (b : List (Int × Pay)) (r : List Ev) (hr : cutAll (cq q f) (cq q t) r = ([], 0)) : ∀ s, f ≤ s → pos b → s + sumM b ≤ t → cutAll (cq q f) (cq q t) (lay q s b ++ r) = (lay q s b, 0) := by
  induction b with
  | nil => intro _ _ _ _; exact hr
  | cons z b ih =>
    intro s hs hp hb
    obtain ⟨⟨h1, h2⟩, h3⟩ := pos_cons hp
    have h4 := sumM_nonneg h3
    rw [sumM_cons] at hb
    rw [lay, List.cons_append, cutAll, cut_in hq hf hft ht hs h1 (by omega), if_neg (fun h => h rfl), ih (s + z.1) (by omega) h3 (by omega), if_neg (fun h => h rfl)]
    rfl
end
theorem cut_lay {q : Int} (hq : okq q) {a b c : List (Int × Pay)} (h : fit (a ++ (b ++ c))) : cutS (lay q 0 (a ++ (b ++ c))) (cq q (sumM a)) (cq q (sumM a + sumM b)) = (lay q 0 b, 0) := by
  have hs := h.2.1
  have pa : pos a := fun z hz => h.1 z (by simp [hz])
  have pb : pos b := fun z hz => h.1 z (by simp [hz])
  have pc : pos c := fun z hz => h.1 z (by simp [hz])
  have na := sumM_nonneg pa; have nb := sumM_nonneg pb; have nc := sumM_nonneg pc
  have hl := h.2.2
  rw [sumM_append, sumM_append] at hs
  rw [List.length_append, List.length_append] at hl
  have fb : fit b := ⟨pb, by omega, by omega⟩
  have i1 := inq_of hq na (show sumM a ≤ 1099511627776 by omega)
  have i2 := inq_of hq (show 0 ≤ sumM a + sumM b by omega) (show sumM a + sumM b ≤ 1099511627776 by omega)
  have i3 := inq_of hq (show 0 ≤ sumM a + (sumM b + sumM c) by omega) hs
  have he := end_lay hq h
  rw [sumM_append, sumM_append] at he
  rw [cutS_good _ _ _ (by rw [he]) (both_of_ok (cq_ok i1).1 (cq_ok i2).1) (by
    unfold rangeB
    rw [he, cq_less i2 i1]
    show (decide (sumM a + sumM b < sumM a) || lessB (cq q (sumM a + (sumM b + sumM c))) (cq q (sumM a + sumM b))) = false
    rw [cq_less i3 i2]
    simp; omega)]
  rw [lay_append, lay_append, cutAll_before hq na (by omega) (by omega) a _ 0 (by omega) pa (by omega), Int.zero_add]
  rw [cutAll_in hq na (by omega) (by omega) b _ (cutAll_after hq na (by omega) (by omega) c (sumM a + sumM b) (by omega) pc (by omega)) (sumM a) (by omega) pb (by omega), if_neg (fun h => h rfl)]
  exact chain0 hq fb (lay_strip q b (sumM a))
/-! ### The kit's sums -/
theorem tS_of {n d : Int} {t : Int × Int} (hn : 0 ≤ n) (hd : 1 ≤ d) (h : mk n d = (t.1, t.2, 0)) : tS n d = t := by
  have hp := gg_pos n d (.inr (by omega))
  rw [mk_of hn hd] at h
  unfold ofq at h
  split at h
  · simp at h
  · unfold tS
    rw [if_neg (by omega)]
    simp only [Prod.mk.injEq, and_true] at h
    exact Prod.ext h.1 h.2
def plusS (a b : Int × Int) : Int × Int := tS (a.1 * b.2 + b.1 * a.2) (a.2 * b.2)
theorem plus_cq {q m n : Int} (hm : inq q m) (hn : inq q n) (h : inq q (m + n)) : plusS (cq q m) (cq q n) = cq q (m + n) := by
  have k1 := (cq_ok hm).1
  have k2 := (cq_ok hn).1
  have ha := cq_add hm hn h
  unfold addS at ha
  rw [both_of_ok k1 k2, if_neg (fun h => h rfl)] at ha
  have h1 : 0 ≤ (cq q m).1 * (cq q n).2 := Int.mul_nonneg k1.1 (by have := k2.2.2.1; omega)
  have h2 : 0 ≤ (cq q n).1 * (cq q m).2 := Int.mul_nonneg k2.1 (by have := k1.2.2.1; omega)
  have h3 : 1 ≤ (cq q m).2 * (cq q n).2 := by have := Int.mul_le_mul k1.2.2.1 k2.2.2.1 (by omega) (by have := k1.2.2.1; omega); omega
  exact tS_of (by omega) h3 ha
end Go.Proofs.Ytiphacmmglohaaa
