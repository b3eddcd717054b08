
/- Plain mathematics: the facts that the laws Order and Turns of layer 29 need of two voices made of numbers. -/
import Derived.Test.YtigfcbofbcpiaaaDoorPaSet
import Derived.Test.YtigfcbofbcpiaaaDoorTurned
import Derived.Test.YtigfcbofbcpiaaaDoorVoices
namespace Go.Proofs.YtigfcbofbcpiaaaDoor
/-! ### Two voices that end together -/
def levZ (La Lb : List (Int × Pay)) : List (Int × Pay) := if sumM La < sumM Lb then La ++ [(sumM Lb - sumM La, restP)] else La
theorem levZ_sum (La Lb : List (Int × Pay)) : sumM (levZ La Lb) = max (sumM La) (sumM Lb) := by
  unfold levZ
  split
  · rw [sumM_append, sumM_cons, sumM_nil]; simp only; omega
  · omega
theorem levZ_fit {La Lb : List (Int × Pay)} (fa : fit La) (hb : sumM Lb ≤ 1099511627776) (hl : La.length < 2000) : fit (levZ La Lb) := by
  unfold levZ
  split
  · rename_i h
    have h0 := sumM_nonneg fa.1
    refine fit_append fa (fit_rest (l := []) ⟨fun z hz => by simp at hz, by rw [sumM_nil]; omega, by simp⟩ (by omega) (by rw [sumM_nil]; omega) (by simp)) ?_ ?_
    · rw [sumM_cons, sumM_nil]; simp only; omega
    · simp only [List.length_cons, List.length_nil]; omega
  · exact fa
theorem lev_lt {La Lb : List (Int × Pay)} (h : sumM La < sumM Lb) : lay 24 0 (levZ La Lb) = lay 24 0 La ++ [⟨cq 24 (sumM La), cq 24 (sumM Lb - sumM La), (0, 0, 0), true, 0, 0⟩] := by
  unfold levZ
  rw [if_pos h, lay_append, Int.zero_add]
  rfl
theorem lev_ge {La Lb : List (Int × Pay)} (h : ¬ sumM La < sumM Lb) : lay 24 0 (levZ La Lb) = lay 24 0 La := by unfold levZ; rw [if_neg h]
theorem lev_len (La Lb : List (Int × Pay)) : (levZ La Lb).length ≤ La.length + 1 := by unfold levZ; split <;> simp
theorem lev_note {La Lb : List (Int × Pay)} {z : Int × Pay} (hz : z ∈ levZ La Lb) (hr : z.2.rest = false) : z ∈ La := by
  unfold levZ at hz
  split at hz
  · rcases List.mem_append.1 hz with h | h
    · exact h
    · rw [List.mem_singleton] at h; subst h; cases hr
  · exact hz
theorem lev_facts {i j : Int} (hi : inq 24 i) (hj : inq 24 j) :
    (0 ≤ (cq 24 i).1 * (cq 24 j).2 ∧ (cq 24 i).1 * (cq 24 j).2 ≤ 1152921504606846976) ∧ (0 ≤ (cq 24 j).1 * (cq 24 i).2 ∧ (cq 24 j).1 * (cq 24 i).2 ≤ 1152921504606846976) ∧
    (1 ≤ (cq 24 i).2 * (cq 24 j).2 ∧ (cq 24 i).2 * (cq 24 j).2 ≤ 1099511627776) ∧
    (0 < (cq 24 i).1 * (cq 24 j).2 - (cq 24 j).1 * (cq 24 i).2 ↔ j < i) ∧ ((cq 24 i).1 * (cq 24 j).2 - (cq 24 j).1 * (cq 24 i).2 < 0 ↔ i < j) ∧
    (j < i → tS ((cq 24 i).1 * (cq 24 j).2 - (cq 24 j).1 * (cq 24 i).2) ((cq 24 i).2 * (cq 24 j).2) = cq 24 (i - j)) ∧
    (i < j → tS (-((cq 24 i).1 * (cq 24 j).2 - (cq 24 j).1 * (cq 24 i).2)) ((cq 24 i).2 * (cq 24 j).2) = cq 24 (j - i)) := by
  have k1 := (cq_ok hi).1
  have k2 := (cq_ok hj).1
  have hc := cq_cross hi hj
  have bd : ∀ {a b : Int × Int}, ok a → ok b → 0 ≤ a.1 * b.2 ∧ a.1 * b.2 ≤ 1152921504606846976 := fun {a b} ha hb => by
    refine ⟨Int.mul_nonneg ha.1 (by have := hb.2.2.1; omega), ?_⟩
    have := Int.mul_le_mul ha.2.1 hb.2.2.2.1 (by have := hb.2.2.1; omega) (by omega)
    omega
  have hD : 1 ≤ (cq 24 i).2 * (cq 24 j).2 := by have := Int.mul_le_mul k1.2.2.1 k2.2.2.1 (by omega) (by have := k1.2.2.1; omega); omega
  have hD' : (cq 24 i).2 * (cq 24 j).2 ≤ 1099511627776 := by have := Int.mul_le_mul k1.2.2.2.1 k2.2.2.2.1 (by have := k2.2.2.1; omega) (by omega); omega
  have pos : 0 < (cq 24 i).1 * (cq 24 j).2 - (cq 24 j).1 * (cq 24 i).2 ↔ j < i := by
    constructor
    · intro h
      rcases Int.lt_or_le j i with h1 | h1
      · exact h1
      · have := Int.mul_nonneg (show 0 ≤ j - i by omega) (show 0 ≤ (cq 24 i).2 * (cq 24 j).2 by omega)
        rw [show j - i = -(i - j) by omega, Int.neg_mul] at this
        omega
    · intro h
      have := Int.mul_pos (show 0 < i - j by omega) (show 0 < (cq 24 i).2 * (cq 24 j).2 by omega)
      omega
  have neg : (cq 24 i).1 * (cq 24 j).2 - (cq 24 j).1 * (cq 24 i).2 < 0 ↔ i < j := by
    constructor
    · intro h
      rcases Int.lt_or_le i j with h1 | h1
      · exact h1
      · have := Int.mul_nonneg (show 0 ≤ i - j by omega) (show 0 ≤ (cq 24 i).2 * (cq 24 j).2 by omega)
        omega
    · intro h
      have := Int.mul_pos (show 0 < j - i by omega) (show 0 < (cq 24 i).2 * (cq 24 j).2 by omega)
      rw [show j - i = -(i - j) by omega, Int.neg_mul] at this
      omega
  refine ⟨bd k1 k2, bd k2 k1, ⟨hD, hD'⟩, pos, neg, fun h => ?_, fun h => ?_⟩
  · have hs := cq_sub hi hj (by omega)
    unfold subS at hs
    rw [both_of_ok k1 k2, if_neg (fun h => h rfl)] at hs
    exact tS_of (by have := pos.2 h; omega) hD hs
  · have hs := cq_sub hj hi (by omega)
    unfold subS at hs
    rw [both_of_ok k2 k1, if_neg (fun h => h rfl)] at hs
    rw [show -((cq 24 i).1 * (cq 24 j).2 - (cq 24 j).1 * (cq 24 i).2) = (cq 24 j).1 * (cq 24 i).2 - (cq 24 i).1 * (cq 24 j).2 by omega, Int.mul_comm (cq 24 i).2]
    refine tS_of (by have := neg.2 h; omega) ?_ hs
    rw [Int.mul_comm]; exact hD
theorem set_two {La Lb : List (Int × Pay)} (fa : fit La) (fb : fit Lb) (ha : sumM La ≤ 100000) (hb : sumM Lb ≤ 100000) : SetQ 100000 [lay 24 0 La, lay 24 0 Lb] where
  pos := by omega
  big := by omega
  len := by simp
  each := by
    intro v hv
    simp only [List.mem_cons, List.not_mem_nil, or_false] at hv
    rcases hv with rfl | rfl
    · exact ⟨lay_q (by omega) _ 0 (by omega) fa.1 (by omega), by rw [checkS_lay okq24 fa]⟩
    · exact ⟨lay_q (by omega) _ 0 (by omega) fb.1 (by omega), by rw [checkS_lay okq24 fb]⟩
theorem pits_lay {L : List (Int × Pay)} (g : Int × Int × Int → Int × Int × Int) (hg : ∀ z ∈ L, z.2.rest = false → pchk (g z.2.pit) = 0) : ∀ x ∈ lay 24 0 L, x.rest = false → pchk (g x.pit) = 0 := by
  intro x hx hr
  obtain ⟨k, hk, rfl⟩ := List.getElem_of_mem hx
  rw [lay_len] at hk
  obtain ⟨z, hz⟩ : ∃ z, L[k]? = some z := ⟨_, List.getElem?_eq_getElem hk⟩
  have he := lay_get 24 L 0 k z hz
  rw [List.getElem?_eq_getElem (by rw [lay_len]; exact hk)] at he
  rw [Option.some.inj he] at hr ⊢
  exact hg z (List.mem_of_getElem? hz) hr
theorem find_okz {M : Int} {a b : List Ev} (h : SetQ M [a, b]) : findE [a, b] = ((findE [a, b]).1, 0) := by rw [find_two h]
/-- What the law Turns needs: levelled voices, backwards, upside down. -/
theorem turn_facts29 {La Lb : List (Int × Pay)} (sa : ∀ z ∈ La, small z) (sb : ∀ z ∈ Lb, small z) (la : La.length ≤ 12) (lb : Lb.length ≤ 12) {k : Int} (hk : 0 ≤ k) (hk' : k < 7) :
    ∃ A B A' B' A2 B2 : List Ev, ∃ F F' F2 : List Par, lay 24 0 (levZ La Lb) = A ∧ lay 24 0 (levZ Lb La) = B ∧
      (A.length ≤ 13 ∧ B.length ≤ 13 ∧ A'.length ≤ 13 ∧ B'.length ≤ 13 ∧ A2.length ≤ 13 ∧ B2.length ≤ 13) ∧
      findE [A, B] = (F, 0) ∧ retroS A = (A', 0) ∧ retroS B = (B', 0) ∧ findE [A', B'] = (F', 0) ∧ cntC 1 F = cntC 1 F' ∧ cntC 3 F = cntC 3 F' ∧
      mirrorS A (k, 4, 0) = (A2, 0) ∧ mirrorS B (k, 4, 0) = (B2, 0) ∧ findE [A2, B2] = (F2, 0) ∧ F2.filter octB = F.filter octB := by
  have fa0 := small_fit sa (by omega)
  have fb0 := small_fit sb (by omega)
  have ta := small_sum _ sa
  have tb := small_sum _ sb
  have fa := levZ_fit fa0 fb0.2.1 (by omega) (Lb := Lb)
  have fb := levZ_fit fb0 fa0.2.1 (by omega) (Lb := La)
  have hs : sumM (levZ La Lb) = sumM (levZ Lb La) := by rw [levZ_sum, levZ_sum, Int.max_comm]
  have hsa : sumM (levZ La Lb) ≤ 100000 := by rw [levZ_sum]; omega
  have ll := lev_len La Lb
  have ll' := lev_len Lb La
  have na : ∀ z ∈ levZ La Lb, z.2.rest = false → small z := fun z hz hr => sa z (lev_note hz hr)
  have nb : ∀ z ∈ levZ Lb La, z.2.rest = false → small z := fun z hz hr => sb z (lev_note hz hr)
  generalize levZ La Lb = X at *
  generalize levZ Lb La = Y at *
  obtain ⟨a1, a2⟩ := ax_ok hk hk'
  have h := set_two fa fb hsa (by omega)
  have h' := set_two (fit_reverse fa) (fit_reverse fb) (by rw [sumM_reverse]; exact hsa) (by rw [sumM_reverse]; omega)
  have mir : ∀ {L : List (Int × Pay)}, (∀ z ∈ L, z.2.rest = false → small z) → (∀ z ∈ L, z.2.rest = false → mirrorP z.2.pit (k, 4, 0) = (mirG (k, 4, 0) z.2.pit, 0)) ∧ (∀ z ∈ L, z.2.rest = false → pchk (mirG (k, 4, 0) z.2.pit) = 0) ∧ (∀ z ∈ L, z.2.rest = false → pchk z.2.pit = 0) := fun {L} hL => by
    refine ⟨fun z hz hr => ?_, fun z hz hr => ?_, fun z hz hr => ?_⟩
    · obtain ⟨g1, g2, g3⟩ := good_pit (hL z hz hr) hr
      exact mirror_g g1 a1 (by omega) (by omega)
    · obtain ⟨g1, g2, g3⟩ := good_pit (hL z hz hr) hr
      have := pchk_bd g1
      unfold mirG
      rw [a2]
      exact pchk_gP (by omega) (by omega) (by omega) (by omega)
    · exact (good_pit (hL z hz hr) hr).1
  obtain ⟨ma, ga, pa⟩ := mir na
  obtain ⟨mb, gb, pb⟩ := mir nb
  have ca : (checkS ((lay 24 0 X).map (evOn (mirG (k, 4, 0))))).1 = 0 := by rw [← lay_onZ, checkS_lay okq24 (onZ_fit fa ga)]
  have cb : (checkS ((lay 24 0 Y).map (evOn (mirG (k, 4, 0))))).1 = 0 := by rw [← lay_onZ, checkS_lay okq24 (onZ_fit fb gb)]
  have fm := find_mir h (pits_lay (fun p => p) pa) (pits_lay (fun p => p) pb) (pits_lay _ ga) (pits_lay _ gb) ca cb
  refine ⟨lay 24 0 X, lay 24 0 Y, lay 24 0 X.reverse, lay 24 0 Y.reverse, lay 24 0 (onZ (mirG (k, 4, 0)) X), lay 24 0 (onZ (mirG (k, 4, 0)) Y), (findE [lay 24 0 X, lay 24 0 Y]).1, (findE [lay 24 0 X.reverse, lay 24 0 Y.reverse]).1, (findE [lay 24 0 (onZ (mirG (k, 4, 0)) X), lay 24 0 (onZ (mirG (k, 4, 0)) Y)]).1, rfl, rfl, ?_, find_okz h, retro_lay okq24 fa, retro_lay okq24 fb, find_okz h', find_back h h' fa fb hs (.inl rfl), find_back h h' fa fb hs (.inr rfl), mirror_lay okq24 fa a1 ma, mirror_lay okq24 fb a1 mb, ?_, ?_⟩
  · simp only [lay_len, List.length_reverse, len_onZ]
    omega
  · rw [lay_onZ, lay_onZ]
    exact Prod.ext rfl fm.2
  · rw [lay_onZ, lay_onZ]
    exact fm.1
theorem end_of_lay {L : List (Int × Pay)} (hf : fit L) : endV (lay 24 0 L) = cq 24 (sumM L) := by
  have h1 := endS_val (v := lay 24 0 L) (by rw [checkS_lay okq24 hf])
  rw [end_lay okq24 hf] at h1
  simp only [Prod.mk.injEq] at h1
  exact Prod.ext h1.1.symm h1.2.1.symm
/-- What the law Order needs. -/
theorem order_facts29 {La Lb : List (Int × Pay)} (sa : ∀ z ∈ La, small z) (sb : ∀ z ∈ Lb, small z) (la : La.length ≤ 12) (lb : Lb.length ≤ 12) :
    ∃ A B U O : List Ev, ∃ F F' : List Par, ∃ ea eb en : Tm, lay 24 0 La = A ∧ lay 24 0 Lb = B ∧ (A.length ≤ 12 ∧ B.length ≤ 12 ∧ U.length ≤ 12 ∧ O.length ≤ 12) ∧
      findE [A, B] = (F, 0) ∧ findE [B, A] = (F', 0) ∧ pairE [A, B] 1 0 = (F, 0) ∧ cntC 1 F = cntC 1 F' ∧ cntC 2 F = cntC 2 F' ∧ cntC 3 F = cntC 3 F' ∧
      moveS A 7 = (U, 0) ∧ moveS B 7 = (O, 0) ∧ findE [U, O] = (F, 0) ∧
      endK A = ea ∧ endK B = eb ∧ ok ea ∧ ok eb ∧ (if ea.1 * eb.2 < eb.1 * ea.2 then eb else ea) = en ∧ (en.1 = 0 → F = []) ∧ (en.1 ≠ 0 → findE [A, B, [restV en]] = (F, 0)) ∧
      (∀ x, A.getLast? = some x → ok x.at_ ∧ ok x.dur) ∧ (∀ x, B.getLast? = some x → ok x.at_ ∧ ok x.dur) := by
  have fa := small_fit sa (by omega)
  have fb := small_fit sb (by omega)
  have ta := small_sum _ sa
  have tb := small_sum _ sb
  have h := set_two fa fb (by omega) (by omega)
  have ma := move_small sa (by omega) (s := 7) (by omega) (by omega)
  have mb := move_small sb (by omega) (s := 7) (by omega) (by omega)
  have pm : ∀ {L : List (Int × Pay)}, (∀ z ∈ L, small z) → (∀ z ∈ L, z.2.rest = false → pchk (movG 7 z.2.pit) = 0) ∧ (∀ z ∈ L, z.2.rest = false → pchk z.2.pit = 0) := fun {L} hL => by
    refine ⟨fun z hz hr => ?_, fun z hz hr => (good_pit (hL z hz) hr).1⟩
    obtain ⟨g1, g2, g3⟩ := good_pit (hL z hz) hr
    have := pchk_bd g1
    unfold movG
    exact pchk_gP (by omega) (by omega) (by omega) (by omega)
  obtain ⟨ga, pa⟩ := pm sa
  obtain ⟨gb, pb⟩ := pm sb
  have ca : (checkS ((lay 24 0 La).map (evOn (movG 7)))).1 = 0 := by rw [← lay_onZ, checkS_lay okq24 (onZ_fit fa ga)]
  have cb : (checkS ((lay 24 0 Lb).map (evOn (movG 7)))).1 = 0 := by rw [← lay_onZ, checkS_lay okq24 (onZ_fit fb gb)]
  have fm := find_mov h (pits_lay (fun p => p) pa) (pits_lay (fun p => p) pb) ca cb
  obtain ⟨e1, k1⟩ := endK_lay okq24 fa
  obtain ⟨e2, k2⟩ := endK_lay okq24 fb
  have i1 := inq_of okq24 (sumM_nonneg fa.1) (show sumM La ≤ 1099511627776 by omega)
  have i2 := inq_of okq24 (sumM_nonneg fb.1) (show sumM Lb ≤ 1099511627776 by omega)
  have et := end_two h
  rw [end_of_lay fa, end_of_lay fb] at et
  refine ⟨lay 24 0 La, lay 24 0 Lb, lay 24 0 (onZ (movG 7) La), lay 24 0 (onZ (movG 7) Lb), (findE [lay 24 0 La, lay 24 0 Lb]).1, (findE [lay 24 0 Lb, lay 24 0 La]).1, cq 24 (sumM La), cq 24 (sumM Lb), endT (momS [lay 24 0 La, lay 24 0 Lb]), rfl, rfl, ?_, find_okz h, find_okz (swap_set h), pair_two h, find_swap h 1, find_swap h 2, find_swap h 3, ma.1, mb.1, ?_, e1, e2, (cq_ok i1).1, (cq_ok i2).1, ?_, end_zero h, ?_, k1, k2⟩
  · simp only [lay_len, len_onZ]
    omega
  · rw [lay_onZ, lay_onZ, fm]
    exact find_okz h
  · rw [← et]; rfl
  · intro hne
    rw [find_rest h (end_pos hne)]
    exact find_okz h
end Go.Proofs.YtigfcbofbcpiaaaDoor
