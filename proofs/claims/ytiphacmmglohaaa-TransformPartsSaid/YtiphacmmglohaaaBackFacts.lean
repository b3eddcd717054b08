/- Plain mathematics: what the statements Back, Order and Parts of layer 25 say of voices made of numbers. -/
import Derived.Test.YtiphacmmglohaaaVoiceMath2
namespace Go.Proofs.Ytiphacmmglohaaa
theorem z_small (most : Nat) (l : List Int) : ∀ z ∈ voiceZ 0 (l.take most), small z := voice_small _ 0 (by omega)
theorem z_len (most : Nat) (l : List Int) : (voiceZ 0 (l.take most)).length ≤ most := by rw [voice_len, List.length_take]; omega
theorem voice_le (most : Nat) (l : List Int) : (voiceS most l).length ≤ most := by unfold voiceS; rw [lay_len]; exact z_len most l
theorem ax_ok {k : Int} (h : 0 ≤ k) (h' : k < 7) : pchk (k, 4, 0) = 0 ∧ numP (k, 4, 0) = 28 + k := by
  constructor
  · unfold pchk; rw [if_neg (by simp only; omega)]
  · unfold numP; simp only; omega
theorem len_onZ (g : Int × Int × Int → Int × Int × Int) (l : List (Int × Pay)) : (onZ g l).length = l.length := by unfold onZ; rw [List.length_map]
theorem len_times (k : Int) (l : List (Int × Pay)) : (times k l).length = l.length := by unfold times; rw [List.length_map]
theorem good_pit {z : Int × Pay} (h : small z) (hr : z.2.rest = false) : pchk z.2.pit = 0 ∧ 21 ≤ numP z.2.pit ∧ numP z.2.pit ≤ 41 := ⟨h.2.2.1.2.1 hr, h.2.2.2 hr⟩
theorem onZ_all {g : Int × Int × Int → Int × Int × Int} {l : List (Int × Pay)} {p : Int × Int × Int → Prop} (h : ∀ z ∈ l, z.2.rest = false → p (g z.2.pit)) : ∀ z ∈ onZ g l, z.2.rest = false → p z.2.pit := by
  intro z hz hr
  obtain ⟨y, hy, rfl⟩ := onZ_mem hz
  simp only at hr ⊢
  unfold onPay at hr ⊢
  by_cases h1 : y.2.rest = true
  · rw [if_pos h1] at hr; rw [h1] at hr; cases hr
  · rw [if_neg h1]; exact h y hy (by simpa using h1)
section
variable {l : List (Int × Pay)} (hs : ∀ z ∈ l, small z) (hl : l.length ≤ 60)
include hs hl
theorem sfit : fit l := small_fit hs (by omega)
theorem mirror_small {k : Int} (h : 0 ≤ k) (h' : k < 7) : mirrorS (lay 24 0 l) (k, 4, 0) = (lay 24 0 (onZ (mirG (k, 4, 0)) l), 0) ∧ mirrorS (lay 24 0 (onZ (mirG (k, 4, 0)) l)) (k, 4, 0) = (lay 24 0 l, 0) := by
  obtain ⟨a1, a2⟩ := ax_ok h h'
  have hf := sfit hs hl
  have hg : ∀ z ∈ l, z.2.rest = false → mirrorP z.2.pit (k, 4, 0) = (mirG (k, 4, 0) z.2.pit, 0) := fun z hz hr => by
    obtain ⟨g1, g2, g3⟩ := good_pit (hs z hz) hr
    exact mirror_g g1 a1 (by omega) (by omega)
  have hp : ∀ z ∈ l, z.2.rest = false → pchk (mirG (k, 4, 0) z.2.pit) = 0 ∧ numP (mirG (k, 4, 0) z.2.pit) = 2 * (28 + k) - numP z.2.pit := fun z hz hr => by
    obtain ⟨g1, g2, g3⟩ := good_pit (hs z hz) hr
    have := pchk_bd g1
    unfold mirG
    rw [a2]
    exact ⟨pchk_gP (by omega) (by omega) (by omega) (by omega), numP_gP _ _⟩
  refine ⟨mirror_lay okq24 hf a1 hg, ?_⟩
  have h2 := mirror_lay okq24 (onZ_fit hf fun z hz hr => (hp z hz hr).1) (ax := (k, 4, 0)) a1 (g := mirG (k, 4, 0)) (onZ_all (p := fun p => mirrorP p (k, 4, 0) = (mirG (k, 4, 0) p, 0)) fun z hz hr => by
    obtain ⟨g1, g2, g3⟩ := good_pit (hs z hz) hr
    obtain ⟨p1, p2⟩ := hp z hz hr
    exact mirror_g p1 a1 (by rw [p2]; omega) (by rw [p2]; omega))
  rw [h2, onZ_comp, onZ_id fun z hz hr => mir_mir (good_pit (hs z hz) hr).1]
theorem move_small {s : Int} (h : -20 ≤ s) (h' : s ≤ 20) : moveS (lay 24 0 l) s = (lay 24 0 (onZ (movG s) l), 0) ∧ moveS (lay 24 0 (onZ (movG s) l)) (-s) = (lay 24 0 l, 0) := by
  have hf := sfit hs hl
  have hg : ∀ z ∈ l, z.2.rest = false → moveP z.2.pit s = (movG s z.2.pit, 0) := fun z hz hr => by
    obtain ⟨g1, g2, g3⟩ := good_pit (hs z hz) hr
    exact move_g g1 (by omega) (by omega) (by omega) (by omega)
  have hp : ∀ z ∈ l, z.2.rest = false → pchk (movG s z.2.pit) = 0 ∧ numP (movG s z.2.pit) = numP z.2.pit + s := fun z hz hr => by
    obtain ⟨g1, g2, g3⟩ := good_pit (hs z hz) hr
    have := pchk_bd g1
    unfold movG
    exact ⟨pchk_gP (by omega) (by omega) (by omega) (by omega), numP_gP _ _⟩
  refine ⟨move_lay okq24 hf hg, ?_⟩
  have h2 := move_lay okq24 (onZ_fit hf fun z hz hr => (hp z hz hr).1) (st := -s) (g := movG (-s)) (onZ_all (p := fun p => moveP p (-s) = (movG (-s) p, 0)) fun z hz hr => by
    obtain ⟨g1, g2, g3⟩ := good_pit (hs z hz) hr
    obtain ⟨p1, p2⟩ := hp z hz hr
    exact move_g p1 (by omega) (by omega) (by rw [p2]; omega) (by rw [p2]; omega))
  rw [h2, onZ_comp, onZ_id fun z hz hr => mov_mov s (good_pit (hs z hz) hr).1]
theorem sum_small : 0 ≤ sumM l ∧ sumM l ≤ 8640 := by
  have := small_sum l hs
  exact ⟨sumM_nonneg (sfit hs hl).1, by omega⟩
theorem stretch_small (n : Int) : stretchS (lay 24 0 l) (spS n) = (lay (24 * (spS n).2) 0 (times (spS n).1 l), 0) ∧ stretchS (lay (24 * (spS n).2) 0 (times (spS n).1 l)) ((spS n).2, (spS n).1) = (lay 24 0 l, 0) := by
  obtain ⟨k1, k2, k3, k4⟩ := spS_ok n
  have hf := sfit hs hl
  obtain ⟨s0, s1⟩ := sum_small hs hl
  generalize spS n = b at *
  obtain ⟨N, D⟩ := b
  have hD := k1.2.2.1
  simp only at k2 k3 k4 hD ⊢
  have hq2 : okq (24 * D) := ⟨by omega, by omega⟩
  have hb := mul_bd s0 (show 0 ≤ N by omega) s1 k3
  have hz : ∀ z ∈ l, inq 24 z.1 ∧ inq (24 * D) (z.1 * N) ∧ 0 < z.1 := fun z hz => by
    have h1 := (hs z hz).1; have h2 := (hs z hz).2.1
    have := mul_bd (show 0 ≤ z.1 by omega) (show 0 ≤ N by omega) h2 k3
    exact ⟨inq_of okq24 (by omega) (by omega), inq_of hq2 (by omega) (by omega), by omega⟩
  have h1 := stretch_lay okq24 hq2 hf (k := N) k2 (by omega) (by_ := (N, D)) k1 (by simp only; omega) (fun z hz' => mul_cq (hz z hz').1 (hz z hz').2.1 k1)
  refine ⟨h1, ?_⟩
  have k1' : ok (D, N) := ⟨by simp only; omega, by simp only; omega, by simp only; omega, by simp only; omega, by simp only; rw [gg_comm]; exact k1.2.2.2.2⟩
  have hDN := mul_bd (show 0 ≤ 24 * D by omega) (show 0 ≤ N by omega) (show 24 * D ≤ 192 by omega) k3
  have hDN1 : 1 ≤ 24 * D * N := by have := Int.mul_le_mul (show 1 ≤ 24 * D by omega) k2 (by omega) (by omega); omega
  have hq3 : okq (24 * D * N) := ⟨hDN1, by omega⟩
  have hb2 := mul_bd hb.1 (show 0 ≤ D by omega) hb.2 k4
  have h2 := stretch_lay hq2 hq3 (times_fit k2 hf (by omega)) (k := D) hD (by rw [times_sum]; omega) (by_ := (D, N)) k1' (by simp only; omega) (fun z hz' => by
    obtain ⟨y, hy, rfl⟩ := List.mem_map.1 hz'
    have e1 := (hz y hy).2.1
    have e2 := mul_bd e1.2.2.1 (show 0 ≤ D by omega) (show y.1 * N ≤ 144 * 24 from (mul_bd (by have := (hz y hy).2.2; omega) (by omega) (hs y hy).2.1 k3).2) k4
    have e3 := e2.2
    have e4 : y.1 * N * D ≤ 1099511627776 := by omega
    exact mul_cq e1 (inq_of hq3 e2.1 e4) k1')
  rw [h2, times_times]
  have hND : 1 ≤ N * D := by have := Int.mul_le_mul k2 hD (by omega) (by omega); omega
  have h3 := lay_scale okq24 hND l 0 (by omega) hf.1 (by omega)
  rw [Int.zero_mul] at h3
  rw [show 24 * D * N = 24 * (N * D) by rw [Int.mul_assoc, Int.mul_comm D N], h3]
end
/-- What TransformBack meets. -/
theorem back_facts25 (l : List Int) (k s n : Int) (hk : 0 ≤ k) (hk' : k < 7) (hs : -20 ≤ s) (hs' : s ≤ 20) : ∃ R M W S : List Ev, R.length ≤ 20 ∧ M.length ≤ 20 ∧ W.length ≤ 20 ∧ S.length ≤ 20 ∧
    retroS (voiceS 20 l) = (R, 0) ∧ retroS R = (voiceS 20 l, 0) ∧ mirrorS (voiceS 20 l) (k, 4, 0) = (M, 0) ∧ mirrorS M (k, 4, 0) = (voiceS 20 l, 0) ∧ moveS (voiceS 20 l) s = (W, 0) ∧ moveS W (-s) = (voiceS 20 l, 0) ∧
    stretchS (voiceS 20 l) (spS n) = (S, 0) ∧ stretchS S ((spS n).2, (spS n).1) = (voiceS 20 l, 0) := by
  have z1 := z_small 20 l
  have z2 := z_len 20 l
  have hf := sfit z1 (by omega)
  obtain ⟨m1, m2⟩ := mirror_small z1 (by omega) hk hk'
  obtain ⟨v1, v2⟩ := move_small z1 (by omega) hs hs'
  obtain ⟨t1, t2⟩ := stretch_small z1 (by omega) n
  have r1 := retro_lay okq24 hf
  have r2 := retro_lay okq24 (fit_reverse hf)
  rw [List.reverse_reverse] at r2
  exact ⟨_, _, _, _, by rw [lay_len, List.length_reverse]; exact z2, by rw [lay_len, len_onZ]; exact z2, by rw [lay_len, len_onZ]; exact z2, by rw [lay_len, len_times]; exact z2, r1, r2, m1, m2, v1, v2, t1, t2⟩
/-- What TransformOrder meets. -/
theorem order_facts25 (l : List Int) (k s n : Int) (hk : 0 ≤ k) (hk' : k < 7) (hs : -10 ≤ s) (hs' : s ≤ 10) : ∃ R S RS W RW MW M : List Ev, R.length ≤ 20 ∧ S.length ≤ 20 ∧ RS.length ≤ 20 ∧ W.length ≤ 20 ∧ RW.length ≤ 20 ∧ MW.length ≤ 20 ∧ M.length ≤ 20 ∧
    retroS (voiceS 20 l) = (R, 0) ∧ stretchS R (spS n) = (RS, 0) ∧ stretchS (voiceS 20 l) (spS n) = (S, 0) ∧ retroS S = (RS, 0) ∧
    moveS R s = (RW, 0) ∧ moveS (voiceS 20 l) s = (W, 0) ∧ retroS W = (RW, 0) ∧ mirrorS W (k, 4, 0) = (MW, 0) ∧ mirrorS (voiceS 20 l) (k, 4, 0) = (M, 0) ∧ moveS M (-s) = (MW, 0) := by
  have z1 := z_small 20 l
  have z2 := z_len 20 l
  have z1r : ∀ z ∈ (voiceZ 0 (l.take 20)).reverse, small z := fun z hz => z1 z (by simpa using hz)
  have z2r : (voiceZ 0 (l.take 20)).reverse.length ≤ 20 := by rw [List.length_reverse]; exact z2
  have hf := sfit z1 (by omega)
  obtain ⟨a1, a2⟩ := ax_ok hk hk'
  obtain ⟨m1, _⟩ := mirror_small z1 (by omega) hk hk'
  obtain ⟨v1, _⟩ := move_small z1 (by omega) (show -20 ≤ s by omega) (by omega)
  obtain ⟨v1r, _⟩ := move_small z1r (by omega) (show -20 ≤ s by omega) (by omega)
  obtain ⟨t1, _⟩ := stretch_small z1 (by omega) n
  obtain ⟨t1r, _⟩ := stretch_small z1r (by omega) n
  have r1 := retro_lay okq24 hf
  -- the stretched voice, backwards
  obtain ⟨k1, k2, k3, k4⟩ := spS_ok n
  obtain ⟨s0, s1⟩ := sum_small z1 (by omega)
  have hD := k1.2.2.1
  have hq2 : okq (24 * (spS n).2) := ⟨by omega, by omega⟩
  have hb := mul_bd s0 (show 0 ≤ (spS n).1 by omega) s1 k3
  have r2 := retro_lay hq2 (times_fit k2 hf (by omega))
  rw [← times_reverse] at r2
  -- the moved voice, backwards and upside down
  have hpm : ∀ z ∈ voiceZ 0 (l.take 20), z.2.rest = false → pchk (movG s z.2.pit) = 0 ∧ numP (movG s z.2.pit) = numP z.2.pit + s := fun z hz hr => by
    obtain ⟨g1, g2, g3⟩ := good_pit (z1 z hz) hr
    have := pchk_bd g1
    unfold movG
    exact ⟨pchk_gP (by omega) (by omega) (by omega) (by omega), numP_gP _ _⟩
  have fm := onZ_fit hf (g := movG s) fun z hz hr => (hpm z hz hr).1
  have r3 := retro_lay okq24 fm
  rw [← onZ_reverse] at r3
  have e1 := mirror_lay okq24 fm (ax := (k, 4, 0)) a1 (g := mirG (k, 4, 0)) (onZ_all (p := fun p => mirrorP p (k, 4, 0) = (mirG (k, 4, 0) p, 0)) fun z hz hr => by
    obtain ⟨g1, g2, g3⟩ := good_pit (z1 z hz) hr
    obtain ⟨p1, p2⟩ := hpm z hz hr
    exact mirror_g p1 a1 (by rw [p2, a2]; omega) (by rw [p2, a2]; omega))
  have hpi : ∀ z ∈ voiceZ 0 (l.take 20), z.2.rest = false → pchk (mirG (k, 4, 0) z.2.pit) = 0 ∧ numP (mirG (k, 4, 0) z.2.pit) = 2 * (28 + k) - numP z.2.pit := fun z hz hr => by
    obtain ⟨g1, g2, g3⟩ := good_pit (z1 z hz) hr
    have := pchk_bd g1
    unfold mirG
    rw [a2]
    exact ⟨pchk_gP (by omega) (by omega) (by omega) (by omega), numP_gP _ _⟩
  have e2 := move_lay okq24 (onZ_fit hf (g := mirG (k, 4, 0)) fun z hz hr => (hpi z hz hr).1) (st := -s) (g := movG (-s)) (onZ_all (p := fun p => moveP p (-s) = (movG (-s) p, 0)) fun z hz hr => by
    obtain ⟨g1, g2, g3⟩ := good_pit (z1 z hz) hr
    obtain ⟨p1, p2⟩ := hpi z hz hr
    exact move_g p1 (by omega) (by omega) (by rw [p2]; omega) (by rw [p2]; omega))
  rw [onZ_comp] at e1 e2
  have e3 : (fun p => mirG (k, 4, 0) (movG s p)) = fun p => movG (-s) (mirG (k, 4, 0) p) := funext fun p => mir_mov (k, 4, 0) s p
  rw [e3] at e1
  refine ⟨_, _, _, _, _, _, _, ?_, ?_, ?_, ?_, ?_, ?_, ?_, r1, t1r, t1, r2, v1r, v1, r3, e1, m1, e2⟩ <;> (rw [lay_len]; first | exact z2 | exact z2r | (rw [len_onZ]; first | exact z2 | exact z2r) | (rw [len_times]; first | exact z2 | exact z2r))
end Go.Proofs.Ytiphacmmglohaaa
