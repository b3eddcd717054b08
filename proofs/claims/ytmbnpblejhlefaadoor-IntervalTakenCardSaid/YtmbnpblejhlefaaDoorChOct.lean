/- IntervalOctaves: the order of two pitches does not matter, nor does an octave more between them: plain mathematics. -/
import Derived.Test.YtmbnpblejhlefaaDoorChMadeP
import Derived.Test.YtmbnpblejhlefaaDoorChKnown
namespace Go.Proofs.YtmbnpblejhlefaaDoor
/-- The second pitch is the lower one, as the statement tests it. -/
def swB (p q : Int × Int × Int) : Prop := q.2.1 * 7 + q.1 < p.2.1 * 7 + p.1 ∨ (q.2.1 = p.2.1 ∧ q.1 = p.1 ∧ q.2.2 < p.2.2)
def upP (q : Int × Int × Int) : Int × Int × Int := (q.1, q.2.1 + 1, q.2.2)
theorem pchk_mk {p : Int × Int × Int} (h : 0 ≤ p.1 ∧ p.1 ≤ 6 ∧ 0 ≤ p.2.1 ∧ p.2.1 ≤ 8 ∧ -1 ≤ p.2.2 ∧ p.2.2 ≤ 1) : pchk p = 0 := by unfold pchk; rw [if_neg (by omega)]
theorem bothP_mk {p q : Int × Int × Int} (h : pchk p = 0) (h' : pchk q = 0) : bothP p q = 0 := by unfold bothP; rw [h, if_neg (fun h => h rfl), h']
/-- The interval of two pitches, the first one not above the second one. -/
theorem up_low {p q : Int × Int × Int} (h : ¬ lowB p q) : upI p q = btw p q := by unfold upI loP hiP; rw [if_neg h, if_neg h]
theorem up_high {p q : Int × Int × Int} (h : lowB q p) : upI q p = btw p q := by unfold upI loP hiP; rw [if_pos h, if_pos h]
/-- Number and height of a valid pitch tell it. -/
theorem same_pitch {p q : Int × Int × Int} (h : pchk p = 0) (h' : pchk q = 0) (hn : numP p = numP q) (hh : htP p = htP q) : p = q := by
  have a := pchk_ok h; have b := pchk_ok h'
  obtain ⟨p0, p1, p2⟩ := p
  obtain ⟨q0, q1, q2⟩ := q
  unfold numP at hn
  unfold htP at hh
  simp only at a b hn hh
  obtain rfl : p1 = q1 := by omega
  obtain rfl : p0 = q0 := by omega
  obtain rfl : p2 = q2 := by omega
  rfl
theorem upI_comm {p q : Int × Int × Int} (h : pchk p = 0) (h' : pchk q = 0) : upI p q = upI q p := by
  by_cases h1 : lowB p q
  · have h2 : ¬ lowB q p := by unfold lowB at h1 ⊢; omega
    rw [up_high h1, up_low h2]
  · by_cases h2 : lowB q p
    · rw [up_low h1, up_high h2]
    · have := same_pitch h h' (by unfold lowB at h1 h2; omega) (by unfold lowB at h1 h2; omega)
      rw [this]
theorem sim_up (x : Int × Int) : simI (x.1 + 7, x.2 + 12) = simI x := by
  unfold simI
  simp only
  congr 1 <;> omega
theorem oct_law {p q : Int × Int × Int} (hp : pchk p = 0) (hq : pchk q = 0) (hu : pchk (upP q) = 0) (h : ¬ swB p q) :
    ∃ (x : Int × Int) (k : Int), simE p q = (x, 0) ∧ simE q p = (x, 0) ∧ simE p (upP q) = (x, 0) ∧ kindE p q = (k, 0) ∧ kindE (upP q) p = (k, 0) ∧ 0 ≤ x.1 ∧ x.1 < 7 := by
  have b1 := bothP_mk hp hq; have b2 := bothP_mk hq hp; have b3 := bothP_mk hp hu; have b4 := bothP_mk hu hp
  have hl : ¬ lowB p q := by
    have a := pchk_ok hp; have b := pchk_ok hq
    unfold swB at h
    unfold lowB numP htP
    intro h0
    have : q.2.1 = p.2.1 ∧ q.1 = p.1 := by omega
    rw [this.1, this.2] at h0 h
    omega
  have hn : numP (upP q) = numP q + 7 := by unfold numP upP; simp only; omega
  have hh : htP (upP q) = htP q + 12 := by unfold htP upP; simp only; omega
  have hl2 : ¬ lowB p (upP q) := by
    have a := numP_bd hp; have b := numP_bd hq
    unfold lowB at hl ⊢
    rw [hn, hh]
    omega
  have e1 : upI p (upP q) = ((upI p q).1 + 7, (upI p q).2 + 12) := by
    rw [up_low hl, up_low hl2]; unfold btw; rw [hn, hh]; congr 1 <;> simp only <;> omega
  have bd := upI_bd hp hq
  refine ⟨simI (upI p q), kindX (simI (upI p q)), ?_, ?_, ?_, ?_, ?_, ?_⟩
  · unfold simE; rw [b1, if_neg (fun h => h rfl)]
  · unfold simE; rw [b2, if_neg (fun h => h rfl), upI_comm hq hp]
  · unfold simE; rw [b3, if_neg (fun h => h rfl), e1, sim_up]
  · unfold kindE kindP; rw [b1, if_neg (fun h => h rfl)]
  · unfold kindE kindP; rw [b4, if_neg (fun h => h rfl), upI_comm hu hp, e1, sim_up]
  · unfold simI; simp only; omega
end Go.Proofs.YtmbnpblejhlefaaDoor
