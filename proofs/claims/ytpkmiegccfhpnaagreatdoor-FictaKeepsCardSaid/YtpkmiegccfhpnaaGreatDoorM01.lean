/- Further parts of the proofs of layer 31: Plain, Voices, Opened, CaMath, FiAllM. -/
import Derived.Test.YtpkmiegccfhpnaaGreatDoorK01
import Derived.Test.YtpkmiegccfhpnaaGreatDoorK02
import Derived.Test.YtpkmiegccfhpnaaGreatDoorK03
import Derived.Test.YtpkmiegccfhpnaaGreatDoorK04
import Derived.Test.YtpkmiegccfhpnaaGreatDoorK05
import Derived.Test.YtpkmiegccfhpnaaGreatDoorK06
import Derived.Test.YtpkmiegccfhpnaaGreatDoorK07
import Derived.Test.YtpkmiegccfhpnaaGreatDoorK08
import Derived.Test.YtpkmiegccfhpnaaGreatDoorK09
import Derived.Test.YtpkmiegccfhpnaaGreatDoorK10
import Derived.Test.YtpkmiegccfhpnaaGreatDoorK11
import Derived.Test.YtpkmiegccfhpnaaGreatDoorK12
import Derived.Test.YtpkmiegccfhpnaaGreatDoorK13
import Derived.Test.YtpkmiegccfhpnaaGreatDoorK14
import Derived.Test.YtpkmiegccfhpnaaGreatDoorK15
import Derived.Test.YtpkmiegccfhpnaaGreatDoorK16
import Derived.Test.YtpkmiegccfhpnaaGreatDoorK17
import Derived.Test.YtpkmiegccfhpnaaGreatDoorK18
import Derived.Test.YtpkmiegccfhpnaaGreatDoorK19
import Derived.Test.YtpkmiegccfhpnaaGreatDoorK20
import Derived.Test.YtpkmiegccfhpnaaGreatDoorK21
import Derived.Test.YtpkmiegccfhpnaaGreatDoorK22
import Derived.Test.YtpkmiegccfhpnaaGreatDoorK23
import Derived.Test.YtpkmiegccfhpnaaGreatDoorProg
import Derived.WalkKit
import Derived.WalkSpells
import Derived.WalkLawsBesides
import Derived.Deep.QuietTactic
import Derived.BigQuiet
import Derived.BigGuardPart
import Derived.Lib.Hide
import Derived.RegionTactic
import Derived.ChangeAlike
import Derived.Laws.OwnMore
import Derived.Deep.AppendLies
import Derived.Deep.Draws
import Derived.Deep.RegionHeld3
import Derived.Maps.AppendAt
import Derived.OwnWalk
import Derived.StillTail
import Derived.BigRegion
import Derived.ArgAppend
import Derived.ProofKit
import Derived.OpenShut
import Derived.Deep.Slices
import Derived.Deep.Fields
import Derived.ChangeSame
import Derived.ChangeArms
import Derived.Test.YtpkmiegccfhpnaaGreatDoorRows
import Derived.Stop.Joined
import Derived.ChangeOld
import Derived.Below
import Derived.Lib.SmallJoins
import Derived.IntWalk
import Derived.Deep.LoopGhost
import Derived.Maps.OwnOps
import Derived.Maps.OwnSet
import Derived.Maps.Views
import Derived.Maps.RangeWalk
import Derived.WideKeyPair
import Derived.DeepKeys4
import Derived.LaidMore
import Derived.Carry
import Derived.RangeFuncOwn
import Derived.Deep.RegionLaw
import Derived.RangeFuncNested
import Derived.RangeFuncBound
import Derived.RangeFuncCalls
import Derived.RangeFuncLeaves
import Derived.OwnWalkIn
import Derived.TacticsInMore
import Derived.LoopNIn
import Derived.LoopIn
/- Plain mathematics of times (layer span): greatest common divisors, validity, quotients, sums, products; no program in sight. -/
namespace Go.Proofs.YtpkmiegccfhpnaaGreatDoor

/-! ### The functions of the layer, as both the program and the reference compute them -/
/-! ### Facts -/
/-! ### The product: the program's way and the reference's -/
end Go.Proofs.YtpkmiegccfhpnaaGreatDoor

/- Plain mathematics of times: canonical fractions are equal where their values are; sums, differences, products and quotients by their values; times that are whole multiples of 1/24. -/
namespace Go.Proofs.YtpkmiegccfhpnaaGreatDoor

theorem sub_val {a b t : Int × Int} (ha : ok a) (hb : ok b) (ht : ok t) (e : t.1 * (a.2 * b.2) = (a.1 * b.2 - b.1 * a.2) * t.2) : subS a b = (t.1, t.2, 0) := by
  unfold subS
  rw [both_of_ok ha hb, if_neg (fun h => h rfl)]
  have h3 : 1 ≤ a.2 * b.2 := by have := Int.mul_le_mul ha.2.2.1 hb.2.2.1 (by omega) (by have := ha.2.2.1; omega); omega
  have h4 : 0 ≤ t.1 * (a.2 * b.2) := Int.mul_nonneg ht.1 (by omega)
  rw [e] at h4
  have h5 : 0 ≤ a.1 * b.2 - b.1 * a.2 := by
    rcases Int.lt_or_le (a.1 * b.2 - b.1 * a.2) 0 with h | h
    · have := Int.mul_neg_of_neg_of_pos h (show 0 < t.2 by have := ht.2.2.1; omega)
      omega
    · exact h
  exact mk_val h5 h3 ht e
/-! ### Whole multiples of 1/24 -/
end Go.Proofs.YtpkmiegccfhpnaaGreatDoor

/- Plain mathematics of voices: events, whether they are a voice, chains, changes; no program in sight. -/
namespace Go.Proofs.YtpkmiegccfhpnaaGreatDoor

/-! ### Pitches -/
/-! ### The transformations -/
/-! ### A voice that is one is chained as it is -/
end Go.Proofs.YtpkmiegccfhpnaaGreatDoor

/- Plain mathematics of cut voices. -/
namespace Go.Proofs.YtpkmiegccfhpnaaGreatDoor

def lessB (a b : Int × Int) : Bool := decide ((cmpS a b).1 < 0)
end Go.Proofs.YtpkmiegccfhpnaaGreatDoor

/- How long the transformed voices are. -/
namespace Go.Proofs.YtpkmiegccfhpnaaGreatDoor
end Go.Proofs.YtpkmiegccfhpnaaGreatDoor

/- Plain mathematics of the statements on small times: the times made of numbers are whole multiples of 1/24; sums and products are taken back; a whole multiple and a rest. -/
namespace Go.Proofs.YtpkmiegccfhpnaaGreatDoor
end Go.Proofs.YtpkmiegccfhpnaaGreatDoor

/- Plain mathematics of voices made of numbers: their times are whole multiples of 1/q; turned round, upside down, moved, stretched, joined, delayed, cut. -/
namespace Go.Proofs.YtpkmiegccfhpnaaGreatDoor

/-! ### Whole multiples of 1/q -/
theorem cq_pos {q m : Int} (h : inq q m) (h0 : 0 < m) : 1 ≤ (cq q m).1 := by
  obtain ⟨k, e, _⟩ := cq_ok h
  have h1 := k.1
  have h2 := k.2.2.1
  have h3 : 0 < m * (cq q m).2 := Int.mul_pos h0 (by omega)
  rcases Int.lt_or_le (cq q m).1 1 with h4 | h4
  · have : (cq q m).1 = 0 := by omega
    rw [this, Int.zero_mul] at e
    omega
  · exact h4
theorem cq_sub {q m n : Int} (hm : inq q m) (hn : inq q n) (h : n ≤ m) : subS (cq q m) (cq q n) = ((cq q (m - n)).1, (cq q (m - n)).2, 0) := by
  obtain ⟨k1, e1, _⟩ := cq_ok hm
  obtain ⟨k2, e2, _⟩ := cq_ok hn
  obtain ⟨k3, e3, _⟩ := cq_ok (show inq q (m - n) from ⟨hm.1, hm.2.1, by omega, by have := hm.2.2.2; have := hn.2.2.1; omega⟩)
  refine sub_val k1 k2 k3 (cancel hm.1 ?_)
  generalize (cq q m).1 = a at *
  generalize (cq q m).2 = a' at *
  generalize (cq q n).1 = b at *
  generalize (cq q n).2 = b' at *
  generalize (cq q (m - n)).1 = t at *
  generalize (cq q (m - n)).2 = t' at *
  grind
theorem cq_cross {q m n : Int} (hm : inq q m) (hn : inq q n) : ((cq q m).1 * (cq q n).2 - (cq q n).1 * (cq q m).2) * q = (m - n) * ((cq q m).2 * (cq q n).2) := by
  obtain ⟨k1, e1, _⟩ := cq_ok hm
  obtain ⟨k2, e2, _⟩ := cq_ok hn
  generalize (cq q m).1 = a at *
  generalize (cq q m).2 = a' at *
  generalize (cq q n).1 = b at *
  generalize (cq q n).2 = b' at *
  grind
theorem cq_less {q m n : Int} (hm : inq q m) (hn : inq q n) : lessB (cq q m) (cq q n) = decide (m < n) := by
  obtain ⟨k1, e1, _⟩ := cq_ok hm
  obtain ⟨k2, e2, _⟩ := cq_ok hn
  have e := cq_cross hm hn
  unfold lessB cmpS
  rw [both_of_ok k1 k2, if_neg (fun h => h rfl)]
  have h3 : 0 < (cq q m).2 * (cq q n).2 := Int.mul_pos (by have := k1.2.2.1; omega) (by have := k2.2.2.1; omega)
  have hq := hm.1
  simp only
  generalize (cq q m).1 * (cq q n).2 - (cq q n).1 * (cq q m).2 = x at *
  generalize (cq q m).2 * (cq q n).2 = y at *
  rw [decide_eq_decide]
  unfold sgn
  rcases Int.lt_trichotomy (m - n) 0 with h | h | h
  · have h5 := Int.mul_neg_of_neg_of_pos h h3
    have : x < 0 := by
      rcases Int.lt_or_le x 0 with h6 | h6
      · exact h6
      · have := Int.mul_nonneg h6 (show 0 ≤ q by omega); omega
    rw [if_pos this]; omega
  · rw [h, Int.zero_mul] at e
    have : x = 0 := by
      rcases Int.mul_eq_zero.1 e with h6 | h6
      · exact h6
      · omega
    rw [this]; simp; omega
  · have h5 := Int.mul_pos h h3
    have : 0 < x := by
      rcases Int.lt_or_le 0 x with h6 | h6
      · exact h6
      · have := Int.mul_nonneg (show 0 ≤ -x by omega) (show 0 ≤ q by omega)
        rw [Int.neg_mul] at this; omega
    rw [if_neg (by omega), if_pos this]; simp; omega
theorem cq_zero {q : Int} (h : 1 ≤ q) (_ : q ≤ 1048576) : cq q 0 = (0, 1) :=
  cq_of h (by omega) (by unfold ok; exact ⟨by omega, by omega, by omega, by omega, by decide⟩) (by simp)

/-! ### Voices laid out -/
def sumM (l : List (Int × Pay)) : Int := (l.map (·.1)).sum
theorem sumM_cons (z : Int × Pay) (l : List (Int × Pay)) : sumM (z :: l) = z.1 + sumM l := by simp [sumM]
theorem sumM_nil : sumM [] = 0 := rfl
theorem sumM_append (l m : List (Int × Pay)) : sumM (l ++ m) = sumM l + sumM m := by simp [sumM]
theorem pos_cons {z : Int × Pay} {l : List (Int × Pay)} (h : pos (z :: l)) : (0 < z.1 ∧ z.2.good) ∧ pos l := ⟨h z (by simp), fun y hy => h y (by simp [hy])⟩
theorem sumM_nonneg {l : List (Int × Pay)} (h : pos l) : 0 ≤ sumM l := by
  induction l with
  | nil => simp [sumM]
  | cons z l ih => rw [sumM_cons]; have := (pos_cons h).1.1; have := ih (pos_cons h).2; omega
/-- A laid out voice is one. -/
theorem check_lay {q : Int} (hq : okq q) (l : List (Int × Pay)) : ∀ s i, 0 ≤ s → pos l → s + sumM l ≤ 1099511627776 → checkFrom (cq q s) i (lay q s l) = (0, 0) := by
  induction l with
  | nil => intro _ _ _ _ _; rfl
  | cons z l ih =>
    intro s i hs hp hb
    obtain ⟨⟨h1, h2⟩, h3⟩ := pos_cons hp
    have h4 := sumM_nonneg h3
    rw [sumM_cons] at hb
    have is := inq_of hq hs (show s ≤ 1099511627776 by omega)
    have iz := inq_of hq (show 0 ≤ z.1 by omega) (show z.1 ≤ 1099511627776 by omega)
    have ha := cq_add is iz (inq_of hq (by omega) (by omega))
    have k1 := (cq_ok is).1
    have k2 := (cq_ok iz).1
    have k3 := cq_pos iz h1
    have hone : oneS (z.2.ev (cq q s) (cq q z.1)) = 0 := by
      obtain ⟨g1, g2, g3, g4⟩ := h2
      unfold oneS
      show (if chk (cq q s).1 (cq q s).2 ≠ 0 then _ else if chk (cq q z.1).1 (cq q z.1).2 ≠ 0 then _ else if (cq q z.1).1 = 0 then _ else if z.2.rest = true ∧ z.2.pit ≠ (0, 0, 0) then _ else if z.2.rest = false ∧ pchk z.2.pit ≠ 0 then _ else if z.2.sign < 0 ∨ z.2.pass < 0 then _ else _) = _
      rw [chk_of_ok k1, if_neg (fun h => h rfl), chk_of_ok k2, if_neg (fun h => h rfl), if_neg (by omega), if_neg (fun h => h.2 (g1 h.1)), if_neg (fun h => h.2 (g2 h.1)), if_neg (by omega)]
    rw [lay, cf_next (now := cq q s) hone rfl (by show (addS (cq q s) (cq q z.1)).2.2 = 0; rw [ha])]
    show checkFrom ((addS (cq q s) (cq q z.1)).1, (addS (cq q s) (cq q z.1)).2.1) (i + 1) (lay q (s + z.1) l) = _
    rw [ha]
    exact ih (s + z.1) (i + 1) (by omega) h3 (by omega)
theorem lay_len (q : Int) (l : List (Int × Pay)) : ∀ s, (lay q s l).length = l.length := by
  induction l with
  | nil => intro _; rfl
  | cons z l ih => intro s; rw [lay, List.length_cons, List.length_cons, ih]
/-- A voice of at most 2000 events that is short enough. -/
def fit (l : List (Int × Pay)) : Prop := pos l ∧ sumM l ≤ 1099511627776 ∧ l.length ≤ 2000
theorem checkS_lay {q : Int} (hq : okq q) {l : List (Int × Pay)} (h : fit l) : checkS (lay q 0 l) = (0, 0) := by
  unfold checkS
  rw [lay_len, if_neg (by have := h.2.2; omega), ← cq_zero hq.1 hq.2]
  exact check_lay hq l 0 0 (by omega) h.1 (by have := h.2.1; omega)
/-! ### Pitches changed -/
/-! ### Stretched -/
end Go.Proofs.YtpkmiegccfhpnaaGreatDoor

/- Plain mathematics of voices made of numbers: what the kit's Voice makes; pitches; products; joined, delayed and cut voices; ends. -/
namespace Go.Proofs.YtpkmiegccfhpnaaGreatDoor

/-! ### What Voice makes -/
def d24 (j : Int) : Int := [24, 48, 12, 72, 96, 36, 144, 16, 32].getD j.toNat 0
def durT (j : Int) : Int × Int := [((1 : Int), (1 : Int)), (2, 1), (1, 2), (3, 1), (4, 1), (3, 2), (6, 1), (2, 3), (4, 3)].getD j.toNat (0, 0)
theorem dur_fin : ∀ j : Fin 9, durT (j.val : Int) = cq 24 (d24 (j.val : Int)) ∧ 12 ≤ d24 (j.val : Int) ∧ d24 (j.val : Int) ≤ 144 := by decide +kernel
theorem dur_24 {j : Int} (h : 0 ≤ j) (h' : j < 9) : durT j = cq 24 (d24 j) ∧ 12 ≤ d24 j ∧ d24 j ≤ 144 := by
  have := dur_fin ⟨j.toNat, by omega⟩
  simp only [show ((j.toNat : Nat) : Int) = j by omega] at this
  exact this
def payS (i n : Int) : Pay := if n / 567 = 6 then ⟨(0, 0, 0), true, i, n / 567 % 2⟩ else ⟨(n % 7, 3 + n / 7 % 3, n / 21 % 3 - 1), false, i, n / 567 % 2⟩
def oneZ (i x : Int) : Int × Pay := (d24 (x % 3969 / 63 % 9), payS i (x % 3969))
def voiceZ (i : Int) : List Int → List (Int × Pay)
  | [] => []
  | x :: l => oneZ i x :: voiceZ (i + 1) l
def voiceS (most : Nat) (l : List Int) : List Ev := lay 24 0 (voiceZ 0 (l.take most))
/-- A small event: at most 6 minims, a pitch from c3 to b5. -/
def small (z : Int × Pay) : Prop := 12 ≤ z.1 ∧ z.1 ≤ 144 ∧ z.2.good ∧ (z.2.rest = false → 21 ≤ numP z.2.pit ∧ numP z.2.pit ≤ 41)
theorem one_small (i x : Int) (hi : 0 ≤ i) : small (oneZ i x) := by
  have h0 := Int.emod_nonneg x (show (3969 : Int) ≠ 0 by omega)
  have h1 := Int.emod_lt_of_pos x (show (0 : Int) < 3969 by omega)
  obtain ⟨_, d1, d2⟩ := dur_24 (j := x % 3969 / 63 % 9) (by omega) (by omega)
  refine ⟨d1, d2, ?_, ?_⟩
  · show (payS i (x % 3969)).good
    unfold payS
    split
    · exact ⟨fun _ => rfl, fun e => by simp at e, hi, by simp only; omega⟩
    · refine ⟨fun e => by simp at e, fun _ => ?_, hi, by simp only; omega⟩
      unfold pchk; rw [if_neg (by simp only; omega)]
  · show (payS i (x % 3969)).rest = false → 21 ≤ numP (payS i (x % 3969)).pit ∧ numP (payS i (x % 3969)).pit ≤ 41
    unfold payS
    split
    · intro e; simp at e
    · intro _; unfold numP; simp only; omega
theorem voice_small (l : List Int) : ∀ i, 0 ≤ i → ∀ z ∈ voiceZ i l, small z := by
  induction l with
  | nil => intro i _ z hz; simp [voiceZ] at hz
  | cons x l ih =>
    intro i hi z hz
    rcases List.mem_cons.1 hz with rfl | hz
    · exact one_small i x hi
    · exact ih (i + 1) (by omega) z hz
theorem voice_len (l : List Int) : ∀ i, (voiceZ i l).length = l.length := by
  induction l with
  | nil => intro _; rfl
  | cons x l ih => intro i; rw [voiceZ, List.length_cons, ih, List.length_cons]
theorem small_sum (l : List (Int × Pay)) (h : ∀ z ∈ l, small z) : sumM l ≤ 144 * (l.length : Int) := by
  induction l with
  | nil => simp [sumM]
  | cons z l ih =>
    rw [sumM_cons, List.length_cons]
    have := (h z (by simp)).2.1
    have := ih fun y hy => h y (by simp [hy])
    omega
theorem small_fit {l : List (Int × Pay)} (h : ∀ z ∈ l, small z) (hl : l.length ≤ 2000) : fit l :=
  ⟨fun z hz => ⟨by have := (h z hz).1; omega, (h z hz).2.2.1⟩, by have := small_sum l h; omega, hl⟩
theorem okq24 : okq 24 := ⟨by omega, by omega⟩
/-! ### Pitches -/
theorem pchk_bd {p : Int × Int × Int} (h : pchk p = 0) : 0 ≤ p.1 ∧ p.1 ≤ 6 ∧ 0 ≤ p.2.1 ∧ p.2.1 ≤ 8 ∧ -1 ≤ p.2.2 ∧ p.2.2 ≤ 1 := by
  unfold pchk at h
  split at h
  · cases h
  · omega
/-! ### Products -/
/-! ### Ends, joined and delayed voices -/
theorem lay_append (q : Int) (l m : List (Int × Pay)) : ∀ s, lay q s (l ++ m) = lay q s l ++ lay q (s + sumM l) m := by
  induction l with
  | nil => intro s; simp [lay, sumM]
  | cons z l ih => intro s; rw [List.cons_append, lay, lay, ih, sumM_cons, List.cons_append, Int.add_assoc]
/-! ### Cut -/
section
variable {q f t : Int} (hq : okq q) (hf : 0 ≤ f) (hft : f ≤ t) (ht : t ≤ 1099511627776)
include hq hf hft ht
end
/-! ### The kit's sums -/
theorem tS_of {n d : Int} {t : Int × Int} (hn : 0 ≤ n) (hd : 1 ≤ d) (h : mk n d = (t.1, t.2, 0)) : tS n d = t := by
  have hp := gg_pos n d (.inr (by omega))
  rw [mk_of hn hd] at h
  unfold ofq at h
  split at h
  · simp at h
  · unfold tS
    rw [if_neg (by omega)]
    simp only [Prod.mk.injEq, and_true] at h
    exact Prod.ext h.1 h.2
def plusS (a b : Int × Int) : Int × Int := tS (a.1 * b.2 + b.1 * a.2) (a.2 * b.2)
theorem plus_cq {q m n : Int} (hm : inq q m) (hn : inq q n) (h : inq q (m + n)) : plusS (cq q m) (cq q n) = cq q (m + n) := by
  have k1 := (cq_ok hm).1
  have k2 := (cq_ok hn).1
  have ha := cq_add hm hn h
  unfold addS at ha
  rw [both_of_ok k1 k2, if_neg (fun h => h rfl)] at ha
  have h1 : 0 ≤ (cq q m).1 * (cq q n).2 := Int.mul_nonneg k1.1 (by have := k2.2.2.1; omega)
  have h2 : 0 ≤ (cq q n).1 * (cq q m).2 := Int.mul_nonneg k2.1 (by have := k1.2.2.1; omega)
  have h3 : 1 ≤ (cq q m).2 * (cq q n).2 := by have := Int.mul_le_mul k1.2.2.1 k2.2.2.1 (by omega) (by have := k1.2.2.1; omega); omega
  exact tS_of (by omega) h3 ha
end Go.Proofs.YtpkmiegccfhpnaaGreatDoor

/- Plain mathematics of settings: times in order, moments, the event that sounds at a time, slices; no program in sight. -/
namespace Go.Proofs.YtpkmiegccfhpnaaGreatDoor

/-! ### Times in order -/
/-! ### Ascending lists -/
/-! ### Valid voices -/
end Go.Proofs.YtpkmiegccfhpnaaGreatDoor

/- Plain mathematics of settings: the program's moments are the reference's; the event that sounds; slices. -/
namespace Go.Proofs.YtpkmiegccfhpnaaGreatDoor

/-! ### Members -/
/-! ### The program's own moments of a voice -/
/-! ### The program's merge of two ascending lists -/
end Go.Proofs.YtpkmiegccfhpnaaGreatDoor

/- Plain mathematics of settings: checks, the event that sounds at a time, slices. -/
namespace Go.Proofs.YtpkmiegccfhpnaaGreatDoor
/-! ### The event that sounds at a time -/
/-! ### Slices -/
end Go.Proofs.YtpkmiegccfhpnaaGreatDoor

/- What End, At, Starts and Back answer: plain mathematics, no program in sight. -/
namespace Go.Proofs.YtpkmiegccfhpnaaGreatDoor
/-! ### The end, a time's slice -/
theorem mAt_get {m : List Tm} {i : Nat} {x : Tm} (h : m[i]? = some x) : mAt m i = x := by simp [mAt, List.getD, h]
theorem sa_lt {m : List Tm} (h : SA m) {i j : Nat} (hij : i < j) (hj : j < m.length) : ltT (mAt m i) (mAt m j) := by
  have := List.pairwise_iff_getElem.1 h i j (by omega) hj hij
  rw [mAt_get (List.getElem?_eq_getElem (by omega : i < m.length)), mAt_get (List.getElem?_eq_getElem hj)]
  exact this
/-! ### Who starts -/
/-! ### Sums of slices -/
end Go.Proofs.YtpkmiegccfhpnaaGreatDoor

/- Sorting by insertion, from the front and from behind: plain mathematics, no program in sight. -/
namespace Go.Proofs.YtpkmiegccfhpnaaGreatDoor
/-! ### Who sounds, by pitch -/
end Go.Proofs.YtpkmiegccfhpnaaGreatDoor

/- Plain mathematics of settings of voices made of numbers: all times are whole 24ths; slices follow one another; sums of slices. -/
namespace Go.Proofs.YtpkmiegccfhpnaaGreatDoor
/-! ### Times that are whole 24ths -/
theorem kT_cq {k : Int} (h : inq 24 k) : kT (cq 24 k) = k := by
  obtain ⟨k1, e, _⟩ := cq_ok h
  unfold kT
  rw [e]
  exact Int.mul_ediv_cancel _ (by have := k1.2.2.1; omega)
theorem q24_of {M k : Int} (h : 0 ≤ k) (h' : k ≤ M) (hM : M ≤ 100000) : Q24 M (cq 24 k) := by
  have := kT_cq (inq_of okq24 h (show k ≤ 1099511627776 by omega))
  unfold Q24; rw [this]; exact ⟨rfl, h, h'⟩
theorem q24_in {M : Int} {t : Tm} (h : Q24 M t) (hM : M ≤ 100000) : inq 24 (kT t) := inq_of okq24 h.2.1 (by have := h.2.2; omega)
theorem ltT_cq {a b : Int} (ha : inq 24 a) (hb : inq 24 b) : ltT (cq 24 a) (cq 24 b) ↔ a < b := by
  have h := cq_less ha hb
  unfold lessB at h
  rw [cmp_lt (cq_ok ha).1 (cq_ok hb).1] at h
  exact decide_eq_decide.1 h
theorem ltT_k {M : Int} {t u : Tm} (ht : Q24 M t) (hu : Q24 M u) (hM : M ≤ 100000) : ltT t u ↔ kT t < kT u := by
  conv => lhs; rw [ht.1, hu.1]
  exact ltT_cq (q24_in ht hM) (q24_in hu hM)
theorem sub_k {M : Int} {t u : Tm} (ht : Q24 M t) (hu : Q24 M u) (hM : M ≤ 100000) (h : kT u ≤ kT t) : subS t u = ((cq 24 (kT t - kT u)).1, (cq 24 (kT t - kT u)).2, 0) := by
  conv => lhs; rw [ht.1, hu.1]
  exact cq_sub (q24_in ht hM) (q24_in hu hM) h
/-! ### A voice laid in 24ths -/
theorem lay_q {M : Int} (hM : M ≤ 100000) (l : List (Int × Pay)) : ∀ s, 0 ≤ s → pos l → s + sumM l ≤ M → Q24V M (lay 24 s l) := by
  induction l with
  | nil => intro s _ _ _ x hx; simp [lay] at hx
  | cons z l ih =>
    intro s hs hp hb x hx
    obtain ⟨⟨h1, h2⟩, h3⟩ := pos_cons hp
    have h4 := sumM_nonneg h3
    rw [sumM_cons] at hb
    rw [lay] at hx
    rcases List.mem_cons.1 hx with rfl | hx
    · have i1 := inq_of okq24 hs (show s ≤ 1099511627776 by omega)
      have i2 := inq_of okq24 (show 0 ≤ z.1 by omega) (show z.1 ≤ 1099511627776 by omega)
      have i3 := inq_of okq24 (show 0 ≤ s + z.1 by omega) (show s + z.1 ≤ 1099511627776 by omega)
      have en : nextS (z.2.ev (cq 24 s) (cq 24 z.1)) = cq 24 (s + z.1) := by
        unfold nextS
        show ((addS (cq 24 s) (cq 24 z.1)).1, (addS (cq 24 s) (cq 24 z.1)).2.1) = _
        rw [cq_add i1 i2 i3]
      show Q24 M (cq 24 s) ∧ Q24 M (nextS (z.2.ev (cq 24 s) (cq 24 z.1))) ∧ cq 24 z.1 = cq 24 (kT (nextS (z.2.ev (cq 24 s) (cq 24 z.1))) - kT (cq 24 s)) ∧ kT (cq 24 s) < kT (nextS (z.2.ev (cq 24 s) (cq 24 z.1)))
      rw [en, kT_cq i1, kT_cq i3]
      exact ⟨q24_of hs (by omega) hM, q24_of (by omega) (by omega) hM, by congr 1; omega, by omega⟩
    · exact ih (s + z.1) (by omega) h3 (by omega) x hx
theorem voice_q (most : Nat) (hm : most ≤ 20) (l : List Int) : Q24V 2880 (voiceS most l) ∧ (checkS (voiceS most l)).1 = 0 ∧ (voiceS most l).length ≤ most := by
  have h1 : ∀ z ∈ voiceZ 0 (l.take most), small z := voice_small _ 0 (by omega)
  have h2 : (voiceZ 0 (l.take most)).length ≤ most := by rw [voice_len, List.length_take]; omega
  have h3 := small_fit h1 (by omega)
  have h4 := small_sum _ h1
  refine ⟨lay_q (by omega) _ 0 (by omega) h3.1 (by omega), ?_, ?_⟩
  · unfold voiceS; rw [checkS_lay okq24 h3]
  · unfold voiceS; rw [lay_len]; exact h2
/-! ### Moments -/
theorem mem_mom (l : List (List Ev)) (t : Tm) : t ∈ momS l ↔ ∃ v ∈ l, ∃ x ∈ v, t = x.at_ ∨ t = nextS x := by
  have key : ∀ (l : List (List Ev)) (o : List Tm), t ∈ l.foldl momV o ↔ t ∈ o ∨ ∃ v ∈ l, ∃ x ∈ v, t = x.at_ ∨ t = nextS x := by
    intro l
    induction l with
    | nil => intro o; simp
    | cons v l ih =>
      intro o
      rw [List.foldl_cons, ih, momV_mem]
      simp only [List.mem_cons]
      grind
  have := key l []
  simpa [momS] using this
theorem chkV_of {l : List (List Ev)} (h : ∀ v ∈ l, (checkS v).1 = 0) : ∀ i, chkV i l = (0, 0) := by
  induction l with
  | nil => intro i; rfl
  | cons v l ih => intro i; rw [chkV_next (h v (by simp))]; exact ih (fun w hw => h w (by simp [hw])) _
section
variable {M : Int} {l : List (List Ev)} (h : SetQ M l)
include h
theorem setq_check : checkA l = (0, 0) := by
  unfold checkA; rw [if_neg (by have := h.len; omega)]; exact chkV_of (fun v hv => (h.each v hv).2) 0
theorem setq_mom : ∀ t ∈ momS l, Q24 M t := by
  intro t ht
  obtain ⟨v, hv, x, hx, e⟩ := (mem_mom l t).1 ht
  obtain ⟨q1, q2, _⟩ := (h.each v hv).1 x hx
  rcases e with rfl | rfl
  · exact q1
  · exact q2
theorem setq_q {i : Nat} (hi : i < (momS l).length) : Q24 M (mAt (momS l) i) := setq_mom h _ (List.mem_of_getElem? (mAt_some hi))
theorem setq_sa : SA (momS l) ∧ OkL (momS l) := (set_facts (by rw [setq_check h])).2.2.2
theorem setq_lt {i j : Nat} (hij : i < j) (hj : j < (momS l).length) : kT (mAt (momS l) i) < kT (mAt (momS l) j) :=
  (ltT_k (setq_q h (by omega)) (setq_q h hj) h.big).1 (sa_lt (setq_sa h).1 hij hj)
theorem setq_dur {i : Nat} (hi : i + 1 < (momS l).length) : durE (momS l) i = (cq 24 (kT (mAt (momS l) (i + 1)) - kT (mAt (momS l) i)), 0) := by
  unfold durE
  rw [sub_k (setq_q h hi) (setq_q h (by omega)) h.big (by have := setq_lt h (i := i) (j := i + 1) (by omega) hi; omega)]
theorem setq_durs : ∀ (k i : Nat), i + k ≤ (momS l).length - 1 → durFrom (momS l) i k = 0
  | 0, i, _ => rfl
  | k + 1, i, hk => by
    rw [durFrom_next (by rw [setq_dur h (by omega)])]
    exact setq_durs k (i + 1) (by omega)
theorem setq_slices : slicesE l = ((List.range ((momS l).length - 1)).map (slOf l (momS l)), 0) := by
  unfold slicesE
  rw [setq_check h, if_neg (fun h => h rfl), setq_durs h _ 0 (by omega), if_neg (fun h => h rfl)]
end
end Go.Proofs.YtpkmiegccfhpnaaGreatDoor

/- Plain mathematics: slices of voices made of numbers follow one another from 0 to the greatest end, in each something changes, events are the sums of their slices. -/
namespace Go.Proofs.YtpkmiegccfhpnaaGreatDoor
section
variable {M : Int} {l : List (List Ev)} (h : SetQ M l)
include h
/-! ### Slices from 0 to the end -/
/-! ### In each slice something changes -/
/-! ### Events are the sums of their slices -/
end
section
variable {M : Int} {l : List (List Ev)} (h : SetQ M l)
include h
end
end Go.Proofs.YtpkmiegccfhpnaaGreatDoor
/- A row of events below a call. -/

namespace Go.Proofs.YtpkmiegccfhpnaaGreatDoor
open Go.RowKit
theorem Blk.grownV {w w' : World} {g : Nat} {t : TypeId} {cs : Array Value} {row : Option Nat} (h : Blk w g t cs) (hg : w.grownBy w' row) (hne : some g ≠ row) : Blk w' g t cs := (hg.block g h.lt hne).trans h
theorem own_farV {w : World} {base size n : Nat} {e : TypeId} {v u : Value} {xs : List Value} {p : Addr} (h : w.ownsRow base e size v n xs) (hp : p.block < base) : (w.setCell p u).ownsRow base e size v n xs := by
  have hl := h.lt
  obtain ⟨h1, h2⟩ := h
  refine ⟨h1, ?_⟩
  rcases h2 with h2 | ⟨g, cap, cur, h2, h3, h4, h5⟩
  · exact .inl h2
  · refine .inr ⟨g, cap, cur, h2, h3, ?_, h5⟩
    rw [Below.heap_setCell _ _ _ g (by omega)]; exact h4
theorem OwnE.lowerV {w : World} {base base' n c : Nat} {A : Option Addr} {l : List Ev} (h : OwnE w base n A c l) (hb : base' ≤ base) : OwnE w base' n A c l := by
  obtain ⟨⟨h1, h2⟩, h3⟩ := h
  refine ⟨⟨h1, ?_⟩, h3⟩
  rcases h2 with h2 | ⟨g, cap, cur, h2, h4, h5⟩
  · exact .inl h2
  · exact .inr ⟨g, cap, cur, h2, Nat.le_trans hb h4, h5⟩
end Go.Proofs.YtpkmiegccfhpnaaGreatDoor

/- The walks through the kit's small makers: Mod, Zero, Span, Plus, EndOf. -/

namespace Go.Proofs.YtpkmiegccfhpnaaGreatDoor
open Go.RowKit
theorem tmod_neg (a n : Int) (h : 1 ≤ n) (ha : a < 0) : -n < a.tmod n ∧ a.tmod n ≤ 0 ∧ (a.tmod n = 0 → a % n = 0) ∧ (a.tmod n < 0 → a % n = a.tmod n + n) := by
  have h1 := Int.emod_nonneg a (show n ≠ 0 by omega)
  have h2 := Int.emod_lt_of_pos a (show 0 < n by omega)
  have e := Int.tmod_eq_emod (a := a) (b := n)
  by_cases hd : n ∣ a
  · rw [if_pos (.inr hd)] at e
    have := Int.emod_eq_zero_of_dvd hd
    omega
  · rw [if_neg (by rintro (hh | hh); · omega
                   · exact hd hh)] at e
    have : a % n ≠ 0 := fun h0 => hd (Int.dvd_of_emod_eq_zero h0)
    omega
set_option maxHeartbeats 400000 in
theorem mod_any (a n : Int) (w : World) (h : 1 ≤ n) (hn : n ≤ 4611686018427387904) (h0 : -9223372036854775808 ≤ a) (h1 : a ≤ 9223372036854775807) :
    Calls Tryz.prog 57 #[.int .i64 a, .int .i64 n] w fun e w' => e = .returned (.int .i64 (a % n)) ∧ w = w' := by
  by_cases ha : 0 ≤ a
  · have m0 := Int.emod_nonneg a (show n ≠ 0 by omega)
    have m1 := Int.emod_lt_of_pos a (show 0 < n by omega)
    go_enter Tryz.func57, Tryz.ntmps57
    go_wp2
    all_goals
      go_ret
      exact ⟨rfl, rfl⟩
  · obtain ⟨t0, t1, t2, t3⟩ := tmod_neg a n h (by omega)
    have T := Lib.hid (And.intro t2 t3); clear t2 t3
    go_enter Tryz.func57, Tryz.ntmps57
    go_wp2
    all_goals
      go_ret
      refine ⟨ret_int ?_, rfl⟩
      obtain ⟨t2, t3⟩ := T.out
      omega
set_option maxHeartbeats 400000 in
theorem zero_any (w : World) : Calls Tryz.prog 56 #[] w fun e w' => e = .returned (.agg #[.int .i64 0, .int .i64 1]) ∧ Below w.heap.size w w' := by
  go_enter Tryz.func56, Tryz.ntmps56
  go_wp2
  refine ret_of (by simp [results, Tryz.results56, go_sem]; repeat' (first | rfl | apply And.intro)) rfl ⟨rfl, ?_⟩
  repeat (first | exact Below.refl _ _ | refine below_drewN ?_ _ | refine Below.drew ?_ | refine below_alloc ?_ _ | (refine below_call ?_ (by assumption)) | (refine Below.setCell ?_ ?_ _; rotate_left; (simp; try omega)))
set_option maxHeartbeats 1000000 in
theorem plus_any (a b : Int × Int) (w : World) (ha : ok a) (hb : ok b) :
    Calls Tryz.prog 58 #[vTm a, vTm b] w fun e w' => e = .returned (vTm (plusS a b)) ∧ Below w.heap.size w w' := by
  obtain ⟨a, a'⟩ := a
  obtain ⟨b, b'⟩ := b
  obtain ⟨a0, a1, a2, a3, _⟩ := ha
  obtain ⟨b0, b1, b2, b3, _⟩ := hb
  simp only at a0 a1 a2 a3 b0 b1 b2 b3
  obtain ⟨m0, m1⟩ := mul_bd a0 (show 0 ≤ b' by omega) a1 b3
  obtain ⟨m2, m3⟩ := mul_bd b0 (show 0 ≤ a' by omega) b1 a3
  obtain ⟨m4, m5⟩ := mul_bd (show 0 ≤ a' by omega) (show 0 ≤ b' by omega) a3 b3
  have E := Lib.hid (show plusS (a, a') (b, b') = tS (a * b' + b * a') (a' * b') from rfl)
  have t0 : Blk (((w.alloc (.cells #[.int .i64 a, .int .i64 a'] 45)).alloc (.cells #[.int .i64 b, .int .i64 b'] 45)).alloc (.cells #[.int .i64 0, .int .i64 0] 45)) (w.heap.size + 1 + 1) 45 #[.int .i64 0, .int .i64 0] := Blk.newAt _ _ _ _ (by simp)
  have k0 : Below w.heap.size w (((w.alloc (.cells #[.int .i64 a, .int .i64 a'] 45)).alloc (.cells #[.int .i64 b, .int .i64 b'] 45)).alloc (.cells #[.int .i64 0, .int .i64 0] 45)) := by repeat (first | exact Below.refl _ _ | refine below_drewN ?_ _ | refine Below.drew ?_ | refine below_alloc ?_ _ | (refine below_call ?_ (by assumption)) | (refine Below.setCell ?_ ?_ _; rotate_left; (simp; try omega)))
  go_enter Tryz.func58, Tryz.ntmps58
  go_wp2_with fail
  refine (t_any _ _ _ (by omega) (by omega) (by omega) (by omega)).mono ?_
  rintro e w1 ⟨rfl, hb1⟩
  have t1 := t0.kept hb1
  have c1 := t1.cell; have z1 := t1.lt; have f1 := t1.frozen
  have k1 := below_call k0 hb1
  go_wp2_with fail
  refine ret_of (by simp [results, Tryz.results58, go_sem, *]; repeat' (first | rfl | apply And.intro)) rfl ⟨?_, by repeat (first | with_reducible exact Below.refl _ _ | with_reducible assumption | with_reducible refine below_drewN ?_ _ | with_reducible refine Below.drew ?_ | with_reducible refine below_alloc ?_ _ | (with_reducible refine Below.setCell ?_ ?_ _; rotate_left; ((try simp only); omega)))⟩
  rw [E.out]
end Go.Proofs.YtpkmiegccfhpnaaGreatDoor

/- The walk through tactuskit.Voice. -/

namespace Go.Proofs.YtpkmiegccfhpnaaGreatDoor
open Go.RowKit
def csI (l : List Int) : List Value := l.flatMap fun n => [.int .i64 n]
theorem voiceZ_append (l m : List Int) : ∀ i, voiceZ i (l ++ m) = voiceZ i l ++ voiceZ (i + l.length) m := by
  induction l with
  | nil => intro i; simp [voiceZ]
  | cons x l ih => intro i; rw [List.cons_append, voiceZ, voiceZ, ih, List.cons_append, List.length_cons]; congr 2; rw [show i + 1 + (l.length : Int) = i + ((l.length + 1 : Nat) : Int) by omega]
theorem dur_cells : ∀ j : Fin 9, (#[.int .i64 1, .int .i64 1, .int .i64 2, .int .i64 1, .int .i64 1, .int .i64 2, .int .i64 3, .int .i64 1, .int .i64 4, .int .i64 1, .int .i64 3, .int .i64 2, .int .i64 6, .int .i64 1, .int .i64 2, .int .i64 3, .int .i64 4, .int .i64 3] : Array Value)[j.val * 2]? = some (.int .i64 (durT (j.val : Int)).1) ∧ (#[.int .i64 1, .int .i64 1, .int .i64 2, .int .i64 1, .int .i64 1, .int .i64 2, .int .i64 3, .int .i64 1, .int .i64 4, .int .i64 1, .int .i64 3, .int .i64 2, .int .i64 6, .int .i64 1, .int .i64 2, .int .i64 3, .int .i64 4, .int .i64 3] : Array Value)[j.val * 2 + 1]? = some (.int .i64 (durT (j.val : Int)).2) := by
  intro j
  match j with
  | 0 | 1 | 2 | 3 | 4 | 5 | 6 | 7 | 8 => exact ⟨rfl, rfl⟩
theorem dur_at {j : Int} (h : 0 ≤ j) (h' : j < 9) : (#[.int .i64 1, .int .i64 1, .int .i64 2, .int .i64 1, .int .i64 1, .int .i64 2, .int .i64 3, .int .i64 1, .int .i64 4, .int .i64 1, .int .i64 3, .int .i64 2, .int .i64 6, .int .i64 1, .int .i64 2, .int .i64 3, .int .i64 4, .int .i64 3] : Array Value)[j.toNat * 2]? = some (.int .i64 (durT j).1) ∧ (#[.int .i64 1, .int .i64 1, .int .i64 2, .int .i64 1, .int .i64 1, .int .i64 2, .int .i64 3, .int .i64 1, .int .i64 4, .int .i64 1, .int .i64 3, .int .i64 2, .int .i64 6, .int .i64 1, .int .i64 2, .int .i64 3, .int .i64 4, .int .i64 3] : Array Value)[j.toNat * 2 + 1]? = some (.int .i64 (durT j).2) := by
  have := dur_cells ⟨j.toNat, by omega⟩
  simp only [show ((j.toNat : Nat) : Int) = j by omega] at this
  exact this
set_option maxRecDepth 100000 in
set_option maxHeartbeats 2000000 in
theorem voice_any (A : Option Addr) (n c : Nat) (l : List Int) (most : Nat) (w : World) (h : Reads w w.heap.size 1 A n (csI l)) (hn : n ≤ 9223372036854775807) (hl : ∀ x ∈ l, -9223372036854775808 ≤ x ∧ x ≤ 9223372036854775807) (hm : most ≤ 60) :
    Calls Tryz.prog 40 #[.slice A n c, .int .i64 most] w fun e w' => ∃ A' c', e = .returned (.slice A' (voiceS most l).length c') ∧ OwnE w' w.heap.size (voiceS most l).length A' c' (voiceS most l) ∧ Below w.heap.size w w' := by
  have hlen : l.length = n := h.len (f := fun n => [Value.int .i64 n]) (fun _ => rfl) (by decide)
  have HL := Lib.hid hlen
  have L := Lib.hid hl; clear hl
  have hlen2 : (voiceS most l).length = min most n := by unfold voiceS; rw [lay_len, voice_len, List.length_take, hlen]
  have HL2 := Lib.hid hlen2; clear hlen hlen2
  have hm' : (most : Int) ≤ 60 := by omega
  obtain ⟨i0, hi0, hz0, hz1, hz2⟩ := info_parts event_info
  have rD : Blk (w.alloc (.cells #[.int .i64 1, .int .i64 1, .int .i64 2, .int .i64 1, .int .i64 1, .int .i64 2, .int .i64 3, .int .i64 1, .int .i64 4, .int .i64 1, .int .i64 3, .int .i64 2, .int .i64 6, .int .i64 1, .int .i64 2, .int .i64 3, .int .i64 4, .int .i64 3] 45)) w.heap.size 45 #[.int .i64 1, .int .i64 1, .int .i64 2, .int .i64 1, .int .i64 1, .int .i64 2, .int .i64 3, .int .i64 1, .int .i64 4, .int .i64 1, .int .i64 3, .int .i64 2, .int .i64 6, .int .i64 1, .int .i64 2, .int .i64 3, .int .i64 4, .int .i64 3] := Blk.new _ _ _
  have k0 : Below w.heap.size w (w.alloc (.cells #[.int .i64 1, .int .i64 1, .int .i64 2, .int .i64 1, .int .i64 1, .int .i64 2, .int .i64 3, .int .i64 1, .int .i64 4, .int .i64 1, .int .i64 3, .int .i64 2, .int .i64 6, .int .i64 1, .int .i64 2, .int .i64 3, .int .i64 4, .int .i64 3] 45)) := by repeat (first | exact Below.refl _ _ | refine below_drewN ?_ _ | refine Below.drew ?_ | refine below_alloc ?_ _ | (refine below_call ?_ (by assumption)) | (refine Below.setCell ?_ ?_ _; rotate_left; (simp; try omega)))
  go_enter Tryz.func40, Tryz.ntmps40
  go_wp2_with fail
  refine (zero_any _).mono ?_
  rintro e w1 ⟨rfl, hb1⟩
  replace rD := rD.kept hb1
  have k1 := below_call k0 hb1
  have z1 := rD.lt
  have s1 := k1.size
  go_wp2_with fail
  go_loopw [6, 8, 9, 10] (fun v i _ _ wr => ∃ k : Nat, k ≤ min most n ∧ i = .int .i64 k ∧ wr.ownsRow (w1.heap.size + 1) 49 10 v k (csE (voiceS k l)) ∧ Below w.heap.size w wr ∧ Blk wr w.heap.size 45 #[.int .i64 1, .int .i64 1, .int .i64 2, .int .i64 1, .int .i64 1, .int .i64 2, .int .i64 3, .int .i64 1, .int .i64 4, .int .i64 1, .int .i64 3, .int .i64 2, .int .i64 6, .int .i64 1, .int .i64 2, .int .i64 3, .int .i64 4, .int .i64 3] ∧ Blk wr w1.heap.size 45 #[.int .i64 (cq 24 (sumM (voiceZ 0 (l.take k)))).1, .int .i64 (cq 24 (sumM (voiceZ 0 (l.take k)))).2]) (fun _ i _ _ _ => most - (intOf i).toNat)
  case atStart => exact ⟨0, by omega, rfl, ⟨rfl, .inl ⟨rfl, rfl⟩⟩, below_alloc k1 _, rD.alloc _, by simpa [voiceZ, sumM_nil, cq_zero (q := 24) (by omega) (by omega)] using Blk.new w1 45 #[.int .i64 0, .int .i64 1]⟩
  case round =>
    clear rD
    obtain ⟨k, hk, rfl, hown, k2, rD, rA⟩ := hrel
    by_cases hlt : k < min most n
    · have hkm : (k : Int) < (most : Int) := by omega
      have hkn : (k : Int) < (n : Int) := by omega
      obtain ⟨x, hx⟩ := get_some (l := l) (k := k) (by have := HL.out; omega)
      have hxb := L.out x (List.mem_of_getElem? hx)
      obtain ⟨b, off, rfl, hab, hcl⟩ := h.elem (f := fun n => [Value.int .i64 n]) (fun _ => rfl) (show k < n by omega) hx
      have c0 := hcl 0 _ rfl
      rw [← k2.cell (by simp; omega)] at c0
      simp only [Nat.add_zero, Nat.mul_one] at c0
      have hab2 : b < wr.heap.size := Nat.lt_of_lt_of_le hab k2.size
      have HT := Lib.hid (take_get hx)
      clear hcl hx
      obtain ⟨A3, c3, rfl, ho3⟩ := ownE_form hown
      have hm0 := Int.emod_nonneg x (show (3969 : Int) ≠ 0 by omega)
      have hm1 := Int.emod_lt_of_pos x (show (0 : Int) < 3969 by omega)
      have HM := Lib.hid (fun W => mod_any x 3969 W (by omega) (by omega) hxb.1 hxb.2)
      obtain ⟨m, hm2⟩ : ∃ m, m = x % 3969 := ⟨_, rfl⟩
      have hmm := HM.out
      rw [← hm2] at hmm hm0 hm1
      have HMM := Lib.hid hmm
      have hone : oneZ (k : Int) x = (d24 (m / 63 % 9), payS k m) := by rw [hm2]; rfl
      have HO := Lib.hid hone
      clear hmm HM hm2 hone hxb
      have hj0 : 0 ≤ m / 63 % 9 := by omega
      have hj1 : m / 63 % 9 < 9 := by omega
      obtain ⟨g1, g2⟩ := dur_at hj0 hj1
      obtain ⟨D1, D2, D3⟩ := dur_24 hj0 hj1
      have d0 : wr.cell? ⟨w.heap.size, (m / 63 % 9).toNat * 2, none⟩ = some (.int .i64 (durT (m / 63 % 9)).1) := (rD.cell _).trans g1
      have d1 : wr.cell? ⟨w.heap.size, (m / 63 % 9).toNat * 2 + 1, none⟩ = some (.int .i64 (durT (m / 63 % 9)).2) := (rD.cell _).trans g2
      rw [D1] at d0 d1
      have hvs : ∀ z ∈ voiceZ 0 (l.take k), small z := voice_small _ 0 (by omega)
      have hvl : (voiceZ 0 (l.take k)).length ≤ 60 := by rw [voice_len, List.length_take]; omega
      have hsum := small_sum _ hvs
      have hsn := sumM_nonneg (small_fit hvs (by omega)).1
      have i1 := inq_of okq24 hsn (show sumM (voiceZ 0 (l.take k)) ≤ 1099511627776 by omega)
      have i2 := inq_of okq24 (show 0 ≤ d24 (m / 63 % 9) by omega) (show d24 (m / 63 % 9) ≤ 1099511627776 by omega)
      have i3 := inq_of okq24 (show 0 ≤ sumM (voiceZ 0 (l.take k)) + d24 (m / 63 % 9) by omega) (by omega)
      have HP := Lib.hid (fun W => plus_any (cq 24 (sumM (voiceZ 0 (l.take k)))) (cq 24 (d24 (m / 63 % 9))) W (cq_ok i1).1 (cq_ok i2).1)
      have HPE := Lib.hid (plus_cq i1 i2 i3)
      have hnext : voiceS (k + 1) l = voiceS k l ++ [(payS k m).ev (cq 24 (sumM (voiceZ 0 (l.take k)))) (cq 24 (d24 (m / 63 % 9)))] := by
        unfold voiceS
        rw [HT.out, voiceZ_append, lay_append, show ((0 : Int) + (l.take k).length) = (k : Int) by rw [List.length_take]; have := HL.out; omega]
        show _ ++ lay 24 (0 + sumM (voiceZ 0 (l.take k))) [oneZ k x] = _
        rw [HO.out, Int.zero_add]
        rfl
      have hsumn : sumM (voiceZ 0 (l.take (k + 1))) = sumM (voiceZ 0 (l.take k)) + d24 (m / 63 % 9) := by
        rw [HT.out, voiceZ_append, sumM_append, show ((0 : Int) + (l.take k).length) = (k : Int) by rw [List.length_take]; have := HL.out; omega]
        show _ + sumM [oneZ k x] = _
        rw [HO.out]
        simp [sumM]
      have HN := Lib.hid hnext; have HS := Lib.hid hsumn
      clear hnext hsumn D1 D2 D3 hvs hvl hsum hsn i1 i2 i3 g1 g2
      have cA := rA.cell; have zA := rA.lt; have fA := rA.frozen
      have zD := rD.lt
      obtain ⟨⟨s, s'⟩, hS⟩ : ∃ z, z = cq 24 (sumM (voiceZ 0 (l.take k))) := ⟨_, rfl⟩
      obtain ⟨⟨dd, dd'⟩, hD⟩ : ∃ z, z = cq 24 (d24 (m / 63 % 9)) := ⟨_, rfl⟩
      have hpe := HPE.out
      have hn2 := HN.out
      have hp2 := HP.out
      rw [← hS] at hn2 hpe hp2 cA rA
      rw [← hD] at hn2 hpe hp2 d0 d1
      rw [hpe] at hp2
      have HP2 := Lib.hid hp2; have HN2 := Lib.hid hn2
      clear hp2 hn2 hpe hS hD HPE HN HP
      simp only at cA d0 d1
      have zA1 : w1.heap.size < wr.heap.size + 1 := by omega
      go_wp2_with (go_at_call 57; refine (HMM.out _).mono ?_; rintro e wm ⟨rfl, rfl⟩)
      go_region
      have hnA : w1.heap.size ≠ wr.heap.size := by omega
      have hbase : some w1.heap.size ≠ (Value.slice A3 k c3).ownBlock := fun e => by have := (hown.lt _ e.symm).1; omega
      have hbaseD : some w.heap.size ≠ (Value.slice A3 k c3).ownBlock := fun e => by have := (hown.lt _ e.symm).1; omega
      have hbaseX : some wr.heap.size ≠ (Value.slice A3 k c3).ownBlock := fun e => by have := (hown.lt _ e.symm).2; omega
      have K : Below wr.heap.size wr ((wr.alloc (.cells #[.int .i64 s, .int .i64 s', .int .i64 dd, .int .i64 dd', .int .i64 0, .int .i64 0, .int .i64 0, .bool false, .int .i64 k, .int .i64 (m / 567 % 2)] 49)).drew) := by repeat (first | with_reducible exact Below.refl _ _ | with_reducible assumption | with_reducible refine below_drewN ?_ _ | with_reducible refine Below.drew ?_ | with_reducible refine below_alloc ?_ _ | (with_reducible refine Below.setCell ?_ ?_ _; rotate_left; ((try simp only); omega)))
      have rX : Blk ((wr.alloc (.cells #[.int .i64 s, .int .i64 s', .int .i64 dd, .int .i64 dd', .int .i64 0, .int .i64 0, .int .i64 0, .bool false, .int .i64 k, .int .i64 (m / 567 % 2)] 49)).drew) wr.heap.size 49 #[.int .i64 s, .int .i64 s', .int .i64 dd, .int .i64 dd', .int .i64 0, .int .i64 0, .int .i64 0, .bool false, .int .i64 k, .int .i64 (m / 567 % 2)] := (Blk.new _ _ _).drew
      have rA5 : Blk ((wr.alloc (.cells #[.int .i64 s, .int .i64 s', .int .i64 dd, .int .i64 dd', .int .i64 0, .int .i64 0, .int .i64 0, .bool false, .int .i64 k, .int .i64 (m / 567 % 2)] 49)).drew) w1.heap.size 45 #[.int .i64 s, .int .i64 s'] := (rA.alloc _).drew
      generalize (wr.alloc (.cells #[.int .i64 s, .int .i64 s', .int .i64 dd, .int .i64 dd', .int .i64 0, .int .i64 0, .int .i64 0, .bool false, .int .i64 k, .int .i64 (m / 567 % 2)] 49)).drew = wv at K rX rA5 ⊢
      have rD0 := rD
      have zAr := rA.lt
      clear rD cA zA fA d0 d1 c0 zA1 rA
      have rA := rA5; clear rA5
      have cA := rA.cell; have zA := rA.lt; have fA := rA.frozen
      have cX := rX.cell; have zX := rX.lt; have fX := rX.frozen
      have nAX : w1.heap.size ≠ wr.heap.size := by omega
      have nXA : wr.heap.size ≠ w1.heap.size := by omega
      have nDA : w.heap.size ≠ w1.heap.size := by omega
      have nDX : w.heap.size ≠ wr.heap.size := by omega
      have zX1 : wr.heap.size < wv.heap.size + 1 := by omega
      by_cases h6 : m / 567 = 6
      · skip
        have hn3 := HN2.out
        rw [show payS k m = ⟨(0, 0, 0), true, k, m / 567 % 2⟩ by unfold payS; rw [if_pos h6]] at hn3
        have HN3 := Lib.hid hn3
        have hb6 : (m / 567 == 6) = true := by simpa using h6
        clear hn3 h6 HN2
        have KS : Below wr.heap.size wr (((wv.setCell ⟨wr.heap.size, 7, none⟩ (.bool true))).alloc (.cells #[.int .i64 s, .int .i64 s', .int .i64 dd, .int .i64 dd', .int .i64 0, .int .i64 0, .int .i64 0, .bool true, .int .i64 k, .int .i64 (m / 567 % 2)] 49)) := by repeat (first | with_reducible exact Below.refl _ _ | with_reducible assumption | with_reducible refine below_drewN ?_ _ | with_reducible refine Below.drew ?_ | with_reducible refine below_alloc ?_ _ | (with_reducible refine Below.setCell ?_ ?_ _; rotate_left; ((try simp only); omega)))
        have rXS : Blk (wv.setCell ⟨wr.heap.size, 7, none⟩ (.bool true)) wr.heap.size 49 #[.int .i64 s, .int .i64 s', .int .i64 dd, .int .i64 dd', .int .i64 0, .int .i64 0, .int .i64 0, .bool true, .int .i64 k, .int .i64 (m / 567 % 2)] := by repeat (first | with_reducible exact rX | with_reducible exact Blk.new _ _ _ | (with_reducible refine Blk.newAt _ _ _ _ ?_; first | rfl | (simp; done)) | with_reducible apply Blk.alloc | with_reducible apply Blk.drewN | with_reducible apply Blk.drew | with_reducible apply Blk.set_to | (with_reducible apply Blk.far_; (simp only [ne_eq]; omega)) | rfl)
        have rAS : Blk (wv.setCell ⟨wr.heap.size, 7, none⟩ (.bool true)) w1.heap.size 45 #[.int .i64 s, .int .i64 s'] := by repeat (first | with_reducible exact rA | with_reducible exact Blk.new _ _ _ | (with_reducible refine Blk.newAt _ _ _ _ ?_; first | rfl | (simp; done)) | with_reducible apply Blk.alloc | with_reducible apply Blk.drewN | with_reducible apply Blk.drew | with_reducible apply Blk.set_to | (with_reducible apply Blk.far_; (simp only [ne_eq]; omega)) | rfl)
        have hwv : Hid (wv.heap.size = ((wv.setCell ⟨wr.heap.size, 7, none⟩ (.bool true))).heap.size) := Lib.hid (by simp [World.setCell])
        have hownS := own_call hown KS
        repeat ((fail_if_success at_builtin); go_step)
        refine wpList_append_any _ rfl (.tmp 66) (.tmp 68) 36 rfl (w1.heap.size + 1) 49 i0 _ 10 80 Tryz.underlying36 hi0 hz0 hz1 hz2 rfl (by omega) (.slice A3 k c3) k (csE (voiceS k l)) rfl hownS (wv.heap.size + 1) (some ⟨wv.heap.size, 0, none⟩) 1 1 (csE [⟨(s, s'), (dd, dd'), (0, 0, 0), true, k, m / 567 % 2⟩]) rfl (Reads.newAt _ _ _ 1 10 _ hwv.out rfl) (one_csE _) (by simp only [maxLen]; omega) (by omega) (by have := KS.size; omega) ?_
        intro v6 w6 hown6 hg6 hat6
        have r6 := Blk.grownV (rXS.alloc _) hg6 hbaseX
        have a6 := Blk.grownV (rAS.alloc _) hg6 hbase
        have D6 := Blk.grownV (rD0.kept KS) hg6 hbaseD
        have c6 := r6.cell
        have e6 := a6.cell
        have y6 := r6.lt
        have z6 := a6.lt
        go_wp2_with fail
        have K6 : Below w.heap.size w w6 := (below_call k2 KS).grown hg6 (by have := KS.size; omega) (fun j hj => by have := (hown.lt j hj).1; omega)
        rw [← csE_append, show voiceS k l ++ [(⟨(s, s'), (dd, dd'), (0, 0, 0), true, k, m / 567 % 2⟩ : Ev)] = voiceS (k + 1) l from HN3.out.symm] at hown6
        refine (HP2.out _).mono ?_
        rintro e w7 ⟨rfl, hb7⟩
        have a7 := a6.kept hb7; have D7 := D6.kept hb7
        have c7 := a7.cell; have z7 := a7.lt; have f7 := a7.frozen
        have K7 := below_call K6 hb7
        have hown7 := own_call hown6 hb7
        go_wp2_with fail
        go_roundw
        case rel =>
          refine ⟨k + 1, by omega, by go_num, own_farV (own_farV hown7 (by simp)) (by simp), by repeat (first | with_reducible exact Below.refl _ _ | with_reducible assumption | with_reducible refine below_drewN ?_ _ | with_reducible refine Below.drew ?_ | with_reducible refine below_alloc ?_ _ | (with_reducible refine Below.setCell ?_ ?_ _; rotate_left; ((try simp only); omega))), ?_, ?_⟩
          · repeat (first | with_reducible exact D7 | with_reducible exact Blk.new _ _ _ | (with_reducible refine Blk.newAt _ _ _ _ ?_; first | rfl | (simp; done)) | with_reducible apply Blk.alloc | with_reducible apply Blk.drewN | with_reducible apply Blk.drew | with_reducible apply Blk.set_to | (with_reducible apply Blk.far_; (simp only [ne_eq]; omega)) | rfl)
          · rw [HS.out]
            repeat (first | with_reducible exact a7 | with_reducible exact Blk.new _ _ _ | (with_reducible refine Blk.newAt _ _ _ _ ?_; first | rfl | (simp; done)) | with_reducible apply Blk.alloc | with_reducible apply Blk.drewN | with_reducible apply Blk.drew | with_reducible apply Blk.set_to | (with_reducible apply Blk.far_; (simp only [ne_eq]; omega)) | rfl)
        case measure => simp [intOf]; omega
      · skip
        have hn3 := HN2.out
        rw [show payS k m = ⟨(m % 7, 3 + m / 7 % 3, m / 21 % 3 - 1), false, k, m / 567 % 2⟩ by unfold payS; rw [if_neg h6]] at hn3
        have HN3 := Lib.hid hn3
        have hb6 : (m / 567 == 6) = false := by simpa using h6
        clear hn3 h6 HN2
        have KS : Below wr.heap.size wr (((((wv.setCell ⟨wr.heap.size, 4, none⟩ (.int .i64 (m % 7))).setCell ⟨wr.heap.size, 5, none⟩ (.int .i64 (3 + m / 7 % 3))).setCell ⟨wr.heap.size, 6, none⟩ (.int .i64 (m / 21 % 3 - 1)))).alloc (.cells #[.int .i64 s, .int .i64 s', .int .i64 dd, .int .i64 dd', .int .i64 (m % 7), .int .i64 (3 + m / 7 % 3), .int .i64 (m / 21 % 3 - 1), .bool false, .int .i64 k, .int .i64 (m / 567 % 2)] 49)) := by repeat (first | with_reducible exact Below.refl _ _ | with_reducible assumption | with_reducible refine below_drewN ?_ _ | with_reducible refine Below.drew ?_ | with_reducible refine below_alloc ?_ _ | (with_reducible refine Below.setCell ?_ ?_ _; rotate_left; ((try simp only); omega)))
        have rXS : Blk (((wv.setCell ⟨wr.heap.size, 4, none⟩ (.int .i64 (m % 7))).setCell ⟨wr.heap.size, 5, none⟩ (.int .i64 (3 + m / 7 % 3))).setCell ⟨wr.heap.size, 6, none⟩ (.int .i64 (m / 21 % 3 - 1))) wr.heap.size 49 #[.int .i64 s, .int .i64 s', .int .i64 dd, .int .i64 dd', .int .i64 (m % 7), .int .i64 (3 + m / 7 % 3), .int .i64 (m / 21 % 3 - 1), .bool false, .int .i64 k, .int .i64 (m / 567 % 2)] := by repeat (first | with_reducible exact rX | with_reducible exact Blk.new _ _ _ | (with_reducible refine Blk.newAt _ _ _ _ ?_; first | rfl | (simp; done)) | with_reducible apply Blk.alloc | with_reducible apply Blk.drewN | with_reducible apply Blk.drew | with_reducible apply Blk.set_to | (with_reducible apply Blk.far_; (simp only [ne_eq]; omega)) | rfl)
        have rAS : Blk (((wv.setCell ⟨wr.heap.size, 4, none⟩ (.int .i64 (m % 7))).setCell ⟨wr.heap.size, 5, none⟩ (.int .i64 (3 + m / 7 % 3))).setCell ⟨wr.heap.size, 6, none⟩ (.int .i64 (m / 21 % 3 - 1))) w1.heap.size 45 #[.int .i64 s, .int .i64 s'] := by repeat (first | with_reducible exact rA | with_reducible exact Blk.new _ _ _ | (with_reducible refine Blk.newAt _ _ _ _ ?_; first | rfl | (simp; done)) | with_reducible apply Blk.alloc | with_reducible apply Blk.drewN | with_reducible apply Blk.drew | with_reducible apply Blk.set_to | (with_reducible apply Blk.far_; (simp only [ne_eq]; omega)) | rfl)
        have hwv : Hid (wv.heap.size = ((((wv.setCell ⟨wr.heap.size, 4, none⟩ (.int .i64 (m % 7))).setCell ⟨wr.heap.size, 5, none⟩ (.int .i64 (3 + m / 7 % 3))).setCell ⟨wr.heap.size, 6, none⟩ (.int .i64 (m / 21 % 3 - 1)))).heap.size) := Lib.hid (by simp [World.setCell])
        have hownS := own_call hown KS
        repeat ((fail_if_success at_builtin); go_step)
        refine wpList_append_any _ rfl (.tmp 66) (.tmp 68) 36 rfl (w1.heap.size + 1) 49 i0 _ 10 80 Tryz.underlying36 hi0 hz0 hz1 hz2 rfl (by omega) (.slice A3 k c3) k (csE (voiceS k l)) rfl hownS (wv.heap.size + 1) (some ⟨wv.heap.size, 0, none⟩) 1 1 (csE [⟨(s, s'), (dd, dd'), (m % 7, 3 + m / 7 % 3, m / 21 % 3 - 1), false, k, m / 567 % 2⟩]) rfl (Reads.newAt _ _ _ 1 10 _ hwv.out rfl) (one_csE _) (by simp only [maxLen]; omega) (by omega) (by have := KS.size; omega) ?_
        intro v6 w6 hown6 hg6 hat6
        have r6 := Blk.grownV (rXS.alloc _) hg6 hbaseX
        have a6 := Blk.grownV (rAS.alloc _) hg6 hbase
        have D6 := Blk.grownV (rD0.kept KS) hg6 hbaseD
        have c6 := r6.cell
        have e6 := a6.cell
        have y6 := r6.lt
        have z6 := a6.lt
        go_wp2_with fail
        have K6 : Below w.heap.size w w6 := (below_call k2 KS).grown hg6 (by have := KS.size; omega) (fun j hj => by have := (hown.lt j hj).1; omega)
        rw [← csE_append, show voiceS k l ++ [(⟨(s, s'), (dd, dd'), (m % 7, 3 + m / 7 % 3, m / 21 % 3 - 1), false, k, m / 567 % 2⟩ : Ev)] = voiceS (k + 1) l from HN3.out.symm] at hown6
        refine (HP2.out _).mono ?_
        rintro e w7 ⟨rfl, hb7⟩
        have a7 := a6.kept hb7; have D7 := D6.kept hb7
        have c7 := a7.cell; have z7 := a7.lt; have f7 := a7.frozen
        have K7 := below_call K6 hb7
        have hown7 := own_call hown6 hb7
        go_wp2_with fail
        go_roundw
        case rel =>
          refine ⟨k + 1, by omega, by go_num, own_farV (own_farV hown7 (by simp)) (by simp), by repeat (first | with_reducible exact Below.refl _ _ | with_reducible assumption | with_reducible refine below_drewN ?_ _ | with_reducible refine Below.drew ?_ | with_reducible refine below_alloc ?_ _ | (with_reducible refine Below.setCell ?_ ?_ _; rotate_left; ((try simp only); omega))), ?_, ?_⟩
          · repeat (first | with_reducible exact D7 | with_reducible exact Blk.new _ _ _ | (with_reducible refine Blk.newAt _ _ _ _ ?_; first | rfl | (simp; done)) | with_reducible apply Blk.alloc | with_reducible apply Blk.drewN | with_reducible apply Blk.drew | with_reducible apply Blk.set_to | (with_reducible apply Blk.far_; (simp only [ne_eq]; omega)) | rfl)
          · rw [HS.out]
            repeat (first | with_reducible exact a7 | with_reducible exact Blk.new _ _ _ | (with_reducible refine Blk.newAt _ _ _ _ ?_; first | rfl | (simp; done)) | with_reducible apply Blk.alloc | with_reducible apply Blk.drewN | with_reducible apply Blk.drew | with_reducible apply Blk.set_to | (with_reducible apply Blk.far_; (simp only [ne_eq]; omega)) | rfl)
        case measure => simp [intOf]; omega
    · obtain ⟨A3, c3, rfl, ho3⟩ := ownE_form hown
      have hkk : k = min most n := by omega
      have hts : voiceS k l = voiceS most l := by
        unfold voiceS
        rw [hkk]
        have := HL.out
        congr 2
        rcases Nat.le_total most n with h1 | h1
        · rw [Nat.min_eq_left h1]
        · rw [Nat.min_eq_right h1, List.take_of_length_le (by omega), List.take_of_length_le (by omega)]
      rw [hts] at ho3
      have e2 := HL2.out
      rw [← hkk] at e2
      by_cases hkm : k < most
      · have hkm' : (k : Int) < (most : Int) := by omega
        have hkn : k = n := by omega
        clear hkk e2
        subst hkn
        have e3 : (voiceS most l).length = k := by rw [HL2.out]; omega
        have E3 := Lib.hid e3; clear e3
        go_wp2
        go_ret
        rw [E3.out]
        exact ⟨_, _, rfl, ho3.lowerV (by omega), k2⟩
      · have hkm' : (most : Int) ≤ (k : Int) := by omega
        have E3 := Lib.hid e2; clear e2 hkk
        go_wp2
        all_goals
          go_ret
          rw [E3.out]
          exact ⟨_, _, rfl, ho3.lowerV (by omega), k2⟩
end Go.Proofs.YtpkmiegccfhpnaaGreatDoor
/- Arguments that are slices of structs or of numbers, opened: each reads as a list. -/

namespace Go.Proofs.YtpkmiegccfhpnaaGreatDoor
set_option maxRecDepth 100000
open Go.ChangeShapes Go.WideShapes Go.Deep Go.RowKit

theorem addr_add' (b off j : Nat) : (⟨b, off, none⟩ : Addr).add j = ⟨b, off + j, none⟩ := by
  unfold Addr.add
  split
  · rename_i h; subst h; simp
  · rfl
section
variable {H : Type} {enc : TypeId × Value → H} {P : Program} {w : World} {base : Nat} {spare : Nat → Bool} {held : Bool}
end
/-- Where each element's cells stand at the address, the slice reads as the list. -/
theorem reads_of {α : Type} {f : α → List Value} {size : Nat} (hf : ∀ x, (f x).length = size) (hs : 0 < size) {w : World} {a : Addr} {n : Nat} {l : List α} (hl : l.length = n)
    (h : ∀ i x, l[i]? = some x → ∀ j u, (f x)[j]? = some u → w.cell? (a.add (i * size + j)) = some u) : Reads w w.heap.size size (some a) n (l.flatMap f) := by
  refine ⟨by rw [flat_len f size hf, hl], fun hn => ?_⟩
  obtain ⟨x0, hx0⟩ := get_some (l := l) (k := 0) (by omega)
  obtain ⟨u0, hu0⟩ := get_some (l := f x0) (k := 0) (by rw [hf]; exact hs)
  have h0 := h 0 x0 hx0 0 u0 hu0
  have hspot : a.spot = none := by simpa [Addr.add] using World.cell?_spot h0
  obtain ⟨b, off, spot⟩ := a
  simp only at hspot
  subst hspot
  have hb : b < w.heap.size := by
    have := World.block_lt_of_cell? w _ h0
    simpa [Addr.add] using this
  refine ⟨b, off, rfl, hb, fun j u hj => ?_⟩
  have hjl : j < n * size := by
    have h2 := (List.getElem?_eq_some_iff.1 hj).1
    rwa [flat_len f size hf, hl] at h2
  have hk : j / size < n := (Nat.div_lt_iff_lt_mul hs).2 hjl
  obtain ⟨x, hx⟩ := get_some (l := l) (k := j / size) (by omega)
  have hjm : j / size * size + j % size = j := by rw [Nat.mul_comm]; exact Nat.div_add_mod j size
  have h1 := flat_get f size hf l (j / size) (j % size) x hx (Nat.mod_lt _ hs)
  rw [hjm, hj] at h1
  have h2 := h (j / size) x hx (j % size) u h1.symm
  rwa [hjm, addr_add'] at h2
section
variable {H : Type} {enc : TypeId × Value → H} {W : World} {base b0 : Nat} {spare : Nat → Bool} {held : Bool} {r : Reach} {v : Value} {d : DataW H} {p : List MemPlace}
end
end Go.Proofs.YtpkmiegccfhpnaaGreatDoor

/- Arguments that are lists of events, opened. -/

namespace Go.Proofs.YtpkmiegccfhpnaaGreatDoor
set_option maxRecDepth 100000
open Go.ChangeShapes Go.WideShapes Go.Deep Go.RowKit
section
variable {H : Type} {enc : TypeId × Value → H} {w : World} {base : Nat} {spare : Nat → Bool} {held : Bool}
end
section
variable {H : Type} {enc : TypeId × Value → H} {W : World} {base b0 : Nat} {spare : Nat → Bool} {held : Bool} {r : Reach} {v : Value} {d : DataW H} {p : List MemPlace}
end
end Go.Proofs.YtpkmiegccfhpnaaGreatDoor

/- Arguments that are lists of voices, opened. -/

namespace Go.Proofs.YtpkmiegccfhpnaaGreatDoor
set_option maxRecDepth 100000
open Go.ChangeShapes Go.WideShapes Go.Deep Go.RowKit
section
variable {H : Type} {enc : TypeId × Value → H} {W : World} {base b0 : Nat} {spare : Nat → Bool} {held : Bool} {r : Reach} {v : Value} {d : DataW H} {p : List MemPlace}
end
end Go.Proofs.YtpkmiegccfhpnaaGreatDoor

/- Arguments that are lists of numbers, opened. -/

namespace Go.Proofs.YtpkmiegccfhpnaaGreatDoor
set_option maxRecDepth 100000
open Go.ChangeShapes Go.WideShapes Go.Deep Go.RowKit
section
variable {H : Type} {enc : TypeId × Value → H} {W : World} {base b0 : Nat} {spare : Nat → Bool} {held : Bool} {r : Reach} {v : Value} {d : DataW H} {p : List MemPlace}
theorem arg_ints (hv : Value.okWide Tryz.prog W r b0 40 v) (h : DataW.Trod enc Tryz.prog W base spare held 40 v d p) :
    ∃ (A : Option Addr) (n c : Nat) (l : List Int), v = .slice A n c ∧ Reads W W.heap.size 1 A n (csI l) ∧ n ≤ 9223372036854775807 ∧ ∀ x ∈ l, -9223372036854775808 ≤ x ∧ x ≤ 9223372036854775807 := by
  obtain ⟨A, n, c, rfl⟩ := okWide_slice Tryz.underlying40 hv
  obtain ⟨fuel, hf⟩ := h
  rcases open_ints Tryz.underlying40 Tryz.underlying3 (by kernel_rfl) hf with ⟨hcs, _⟩ | ⟨a, len, cap, zs, hcs, _, hl, hm, hz, _, hc, hw⟩
  · simp [Value.cells] at hcs
    obtain ⟨rfl, rfl, rfl⟩ := hcs
    exact ⟨none, 0, 0, [], rfl, Reads.none_, by omega, by simp⟩
  · simp [Value.cells] at hcs
    obtain ⟨rfl, rfl, rfl⟩ := hcs
    have hzl : n ≤ zs.length := by rw [hz]; split <;> omega
    refine ⟨some a, n, c, zs.take n, rfl, reads_of (size := 1) (f := fun n => [Value.int .i64 n]) (fun _ => rfl) (by decide) (by rw [List.length_take]; omega) fun i x hx j u hu => ?_, by unfold maxLen at hm; omega, fun x hx => bounds_i64 (hw x (List.mem_of_mem_take hx))⟩
    match j, hu with
    | 0, hu =>
      simp at hu
      subst hu
      rw [List.getElem?_take] at hx
      split at hx
      · obtain ⟨hi, rfl⟩ := List.getElem?_eq_some_iff.1 hx
        have := hc i hi
        simpa [List.getD, hi] using this
      · cases hx
    | j + 1, hu => simp at hu
end
theorem rdi {w w' : World} {A : Option Addr} {n : Nat} {xs : List Value} (h : Reads w w.heap.size 1 A n xs) (hb : Below w.heap.size w w') : Reads w' w'.heap.size 1 A n xs := (h.below (Nat.le_refl _) hb).more hb.size
end Go.Proofs.YtpkmiegccfhpnaaGreatDoor

/- Facts that all row proofs of this seat share (rows without a package variable). -/

namespace Go.Proofs.YtpkmiegccfhpnaaGreatDoor
open Go.ChangeShapes Go.WideShapes Go.ChangeAt Go.RowKit
set_option maxRecDepth 100000 in
theorem laidOut : laidOutB Tryz.prog = true := by kernel_rfl
section
variable {H : Type} {enc : TypeId × Value → H} {W : World} {base b0 : Nat} {spare : Nat → Bool} {held : Bool} {r : Reach} {v : Value} {d : DataW H} {p : List MemPlace}
end
end Go.Proofs.YtpkmiegccfhpnaaGreatDoor
namespace Go.Proofs.YtpkmiegccfhpnaaGreatDoor
/-! ### Clausulae -/
/-! ### Cadences -/
/-! ### Proposals -/
def roundS (l : List (List Ev)) : List Fic := listF l (rnd l fun _ => none)
def roundE (l : List (List Ev)) : List Fic × Int := if (slicesE l).2 ≠ 0 then ([], (slicesE l).2) else (roundS l, 0)
end Go.Proofs.YtpkmiegccfhpnaaGreatDoor
namespace Go.Proofs.YtpkmiegccfhpnaaGreatDoor
/-! ### A round proposes free notes alone -/
/-! ### All rounds -/
/-- Nothing more is proposed for the setting with all proposals. -/
theorem all_done (l : List (List Ev)) : roundS (withL l (allFi l)) = [] := by
  obtain ⟨⟨lF, h1, h2⟩, _⟩ := allF_spec l
  have e : withL l (allFi l) = lF := h1.is.symm
  rw [e]
  unfold roundS listF
  rw [List.filterMap_eq_nil_iff]
  intro p _
  cases hr : rnd lF (fun _ => none) p with
  | none => rfl
  | some y =>
    exfalso
    have hfree := (rnd_some' hr).2.1
    rw [h1.free p, Bool.and_eq_true] at hfree
    have hd : (allF l).1 p = none := by
      cases hh : (allF l).1 p with
      | none => rfl
      | some z => rw [hh] at hfree; cases hfree.2
    have := h2 p
    unfold rnd at this hr
    rw [hd] at this
    rw [this] at hr
    cases hr
end Go.Proofs.YtpkmiegccfhpnaaGreatDoor
