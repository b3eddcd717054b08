/- Further parts of the proofs of layer 31: Plain, Spans, Events, AlMem, Opened, DsPlain. -/
import Derived.Test.YtpkmiegccfhpnaaGreatDoorK01
import Derived.Test.YtpkmiegccfhpnaaGreatDoorK02
import Derived.Test.YtpkmiegccfhpnaaGreatDoorK03
import Derived.Test.YtpkmiegccfhpnaaGreatDoorK04
import Derived.Test.YtpkmiegccfhpnaaGreatDoorK05
import Derived.Test.YtpkmiegccfhpnaaGreatDoorK06
import Derived.Test.YtpkmiegccfhpnaaGreatDoorK07
import Derived.Test.YtpkmiegccfhpnaaGreatDoorK08
import Derived.Test.YtpkmiegccfhpnaaGreatDoorK09
import Derived.Test.YtpkmiegccfhpnaaGreatDoorK10
import Derived.Test.YtpkmiegccfhpnaaGreatDoorK11
import Derived.Test.YtpkmiegccfhpnaaGreatDoorK12
import Derived.Test.YtpkmiegccfhpnaaGreatDoorK13
import Derived.Test.YtpkmiegccfhpnaaGreatDoorK14
import Derived.Test.YtpkmiegccfhpnaaGreatDoorK15
import Derived.Test.YtpkmiegccfhpnaaGreatDoorK16
import Derived.Test.YtpkmiegccfhpnaaGreatDoorK17
import Derived.Test.YtpkmiegccfhpnaaGreatDoorK18
import Derived.Test.YtpkmiegccfhpnaaGreatDoorK19
import Derived.Test.YtpkmiegccfhpnaaGreatDoorK20
import Derived.Test.YtpkmiegccfhpnaaGreatDoorK21
import Derived.Test.YtpkmiegccfhpnaaGreatDoorK22
import Derived.Test.YtpkmiegccfhpnaaGreatDoorK23
import Derived.Test.YtpkmiegccfhpnaaGreatDoorProg
import Derived.WalkKit
import Derived.WalkSpells
import Derived.WalkLawsBesides
import Derived.Deep.QuietTactic
import Derived.BigQuiet
import Derived.BigGuardPart
import Derived.Lib.Hide
import Derived.RegionTactic
import Derived.ChangeAlike
import Derived.Laws.OwnMore
import Derived.Deep.AppendLies
import Derived.Deep.Draws
import Derived.Deep.RegionHeld3
import Derived.Maps.AppendAt
import Derived.OwnWalk
import Derived.StillTail
import Derived.ProofKit
import Derived.OpenShut
import Derived.Deep.Slices
import Derived.Deep.Fields
import Derived.ChangeSame
import Derived.ChangeArms
import Derived.BigRegion
import Derived.ArgAppend
import Derived.Test.YtpkmiegccfhpnaaGreatDoorRows
import Derived.Stop.Joined
import Derived.ChangeOld
import Derived.Below
import Derived.Lib.SmallJoins
/- Plain mathematics of times (layer span): greatest common divisors, validity, quotients, sums, products; no program in sight. -/
namespace Go.Proofs.YtpkmiegccfhpnaaGreatDoor

/-! ### The functions of the layer, as both the program and the reference compute them -/
/-! ### Facts -/
/-! ### The product: the program's way and the reference's -/
end Go.Proofs.YtpkmiegccfhpnaaGreatDoor

/- Plain mathematics of times: canonical fractions are equal where their values are; sums, differences, products and quotients by their values; times that are whole multiples of 1/24. -/
namespace Go.Proofs.YtpkmiegccfhpnaaGreatDoor

/-! ### Whole multiples of 1/24 -/
end Go.Proofs.YtpkmiegccfhpnaaGreatDoor

/- Plain mathematics of voices: events, whether they are a voice, chains, changes; no program in sight. -/
namespace Go.Proofs.YtpkmiegccfhpnaaGreatDoor

/-! ### Pitches -/
/-! ### The transformations -/
/-! ### A voice that is one is chained as it is -/
end Go.Proofs.YtpkmiegccfhpnaaGreatDoor

/- Plain mathematics of cut voices. -/
namespace Go.Proofs.YtpkmiegccfhpnaaGreatDoor

def lessB (a b : Int × Int) : Bool := decide ((cmpS a b).1 < 0)
end Go.Proofs.YtpkmiegccfhpnaaGreatDoor

/- How long the transformed voices are. -/
namespace Go.Proofs.YtpkmiegccfhpnaaGreatDoor
end Go.Proofs.YtpkmiegccfhpnaaGreatDoor

/- Plain mathematics of the statements on small times: the times made of numbers are whole multiples of 1/24; sums and products are taken back; a whole multiple and a rest. -/
namespace Go.Proofs.YtpkmiegccfhpnaaGreatDoor
end Go.Proofs.YtpkmiegccfhpnaaGreatDoor

/- Plain mathematics of voices made of numbers: their times are whole multiples of 1/q; turned round, upside down, moved, stretched, joined, delayed, cut. -/
namespace Go.Proofs.YtpkmiegccfhpnaaGreatDoor

/-! ### Whole multiples of 1/q -/
/-! ### Voices laid out -/
/-! ### Pitches changed -/
/-! ### Stretched -/
end Go.Proofs.YtpkmiegccfhpnaaGreatDoor

/- Plain mathematics of voices made of numbers: what the kit's Voice makes; pitches; products; joined, delayed and cut voices; ends. -/
namespace Go.Proofs.YtpkmiegccfhpnaaGreatDoor

/-! ### What Voice makes -/
/-! ### Pitches -/
/-! ### Products -/
/-! ### Ends, joined and delayed voices -/
/-! ### Cut -/
section
variable {q f t : Int} (hq : okq q) (hf : 0 ≤ f) (hft : f ≤ t) (ht : t ≤ 1099511627776)
include hq hf hft ht
end
/-! ### The kit's sums -/
end Go.Proofs.YtpkmiegccfhpnaaGreatDoor

/- Plain mathematics of settings: times in order, moments, the event that sounds at a time, slices; no program in sight. -/
namespace Go.Proofs.YtpkmiegccfhpnaaGreatDoor

/-! ### Times in order -/
/-! ### Ascending lists -/
theorem withS_pos (l : List Tm) (t : Tm) : withS l t = if l[posW l t]? = some t then l else l.take (posW l t) ++ t :: l.drop (posW l t) := by
  induction l with
  | nil => simp [withS, posW]
  | cons x l ih =>
    unfold withS posW
    split
    · rw [ih]
      simp only [List.getElem?_cons_succ, List.take_succ_cons, List.drop_succ_cons, List.cons_append]
      split <;> rfl
    · simp only [List.getElem?_cons_zero, List.take_zero, List.drop_zero, List.nil_append, Option.some.injEq]
/-! ### Valid voices -/
end Go.Proofs.YtpkmiegccfhpnaaGreatDoor

/- Plain mathematics of settings: the program's moments are the reference's; the event that sounds; slices. -/
namespace Go.Proofs.YtpkmiegccfhpnaaGreatDoor

/-! ### Members -/
/-! ### The program's own moments of a voice -/
/-! ### The program's merge of two ascending lists -/
end Go.Proofs.YtpkmiegccfhpnaaGreatDoor

/- Plain mathematics of settings: checks, the event that sounds at a time, slices. -/
namespace Go.Proofs.YtpkmiegccfhpnaaGreatDoor
/-! ### The event that sounds at a time -/
theorem onFrom_drop {v : List Ev} {t : Tm} {k : Nat} {x : Ev} (hx : v[k]? = some x) : onFrom k (v.drop k) t = if holdB x t = true then (k : Int) else onFrom ((k + 1 : Nat) : Int) (v.drop (k + 1)) t := by
  obtain ⟨hk, rfl⟩ := List.getElem?_eq_some_iff.1 hx
  rw [List.drop_eq_getElem_cons hk]
  rfl
/-! ### Slices -/
end Go.Proofs.YtpkmiegccfhpnaaGreatDoor

/- What End, At, Starts and Back answer: plain mathematics, no program in sight. -/
namespace Go.Proofs.YtpkmiegccfhpnaaGreatDoor
/-! ### The end, a time's slice -/
/-! ### Who starts -/
/-! ### Sums of slices -/
end Go.Proofs.YtpkmiegccfhpnaaGreatDoor

/- Sorting by insertion, from the front and from behind: plain mathematics, no program in sight. -/
namespace Go.Proofs.YtpkmiegccfhpnaaGreatDoor
/-! ### Who sounds, by pitch -/
end Go.Proofs.YtpkmiegccfhpnaaGreatDoor

/- Plain mathematics of settings of voices made of numbers: all times are whole 24ths; slices follow one another; sums of slices. -/
namespace Go.Proofs.YtpkmiegccfhpnaaGreatDoor
/-! ### Times that are whole 24ths -/
/-! ### A voice laid in 24ths -/
/-! ### Moments -/
section
variable {M : Int} {l : List (List Ev)} (h : SetQ M l)
include h
end
end Go.Proofs.YtpkmiegccfhpnaaGreatDoor

/- Plain mathematics: slices of voices made of numbers follow one another from 0 to the greatest end, in each something changes, events are the sums of their slices. -/
namespace Go.Proofs.YtpkmiegccfhpnaaGreatDoor
section
variable {M : Int} {l : List (List Ev)} (h : SetQ M l)
include h
/-! ### Slices from 0 to the end -/
/-! ### In each slice something changes -/
/-! ### Events are the sums of their slices -/
end
section
variable {M : Int} {l : List (List Ev)} (h : SetQ M l)
include h
end
end Go.Proofs.YtpkmiegccfhpnaaGreatDoor
/- The walks through the functions of the layer span and of its reference: what each returns. -/

namespace Go.Proofs.YtpkmiegccfhpnaaGreatDoor
open Go.RowKit

set_option maxHeartbeats 400000 in
theorem gcd_any (a b : Int) (w : World) (ha : 0 ≤ a) (ha' : a ≤ 9223372036854775807) (hb : 0 ≤ b) (hb' : b ≤ 9223372036854775807) :
    Calls Tryz.prog 106 #[.int .i64 a, .int .i64 b] w fun e w' => e = .returned (.int .i64 (gg a b)) ∧ w = w' := by
  go_enter Tryz.func106, Tryz.ntmps106
  go_wp2
  go_loop [0, 1, 5] (fun x y _ => ∃ p q : Int, 0 ≤ p ∧ p ≤ 9223372036854775807 ∧ 0 ≤ q ∧ q ≤ 9223372036854775807 ∧ x = .int .i64 p ∧ y = .int .i64 q ∧ Hid (gg p q = gg a b)) (fun _ y _ => (intOf y).toNat)
  case atStart => exact ⟨a, b, ha, ha', hb, hb', rfl, rfl, rfl⟩
  case round =>
    obtain ⟨p, q, h1, h2, h3, h4, rfl, rfl, hg⟩ := hrel
    by_cases hq : 0 < q
    · have hm0 := Int.emod_nonneg p (show q ≠ 0 by omega)
      have hm1 := Int.emod_lt_of_pos p hq
      have hs := Lib.hid (gg_step p q h1 h3)
      go_wp2
      go_round
      case rel => exact ⟨q, p % q, by omega, by omega, by omega, by omega, rfl, rfl, hs.out.symm.trans hg.out⟩
      case measure => simp [intOf]; omega
    · obtain rfl : q = 0 := by omega
      go_wp2
      go_ret
      exact ⟨ret_int ((gg_zero p h1).symm.trans hg.out), rfl⟩

set_option maxHeartbeats 400000 in
theorem refCheck_any (n d : Int) (w : World) :
    Calls Tryz.prog 105 #[.agg #[.int .i64 n, .int .i64 d]] w fun e w' => e = .returned (.int .i64 (chk n d)) ∧ Below w.heap.size w w' := by
  go_enter Tryz.func105, Tryz.ntmps105
  go_wp2_with (go_at_call 106; refine (gcd_any _ _ _ (by omega) (by omega) (by omega) (by omega)).mono ?_; rintro e w' ⟨rfl, rfl⟩)
  all_goals
    go_ret
    refine ⟨ret_int ?_, ?_⟩
    · first
        | (unfold chk; (repeat' split) <;> first | rfl | omega)
        | (have hg : ¬ gg n d = 1 := by simpa using ‹(gg n d != 1) = true›
           have hp := gg_pos n d (.inr (by omega))
           unfold chk; (repeat' split) <;> first | rfl | omega)
        | (have hg : gg n d = 1 := by simpa using ‹(gg n d != 1) = false›
           unfold chk; (repeat' split) <;> first | rfl | omega)
    · repeat (first | exact Below.refl _ _ | refine below_drewN ?_ _ | refine Below.drew ?_ | refine below_alloc ?_ _ | (refine below_call ?_ (by assumption)) | (refine Below.setCell ?_ ?_ _; rotate_left; (simp; try omega)))

set_option maxHeartbeats 400000 in
theorem of_any (n d : Int) (w : World) (hn0 : 0 ≤ n) (hn : n ≤ 9223372036854775807) (hd0 : 1 ≤ d) (hd : d ≤ 9223372036854775807) :
    Calls Tryz.prog 80 #[.int .i64 n, .int .i64 d] w fun e w' => e = .returned (vT (ofq n d)) ∧ Below w.heap.size w w' := by
  have hp := gg_pos n d (.inr (by omega))
  go_enter Tryz.func80, Tryz.ntmps80
  go_wp2_with (go_at_call 106; refine (gcd_any _ _ _ (by omega) (by omega) (by omega) (by omega)).mono ?_; rintro e w' ⟨rfl, rfl⟩)
  all_goals
    refine ret_of (by simp [results, Tryz.results80, go_sem]; repeat' (first | rfl | apply And.intro)) rfl ⟨vT_ret ?_, ?_⟩
    · unfold ofq; (repeat' split) <;> first | rfl | omega
    · repeat (first | exact Below.refl _ _ | refine below_drewN ?_ _ | refine Below.drew ?_ | refine below_alloc ?_ _ | (refine below_call ?_ (by assumption)) | (refine Below.setCell ?_ ?_ _; rotate_left; (simp; try omega)))

set_option maxHeartbeats 400000 in
theorem refBoth_any (a b : Int × Int) (w : World) :
    Calls Tryz.prog 79 #[.agg #[.int .i64 a.1, .int .i64 a.2], .agg #[.int .i64 b.1, .int .i64 b.2]] w fun e w' => e = .returned (.int .i64 (both a b)) ∧ Below w.heap.size w w' := by
  obtain ⟨a, a'⟩ := a
  obtain ⟨b, b'⟩ := b
  go_enter Tryz.func79, Tryz.ntmps79
  go_wp2_with (go_at_call 105; refine (refCheck_any _ _ _).mono ?_; rintro e w1 ⟨rfl, hb1⟩; have hc1 := (bcell hb1).1)
  · go_ret
    have hne : (chk a a' != 0) = true := by assumption
    refine ⟨ret_int ?_, ?_⟩
    · unfold both; rw [if_pos (by simpa using hne)]
    · repeat (first | exact Below.refl _ _ | refine below_drewN ?_ _ | refine Below.drew ?_ | refine below_alloc ?_ _ | (refine below_call ?_ (by assumption)) | (refine Below.setCell ?_ ?_ _; rotate_left; (simp; try omega)))
  · go_ret
    have hne : (chk a a' != 0) = false := by assumption
    refine ⟨ret_int ?_, ?_⟩
    · unfold both; rw [if_neg (by simpa using hne)]
    · repeat (first | exact Below.refl _ _ | refine below_drewN ?_ _ | refine Below.drew ?_ | refine below_alloc ?_ _ | (refine below_call ?_ (by assumption)) | (refine Below.setCell ?_ ?_ _; rotate_left; (simp; try omega)))

set_option maxHeartbeats 400000 in
theorem refAdd_any (a b : Int × Int) (w : World) :
    Calls Tryz.prog 104 #[.agg #[.int .i64 a.1, .int .i64 a.2], .agg #[.int .i64 b.1, .int .i64 b.2]] w fun e w' => e = .returned (vT (addS a b)) ∧ Below w.heap.size w w' := by
  obtain ⟨a, a'⟩ := a
  obtain ⟨b, b'⟩ := b
  by_cases hz : both (a, a') (b, b') = 0
  · obtain ⟨⟨a1, a2, a3, a4, a5⟩, ⟨b1, b2, b3, b4, b5⟩⟩ := both_ok hz
    simp only at a1 a2 a3 a4 a5 b1 b2 b3 b4 b5
    have m1 := mul_bd a1 (show 0 ≤ b' by omega) a2 b4
    have m2 := mul_bd b1 (show 0 ≤ a' by omega) b2 a4
    have m3 := mul_bd (show 0 ≤ a' by omega) (show 0 ≤ b' by omega) a4 b4
    have m4 : 1 ≤ a' * b' := by have := Int.mul_le_mul a3 b3 (by omega) (by omega); omega
    have A5 := Lib.hid a5; have B5 := Lib.hid b5; clear a5 b5
    go_enter Tryz.func104, Tryz.ntmps104
    go_wp2_with (first | (go_at_call 79; refine (refBoth_any (_, _) (_, _) _).mono ?_; rintro e w1 ⟨rfl, hb1⟩; have hc1 := (bcell hb1).1; have hf1 := (bcell hb1).2) | (go_at_call 80; refine (of_any _ _ _ (by omega) (by omega) (by omega) (by omega)).mono ?_; rintro e w2 ⟨rfl, hb2'⟩; have hb2 := below_call hb1 hb2'; clear hb2'; have hc2 := (bcell hb2).1; have hf2 := (bcell hb2).2))
    refine ret_of (by simp [results, Tryz.results104, go_sem, hc2]; repeat' (first | rfl | apply And.intro)) rfl ⟨vT_ret ?_, ?_⟩
    · unfold addS; rw [if_neg (by rw [hz]; exact fun h => h rfl), mk_of (by simp only; omega) (by simp only; omega)]
    · repeat (first | exact Below.refl _ _ | refine below_drewN ?_ _ | refine Below.drew ?_ | refine below_alloc ?_ _ | (refine below_call ?_ (by assumption)) | (refine Below.setCell ?_ ?_ _; rotate_left; (simp; try omega)))
  · go_enter Tryz.func104, Tryz.ntmps104
    go_wp2_with ((go_at_call 79; refine (refBoth_any (_, _) (_, _) _).mono ?_; rintro e w1 ⟨rfl, hb1⟩; have hc1 := (bcell hb1).1; have hf1 := (bcell hb1).2))
    refine ret_of (by simp [results, Tryz.results104, go_sem, hc1]; repeat' (first | rfl | apply And.intro)) rfl ⟨vT_ret ?_, ?_⟩
    · unfold addS; rw [if_pos hz]
    · repeat (first | exact Below.refl _ _ | refine below_drewN ?_ _ | refine Below.drew ?_ | refine below_alloc ?_ _ | (refine below_call ?_ (by assumption)) | (refine Below.setCell ?_ ?_ _; rotate_left; (simp; try omega)))

set_option maxHeartbeats 400000 in
theorem refSub_any (a b : Int × Int) (w : World) :
    Calls Tryz.prog 53 #[.agg #[.int .i64 a.1, .int .i64 a.2], .agg #[.int .i64 b.1, .int .i64 b.2]] w fun e w' => e = .returned (vT (subS a b)) ∧ Below w.heap.size w w' := by
  obtain ⟨a, a'⟩ := a
  obtain ⟨b, b'⟩ := b
  by_cases hz : both (a, a') (b, b') = 0
  · obtain ⟨⟨a1, a2, a3, a4, a5⟩, ⟨b1, b2, b3, b4, b5⟩⟩ := both_ok hz
    simp only at a1 a2 a3 a4 a5 b1 b2 b3 b4 b5
    have m1 := mul_bd a1 (show 0 ≤ b' by omega) a2 b4
    have m2 := mul_bd b1 (show 0 ≤ a' by omega) b2 a4
    have m3 := mul_bd (show 0 ≤ a' by omega) (show 0 ≤ b' by omega) a4 b4
    have m4 : 1 ≤ a' * b' := by have := Int.mul_le_mul a3 b3 (by omega) (by omega); omega
    have A5 := Lib.hid a5; have B5 := Lib.hid b5; clear a5 b5
    by_cases hlt : a * b' < b * a'
    · go_enter Tryz.func53, Tryz.ntmps53
      go_wp2_with ((go_at_call 79; refine (refBoth_any (_, _) (_, _) _).mono ?_; rintro e w1 ⟨rfl, hb1⟩; have hc1 := (bcell hb1).1; have hf1 := (bcell hb1).2))
      refine ret_of (by simp [results, Tryz.results53, go_sem, hc1]; repeat' (first | rfl | apply And.intro)) rfl ⟨vT_ret ?_, ?_⟩
      · unfold subS mk; rw [if_neg (by rw [hz]; exact fun h => h rfl), if_pos (by simp only; omega)]
      · repeat (first | exact Below.refl _ _ | refine below_drewN ?_ _ | refine Below.drew ?_ | refine below_alloc ?_ _ | (refine below_call ?_ (by assumption)) | (refine Below.setCell ?_ ?_ _; rotate_left; (simp; try omega)))
    · have hle : b * a' ≤ a * b' := by omega
      clear hlt
      go_enter Tryz.func53, Tryz.ntmps53
      go_wp2_with (first | (go_at_call 79; refine (refBoth_any (_, _) (_, _) _).mono ?_; rintro e w1 ⟨rfl, hb1⟩; have hc1 := (bcell hb1).1; have hf1 := (bcell hb1).2) | (go_at_call 80; refine (of_any _ _ _ (by omega) (by omega) (by omega) (by omega)).mono ?_; rintro e w2 ⟨rfl, hb2'⟩; have hb2 := below_call hb1 hb2'; clear hb2'; have hc2 := (bcell hb2).1; have hf2 := (bcell hb2).2))
      refine ret_of (by simp [results, Tryz.results53, go_sem, hc2]; repeat' (first | rfl | apply And.intro)) rfl ⟨vT_ret ?_, ?_⟩
      · unfold subS; rw [if_neg (by rw [hz]; exact fun h => h rfl), mk_of (by simp only; omega) (by simp only; omega)]
      · repeat (first | exact Below.refl _ _ | refine below_drewN ?_ _ | refine Below.drew ?_ | refine below_alloc ?_ _ | (refine below_call ?_ (by assumption)) | (refine Below.setCell ?_ ?_ _; rotate_left; (simp; try omega)))
  · go_enter Tryz.func53, Tryz.ntmps53
    go_wp2_with ((go_at_call 79; refine (refBoth_any (_, _) (_, _) _).mono ?_; rintro e w1 ⟨rfl, hb1⟩; have hc1 := (bcell hb1).1; have hf1 := (bcell hb1).2))
    refine ret_of (by simp [results, Tryz.results53, go_sem, hc1]; repeat' (first | rfl | apply And.intro)) rfl ⟨vT_ret ?_, ?_⟩
    · unfold subS; rw [if_pos hz]
    · repeat (first | exact Below.refl _ _ | refine below_drewN ?_ _ | refine Below.drew ?_ | refine below_alloc ?_ _ | (refine below_call ?_ (by assumption)) | (refine Below.setCell ?_ ?_ _; rotate_left; (simp; try omega)))

set_option maxHeartbeats 400000 in
theorem refCmp_any (a b : Int × Int) (w : World) :
    Calls Tryz.prog 107 #[.agg #[.int .i64 a.1, .int .i64 a.2], .agg #[.int .i64 b.1, .int .i64 b.2]] w fun e w' => e = .returned (.tuple #[.int .i64 (cmpS a b).1, .int .i64 (cmpS a b).2]) ∧ Below w.heap.size w w' := by
  obtain ⟨a, a'⟩ := a
  obtain ⟨b, b'⟩ := b
  by_cases hz : both (a, a') (b, b') = 0
  · obtain ⟨⟨a1, a2, a3, a4, a5⟩, ⟨b1, b2, b3, b4, b5⟩⟩ := both_ok hz
    simp only at a1 a2 a3 a4 a5 b1 b2 b3 b4 b5
    have m1 := mul_bd a1 (show 0 ≤ b' by omega) a2 b4
    have m2 := mul_bd b1 (show 0 ≤ a' by omega) b2 a4
    have m3 := mul_bd (show 0 ≤ a' by omega) (show 0 ≤ b' by omega) a4 b4
    have m4 : 1 ≤ a' * b' := by have := Int.mul_le_mul a3 b3 (by omega) (by omega); omega
    have A5 := Lib.hid a5; have B5 := Lib.hid b5; clear a5 b5
    go_enter Tryz.func107, Tryz.ntmps107
    go_wp2_with ((go_at_call 79; refine (refBoth_any (_, _) (_, _) _).mono ?_; rintro e w1 ⟨rfl, hb1⟩; have hc1 := (bcell hb1).1; have hf1 := (bcell hb1).2))
    go_quiet (fail)
    go_wp2_with fail
    all_goals
      go_ret2
      refine ⟨?_, ?_⟩
      · unfold cmpS sgn; rw [if_neg (by rw [hz]; exact fun h => h rfl)]; simp only; (repeat' split) <;> first | rfl | omega
      · repeat (first | exact Below.refl _ _ | refine below_drewN ?_ _ | refine Below.drew ?_ | refine below_alloc ?_ _ | (refine below_call ?_ (by assumption)) | (refine Below.setCell ?_ ?_ _; rotate_left; (simp; try omega)))
  · go_enter Tryz.func107, Tryz.ntmps107
    go_wp2_with ((go_at_call 79; refine (refBoth_any (_, _) (_, _) _).mono ?_; rintro e w1 ⟨rfl, hb1⟩; have hc1 := (bcell hb1).1; have hf1 := (bcell hb1).2))
    go_ret2
    refine ⟨?_, ?_⟩
    · unfold cmpS; rw [if_pos hz]; rfl
    · repeat (first | exact Below.refl _ _ | refine below_drewN ?_ _ | refine Below.drew ?_ | refine below_alloc ?_ _ | (refine below_call ?_ (by assumption)) | (refine Below.setCell ?_ ?_ _; rotate_left; (simp; try omega)))

end Go.Proofs.YtpkmiegccfhpnaaGreatDoor

/- The walks through the functions of the layer span and of its reference, second part: wholes and sums. -/
namespace Go.Proofs.YtpkmiegccfhpnaaGreatDoor
open Go.RowKit
end Go.Proofs.YtpkmiegccfhpnaaGreatDoor
/- The walks through the checks of pitches and events, the program's and the reference's. -/

namespace Go.Proofs.YtpkmiegccfhpnaaGreatDoor
open Go.RowKit
set_option maxHeartbeats 400000 in
theorem refPcheck_any (p : Int × Int × Int) (w : World) :
    Calls Tryz.prog 130 #[vP p] w fun e w' => e = .returned (.int .i64 (pchk p)) ∧ Below w.heap.size w w' := by
  obtain ⟨a, b, c⟩ := p
  go_enter Tryz.func130, Tryz.ntmps130
  go_wp2
  all_goals
    go_ret
    refine ⟨ret_int ?_, ?_⟩
    · unfold pchk; first | rw [if_pos (by simp only; omega)] | rw [if_neg (by simp only; omega)]
    · repeat (first | exact Below.refl _ _ | refine below_drewN ?_ _ | refine Below.drew ?_ | refine below_alloc ?_ _ | (refine below_call ?_ (by assumption)) | (refine Below.setCell ?_ ?_ _; rotate_left; (simp; try omega)))
set_option maxRecDepth 100000 in
set_option maxHeartbeats 1000000 in
theorem refOne_any (x : Ev) (t : Int × Int) (w : World) :
    Calls Tryz.prog 103 #[vE x, vTm t] w fun e w' => e = .returned (.int .i64 (stepS t x)) ∧ Below w.heap.size w w' := by
  obtain ⟨⟨a, a'⟩, ⟨d, d'⟩, ⟨p, q, r⟩, rst, sg, ps⟩ := x
  obtain ⟨t, t'⟩ := t
  have r0 : Blk ((w.alloc (.cells #[.int .i64 a, .int .i64 a', .int .i64 d, .int .i64 d', .int .i64 p, .int .i64 q, .int .i64 r, .bool rst, .int .i64 sg, .int .i64 ps] 49)).alloc (.cells #[.int .i64 t, .int .i64 t'] 45)) w.heap.size 49 #[.int .i64 a, .int .i64 a', .int .i64 d, .int .i64 d', .int .i64 p, .int .i64 q, .int .i64 r, .bool rst, .int .i64 sg, .int .i64 ps] := (Blk.new w _ _).alloc _
  have k0 : Below w.heap.size w ((w.alloc (.cells #[.int .i64 a, .int .i64 a', .int .i64 d, .int .i64 d', .int .i64 p, .int .i64 q, .int .i64 r, .bool rst, .int .i64 sg, .int .i64 ps] 49)).alloc (.cells #[.int .i64 t, .int .i64 t'] 45)) := by repeat (first | exact Below.refl _ _ | refine below_drewN ?_ _ | refine Below.drew ?_ | refine below_alloc ?_ _ | (refine below_call ?_ (by assumption)) | (refine Below.setCell ?_ ?_ _; rotate_left; (simp; try omega)))
  have s0 : Blk ((w.alloc (.cells #[.int .i64 a, .int .i64 a', .int .i64 d, .int .i64 d', .int .i64 p, .int .i64 q, .int .i64 r, .bool rst, .int .i64 sg, .int .i64 ps] 49)).alloc (.cells #[.int .i64 t, .int .i64 t'] 45)) (w.heap.size + 1) 45 #[.int .i64 t, .int .i64 t'] := Blk.newAt _ _ _ _ (by simp)
  dsimp only [vE, vTm, vP]
  go_enter Tryz.func103, Tryz.ntmps103
  go_wp2_with (first | (go_at_call 105; refine (refCheck_any _ _ _).mono ?_; rintro e wn ⟨rfl, hbn⟩; replace rn := Blk.kept (by with_reducible first | exact rn | exact r0 | exact rn.alloc _ | exact r0.alloc _ | exact (rn.alloc _).alloc _ | exact (r0.alloc _).alloc _) hbn; replace en := rn.cell; replace gn := rn.frozen; replace zn := rn.lt; replace sn := Blk.kept (by with_reducible first | exact sn | exact s0 | exact sn.alloc _ | exact s0.alloc _ | exact (sn.alloc _).alloc _ | exact (s0.alloc _).alloc _) hbn; replace fn := sn.cell; replace hn := sn.frozen; replace yn := sn.lt; replace kn := below_call (by with_reducible first | exact kn | exact k0 | exact below_alloc kn _ | exact below_alloc k0 _ | exact below_alloc (below_alloc kn _) _ | exact below_alloc (below_alloc k0 _) _) hbn; clear hbn) | (go_at_call 130; refine (refPcheck_any (_, _, _) _).mono ?_; rintro e wn ⟨rfl, hbn⟩; replace rn := Blk.kept (by with_reducible first | exact rn | exact r0 | exact rn.alloc _ | exact r0.alloc _ | exact (rn.alloc _).alloc _ | exact (r0.alloc _).alloc _) hbn; replace en := rn.cell; replace gn := rn.frozen; replace zn := rn.lt; replace sn := Blk.kept (by with_reducible first | exact sn | exact s0 | exact sn.alloc _ | exact s0.alloc _ | exact (sn.alloc _).alloc _ | exact (s0.alloc _).alloc _) hbn; replace fn := sn.cell; replace hn := sn.frozen; replace yn := sn.lt; replace kn := below_call (by with_reducible first | exact kn | exact k0 | exact below_alloc kn _ | exact below_alloc k0 _ | exact below_alloc (below_alloc kn _) _ | exact below_alloc (below_alloc k0 _) _) hbn; clear hbn) | (go_at_call 104; refine (refAdd_any (_, _) (_, _) _).mono ?_; rintro e wn ⟨rfl, hbn⟩; replace rn := Blk.kept (by with_reducible first | exact rn | exact r0 | exact rn.alloc _ | exact r0.alloc _ | exact (rn.alloc _).alloc _ | exact (r0.alloc _).alloc _) hbn; replace en := rn.cell; replace gn := rn.frozen; replace zn := rn.lt; replace sn := Blk.kept (by with_reducible first | exact sn | exact s0 | exact sn.alloc _ | exact s0.alloc _ | exact (sn.alloc _).alloc _ | exact (s0.alloc _).alloc _) hbn; replace fn := sn.cell; replace hn := sn.frozen; replace yn := sn.lt; replace kn := below_call (by with_reducible first | exact kn | exact k0 | exact below_alloc kn _ | exact below_alloc k0 _ | exact below_alloc (below_alloc kn _) _ | exact below_alloc (below_alloc k0 _) _) hbn; clear hbn))
  all_goals
    go_ret
    refine ⟨ret_int ?_, by repeat (first | exact Below.refl _ _ | assumption | refine below_drewN ?_ _ | refine Below.drew ?_ | refine below_alloc ?_ _ | (refine below_call ?_ (by assumption)) | (refine Below.setCell ?_ ?_ _; rotate_left; (simp; try omega)))⟩
    · clear r0 s0 k0 rn en gn zn sn fn hn yn kn
      unfold stepS oneS
      grind
end Go.Proofs.YtpkmiegccfhpnaaGreatDoor

/- The walks through the checks of voices and their ends, the program's and the reference's. -/
namespace Go.Proofs.YtpkmiegccfhpnaaGreatDoor
open Go.RowKit
set_option maxRecDepth 100000 in
set_option maxHeartbeats 1000000 in
theorem refEvCheck_any (A : Option Addr) (n c : Nat) (l : List Ev) (B : Nat) (w : World) (h : Reads w B 10 A n (csE l)) (hB : B ≤ w.heap.size) (hn : n ≤ 9223372036854775807) :
    Calls Tryz.prog 76 #[.slice A n c] w fun e w' => e = .returned (.tuple #[.int .i64 (checkS l).1, .int .i64 (checkS l).2]) ∧ Below w.heap.size w w' := by
  have hl := h.evlen
  by_cases hbig : 2000 < n
  · have hbig' : (2000 : Int) < (n : Int) := by omega
    have E := Lib.hid (show checkS l = (11, 0) by unfold checkS; rw [if_pos (by omega)])
    clear hl
    go_enter Tryz.func76, Tryz.ntmps76
    go_wp2
    go_ret2
    rw [E.out]
    exact ⟨rfl, Below.refl _ _⟩
  · have hbig' : ¬ ((2000 : Int) < (n : Int)) := by omega
    have E := Lib.hid (show checkS l = checkFrom (0, 1) 0 l by unfold checkS; rw [if_neg (by omega)])
    have HL := Lib.hid hl; clear hl hbig
    go_enter Tryz.func76, Tryz.ntmps76
    go_wp2
    go_loopw [5, 6] (fun i _ wr => ∃ (k : Nat) (t t' : Int), k ≤ n ∧ i = .int .i64 k ∧ Hid (checkFrom (t, t') k (l.drop k) = checkFrom (0, 1) 0 l) ∧ Below w.heap.size w wr ∧ Blk wr w.heap.size 45 #[.int .i64 t, .int .i64 t']) (fun i _ _ => n - (intOf i).toNat)
    case atStart => exact ⟨0, 0, 1, by omega, rfl, Lib.hid rfl, by repeat (first | exact Below.refl _ _ | refine below_drewN ?_ _ | refine Below.drew ?_ | refine below_alloc ?_ _ | (refine below_call ?_ (by assumption)) | (refine Below.setCell ?_ ?_ _; rotate_left; (simp; try omega))), Blk.new _ _ _⟩
    case round =>
      obtain ⟨k, t, t', hk, rfl, hs, k0, r0⟩ := hrel
      have en := r0.cell; have gn := r0.frozen; have zn := r0.lt
      by_cases hlt : k < n
      · have hlt' : (k : Int) < (n : Int) := by omega
        obtain ⟨x, hx⟩ := get_some (l := l) (k := k) (by have := HL.out; omega)
        have HD := Lib.hid (drop_get hx)
        obtain ⟨b, off, rfl, hab, hc⟩ := h.ev hB k0 hlt hx
        have hbne : w.heap.size ≠ b := by
          obtain ⟨b', off', e', hb', _⟩ := h.2 (by omega)
          cases e'
          omega
        obtain ⟨⟨a, a'⟩, ⟨d, d'⟩, ⟨p, q, r⟩, rst, sg, ps⟩ := x
        obtain ⟨c0, c1, c2, c3, c4, c5, c6, c7, c8, c9⟩ := ten hc
        clear hc hx
        simp only at c0 c1 c2 c3 c4 c5 c6 c7 c8 c9
        have e0 : wr.cell? ⟨w.heap.size, 0, none⟩ = some (.int .i64 t) := en 0
        have e1 : wr.cell? ⟨w.heap.size, 1, none⟩ = some (.int .i64 t') := en 1
        obtain ⟨y, hy⟩ : ∃ y, y = stepS (t, t') ⟨(a, a'), (d, d'), (p, q, r), rst, sg, ps⟩ := ⟨_, rfl⟩
        have Y := Lib.hid hy.symm; clear hy
        go_wp2_with fail
        refine wp_region_calm (by kernel_rfl) (by kernel_rfl) ?_
        repeat (go_big_quiet_step ((go_at_call 103; have hq := refOne_any ⟨(a, a'), (d, d'), (p, q, r), rst, sg, ps⟩ (t, t'); rw [Y.out] at hq; exact calm_call (hq _))))
        refine wpQuiet_nil ?_
        intro w1 hb1
        have r1 := r0.kept hb1
        have hb := below_call k0 hb1
        have z1 := r1.lt
        have g0 := r1.frozen 0
        have g1 := r1.frozen 1
        replace e0 := r1.cell 0
        replace e1 := r1.cell 1
        simp only [List.getElem?_toArray, List.getElem?_cons_zero, List.getElem?_cons_succ] at e0 e1
        have hcc := bcell hb1
        rw [← hcc.1 _ _ hab] at c0 c1 c2 c3
        replace hab := Nat.lt_of_lt_of_le hab hb1.size
        clear hcc c4 c5 c6 c7 c8 c9 en gn zn r0 k0
        go_wp2_with fail
        · go_ret2
          have hne : (y != 0) = true := by assumption
          have hr := hs.out
          rw [HD.out, checkFrom, Y.out, if_pos (by simpa using hne)] at hr
          rw [E.out, ← hr]
          exact ⟨rfl, hb⟩
        · have hne : (y != 0) = false := by assumption
          have hbw : w.heap.size ≠ b := hbne
          go_region_held3 (fun w' => w'.cell? ⟨b, off + k * 10, none⟩ = some (.int .i64 a) ∧ w'.cell? ⟨b, off + k * 10 + 1, none⟩ = some (.int .i64 a') ∧ w'.cell? ⟨b, off + k * 10 + 2, none⟩ = some (.int .i64 d) ∧ w'.cell? ⟨b, off + k * 10 + 3, none⟩ = some (.int .i64 d')) ((first | exact ⟨c0, c1, c2, c3⟩ | exact ⟨(hcc _ _ hab).trans c0, (hcc _ _ hab).trans c1, (hcc _ _ hab).trans c2, (hcc _ _ hab).trans c3⟩ | (refine ⟨?_, ?_, ?_, ?_⟩ <;> (rw [World.cell?_setCell_far _ _ _ _ hbw, World.cell?_setCell_far _ _ _ _ hbw]; first | exact (hcc _ _ hab).trans c0 | exact (hcc _ _ hab).trans c1 | exact (hcc _ _ hab).trans c2 | exact (hcc _ _ hab).trans c3)))) (first | (go_at_call 104; refine (refAdd_any (_, _) (_, _) _).mono ?_; rintro e w2 ⟨rfl, hb2⟩; have hcc := (bcell hb2).1; have r2 := r1.drew.kept hb2; have kb := below_call hb.drew hb2; have q0 := r2.cell 0; have q1 := r2.cell 1; have f0 := r2.frozen 0; have f1 := r2.frozen 1; simp only [List.getElem?_toArray, List.getElem?_cons_zero, List.getElem?_cons_succ] at q0 q1))
          go_wp2_with fail
          go_roundw
          case rel =>
            refine ⟨k + 1, (addS (a, a') (d, d')).1, (addS (a, a') (d, d')).2.1, by omega, by go_num, ?_, by repeat (first | exact Below.refl _ _ | assumption | refine below_drewN ?_ _ | refine Below.drew ?_ | refine below_alloc ?_ _ | (refine below_call ?_ (by assumption)) | (refine Below.setCell ?_ ?_ _; rotate_left; (simp; try omega))), ?_⟩
            rotate_left
            · repeat (first | with_reducible exact r2 | with_reducible exact Blk.new _ _ _ | (with_reducible refine Blk.newAt _ _ _ _ ?_; first | rfl | (simp; done)) | with_reducible apply Blk.alloc | with_reducible apply Blk.drewN | with_reducible apply Blk.drew | with_reducible apply Blk.set_to | (with_reducible apply Blk.far_; (simp only [ne_eq]; omega)) | rfl)
            have hr := hs.out
            rw [HD.out, checkFrom, Y.out, if_neg (by simpa using hne)] at hr
            exact Lib.hid hr
          case measure => simp [intOf]; omega
      · go_wp2
        go_ret2
        rw [E.out, ← hs.out, List.drop_eq_nil_of_le (by have := HL.out; omega)]
        exact ⟨rfl, k0⟩
end Go.Proofs.YtpkmiegccfhpnaaGreatDoor

/- The walks through the ends of voices, the program's and the reference's. -/
namespace Go.Proofs.YtpkmiegccfhpnaaGreatDoor
open Go.RowKit
end Go.Proofs.YtpkmiegccfhpnaaGreatDoor

/- Lists of events: the kit's copies and comparisons; slices of events of the call's own. -/

namespace Go.Proofs.YtpkmiegccfhpnaaGreatDoor
open Go.RowKit
set_option maxRecDepth 100000 in
set_option maxHeartbeats 1000000 in
theorem sameEvents_any (A A' : Option Addr) (n c c' : Nat) (l : List Ev) (B B' : Nat) (w : World) (h : Reads w B 10 A n (csE l)) (hB : B ≤ w.heap.size) (h' : Reads w B' 10 A' n (csE l)) (hB' : B' ≤ w.heap.size) (hn : n ≤ 9223372036854775807) :
    Calls Tryz.prog 38 #[.slice A n c, .slice A' n c'] w fun e w' => e = .returned (.bool true) ∧ Below w.heap.size w w' := by
  have hl := h.evlen
  have HL := Lib.hid hl; clear hl
  go_enter Tryz.func38, Tryz.ntmps38
  go_wp2
  go_loopw [5] (fun i wr => ∃ k : Nat, k ≤ n ∧ i = .int .i64 k ∧ Below w.heap.size w wr) (fun i _ => n - (intOf i).toNat)
  case atStart => exact ⟨0, by omega, rfl, Below.refl _ _⟩
  case round =>
    obtain ⟨k, hk, rfl, k0⟩ := hrel
    by_cases hlt : k < n
    · have hlt' : (k : Int) < (n : Int) := by omega
      obtain ⟨x, hx⟩ := get_some (l := l) (k := k) (by have := HL.out; omega)
      obtain ⟨b, off, rfl, hab, hc⟩ := h.ev hB k0 hlt hx
      obtain ⟨b', off', rfl, hab', hc'⟩ := h'.ev hB' k0 hlt hx
      obtain ⟨⟨a, a'⟩, ⟨d, d'⟩, ⟨p, q, r⟩, rst, sg, ps⟩ := x
      obtain ⟨c0, c1, c2, c3, c4, c5, c6, c7, c8, c9⟩ := ten hc
      obtain ⟨d0, d1, d2, d3, d4, d5, d6, d7, d8, d9⟩ := ten hc'
      clear hc hc' hx
      simp only at c0 c1 c2 c3 c4 c5 c6 c7 c8 c9 d0 d1 d2 d3 d4 d5 d6 d7 d8 d9
      go_wp2
      go_quiet (fail)
      go_wp2
      go_roundw
      case rel => exact ⟨k + 1, by omega, by go_num, below_drewN k0 _⟩
      case measure => simp [intOf]; omega
    · go_wp2
      go_ret
      exact ⟨rfl, k0⟩
end Go.Proofs.YtpkmiegccfhpnaaGreatDoor

/- The walks through the functions on pitches, the program's and the reference's: numbers, moved and mirrored pitches. -/
namespace Go.Proofs.YtpkmiegccfhpnaaGreatDoor
open Go.RowKit
end Go.Proofs.YtpkmiegccfhpnaaGreatDoor
namespace Go.Proofs.YtpkmiegccfhpnaaGreatDoor
open Go.RowKit
set_option maxHeartbeats 400000 in
theorem before_any (a b : Int × Int) (w : World) :
    Calls Tryz.prog 81 #[.agg #[.int .i64 a.1, .int .i64 a.2], .agg #[.int .i64 b.1, .int .i64 b.2]] w fun e w' => e = .returned (.bool (lessB a b)) ∧ Below w.heap.size w w' := by
  have q1 := refCmp_any a b
  have E := Lib.hid (show lessB a b = decide ((cmpS a b).1 < 0) from rfl)
  obtain ⟨⟨x, r⟩, hx⟩ : ∃ t, t = cmpS a b := ⟨_, rfl⟩
  rw [← hx] at q1 E
  clear hx
  obtain ⟨a, a'⟩ := a
  obtain ⟨b, b'⟩ := b
  go_enter Tryz.func81, Tryz.ntmps81
  go_wp2_with fail
  refine (q1 _).mono ?_
  rintro e w1 ⟨rfl, hb1⟩
  have BP1 : Blk w1 (w.heap.size) 45 #[.int .i64 a, .int .i64 a'] := by
    refine Blk.kept ?_ hb1
    repeat (first | with_reducible exact Blk.new _ _ _ | (with_reducible refine Blk.newAt _ _ _ _ ?_; first | rfl | (simp; done)) | with_reducible apply Blk.alloc | with_reducible apply Blk.drewN | with_reducible apply Blk.drew | with_reducible apply Blk.set_to | (with_reducible apply Blk.far_; (simp only [ne_eq]; omega)) | rfl)
  have cP0_1 : w1.cell? ⟨w.heap.size, 0, none⟩ = some (.int .i64 a) := BP1.cell 0
  have cP1_1 : w1.cell? ⟨w.heap.size, 1, none⟩ = some (.int .i64 a') := BP1.cell 1
  have lP1 : w.heap.size < w1.heap.size := BP1.lt
  have mP1 : w.heap.size < w1.heap.size + 1 := by omega
  have nP1 : w.heap.size < w1.heap.size + 1 + 1 := by omega
  have BQ1 : Blk w1 (w.heap.size + 1) 45 #[.int .i64 b, .int .i64 b'] := by
    refine Blk.kept ?_ hb1
    repeat (first | with_reducible exact Blk.new _ _ _ | (with_reducible refine Blk.newAt _ _ _ _ ?_; first | rfl | (simp; done)) | with_reducible apply Blk.alloc | with_reducible apply Blk.drewN | with_reducible apply Blk.drew | with_reducible apply Blk.set_to | (with_reducible apply Blk.far_; (simp only [ne_eq]; omega)) | rfl)
  have cQ0_1 : w1.cell? ⟨w.heap.size + 1, 0, none⟩ = some (.int .i64 b) := BQ1.cell 0
  have cQ1_1 : w1.cell? ⟨w.heap.size + 1, 1, none⟩ = some (.int .i64 b') := BQ1.cell 1
  have lQ1 : w.heap.size + 1 < w1.heap.size := BQ1.lt
  have mQ1 : w.heap.size + 1 < w1.heap.size + 1 := by omega
  have nQ1 : w.heap.size + 1 < w1.heap.size + 1 + 1 := by omega
  have hs1 : w.heap.size ≤ w1.heap.size := by have h := hb1.size; (try simp at h); omega
  have kb : Below w.heap.size w w1 := by repeat (first | exact Below.refl _ _ | refine below_drewN ?_ _ | refine Below.drew ?_ | refine below_alloc ?_ _ | (refine below_call ?_ (by assumption)) | (refine Below.setCell ?_ ?_ _; rotate_left; (simp; try omega)))
  go_wp2
  go_ret
  rw [E.out]
  exact ⟨rfl, by repeat (first | with_reducible exact Below.refl _ _ | with_reducible assumption | with_reducible refine below_drewN ?_ _ | with_reducible refine Below.drew ?_ | with_reducible refine below_alloc ?_ _ | (with_reducible refine Below.setCell ?_ ?_ _; rotate_left; ((try simp only); omega)))⟩
set_option maxRecDepth 100000 in
set_option maxHeartbeats 1000000 in
theorem refEndOf_any (x : Ev) (w : World) :
    Calls Tryz.prog 78 #[.agg (cE x).toArray] w fun e w' => e = .returned (.agg #[.int .i64 (nextS x).1, .int .i64 (nextS x).2]) ∧ Below w.heap.size w w' := by
  have q1 := refAdd_any x.at_ x.dur
  have E := Lib.hid (show nextS x = ((addS x.at_ x.dur).1, (addS x.at_ x.dur).2.1) from rfl)
  obtain ⟨⟨s, s', r⟩, hs⟩ : ∃ t, t = addS x.at_ x.dur := ⟨_, rfl⟩
  rw [← hs] at q1 E
  clear hs
  obtain ⟨⟨a, a'⟩, ⟨d, d'⟩, ⟨p, q, u⟩, rst, sg, ps⟩ := x
  unfold cE
  simp only [List.toArray]
  go_enter Tryz.func78, Tryz.ntmps78
  go_wp2_with fail
  refine (q1 _).mono ?_
  rintro e w1 ⟨rfl, hb1⟩
  have BP1 : Blk w1 (w.heap.size) 49 #[.int .i64 a, .int .i64 a', .int .i64 d, .int .i64 d', .int .i64 p, .int .i64 q, .int .i64 u, .bool rst, .int .i64 sg, .int .i64 ps] := by
    refine Blk.kept ?_ hb1
    repeat (first | with_reducible exact Blk.new _ _ _ | (with_reducible refine Blk.newAt _ _ _ _ ?_; first | rfl | (simp; done)) | with_reducible apply Blk.alloc | with_reducible apply Blk.drewN | with_reducible apply Blk.drew | with_reducible apply Blk.set_to | (with_reducible apply Blk.far_; (simp only [ne_eq]; omega)) | rfl)
  have cP0_1 : w1.cell? ⟨w.heap.size, 0, none⟩ = some (.int .i64 a) := BP1.cell 0
  have cP1_1 : w1.cell? ⟨w.heap.size, 1, none⟩ = some (.int .i64 a') := BP1.cell 1
  have cP2_1 : w1.cell? ⟨w.heap.size, 2, none⟩ = some (.int .i64 d) := BP1.cell 2
  have cP3_1 : w1.cell? ⟨w.heap.size, 3, none⟩ = some (.int .i64 d') := BP1.cell 3
  have cP4_1 : w1.cell? ⟨w.heap.size, 4, none⟩ = some (.int .i64 p) := BP1.cell 4
  have cP5_1 : w1.cell? ⟨w.heap.size, 5, none⟩ = some (.int .i64 q) := BP1.cell 5
  have cP6_1 : w1.cell? ⟨w.heap.size, 6, none⟩ = some (.int .i64 u) := BP1.cell 6
  have cP7_1 : w1.cell? ⟨w.heap.size, 7, none⟩ = some (.bool rst) := BP1.cell 7
  have cP8_1 : w1.cell? ⟨w.heap.size, 8, none⟩ = some (.int .i64 sg) := BP1.cell 8
  have cP9_1 : w1.cell? ⟨w.heap.size, 9, none⟩ = some (.int .i64 ps) := BP1.cell 9
  have lP1 : w.heap.size < w1.heap.size := BP1.lt
  have mP1 : w.heap.size < w1.heap.size + 1 := by omega
  have nP1 : w.heap.size < w1.heap.size + 1 + 1 := by omega
  have BR1 : Blk w1 (w.heap.size + 1) 45 #[.int .i64 0, .int .i64 0] := by
    refine Blk.kept ?_ hb1
    repeat (first | with_reducible exact Blk.new _ _ _ | (with_reducible refine Blk.newAt _ _ _ _ ?_; first | rfl | (simp; done)) | with_reducible apply Blk.alloc | with_reducible apply Blk.drewN | with_reducible apply Blk.drew | with_reducible apply Blk.set_to | (with_reducible apply Blk.far_; (simp only [ne_eq]; omega)) | rfl)
  have cR0_1 : w1.cell? ⟨w.heap.size + 1, 0, none⟩ = some (.int .i64 0) := BR1.cell 0
  have cR1_1 : w1.cell? ⟨w.heap.size + 1, 1, none⟩ = some (.int .i64 0) := BR1.cell 1
  have lR1 : w.heap.size + 1 < w1.heap.size := BR1.lt
  have mR1 : w.heap.size + 1 < w1.heap.size + 1 := by omega
  have nR1 : w.heap.size + 1 < w1.heap.size + 1 + 1 := by omega
  have fR0_1 := BR1.frozen 0
  have fR1_1 := BR1.frozen 1
  have eRP1 : w.heap.size + 1 ≠ w.heap.size := by omega
  have ePR1 : w.heap.size ≠ w.heap.size + 1 := by omega
  have hs1 : w.heap.size ≤ w1.heap.size := by have h := hb1.size; (try simp at h); omega
  have kb : Below w.heap.size w w1 := by repeat (first | exact Below.refl _ _ | refine below_drewN ?_ _ | refine Below.drew ?_ | refine below_alloc ?_ _ | (refine below_call ?_ (by assumption)) | (refine Below.setCell ?_ ?_ _; rotate_left; (simp; try omega)))
  go_wp2
  refine ret_of (by simp [results, Tryz.results78, go_sem, *]; repeat' (first | rfl | apply And.intro)) rfl ⟨?_, by repeat (first | with_reducible exact Below.refl _ _ | with_reducible assumption | with_reducible refine below_drewN ?_ _ | with_reducible refine Below.drew ?_ | with_reducible refine below_alloc ?_ _ | (with_reducible refine Below.setCell ?_ ?_ _; rotate_left; ((try simp only); omega)))⟩
  rw [E.out]
set_option maxRecDepth 100000 in
set_option maxHeartbeats 1000000 in
theorem refAlCheck_any (A : Option Addr) (n c : Nat) (l : List (List Ev)) (B : Nat) (w : World) (h : ReadsV w B A n l) (hB : B ≤ w.heap.size) (hn : n ≤ 9223372036854775807) :
    Calls Tryz.prog 51 #[.slice A n c] w fun e w' => e = .returned (.tuple #[.int .i64 (checkA l).1, .int .i64 (checkA l).2]) ∧ Below w.heap.size w w' := by
  have hl := h.len
  by_cases hbig : 8 < n
  · have hbig' : (8 : Int) < (n : Int) := by omega
    have E := Lib.hid (show checkA l = (11, 0) by unfold checkA; rw [if_pos (by omega)])
    clear hl
    go_enter Tryz.func51, Tryz.ntmps51
    go_wp2
    go_ret2
    rw [E.out]
    exact ⟨rfl, Below.refl _ _⟩
  · have hbig' : ¬ ((8 : Int) < (n : Int)) := by omega
    have E := Lib.hid (show checkA l = chkV 0 l by unfold checkA; rw [if_neg (by omega)])
    have HL := Lib.hid hl; clear hl hbig
    go_enter Tryz.func51, Tryz.ntmps51
    go_wp2
    go_loopw [4, 5, 6] (fun i _ _ wr => ∃ k : Nat, k ≤ n ∧ i = .int .i64 k ∧ Hid (chkV k (l.drop k) = chkV 0 l) ∧ Below w.heap.size w wr) (fun i _ _ _ => n - (intOf i).toNat)
    case atStart => exact ⟨0, by omega, rfl, Lib.hid rfl, Below.refl _ _⟩
    case round =>
      obtain ⟨k, hk, rfl, hs, k0⟩ := hrel
      by_cases hlt : k < n
      · have hlt' : (k : Int) < (n : Int) := by omega
        obtain ⟨v, hv⟩ := get_some (l := l) (k := k) (by have := HL.out; omega)
        have HD := Lib.hid (drop_get hv)
        obtain ⟨b, off, A', n', c', rfl, hab, c0, hr, hn', _⟩ := h.voice hB k0 hlt hv
        have q1 := refEvCheck_any A' n' c' v B wr hr (Nat.le_trans hB k0.size) hn'
        obtain ⟨⟨x, y⟩, hx⟩ : ∃ t, t = checkS v := ⟨_, rfl⟩
        rw [← hx] at q1
        by_cases h0 : x = 0
        · subst h0
          have HN := Lib.hid (show chkV ((k + 1 : Nat) : Int) (l.drop (k + 1)) = chkV 0 l by have := hs.out; rw [HD.out, chkV_next (by rw [← hx])] at this; exact this)
          clear hx hv hs
          go_wp2_with fail
          refine q1.mono ?_
          rintro e w1 ⟨rfl, hb1⟩
          go_wp2
          go_roundw
          case rel => exact ⟨k + 1, by omega, by go_num, HN, below_call k0 hb1⟩
          case measure => simp [intOf]; omega
        · have hbad : (x != 0) = true := by simpa using h0
          have HE := Lib.hid (show checkA l = (x, (k : Int)) by rw [E.out, ← hs.out, HD.out, chkV_bad (by rw [← hx]; exact h0), ← hx])
          clear hx hv hs h0
          go_wp2_with fail
          refine q1.mono ?_
          rintro e w1 ⟨rfl, hb1⟩
          go_wp2
          go_ret2
          rw [HE.out]
          exact ⟨rfl, below_call k0 hb1⟩
      · have hkn : k = n := by omega
        subst hkn
        have HE := Lib.hid (show checkA l = (0, 0) by rw [E.out, ← hs.out, List.drop_of_length_le (by have := HL.out; omega)]; rfl)
        go_wp2
        go_ret2
        rw [HE.out]
        exact ⟨rfl, k0⟩
end Go.Proofs.YtpkmiegccfhpnaaGreatDoor
/- Arguments that are slices of structs or of numbers, opened: each reads as a list. -/

namespace Go.Proofs.YtpkmiegccfhpnaaGreatDoor
set_option maxRecDepth 100000
open Go.ChangeShapes Go.WideShapes Go.Deep Go.RowKit

theorem addr_add' (b off j : Nat) : (⟨b, off, none⟩ : Addr).add j = ⟨b, off + j, none⟩ := by
  unfold Addr.add
  split
  · rename_i h; subst h; simp
  · rfl
section
variable {H : Type} {enc : TypeId × Value → H} {P : Program} {w : World} {base : Nat} {spare : Nat → Bool} {held : Bool}
end
/-- A list of things that are each there. -/
theorem list_of {α : Type} (P : Nat → α → Prop) : ∀ n : Nat, (∀ i, i < n → ∃ x, P i x) → ∃ l : List α, l.length = n ∧ ∀ i x, l[i]? = some x → P i x
  | 0, _ => ⟨[], rfl, fun i x h => by simp at h⟩
  | n + 1, h => by
    obtain ⟨l, hl, hp⟩ := list_of P n fun i hi => h i (by omega)
    obtain ⟨x, hx⟩ := h n (by omega)
    refine ⟨l ++ [x], by simp [hl], fun i y hy => ?_⟩
    rcases Nat.lt_or_ge i n with hi | hi
    · rw [List.getElem?_append_left (by omega)] at hy; exact hp i y hy
    · rw [List.getElem?_append_right (by omega)] at hy
      have : i = n := by
        rcases Nat.lt_or_ge (i - l.length) 1 with h1 | h1
        · omega
        · rw [List.getElem?_eq_none (by simpa using h1)] at hy; cases hy
      subst this
      rw [hl] at hy; simp at hy; subst hy; exact hx
/-- Where each element's cells stand at the address, the slice reads as the list. -/
theorem reads_of {α : Type} {f : α → List Value} {size : Nat} (hf : ∀ x, (f x).length = size) (hs : 0 < size) {w : World} {a : Addr} {n : Nat} {l : List α} (hl : l.length = n)
    (h : ∀ i x, l[i]? = some x → ∀ j u, (f x)[j]? = some u → w.cell? (a.add (i * size + j)) = some u) : Reads w w.heap.size size (some a) n (l.flatMap f) := by
  refine ⟨by rw [flat_len f size hf, hl], fun hn => ?_⟩
  obtain ⟨x0, hx0⟩ := get_some (l := l) (k := 0) (by omega)
  obtain ⟨u0, hu0⟩ := get_some (l := f x0) (k := 0) (by rw [hf]; exact hs)
  have h0 := h 0 x0 hx0 0 u0 hu0
  have hspot : a.spot = none := by simpa [Addr.add] using World.cell?_spot h0
  obtain ⟨b, off, spot⟩ := a
  simp only at hspot
  subst hspot
  have hb : b < w.heap.size := by
    have := World.block_lt_of_cell? w _ h0
    simpa [Addr.add] using this
  refine ⟨b, off, rfl, hb, fun j u hj => ?_⟩
  have hjl : j < n * size := by
    have h2 := (List.getElem?_eq_some_iff.1 hj).1
    rwa [flat_len f size hf, hl] at h2
  have hk : j / size < n := (Nat.div_lt_iff_lt_mul hs).2 hjl
  obtain ⟨x, hx⟩ := get_some (l := l) (k := j / size) (by omega)
  have hjm : j / size * size + j % size = j := by rw [Nat.mul_comm]; exact Nat.div_add_mod j size
  have h1 := flat_get f size hf l (j / size) (j % size) x hx (Nat.mod_lt _ hs)
  rw [hjm, hj] at h1
  have h2 := h (j / size) x hx (j % size) u h1.symm
  rwa [hjm, addr_add'] at h2
section
variable {H : Type} {enc : TypeId × Value → H} {W : World} {base b0 : Nat} {spare : Nat → Bool} {held : Bool} {r : Reach} {v : Value} {d : DataW H} {p : List MemPlace}
end
end Go.Proofs.YtpkmiegccfhpnaaGreatDoor

/- Arguments that are lists of events, opened. -/

namespace Go.Proofs.YtpkmiegccfhpnaaGreatDoor
set_option maxRecDepth 100000
open Go.ChangeShapes Go.WideShapes Go.Deep Go.RowKit
section
variable {H : Type} {enc : TypeId × Value → H} {w : World} {base : Nat} {spare : Nat → Bool} {held : Bool}
theorem trod_times {n : Nat} {u v : Value} {x : DataW H × List MemPlace} (h : DataW.trod enc Tryz.prog w base spare held n 45 [u, v] = some x) : ∃ a b : Int, u = .int .i64 a ∧ v = .int .i64 b := by
  obtain ⟨ys, m, rfl, _, _, hyl, hf⟩ := DataW.trod_struct Tryz.underlying45 h
  have h0 : DataW.trod enc Tryz.prog w base spare held m 3 ((([u, v] : List Value).drop 0).take (Tryz.prog.cellsOf 3)) = ys[0]? := hf 0 _ rfl
  have h1 : DataW.trod enc Tryz.prog w base spare held m 3 ((([u, v] : List Value).drop 1).take (Tryz.prog.cellsOf 3)) = ys[1]? := hf 1 _ rfl
  rw [show Tryz.prog.cellsOf 3 = 1 from by kernel_rfl] at h0 h1
  simp only [List.drop_zero, List.drop_succ_cons, List.take_succ_cons, List.take_zero] at h0 h1
  rw [List.getElem?_eq_getElem (by rw [hyl]; decide)] at h0 h1
  obtain ⟨a, e0, _, _⟩ := DataW.trod_int Tryz.underlying3 h0
  obtain ⟨b, e1, _, _⟩ := DataW.trod_int Tryz.underlying3 h1
  simp at e0 e1
  exact ⟨a, b, e0, e1⟩
theorem trod_pitch {n : Nat} {u v z : Value} {x : DataW H × List MemPlace} (h : DataW.trod enc Tryz.prog w base spare held n 47 [u, v, z] = some x) : ∃ a b c : Int, u = .int .i64 a ∧ v = .int .i64 b ∧ z = .int .i64 c := by
  obtain ⟨ys, m, rfl, _, _, hyl, hf⟩ := DataW.trod_struct Tryz.underlying47 h
  have h0 : DataW.trod enc Tryz.prog w base spare held m 3 ((([u, v, z] : List Value).drop 0).take (Tryz.prog.cellsOf 3)) = ys[0]? := hf 0 _ rfl
  have h1 : DataW.trod enc Tryz.prog w base spare held m 3 ((([u, v, z] : List Value).drop 1).take (Tryz.prog.cellsOf 3)) = ys[1]? := hf 1 _ rfl
  have h2 : DataW.trod enc Tryz.prog w base spare held m 3 ((([u, v, z] : List Value).drop 2).take (Tryz.prog.cellsOf 3)) = ys[2]? := hf 2 _ rfl
  rw [show Tryz.prog.cellsOf 3 = 1 from by kernel_rfl] at h0 h1 h2
  simp only [List.drop_zero, List.drop_succ_cons, List.take_succ_cons, List.take_zero] at h0 h1 h2
  rw [List.getElem?_eq_getElem (by rw [hyl]; decide)] at h0 h1 h2
  obtain ⟨a, e0, _, _⟩ := DataW.trod_int Tryz.underlying3 h0
  obtain ⟨b, e1, _, _⟩ := DataW.trod_int Tryz.underlying3 h1
  obtain ⟨c, e2, _, _⟩ := DataW.trod_int Tryz.underlying3 h2
  simp at e0 e1 e2
  exact ⟨a, b, c, e0, e1, e2⟩
theorem ten_of {cs : List Value} (h : cs.length = 10) : ∃ a b c d e f g h i j, cs = [a, b, c, d, e, f, g, h, i, j] := by
  match cs, h with
  | [a, b, c, d, e, f, g, h, i, j], _ => exact ⟨a, b, c, d, e, f, g, h, i, j, rfl⟩
theorem trod_event {n : Nat} {cs : List Value} {x : DataW H × List MemPlace} (h : DataW.trod enc Tryz.prog w base spare held n 49 cs = some x) : ∃ y : Ev, cs = cE y := by
  obtain ⟨ys, m, rfl, _, hl, hyl, hf⟩ := DataW.trod_struct Tryz.underlying49 h
  rw [show Tryz.prog.cellsOf 49 = 10 from by kernel_rfl] at hl
  obtain ⟨a, b, c, d, e, f, g, hh, i, j, rfl⟩ := ten_of hl
  have h0 : DataW.trod enc Tryz.prog w base spare held m 45 ((([a, b, c, d, e, f, g, hh, i, j] : List Value).drop 0).take (Tryz.prog.cellsOf 45)) = ys[0]? := hf 0 _ rfl
  have h1 : DataW.trod enc Tryz.prog w base spare held m 45 ((([a, b, c, d, e, f, g, hh, i, j] : List Value).drop 2).take (Tryz.prog.cellsOf 45)) = ys[1]? := hf 1 _ rfl
  have h2 : DataW.trod enc Tryz.prog w base spare held m 47 ((([a, b, c, d, e, f, g, hh, i, j] : List Value).drop 4).take (Tryz.prog.cellsOf 47)) = ys[2]? := hf 2 _ rfl
  have h3 : DataW.trod enc Tryz.prog w base spare held m 4 ((([a, b, c, d, e, f, g, hh, i, j] : List Value).drop 7).take (Tryz.prog.cellsOf 4)) = ys[3]? := hf 3 _ rfl
  have h4 : DataW.trod enc Tryz.prog w base spare held m 3 ((([a, b, c, d, e, f, g, hh, i, j] : List Value).drop 8).take (Tryz.prog.cellsOf 3)) = ys[4]? := hf 4 _ rfl
  have h5 : DataW.trod enc Tryz.prog w base spare held m 3 ((([a, b, c, d, e, f, g, hh, i, j] : List Value).drop 9).take (Tryz.prog.cellsOf 3)) = ys[5]? := hf 5 _ rfl
  rw [show Tryz.prog.cellsOf 45 = 2 from by kernel_rfl] at h0 h1
  rw [show Tryz.prog.cellsOf 47 = 3 from by kernel_rfl] at h2
  rw [show Tryz.prog.cellsOf 4 = 1 from by kernel_rfl] at h3
  rw [show Tryz.prog.cellsOf 3 = 1 from by kernel_rfl] at h4 h5
  simp only [List.drop_zero, List.drop_succ_cons, List.take_succ_cons, List.take_zero] at h0 h1 h2 h3 h4 h5
  rw [List.getElem?_eq_getElem (by rw [hyl]; decide)] at h0 h1 h2 h3 h4 h5
  obtain ⟨a1, a2, rfl, rfl⟩ := trod_times h0
  obtain ⟨b1, b2, rfl, rfl⟩ := trod_times h1
  obtain ⟨c1, c2, c3, rfl, rfl, rfl⟩ := trod_pitch h2
  obtain ⟨z, e3, _⟩ := DataW.trod_bool Tryz.underlying4 h3
  obtain ⟨sg, e4, _, _⟩ := DataW.trod_int Tryz.underlying3 h4
  obtain ⟨ps, e5, _, _⟩ := DataW.trod_int Tryz.underlying3 h5
  simp at e3 e4 e5
  subst e3 e4 e5
  exact ⟨⟨(a1, a2), (b1, b2), (c1, c2, c3), z, sg, ps⟩, rfl⟩
end
section
variable {H : Type} {enc : TypeId × Value → H} {W : World} {base b0 : Nat} {spare : Nat → Bool} {held : Bool} {r : Reach} {v : Value} {d : DataW H} {p : List MemPlace}
end
end Go.Proofs.YtpkmiegccfhpnaaGreatDoor

/- Arguments that are lists of voices, opened. -/

namespace Go.Proofs.YtpkmiegccfhpnaaGreatDoor
set_option maxRecDepth 100000
open Go.ChangeShapes Go.WideShapes Go.Deep Go.RowKit
section
variable {H : Type} {enc : TypeId × Value → H} {W : World} {base b0 : Nat} {spare : Nat → Bool} {held : Bool} {r : Reach} {v : Value} {d : DataW H} {p : List MemPlace}
set_option maxRecDepth 100000 in
theorem cells_events : Tryz.prog.cellsOf 36 = 1 := by kernel_rfl
end
end Go.Proofs.YtpkmiegccfhpnaaGreatDoor

/- Arguments that are lists of numbers, opened. -/

namespace Go.Proofs.YtpkmiegccfhpnaaGreatDoor
set_option maxRecDepth 100000
open Go.ChangeShapes Go.WideShapes Go.Deep Go.RowKit
section
variable {H : Type} {enc : TypeId × Value → H} {W : World} {base b0 : Nat} {spare : Nat → Bool} {held : Bool} {r : Reach} {v : Value} {d : DataW H} {p : List MemPlace}
end
end Go.Proofs.YtpkmiegccfhpnaaGreatDoor

/- Facts that all row proofs of this seat share (rows without a package variable). -/

namespace Go.Proofs.YtpkmiegccfhpnaaGreatDoor
open Go.ChangeShapes Go.WideShapes Go.ChangeAt Go.RowKit
set_option maxRecDepth 100000 in
theorem laidOut : laidOutB Tryz.prog = true := by kernel_rfl
section
variable {H : Type} {enc : TypeId × Value → H} {W : World} {base b0 : Nat} {spare : Nat → Bool} {held : Bool} {r : Reach} {v : Value} {d : DataW H} {p : List MemPlace}
end
end Go.Proofs.YtpkmiegccfhpnaaGreatDoor
/- Plain mathematics of chords (the first part of ChOct and ChChordMath, by themselves): two pitches, the bass, whether two pitches clash over a bass. -/

namespace Go.Proofs.YtpkmiegccfhpnaaGreatDoor
theorem pchk_mk {p : Int × Int × Int} (h : 0 ≤ p.1 ∧ p.1 ≤ 6 ∧ 0 ≤ p.2.1 ∧ p.2.1 ≤ 8 ∧ -1 ≤ p.2.2 ∧ p.2.2 ≤ 1) : pchk p = 0 := by unfold pchk; rw [if_neg (by omega)]
/-! ### No clash -/
end Go.Proofs.YtpkmiegccfhpnaaGreatDoor

/- Plain mathematics of dissonances: chords of slices, clashes of voices, treatments, the list of all; no program in sight. -/

namespace Go.Proofs.YtpkmiegccfhpnaaGreatDoor
/-! ### What sounds in a slice -/
/-! ### Clashes of voices -/
/-! ### Treatments -/
/-! ### All dissonances -/
end Go.Proofs.YtpkmiegccfhpnaaGreatDoor

/- Plain mathematics of dissonances: the list of all by what begins where; the treatment of a dissonance that began earlier. -/
namespace Go.Proofs.YtpkmiegccfhpnaaGreatDoor
section
variable (l : List (List Ev)) (m : List Tm)
end
end Go.Proofs.YtpkmiegccfhpnaaGreatDoor

/- Plain mathematics of dissonances: the treatment of a dissonance that began earlier, going back and by the list of all. -/
namespace Go.Proofs.YtpkmiegccfhpnaaGreatDoor
section
variable {l : List (List Ev)} (hz : (checkA l).1 = 0)
include hz
end
section
variable (l : List (List Ev)) (m : List Tm)
end
end Go.Proofs.YtpkmiegccfhpnaaGreatDoor

/- Plain mathematics of dissonances: settings that are alike; another order of three voices; a voice that rests. -/
namespace Go.Proofs.YtpkmiegccfhpnaaGreatDoor
/-! ### Settings that are alike -/
section
variable (l l' : List (List Ev)) (m m' : List Tm)
variable {l l' m m'}
end
/-! ### A voice that rests -/
section
variable {l : List (List Ev)} {r : List Ev} (hr : ∀ t, sndB r t = false)
include hr
end
/-! ### Three voices in another order -/
section
variable {l : List (List Ev)} (hl : l.length = 3) (hp : ∀ v ∈ l, PitsV v) (k : Nat)
include hl hp
end
end Go.Proofs.YtpkmiegccfhpnaaGreatDoor

/- Plain mathematics of dissonances: three voices in another order have as many of each treatment. -/
namespace Go.Proofs.YtpkmiegccfhpnaaGreatDoor
section
variable {l : List (List Ev)} (hl : l.length = 3) (hp : ∀ v ∈ l, PitsV v)
include hl
include hp
end
end Go.Proofs.YtpkmiegccfhpnaaGreatDoor

/- Plain mathematics of dissonances: an octave higher, and slower. -/
namespace Go.Proofs.YtpkmiegccfhpnaaGreatDoor
/-! ### Events that are changed one by one -/
section
variable {f : Ev → Ev}
end
/-! ### An octave higher -/
def upP (q : Pit3) : Pit3 := (q.1, q.2.1 + 1, q.2.2)
def octE (x : Ev) : Ev := if x.rest = true then x else { x with pit := upP x.pit }
theorem octE_rest (x : Ev) : (octE x).rest = x.rest := by unfold octE; split <;> rfl
theorem octE_pit {x : Ev} (h : x.rest = false) : (octE x).pit = upP x.pit := by unfold octE; rw [if_neg (by simp [h])]
theorem PitsU.up {v : List Ev} (h : PitsU v) : PitsV (v.map octE) := by
  intro x hx hr
  obtain ⟨y, hy, rfl⟩ := List.mem_map.1 hx
  rw [octE_rest] at hr
  rw [octE_pit hr]
  obtain ⟨h1, h2⟩ := h y hy hr
  have := pchk_ok h1
  exact pchk_mk (by unfold upP; simp only; omega)
section
variable {l : List (List Ev)} (hp : ∀ v ∈ l, PitsU v)
include hp
end
end Go.Proofs.YtpkmiegccfhpnaaGreatDoor

/- Plain mathematics of dissonances: doubled times. -/
namespace Go.Proofs.YtpkmiegccfhpnaaGreatDoor
section
variable {l : List (List Ev)} (hw : ∀ v ∈ l, WholeV v) (hp : ∀ v ∈ l, PitsV v)
include hw
include hp
end
end Go.Proofs.YtpkmiegccfhpnaaGreatDoor

/- Plain mathematics of dissonances: the three voices made of numbers. -/
namespace Go.Proofs.YtpkmiegccfhpnaaGreatDoor
section
variable (l : List Int)
end
/-! ### A voice that rests until the end -/
section
variable {M : Int} {l : List (List Ev)} (h : SetQ M l) (h8 : l.length ≤ 7) (h0 : 0 < (momS l).length)
include h h0
include h8
end
end Go.Proofs.YtpkmiegccfhpnaaGreatDoor
