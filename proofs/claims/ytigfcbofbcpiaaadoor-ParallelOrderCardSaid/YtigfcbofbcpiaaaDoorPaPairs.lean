
/- The iterator of the pairs of voices. -/
import Derived.Test.YtigfcbofbcpiaaaDoorPaKind
import Derived.RangeFuncNested
import Derived.RangeFuncBound
import Derived.RangeFuncCalls
import Derived.RangeFuncLeaves
import Derived.OwnWalkIn
import Derived.TacticsInMore
import Derived.LoopNIn
import Derived.LoopIn
namespace Go.Proofs.YtigfcbofbcpiaaaDoor
open Go.RowKit
attribute [local go_sem] Oper.semAt_some
set_option maxHeartbeats 400000 in
theorem pairs_any (n : Nat) (w : World) :
    Calls Tryd.prog 41 #[.int .i64 n] w fun e w' => e = .returned (.func (.func 63) #[] #[.pointer (some ⟨w.heap.size, 0, none⟩)]) ∧ w' = w.alloc (.cells #[.int .i64 n] 3) := by
  go_enter Tryd.func41, Tryd.ntmps41
  go_wp2
  go_ret
  exact ⟨rfl, rfl⟩
/-- What the iterator asks of a round. -/
def PairOk (n lp : Nat) (J : Nat → Nat → World → Prop) : Prop :=
  ∀ (a b : Nat) (W : World), a < b → b < n → J a b W →
    ∃ fn tmps assign body, (Instr.yield lp #[.int .i64 a, .int .i64 b]).run Tryd.prog W = .ok (.round lp fn tmps assign body) W ∧
      RoundIn Fence.wide 0 Tryd.prog lp fn tmps assign body W fun e W' => e = .returned (.bool true) ∧ J a (b + 1) W'
set_option maxRecDepth 100000 in
set_option maxHeartbeats 4000000 in
theorem pairs1_any (n p0 lp : Nat) (w : World) (hn : n ≤ 1000) (J : Nat → Nat → World → Prop) (hbox : ∀ a b W, J a b W → W.cell? ⟨p0, 0, none⟩ = some (.int .i64 n) ∧ p0 < W.heap.size)
    (h0 : J 0 1 w) (hJ : ∀ a W, a < n → J a n W → J (a + 1) (a + 2) W) (hY : PairOk n lp J) :
    Calls Tryd.prog 63 #[.func (.yield lp) #[] #[], .pointer (some ⟨p0, 0, none⟩)] w fun e w' => (∃ v, e = .returned v) ∧ J n (n + 1) w' := by
  have HB := Lib.hid hbox
  have HJ := Lib.hid hJ
  have HY := Lib.hid hY
  clear hbox hJ hY
  obtain ⟨c0, l0⟩ := HB.out 0 1 w h0
  go_enter Tryd.func63, Tryd.ntmps63
  go_wp2_with fail
  go_loopg [6, 3, 4] n (fun g i _ _ wr => ∃ (a : Nat), a + g = n ∧ i = .int .i64 (a : Int) ∧ J a (a + 1) wr)
  case atStart => exact ⟨0, by omega, by simp, h0⟩
  case round =>
    clear h0 c0 l0
    obtain ⟨a, hag, rfl, hJa⟩ := hrel
    have wa : IntKind.i64.wrap ((a : Int) + 1) = (a : Int) + 1 := IntWalk.i64_in _ (by omega)
    cases gk with
    | zero =>
      have han : a = n := by omega
      subst han
      have d0 : ¬ ((a : Int) < (a : Int)) := by omega
      go_wp2
      go_end0
      exact ⟨⟨_, rfl⟩, hJa⟩
    | succ g =>
      have han : a < n := by omega
      have d0 : (a : Int) < (n : Int) := by omega
      go_wp2_with fail
      go_loopg [4] (n - (a + 1)) (fun g2 i wy => ∃ (b : Nat), b + g2 = n ∧ a < b ∧ i = .int .i64 (b : Int) ∧ J a b wy)
      case atStart => exact ⟨a + 1, by omega, by omega, by simp, hJa⟩
      case round =>
        clear hJa
        obtain ⟨b, hbg, hab, rfl, hJb⟩ := hrel
        obtain ⟨c1, l1⟩ := HB.out a b wr hJb
        have wb : IntKind.i64.wrap ((b : Int) + 1) = (b : Int) + 1 := IntWalk.i64_in _ (by omega)
        cases gk with
        | zero =>
          have hbn : b = n := by omega
          have d1 : ¬ ((b : Int) < (n : Int)) := by omega
          rw [hbn] at hJb
          have hN := HJ.out a wr han hJb
          clear hbn hJb
          go_wp2
          go_roundg g
          case measure => omega
          case rel => exact ⟨a + 1, by omega, by go_num, hN⟩
        | succ g2 =>
          have hbn : b < n := by omega
          have d1 : (b : Int) < (n : Int) := by omega
          obtain ⟨fn, tmps, assign, body, hyd, hRd⟩ := HY.out a b wr hab hbn hJb
          clear hJb
          repeat ((fail_if_success (with_reducible show (Code.region 6 _ _).wp _ _ _ _)); go_step)
          refine (wpIn_wide (n := 1)).1 ?_
          gi_wp2
          refine hRd.mono ?_
          rintro e W3 ⟨rfl, hJ3⟩
          clear hyd hRd
          gi_wp2
          go_wp2
          go_roundg g2
          case measure => omega
          case rel => exact ⟨b + 1, by omega, by omega, by go_num, hJ3⟩
end Go.Proofs.YtigfcbofbcpiaaaDoor
