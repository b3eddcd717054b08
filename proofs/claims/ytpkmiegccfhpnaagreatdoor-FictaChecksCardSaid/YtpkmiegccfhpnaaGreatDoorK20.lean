/- Parts of the proofs of layer 31: SoCmp, Shelf, FiVals, SoSort. -/
import Derived.Test.YtpkmiegccfhpnaaGreatDoorK19
import Derived.Test.YtpkmiegccfhpnaaGreatDoorK03
import Derived.Test.YtpkmiegccfhpnaaGreatDoorK17
import Derived.Shelf.SlGeneric
import Derived.Shelf.SlLaysF0
import Derived.Ground.SlsfProg
import Derived.Test.YtpkmiegccfhpnaaGreatDoorProg
import Derived.Test.YtpkmiegccfhpnaaGreatDoorK12
import Derived.RangeFuncSeq
import Derived.Test.YtpkmiegccfhpnaaGreatDoorK18
namespace Go.Proofs.YtpkmiegccfhpnaaGreatDoor
open Go.RowKit Go.Sort
/-- A world that parts from W by draws and new blocks. -/
structure Grn (W : World) where
  val : World
  h : Grw W val
instance grn_some (W : World) : Nonempty (Grn W) := ⟨⟨W, Grw.refl _⟩⟩
@[go_sem] theorem Grn.cell {W : World} (q : Grn W) (b o : Nat) (h : b < W.heap.size) : q.val.cell? ⟨b, o, none⟩ = W.cell? ⟨b, o, none⟩ := q.h.below.cell (p := ⟨b, o, none⟩) h
@[go_sem] theorem Grn.frozen {W : World} (q : Grn W) (b o : Nat) (h : b < W.heap.size) : q.val.frozen? ⟨b, o, none⟩ = W.frozen? ⟨b, o, none⟩ := q.h.below.frozen (p := ⟨b, o, none⟩) h
theorem grn_call {P : Program} {f : FuncId} {args : Array Value} {W : World} {q : Grn W} {v : Value}
    (h : Calls P f args q.val fun e w'' => e = .returned v ∧ Grw q.val w'') : Calls P f args q.val fun e w'' => e = .returned v ∧ ∃ q' : Grn W, w'' = q'.val :=
  h.mono fun _ w'' ⟨he, hb⟩ => ⟨he, ⟨w'', q.h.tr hb⟩, rfl⟩
theorem wp_region_grn_tail {P : Program} {id : Nat} {Q : Exit → Act → World → Prop} {a : Act} {w : World} {l : List Oper} (n : Nat) (hm : P.follows .mixedOrders = true) (hB : Region.lexTailB .any l.toArray n = true)
    (h : wpQuiet P l.toArray (fun w' => ∃ q : Grn w, w' = q.val) (fun a' => ∀ w', Grw w w' → wpList P l.toArray Q (l.drop n) a' w') (l.take n) a) : (Code.region id l.toArray true).wp P Q a w := by
  simp only [Region.lexTailB, Bool.and_eq_true, decide_eq_true_eq] at hB
  obtain ⟨⟨⟨⟨hsel, hn⟩, hs⟩, hc⟩, hlex⟩ := hB
  have hn' : n < l.length := by simpa using hn
  have htl : (l.take n).length = n := by simp; omega
  have hdl : (l.drop n).length = l.toArray.size - n := by simp
  have inv0 : HeadInv .any l.toArray n (Array.replicate l.toArray.size false) :=
    ⟨by simp, fun j oj _ hl => (by rw [getD_replicate_false] at hl; cases hl), fun t _ ht => getD_in (by simpa using ht) (getD_replicate_false _ _)⟩
  have H := headQ_lex (md := .any) (C := fun w' => ∃ q : Grn w, w' = q.val) (g := l.toArray.size - n) hsel hs hc hn (l.take n) 0 _ a
    (fun j hj => by
      have hj' : j < n := by rw [htl] at hj; exact hj
      simp [hj']) (by simpa using htl) inv0 (by rw [htl]; exact hlex) h
  refine wp_region_any hm ?_
  have := any_of_headQ (Q' := Q) (g := l.toArray.size - n) (fun s' a' w' hw' hL => by
    obtain ⟨q, rfl⟩ := hw'
    have := wpAny_of_seq (md := .any) (Q' := Q) (l.drop n) n s' a' q.val (fun j => by simp [List.getElem?_drop]) (by rw [hdl]; exact hL.1) (hL.2 _ q.h)
    rwa [hdl] at this) _ _ _ { w with drawn := w.drawn + 1 } ⟨⟨w.drew, (Grw.refl _).drew⟩, rfl⟩ H
  rw [htl, show n + (l.toArray.size - n) = l.toArray.size by omega] at this
  exact this
set_option maxHeartbeats 400000 in
theorem isNaN_w (a : Int) (w : World) : Calls Tryz.prog 50 #[.int .i64 a] w fun e w' => e = .returned (.bool false) ∧ w' = w := by
  go_enter Tryz.func50, Tryz.ntmps50
  go_wp2
  go_ret
  exact ⟨by simp, rfl⟩
set_option maxHeartbeats 400000 in
theorem cmpI_w (a b : Int) (w : World) : Calls Tryz.prog 32 #[.int .i64 a, .int .i64 b] w fun e w' => e = .returned (.int .i64 (cmp3 a b)) ∧ w' = w := by
  go_enter Tryz.func32, Tryz.ntmps32
  go_wp2_with fail
  refine (isNaN_w a _).mono ?_
  rintro e w1 ⟨rfl, rfl⟩
  go_wp2_with fail
  refine (isNaN_w b _).mono ?_
  rintro e w2 ⟨rfl, rfl⟩
  by_cases c1 : a < b
  · have E := Lib.hid (show cmp3 a b = -1 by unfold cmp3; rw [if_pos c1])
    go_wp2
    go_ret
    rw [E.out]
    exact ⟨rfl, rfl⟩
  · by_cases c2 : b < a
    · have E := Lib.hid (show cmp3 a b = 1 by unfold cmp3; rw [if_neg c1, if_pos c2])
      go_wp2
      go_ret
      rw [E.out]
      exact ⟨rfl, rfl⟩
    · have E := Lib.hid (show cmp3 a b = 0 by unfold cmp3; rw [if_neg c1, if_neg c2])
      go_wp2
      go_ret
      rw [E.out]
      exact ⟨rfl, rfl⟩
set_option maxRecDepth 100000 in
set_option maxHeartbeats 1000000 in
theorem or_w (A : Option Addr) (n c : Nat) (l : List Int) (B : Nat) (w : World) (h : Reads w B 1 A n (csN l)) (hB : B ≤ w.heap.size) (hn : n ≤ 1000) :
    Calls Tryz.prog 31 #[.slice A n c] w fun e w' => e = .returned (.int .i64 (orS l)) ∧ w' = w := by
  have HL := Lib.hid (show l.length = n from h.len (size := 1) (l := l) (f := cI) (fun _ => rfl) (by decide))
  go_enter Tryz.func31, Tryz.ntmps31
  go_wp2
  go_loopg [5, 8] n (fun g _ i wr => ∃ k : Nat, k + g = n ∧ i = .int .i64 k ∧ Hid (wr = w) ∧ Hid (orS (l.drop k) = orS l))
  case atStart => exact ⟨0, by omega, by simp, Lib.hid rfl, Lib.hid rfl⟩
  case round =>
    obtain ⟨k, hkg, rfl, kr, hE⟩ := hrel
    cases gk with
    | zero =>
      obtain rfl : k = n := by omega
      have d0 : ¬ ((k : Int) < (k : Int)) := by omega
      have E := Lib.hid (show orS l = 0 by rw [← hE.out, List.drop_of_length_le (by have := HL.out; omega)]; rfl)
      go_wp2
      go_ret
      rw [E.out]
      exact ⟨rfl, kr.out⟩
    | succ g =>
      have hk : k < n := by omega
      have hk' : (k : Int) < (n : Int) := by omega
      obtain ⟨x, hx⟩ := get_some (l := l) (k := k) (by have := HL.out; omega)
      obtain ⟨b, off, hA, hb, hc⟩ := Reads.elem (f := cI) (fun _ => rfl) h hk hx
      have hD : l.drop k = x :: l.drop (k + 1) := by
        have := List.drop_eq_getElem_cons (i := k) (l := l) (by have := HL.out; omega)
        rw [this, (List.getElem?_eq_some_iff.1 hx).2]
      have HD := Lib.hid (show (if x ≠ 0 then x else orS (l.drop (k + 1))) = orS l by rw [← hE.out, hD]; rfl)
      have c0 : wr.cell? ⟨b, off + k, none⟩ = some (.int .i64 x) := by rw [kr.out]; have := hc 0 _ rfl; simpa using this
      have hbw : b < wr.heap.size := by rw [kr.out]; omega
      subst hA
      clear hc hD hx hE
      by_cases hz : x = 0
      · have HN := Lib.hid (show orS (l.drop (k + 1)) = orS l by rw [← HD.out, if_neg (fun h => h hz)])
        have f0 : (x != 0) = false := by simp [hz]
        go_wp2
        go_roundg g
        case measure => omega
        case rel => exact ⟨k + 1, by omega, by go_num, kr, HN⟩
      · have HN := Lib.hid (show orS l = x by rw [← HD.out, if_pos hz])
        have f0 : (x != 0) = true := by simp [hz]
        go_wp2
        go_ret
        rw [HN.out]
        exact ⟨rfl, kr.out⟩
set_option maxHeartbeats 400000 in
theorem check_w (n d : Int) (w : World) :
    Calls Tryz.prog 131 #[.agg #[.int .i64 n, .int .i64 d]] w fun e w' => e = .returned (.int .i64 (chk n d)) ∧ Grw w w' := by
  go_enter Tryz.func131, Tryz.ntmps131
  go_wp2_with (go_at_call 132; refine (divisor_any _ _ _ (by omega) (by omega) (by omega) (by omega)).mono ?_; rintro e w' ⟨rfl, nq, rfl⟩)
  all_goals
    go_ret
    refine ⟨ret_int ?_, ?_⟩
    · unfold chk; (repeat' split) <;> first | rfl | omega
    · repeat (first | with_reducible exact Grw.refl _ | with_reducible assumption | with_reducible refine Grw.drewN ?_ _ | with_reducible refine Grw.drew ?_ | with_reducible refine Grw.alloc ?_ _)
set_option maxHeartbeats 400000 in
theorem first_w (A : Option Addr) (n c : Nat) (l : List (Int × Int)) (B : Nat) (w : World) (h : Reads w B 2 A n (csT l)) (hB : B ≤ w.heap.size) (hn : n ≤ 9223372036854775807) :
    Calls Tryz.prog 100 #[.slice A n c] w fun e w' => e = .returned (.int .i64 (firstS l)) ∧ Grw w w' := by
  have hl : l.length = n := h.len (f := cT) (fun _ => rfl) (by omega)
  have HL := Lib.hid hl; clear hl
  go_enter Tryz.func100, Tryz.ntmps100
  go_wp2
  go_loopw [4, 5, 8] (fun _ _ i wr => ∃ k : Nat, k ≤ n ∧ i = .int .i64 k ∧ Hid (firstS (l.drop k) = firstS l) ∧ Grw w wr) (fun _ _ i _ => n - (intOf i).toNat)
  case atStart => exact ⟨0, by omega, rfl, rfl, Grw.refl _⟩
  case round =>
    obtain ⟨k, hk, rfl, hs, hg⟩ := hrel
    have hb := hg.below
    by_cases hlt : k < n
    · obtain ⟨⟨p, q⟩, hx⟩ := get_some (l := l) (k := k) (by have := HL.out; omega)
      have HD := Lib.hid (drop_get hx)
      obtain ⟨b, off, rfl, hab, hc⟩ := h.elem (f := cT) (fun _ => rfl) hlt hx
      have c0 := hc 0 _ rfl
      have c1 := hc 1 _ rfl
      rw [← hb.cell (by simp; omega)] at c0 c1
      simp only [Nat.add_zero, ← Nat.add_assoc] at c0 c1
      clear hc hx
      go_wp2_with (go_at_call 131; refine (check_w _ _ _).mono ?_; rintro e w1 ⟨rfl, hg1⟩; have hb1 := hg1.below)
      · go_ret
        have hne : (chk p q != 0) = true := by assumption
        refine ⟨ret_int ?_, ?_⟩
        · rw [← hs.out, HD.out, firstS_bad (by simpa using hne)]
        · exact (hg.alloc _).tr hg1
      · go_roundw
        case rel =>
          have hne : (chk p q != 0) = false := by assumption
          refine ⟨k + 1, by omega, by go_num, ?_, (hg.alloc _).tr hg1⟩
          have h1 := hs.out
          rw [HD.out, firstS_next (by simpa using hne)] at h1
          exact h1
        case measure => simp [intOf]; omega
    · go_wp2
      go_ret
      refine ⟨ret_int ?_, hg⟩
      rw [← hs.out, List.drop_eq_nil_of_le (by have := HL.out; omega)]; rfl
theorem first_two_w (a a' b b' : Int) (w : World) (t : TypeId) (g : Nat) (hg : g = w.heap.size) :
    Calls Tryz.prog 100 #[.slice (some ⟨g, 0, none⟩) 2 2] (w.alloc (.cells #[.int .i64 a, .int .i64 a', .int .i64 b, .int .i64 b'] t)) fun e w' => e = .returned (.int .i64 (both (a, a') (b, b'))) ∧ Grw (w.alloc (.cells #[.int .i64 a, .int .i64 a', .int .i64 b, .int .i64 b'] t)) w' := by
  have h := first_w (some ⟨g, 0, none⟩) 2 2 [(a, a'), (b, b')] _ (w.alloc (.cells #[.int .i64 a, .int .i64 a', .int .i64 b, .int .i64 b'] t)) (Reads.newAt _ _ _ _ _ _ hg rfl) (by simp; omega) (by omega)
  rw [firstS_two] at h
  exact h
set_option maxHeartbeats 400000 in
theorem scmp_w (a b : Int × Int) (w : World) :
    Calls Tryz.prog 102 #[.agg #[.int .i64 a.1, .int .i64 a.2], .agg #[.int .i64 b.1, .int .i64 b.2]] w fun e w' => e = .returned (.tuple #[.int .i64 (cmpS a b).1, .int .i64 (cmpS a b).2]) ∧ Grw w w' := by
  obtain ⟨a, a'⟩ := a
  obtain ⟨b, b'⟩ := b
  by_cases hz : both (a, a') (b, b') = 0
  · obtain ⟨⟨a1, a2, a3, a4, a5⟩, ⟨b1, b2, b3, b4, b5⟩⟩ := both_ok hz
    simp only at a1 a2 a3 a4 a5 b1 b2 b3 b4 b5
    have m1 := mul_bd a1 (show 0 ≤ b' by omega) a2 b4
    have m2 := mul_bd b1 (show 0 ≤ a' by omega) b2 a4
    have m3 := mul_bd (show 0 ≤ a' by omega) (show 0 ≤ b' by omega) a4 b4
    have m4 : 1 ≤ a' * b' := by have := Int.mul_le_mul a3 b3 (by omega) (by omega); omega
    have A5 := Lib.hid a5; have B5 := Lib.hid b5; clear a5 b5
    go_enter Tryz.func102, Tryz.ntmps102
    go_wp2_with ((go_at_call 100; refine (first_two_w _ _ _ _ _ _ _ (by simp)).mono ?_; rintro e w1 ⟨rfl, hg1⟩; have hb1 := hg1.below; have hc1 := (bcell hb1).1; have hf1 := (bcell hb1).2))
    all_goals
      go_ret2
      refine ⟨?_, ?_⟩
      · unfold cmpS sgn; rw [if_neg (by rw [hz]; exact fun h => h rfl)]; simp only; (repeat' split) <;> first | rfl | omega
      · refine Grw.tr ?_ hg1
        repeat (first | with_reducible exact Grw.refl _ | with_reducible assumption | with_reducible refine Grw.drewN ?_ _ | with_reducible refine Grw.drew ?_ | with_reducible refine Grw.alloc ?_ _)
  · go_enter Tryz.func102, Tryz.ntmps102
    go_wp2_with ((go_at_call 100; refine (first_two_w _ _ _ _ _ _ _ (by simp)).mono ?_; rintro e w1 ⟨rfl, hg1⟩; have hb1 := hg1.below; have hc1 := (bcell hb1).1; have hf1 := (bcell hb1).2))
    go_ret2
    refine ⟨?_, ?_⟩
    · unfold cmpS; rw [if_pos hz]; rfl
    · refine Grw.tr ?_ hg1
      repeat (first | with_reducible exact Grw.refl _ | with_reducible assumption | with_reducible refine Grw.drewN ?_ _ | with_reducible refine Grw.drew ?_ | with_reducible refine Grw.alloc ?_ _)
set_option maxHeartbeats 400000 in
theorem ord_w (a b : Int × Int) (w : World) :
    Calls Tryz.prog 119 #[.agg #[.int .i64 a.1, .int .i64 a.2], .agg #[.int .i64 b.1, .int .i64 b.2]] w fun e w' => e = .returned (.int .i64 (cmpS a b).1) ∧ Grw w w' := by
  have q := fun W => scmp_w a b W
  obtain ⟨a, a'⟩ := a
  obtain ⟨b, b'⟩ := b
  obtain ⟨⟨r, s⟩, hr⟩ : ∃ z, z = cmpS (a, a') (b, b') := ⟨_, rfl⟩
  rw [← hr] at q ⊢
  simp only at q ⊢
  clear hr
  go_enter Tryz.func119, Tryz.ntmps119
  go_wp2_with fail
  refine (q _).mono ?_
  rintro e w1 ⟨rfl, hg1⟩
  go_wp2
  go_ret
  refine ⟨rfl, Grw.tr ?_ hg1⟩
  repeat (first | with_reducible exact Grw.refl _ | with_reducible assumption | with_reducible refine Grw.drewN ?_ _ | with_reducible refine Grw.drew ?_ | with_reducible refine Grw.alloc ?_ _)
/-- The program's order of cadences. -/
def cmpCad (x y : Cad) : Int := orS [(cmpS x.at_ y.at_).1, cmp3 x.c y.c, cmp3 x.t y.t]
set_option maxRecDepth 100000 in
set_option maxHeartbeats 4000000 in
theorem ford_w (x y : Cad) (w : World) : Calls Tryz.prog 118 #[.agg (cCad x).toArray, .agg (cCad y).toArray] w fun e w' => e = .returned (.int .i64 (cmpCad x y)) ∧ Grw w w' := by
  obtain ⟨⟨x1, x2⟩, x3, x4, x5, x6, x7⟩ := x
  obtain ⟨⟨y1, y2⟩, y3, y4, y5, y6, y7⟩ := y
  have E := Lib.hid (show cmpCad ⟨(x1, x2), x3, x4, x5, x6, x7⟩ ⟨(y1, y2), y3, y4, y5, y6, y7⟩ = orS [(cmpS (x1, x2) (y1, y2)).1, cmp3 x3 y3, cmp3 x4 y4] from rfl)
  show Calls Tryz.prog 118 #[.agg #[.int .i64 x1, .int .i64 x2, .int .i64 x3, .int .i64 x4, .int .i64 x5, .int .i64 x6, .int .i64 x7], .agg #[.int .i64 y1, .int .i64 y2, .int .i64 y3, .int .i64 y4, .int .i64 y5, .int .i64 y6, .int .i64 y7]] w fun e w' => e = .returned (.int .i64 (cmpCad ⟨(x1, x2), x3, x4, x5, x6, x7⟩ ⟨(y1, y2), y3, y4, y5, y6, y7⟩)) ∧ Grw w w'
  have q := fun W => ord_w (x1, x2) (y1, y2) W
  obtain ⟨r, hr⟩ : ∃ z, z = (cmpS (x1, x2) (y1, y2)).1 := ⟨_, rfl⟩
  rw [← hr] at q E
  simp only at q
  clear hr
  go_enter Tryz.func118, Tryz.ntmps118
  go_wp2_with fail
  obtain ⟨wq, hwq⟩ : ∃ z, z = (w.alloc (.cells #[.int .i64 x1, .int .i64 x2, .int .i64 x3, .int .i64 x4, .int .i64 x5, .int .i64 x6, .int .i64 x7] 126)).alloc (.cells #[.int .i64 y1, .int .i64 y2, .int .i64 y3, .int .i64 y4, .int .i64 y5, .int .i64 y6, .int .i64 y7] 126) := ⟨_, rfl⟩
  have ba : Blk wq w.heap.size 126 #[.int .i64 x1, .int .i64 x2, .int .i64 x3, .int .i64 x4, .int .i64 x5, .int .i64 x6, .int .i64 x7] := by rw [hwq]; exact (Blk.new _ _ _).alloc _
  have bb : Blk wq (w.heap.size + 1) 126 #[.int .i64 y1, .int .i64 y2, .int .i64 y3, .int .i64 y4, .int .i64 y5, .int .i64 y6, .int .i64 y7] := by rw [hwq]; exact Blk.newAt _ _ _ _ (by simp)
  have kq : Grw w wq := by rw [hwq]; repeat (first | with_reducible exact Grw.refl _ | with_reducible assumption | with_reducible refine Grw.drewN ?_ _ | with_reducible refine Grw.drew ?_ | with_reducible refine Grw.alloc ?_ _)
  rw [← hwq]
  have la := ba.lt
  have lb := bb.lt
  have a0 := ba.cell 0
  have a1 := ba.cell 1
  have a2 := ba.cell 2
  have a3 := ba.cell 3
  have b0 := bb.cell 0
  have b1 := bb.cell 1
  have b2 := bb.cell 2
  have b3 := bb.cell 3
  simp only [List.getElem?_toArray, List.getElem?_cons_zero, List.getElem?_cons_succ] at a0 a1 a2 a3 b0 b1 b2 b3
  clear hwq
  refine wp_region_grn_tail 15 (by kernel_rfl) (by kernel_rfl) ?_
  simp only [List.take_succ_cons, List.take_zero, List.drop_succ_cons, List.drop_zero]
  repeat (go_big_quiet_step ((first | (go_at_call 32; with_reducible exact grn_call ((cmpI_w _ _ _).mono fun _ _ h => ⟨h.1, h.2 ▸ Grw.refl _⟩)) | (go_at_call 119; with_reducible exact grn_call (q _)))))
  refine wpQuiet_nil ?_
  intro w7 hg7
  have k7 := kq.tr hg7
  go_wp2_with fail
  refine Calls.mono (or_w (some ⟨w7.heap.size, 0, none⟩) 3 3 [r, cmp3 x3 y3, cmp3 x4 y4] (w7.heap.size + 1) _ (Reads.newAt _ _ _ 3 1 _ rfl rfl) (by simp) (by omega)) ?_
  rintro e w8 ⟨rfl, rfl⟩
  go_wp2
  go_ret
  rw [E.out]
  exact ⟨rfl, k7.alloc _⟩
/-- The program's order of proposals. -/
def cmpFic (x y : Fic) : Int := orS [cmp3 x.1 y.1, cmp3 x.2.1 y.2.1]
set_option maxRecDepth 100000 in
set_option maxHeartbeats 4000000 in
theorem sord_w (x y : Fic) (w : World) : Calls Tryz.prog 62 #[.agg (cFic x).toArray, .agg (cFic y).toArray] w fun e w' => e = .returned (.int .i64 (cmpFic x y)) ∧ Grw w w' := by
  obtain ⟨x1, x2, x3, x4⟩ := x
  obtain ⟨y1, y2, y3, y4⟩ := y
  have E := Lib.hid (show cmpFic (x1, x2, x3, x4) (y1, y2, y3, y4) = orS [cmp3 x1 y1, cmp3 x2 y2] from rfl)
  show Calls Tryz.prog 62 #[.agg #[.int .i64 x1, .int .i64 x2, .int .i64 x3, .int .i64 x4], .agg #[.int .i64 y1, .int .i64 y2, .int .i64 y3, .int .i64 y4]] w fun e w' => e = .returned (.int .i64 (cmpFic (x1, x2, x3, x4) (y1, y2, y3, y4))) ∧ Grw w w'
  go_enter Tryz.func62, Tryz.ntmps62
  go_wp2_with fail
  obtain ⟨wq, hwq⟩ : ∃ z, z = (w.alloc (.cells #[.int .i64 x1, .int .i64 x2, .int .i64 x3, .int .i64 x4] 39)).alloc (.cells #[.int .i64 y1, .int .i64 y2, .int .i64 y3, .int .i64 y4] 39) := ⟨_, rfl⟩
  have ba : Blk wq w.heap.size 39 #[.int .i64 x1, .int .i64 x2, .int .i64 x3, .int .i64 x4] := by rw [hwq]; exact (Blk.new _ _ _).alloc _
  have bb : Blk wq (w.heap.size + 1) 39 #[.int .i64 y1, .int .i64 y2, .int .i64 y3, .int .i64 y4] := by rw [hwq]; exact Blk.newAt _ _ _ _ (by simp)
  have kq : Grw w wq := by rw [hwq]; repeat (first | with_reducible exact Grw.refl _ | with_reducible assumption | with_reducible refine Grw.drewN ?_ _ | with_reducible refine Grw.drew ?_ | with_reducible refine Grw.alloc ?_ _)
  rw [← hwq]
  have la := ba.lt
  have lb := bb.lt
  have a0 := ba.cell 0
  have a1 := ba.cell 1
  have b0 := bb.cell 0
  have b1 := bb.cell 1
  simp only [List.getElem?_toArray, List.getElem?_cons_zero, List.getElem?_cons_succ] at a0 a1 b0 b1
  clear hwq
  refine wp_region_grn_tail 10 (by kernel_rfl) (by kernel_rfl) ?_
  simp only [List.take_succ_cons, List.take_zero, List.drop_succ_cons, List.drop_zero]
  repeat (go_big_quiet_step ((go_at_call 32; with_reducible exact grn_call ((cmpI_w _ _ _).mono fun _ _ h => ⟨h.1, h.2 ▸ Grw.refl _⟩))))
  refine wpQuiet_nil ?_
  intro w7 hg7
  have k7 := kq.tr hg7
  go_wp2_with fail
  refine Calls.mono (or_w (some ⟨w7.heap.size, 0, none⟩) 2 2 [cmp3 x1 y1, cmp3 x2 y2] (w7.heap.size + 1) _ (Reads.newAt _ _ _ 2 1 _ rfl rfl) (by simp) (by omega)) ?_
  rintro e w8 ⟨rfl, rfl⟩
  go_wp2
  go_ret
  rw [E.out]
  exact ⟨rfl, k7.alloc _⟩
/-! ### The orders -/
theorem cmpFic_lt (x y : Fic) : ltOf cmpFic x y = decide (lessF x y) := by
  unfold ltOf cmpFic
  rw [decide_eq_decide]
  unfold lessF orS orS orS cmp3
  (repeat' split) <;> omega
theorem swo_fic : SWO (ltOf cmpFic) where
  irrefl x := by rw [cmpFic_lt]; exact decide_eq_false (lessF_irr x)
  trans x y z h1 h2 := by
    rw [cmpFic_lt, decide_eq_true_eq] at *
    unfold lessF at *; omega
  ntrans x y z h1 h2 := by
    rw [cmpFic_lt, decide_eq_false_iff_not] at *
    unfold lessF at *; omega
abbrev CadV := { x : Cad // ok x.at_ }
instance : Inhabited CadV := ⟨⟨⟨(0, 1), 0, 0, 0, 0, 0⟩, ok_zero⟩⟩
def cmpCadV (x y : CadV) : Int := cmpCad x.1 y.1
theorem swo_time : SWO (fun x y : CadV => decide (ltT x.1.at_ y.1.at_)) where
  irrefl _ := decide_eq_false (ltT_irr _)
  trans x y z h1 h2 := decide_eq_true (ltT_trans x.2 y.2 z.2 (of_decide_eq_true h1) (of_decide_eq_true h2))
  ntrans x y z h1 h2 := decide_eq_false (leT_trans z.2 y.2 x.2 (of_decide_eq_false h2) (of_decide_eq_false h1))
theorem swo_int {α : Type} (f : α → Int) : SWO (fun x y => decide (f x < f y)) where
  irrefl x := by simp
  trans x y z h1 h2 := by simp only [decide_eq_true_eq] at *; omega
  ntrans x y z h1 h2 := by simp only [decide_eq_false_iff_not] at *; omega
theorem cmpCad_lt (x y : CadV) : ltOf cmpCadV x y = (decide (ltT x.1.at_ y.1.at_) || (!decide (ltT y.1.at_ x.1.at_) && (decide (x.1.c < y.1.c) || (!decide (y.1.c < x.1.c) && decide (x.1.t < y.1.t))))) := by
  unfold ltOf cmpCadV cmpCad
  rw [cmp_ok x.2 y.2]
  rw [Bool.eq_iff_iff]
  simp only [decide_eq_true_eq, Bool.or_eq_true, Bool.and_eq_true, Bool.not_eq_true', decide_eq_false_iff_not]
  unfold orS orS orS orS cmp3 sgn ltT
  (repeat' split) <;> omega
theorem swo_cad : SWO (ltOf cmpCadV) := by
  have h := swo_lex swo_time (swo_lex (swo_int (fun x : CadV => x.1.c)) (swo_int (fun x : CadV => x.1.t)))
  rw [show ltOf cmpCadV = _ from funext fun x => funext fun y => cmpCad_lt x y]
  exact h
end Go.Proofs.YtpkmiegccfhpnaaGreatDoor
namespace Go.Proofs
open Go.Shelf
def Tryz.sortF_ren : Go.Shelf.Ren := ⟨fun | 6 => 83 | 15 => 110 | 14 => 109 | 28 => 141 | 29 => 142 | 20 => 133 | 21 => 134 | 22 => 135 | 23 => 136 | 24 => 137 | 25 => 138 | 26 => 139 | 27 => 140 | 46 => 151 | 47 => 152 | 48 => 153 | 49 => 154 | 50 => 155 | 57 => 169 | n => n, fun | 22 => 23 | 24 => 39 | 25 => 100 | 3 => 3 | 39 => 146 | 0 => 0 | 53 => 180 | 55 => 182 | 4 => 4 | 46 => 174 | 45 => 173 | 50 => 127 | 5 => 5 | 9 => 9 | 66 => 196 | 70 => 200 | 76 => 211 | 77 => 192 | n => n, fun | n => n⟩
theorem Tryz.sortF : Go.Proofs.SlLaysF0.n6 Tryz.prog Tryz.sortF_ren := {
  mixed := by kernel_rfl
  f6 := ⟨Tryz.f83.name, by decide, Tryz.func83.trans (congrArg some (by kernel_rfl))⟩
  f14 := ⟨Tryz.f109.name, by decide, Tryz.func109.trans (congrArg some (by kernel_rfl))⟩
  f15 := Tryz.func110.trans (congrArg some (by kernel_rfl))
  f20 := ⟨Tryz.f133.name, by decide, Tryz.func133.trans (congrArg some (by kernel_rfl))⟩
  f21 := ⟨Tryz.f134.name, by decide, Tryz.func134.trans (congrArg some (by kernel_rfl))⟩
  f22 := ⟨Tryz.f135.name, by decide, Tryz.func135.trans (congrArg some (by kernel_rfl))⟩
  f23 := ⟨Tryz.f136.name, by decide, Tryz.func136.trans (congrArg some (by kernel_rfl))⟩
  f24 := ⟨Tryz.f137.name, by decide, Tryz.func137.trans (congrArg some (by kernel_rfl))⟩
  f25 := ⟨Tryz.f138.name, by decide, Tryz.func138.trans (congrArg some (by kernel_rfl))⟩
  f26 := ⟨Tryz.f139.name, by decide, Tryz.func139.trans (congrArg some (by kernel_rfl))⟩
  f27 := ⟨Tryz.f140.name, by decide, Tryz.func140.trans (congrArg some (by kernel_rfl))⟩
  f28 := Tryz.func141.trans (congrArg some (by kernel_rfl))
  f29 := Tryz.func142.trans (congrArg some (by kernel_rfl))
  f46 := ⟨Tryz.f151.name, by decide, Tryz.func151.trans (congrArg some (by kernel_rfl))⟩
  f47 := Tryz.func152.trans (congrArg some (by kernel_rfl))
  f48 := Tryz.func153.trans (congrArg some (by kernel_rfl))
  f49 := ⟨Tryz.f154.name, by decide, Tryz.func154.trans (congrArg some (by kernel_rfl))⟩
  f50 := ⟨Tryz.f155.name, by decide, Tryz.func155.trans (congrArg some (by kernel_rfl))⟩
  f57 := ⟨Tryz.f169.name, by decide, Tryz.func169.trans (congrArg some (by kernel_rfl))⟩
  t0 := Tryz.underlying0
  a0 := Tryz.isAgg0
  z0 := Tryz.sizeOf0
  v0 := Tryz.zeroValue0
  t3 := Tryz.underlying3
  a3 := Tryz.isAgg3
  z3 := Tryz.sizeOf3
  v3 := Tryz.zeroValue3
  t4 := Tryz.underlying4
  a4 := Tryz.isAgg4
  z4 := Tryz.sizeOf4
  v4 := Tryz.zeroValue4
  t5 := Tryz.underlying5
  a5 := Tryz.isAgg5
  z5 := Tryz.sizeOf5
  v5 := Tryz.zeroValue5
  t9 := Tryz.underlying9
  a9 := Tryz.isAgg9
  z9 := Tryz.sizeOf9
  v9 := Tryz.zeroValue9
  t22 := Tryz.underlying23
  a22 := Tryz.isAgg23
  z22 := Tryz.sizeOf23
  v22 := Tryz.zeroValue23
  t25 := Tryz.underlying100
  a25 := Tryz.isAgg100
  z25 := Tryz.sizeOf100
  v25 := Tryz.zeroValue100
  t39 := Tryz.underlying146
  a39 := Tryz.isAgg146
  z39 := Tryz.sizeOf146
  v39 := Tryz.zeroValue146
  t45 := Tryz.underlying173
  a45 := Tryz.isAgg173
  z45 := Tryz.sizeOf173
  v45 := Tryz.zeroValue173
  t46 := Tryz.underlying174
  a46 := Tryz.isAgg174
  z46 := Tryz.sizeOf174
  v46 := Tryz.zeroValue174
  t50 := Tryz.underlying127
  a50 := Tryz.isAgg127
  z50 := Tryz.sizeOf127
  v50 := Tryz.zeroValue127
  t53 := Tryz.underlying180
  a53 := Tryz.isAgg180
  z53 := Tryz.sizeOf180
  v53 := Tryz.zeroValue180
  t55 := Tryz.underlying182
  a55 := Tryz.isAgg182
  z55 := Tryz.sizeOf182
  v55 := Tryz.zeroValue182
  t66 := Tryz.underlying196
  a66 := Tryz.isAgg196
  z66 := Tryz.sizeOf196
  v66 := Tryz.zeroValue196
  t70 := Tryz.underlying200
  a70 := Tryz.isAgg200
  z70 := Tryz.sizeOf200
  v70 := Tryz.zeroValue200
  t76 := Tryz.underlying211
  a76 := Tryz.isAgg211
  z76 := Tryz.sizeOf211
  v76 := Tryz.zeroValue211
  t77 := Tryz.underlying192
  a77 := Tryz.isAgg192
  z77 := Tryz.sizeOf192
  v77 := Tryz.zeroValue192 }
def Tryz.sortC_ren : Go.Shelf.Ren := ⟨fun | 6 => 117 | 15 => 110 | 14 => 145 | 28 => 141 | 29 => 142 | 20 => 157 | 21 => 158 | 22 => 159 | 23 => 160 | 24 => 161 | 25 => 162 | 26 => 163 | 27 => 164 | 46 => 170 | 47 => 152 | 48 => 153 | 49 => 171 | 50 => 172 | 57 => 176 | n => n, fun | 22 => 122 | 24 => 126 | 25 => 157 | 3 => 3 | 39 => 146 | 0 => 0 | 53 => 180 | 55 => 182 | 4 => 4 | 46 => 174 | 45 => 173 | 50 => 127 | 5 => 5 | 9 => 9 | 66 => 196 | 70 => 200 | 76 => 211 | 77 => 192 | n => n, fun | n => n⟩
theorem Tryz.sortC : Go.Proofs.SlLaysF0.n6 Tryz.prog Tryz.sortC_ren := {
  mixed := by kernel_rfl
  f6 := ⟨Tryz.f117.name, by decide, Tryz.func117.trans (congrArg some (by kernel_rfl))⟩
  f14 := ⟨Tryz.f145.name, by decide, Tryz.func145.trans (congrArg some (by kernel_rfl))⟩
  f15 := Tryz.func110.trans (congrArg some (by kernel_rfl))
  f20 := ⟨Tryz.f157.name, by decide, Tryz.func157.trans (congrArg some (by kernel_rfl))⟩
  f21 := ⟨Tryz.f158.name, by decide, Tryz.func158.trans (congrArg some (by kernel_rfl))⟩
  f22 := ⟨Tryz.f159.name, by decide, Tryz.func159.trans (congrArg some (by kernel_rfl))⟩
  f23 := ⟨Tryz.f160.name, by decide, Tryz.func160.trans (congrArg some (by kernel_rfl))⟩
  f24 := ⟨Tryz.f161.name, by decide, Tryz.func161.trans (congrArg some (by kernel_rfl))⟩
  f25 := ⟨Tryz.f162.name, by decide, Tryz.func162.trans (congrArg some (by kernel_rfl))⟩
  f26 := ⟨Tryz.f163.name, by decide, Tryz.func163.trans (congrArg some (by kernel_rfl))⟩
  f27 := ⟨Tryz.f164.name, by decide, Tryz.func164.trans (congrArg some (by kernel_rfl))⟩
  f28 := Tryz.func141.trans (congrArg some (by kernel_rfl))
  f29 := Tryz.func142.trans (congrArg some (by kernel_rfl))
  f46 := ⟨Tryz.f170.name, by decide, Tryz.func170.trans (congrArg some (by kernel_rfl))⟩
  f47 := Tryz.func152.trans (congrArg some (by kernel_rfl))
  f48 := Tryz.func153.trans (congrArg some (by kernel_rfl))
  f49 := ⟨Tryz.f171.name, by decide, Tryz.func171.trans (congrArg some (by kernel_rfl))⟩
  f50 := ⟨Tryz.f172.name, by decide, Tryz.func172.trans (congrArg some (by kernel_rfl))⟩
  f57 := ⟨Tryz.f176.name, by decide, Tryz.func176.trans (congrArg some (by kernel_rfl))⟩
  t0 := Tryz.underlying0
  a0 := Tryz.isAgg0
  z0 := Tryz.sizeOf0
  v0 := Tryz.zeroValue0
  t3 := Tryz.underlying3
  a3 := Tryz.isAgg3
  z3 := Tryz.sizeOf3
  v3 := Tryz.zeroValue3
  t4 := Tryz.underlying4
  a4 := Tryz.isAgg4
  z4 := Tryz.sizeOf4
  v4 := Tryz.zeroValue4
  t5 := Tryz.underlying5
  a5 := Tryz.isAgg5
  z5 := Tryz.sizeOf5
  v5 := Tryz.zeroValue5
  t9 := Tryz.underlying9
  a9 := Tryz.isAgg9
  z9 := Tryz.sizeOf9
  v9 := Tryz.zeroValue9
  t22 := Tryz.underlying122
  a22 := Tryz.isAgg122
  z22 := Tryz.sizeOf122
  v22 := Tryz.zeroValue122
  t25 := Tryz.underlying157
  a25 := Tryz.isAgg157
  z25 := Tryz.sizeOf157
  v25 := Tryz.zeroValue157
  t39 := Tryz.underlying146
  a39 := Tryz.isAgg146
  z39 := Tryz.sizeOf146
  v39 := Tryz.zeroValue146
  t45 := Tryz.underlying173
  a45 := Tryz.isAgg173
  z45 := Tryz.sizeOf173
  v45 := Tryz.zeroValue173
  t46 := Tryz.underlying174
  a46 := Tryz.isAgg174
  z46 := Tryz.sizeOf174
  v46 := Tryz.zeroValue174
  t50 := Tryz.underlying127
  a50 := Tryz.isAgg127
  z50 := Tryz.sizeOf127
  v50 := Tryz.zeroValue127
  t53 := Tryz.underlying180
  a53 := Tryz.isAgg180
  z53 := Tryz.sizeOf180
  v53 := Tryz.zeroValue180
  t55 := Tryz.underlying182
  a55 := Tryz.isAgg182
  z55 := Tryz.sizeOf182
  v55 := Tryz.zeroValue182
  t66 := Tryz.underlying196
  a66 := Tryz.isAgg196
  z66 := Tryz.sizeOf196
  v66 := Tryz.zeroValue196
  t70 := Tryz.underlying200
  a70 := Tryz.isAgg200
  z70 := Tryz.sizeOf200
  v70 := Tryz.zeroValue200
  t76 := Tryz.underlying211
  a76 := Tryz.isAgg211
  z76 := Tryz.sizeOf211
  v76 := Tryz.zeroValue211
  t77 := Tryz.underlying192
  a77 := Tryz.isAgg192
  z77 := Tryz.sizeOf192
  v77 := Tryz.zeroValue192 }
end Go.Proofs
namespace Go.Proofs.YtpkmiegccfhpnaaGreatDoor
open Go.RowKit Go.Maps
attribute [local go_sem] Oper.semAt_some
theorem grown_alloc (W : World) (o : Obj) : W.grownBy (W.alloc o) none := ⟨rfl, rfl, rfl, by simp, fun i hi _ => Below.heap_alloc W o i hi⟩
section
variable {γ β : Type} {K : TypeId} {G : KeyG γ K} {T : ElemT β} {w w' : World} {b n r : Nat} {f : γ → Option β} {S : γ → Bool}
theorem TRng.walks (h : TRng w G T b r n f S) (hk : KeepsWalks w w') : TRng w' G T b r n f S ∧ w'.rangeLeft b r = w.rangeLeft b r := by
  obtain ⟨D, left, cnt, h1, h2⟩ := h
  have h3 := h1.of_walks hk
  exact ⟨⟨D, left, cnt, h3, h2⟩, by rw [h3.left_eq, h1.left_eq]⟩
theorem TRng.iter (h : TRng w G T b r n f S) : ∃ o, w.heap[r]? = some o ∧ o.isWalk = true := by
  obtain ⟨D, left, cnt, h1, h2⟩ := h
  exact h1.iter_walk
end
def ValRet (w : World) (e : Ending) (w' : World) (mb : Option Nat) : Prop := e = .returned (.func (.func 84) #[] #[.pointer (some ⟨w.heap.size, 0, none⟩)]) ∧ w' = w.alloc (.cells #[.map mb] 71)
set_option maxRecDepth 100000 in
set_option maxHeartbeats 2000000 in
theorem values_any (mb : Option Nat) (w : World) : Calls Tryz.prog 61 #[.map mb] w fun e w' => ValRet w e w' mb := by
  go_enter Tryz.func61, Tryz.ntmps61
  go_wp2
  go_ret
  exact ⟨rfl, rfl⟩
/-- What the iterator asks of a round. -/
def ValOk (f : Plc → Option Fic) (lp : Nat) (J : List (Plc × Fic) → World → Prop) : Prop :=
  ∀ (pre : List (Plc × Fic)) (p : Plc) (y : Fic) (W : World), J pre W → PartF f (pre ++ [(p, y)]) →
    ∃ fn tmps assign body, (Instr.yield lp #[.agg #[.int .i64 y.1, .int .i64 y.2.1, .int .i64 y.2.2.1, .int .i64 y.2.2.2]]).run Tryz.prog W = .ok (.round lp fn tmps assign body) W ∧
      RoundIn Fence.wide 0 Tryz.prog lp fn tmps assign body W fun e W' => e = .returned (.bool true) ∧ J (pre ++ [(p, y)]) W' ∧ KeepsWalks W W'
def AbF (B : Nat) (J : List (Plc × Fic) → World → Prop) : Prop := ∀ pre W W' row, J pre W → W.grownBy W' row → (∀ r, row = some r → B ≤ r ∧ ∃ o : Obj, W.heap[r]? = some o ∧ o.isWalk = true) → J pre W'
theorem PartF.snoc {f : Plc → Option Fic} {ps : List (Plc × Fic)} (h : PartF f ps) {x : Plc} {y : Fic} (hy : f x = some y) (hx : ¬ x ∈ ps.map (·.1)) : PartF f (ps ++ [(x, y)]) := by
  refine ⟨?_, fun p hp => ?_⟩
  · rw [List.map_append, List.nodup_append]
    exact ⟨h.1, by simp, by rintro a ha b hb rfl; simp at hb; subst hb; exact hx ha⟩
  · rcases List.mem_append.1 hp with hp | hp
    · exact h.2 p hp
    · rw [List.mem_singleton.1 hp]; exact hy
set_option maxRecDepth 100000 in
set_option maxHeartbeats 4000000 in
theorem vals1_any (lp p0 b nn : Nat) (f : Plc → Option Fic) (w : World) (J : List (Plc × Fic) → World → Prop) (hp : Blk w p0 71 #[.map (some b)]) (hm : TMap w keyPlace elemFic b nn f) (hok : ∀ x, f x ≠ none → okI x.1 ∧ okI x.2) (hA : AbF w.heap.size J) (h0 : J [] w) (hY : ValOk f lp J) :
    Calls Tryz.prog 84 #[.func (.yield lp) #[] #[], .pointer (some ⟨p0, 0, none⟩)] w fun e w' => (∃ v, e = .returned v) ∧ ∃ ps, AllF f ps ∧ J ps w' := by
  have HA := Lib.hid hA
  have HY := Lib.hid hY
  have HOK := Lib.hid hok
  clear hA hY hok
  have c0 := hp.cell 0
  simp only [List.getElem?_toArray, List.getElem?_cons_zero] at c0
  go_enter Tryz.func84, Tryz.ntmps84
  go_wp2_with (refine wpList_trange rfl (.tmp 5) rfl hm Tryz.underlying71 rfl ?_; intro w0 hR0 hg0 hs0)
  have hJ0 := HA.out [] w w0 none h0 hg0 (fun r e => by cases e)
  have HW := Lib.hid (show w.heap.size ≤ w.heap.size from Nat.le_refl _)
  obtain ⟨rb, hrb⟩ : ∃ z, z = w.heap.size := ⟨_, rfl⟩
  rw [← hrb] at hR0 HA ⊢
  clear hs0 hg0 c0 hm hp h0 hrb HW
  go_frame
  go_loopw [4] (fun _ wr => ∃ (S : Plc → Bool) (ps : List (Plc × Fic)), TRng wr keyPlace elemFic b rb nn f S ∧ Hid (∀ x, S x = true ↔ x ∈ ps.map (·.1)) ∧ Hid (PartF f ps) ∧ J ps wr) (fun _ wr => wr.rangeLeft b rb)
  case atStart => exact ⟨_, [], hR0, Lib.hid (fun x => by simp), Lib.hid ⟨by simp, by simp⟩, hJ0⟩
  case round =>
    clear hR0 hJ0
    obtain ⟨S, ps, hR, hS, hP, hJ⟩ := hrel
    go_wp2_with (refine wpList_tnext rfl (.tmp 6) rfl hR rfl ?_ ?_)
    · intro hall
      have HF := Lib.hid (show AllF f ps from ⟨hP.out, fun x hx => (hS.out x).1 (hall x.1 x.2 (HOK.out x hx) hx)⟩)
      clear hall
      go_wp2
      go_end0
      exact ⟨⟨_, rfl⟩, ps, HF.out, hJ⟩
    · intro x1 x2 y1 y2 y3 y4 w2 hx hy hfx hSx hR2 hlt hg2 hs2 hen
      rw [show keyPlace.enc (x1, x2) = .agg #[.int .i64 x1, .int .i64 x2] from rfl, show elemFic.enc (y1, y2, y3, y4) = .agg #[.int .i64 y1, .int .i64 y2, .int .i64 y3, .int .i64 y4] from rfl] at hen ⊢
      have hJ2 := HA.out ps wr w2 (some rb) hJ hg2 (fun r e => by cases e; exact ⟨Nat.le_refl _, hR.iter⟩)
      have HPN := Lib.hid (show PartF f (ps ++ [((x1, x2), (y1, y2, y3, y4))]) from hP.out.snoc hfx (fun hh => by rw [(hS.out _).2 hh] at hSx; cases hSx))
      have hJ3 := HA.out ps w2 (w2.alloc (.cells #[.int .i64 y1, .int .i64 y2, .int .i64 y3, .int .i64 y4] 39)) none hJ2 (grown_alloc _ _) (fun r e => by cases e)
      have HLT := Lib.hid hlt
      have HSN := Lib.hid (show ∀ z, (S z || decide (z = (x1, x2))) = true ↔ z ∈ (ps ++ [((x1, x2), (y1, y2, y3, y4))]).map (·.1) from fun z => by
        rw [Bool.or_eq_true, hS.out z, decide_eq_true_eq, List.map_append, List.mem_append]; simp)
      have hR3 := hR2.call (below_alloc (Below.refl _ _) (.cells #[.int .i64 y1, .int .i64 y2, .int .i64 y3, .int .i64 y4] 39))
      have HL3 := Lib.hid (hR2.walks (KeepsWalks.alloc w2 (.cells #[.int .i64 y1, .int .i64 y2, .int .i64 y3, .int .i64 y4] 39))).2
      obtain ⟨fn, tmps, assign, body, hyd, hRd⟩ := HY.out ps (x1, x2) (y1, y2, y3, y4) _ hJ3 HPN.out
      clear hs2 hg2 hlt hfx hSx hJ hJ2 hR hR2 hJ3
      simp only at hyd
      repeat ((fail_if_success (with_reducible show (Code.region 3 _ _).wp _ _ _ _)); go_step)
      refine (wpIn_wide (n := 1)).1 ?_
      gi_wp2
      refine hRd.mono ?_
      rintro e W3 ⟨rfl, hJ3, hk3⟩
      clear hyd hRd
      obtain ⟨hR4, hl4⟩ := hR3.walks hk3
      have HL4 := Lib.hid hl4
      clear hl4 hR3 hk3
      gi_wp2
      go_wp2
      go_roundw
      case rel => exact ⟨_, _, hR4, HSN, HPN, hJ3⟩
      case measure => rw [HL4.out, HL3.out]; exact HLT.out
/-! ### slices.AppendSeq over such an iterator -/
/-- Between two rounds. -/
def VJ (w : World) (r : Loop) (ps : List (Plc × Fic)) (W : World) : Prop :=
  ∃ u, Blk W w.heap.size 23 #[u] ∧ W.ownsRow (w.heap.size + 3) 39 4 u ps.length (csFic (ps.map (·.2))) ∧ W.heap[w.heap.size + 2]? = some (.loop r) ∧ W.heap[w.heap.size + 1]? = some (.deferred (some [])) ∧ Below w.heap.size w W
theorem VJ.abides {w : World} {r : Loop} {B : Nat} (hB : w.heap.size + 3 ≤ B) : AbF B (VJ w r) := by
  intro ps W W' row h hg hr
  obtain ⟨u, h1, h2, h3, h4, h5⟩ := h
  have hlt := (Array.getElem?_eq_some_iff.1 h3).1
  have hno : ∀ j, j < w.heap.size + 3 → some j ≠ row := fun j hj e => by have := (hr j e.symm).1; omega
  refine ⟨u, (hg.block _ h1.lt (hno _ (by omega))).trans h1, ?_, (hg.block _ hlt (hno _ (by omega))).trans h3, (hg.block _ (by omega) (hno _ (by omega))).trans h4, h5.grown hg h5.size (fun k e => by have := (hr k e).1; omega)⟩
  refine h2.kept hg ?_
  rcases h2.2 with ⟨rfl, _⟩ | ⟨g, cap, cur, rfl, _, hgb, _⟩
  · exact .inl rfl
  · refine .inr fun e' => ?_
    obtain ⟨_, o, ho, hw⟩ := hr g (by simpa [Value.ownBlock] using e'.symm)
    rw [hgb] at ho; cases ho; cases hw
def CRet (f : Plc → Option Fic) (w : World) (e : Ending) (w' : World) : Prop :=
  ∃ u ps, e = .returned u ∧ AllF f ps ∧ w'.ownsRow w.heap.size 39 4 u ps.length (csFic (ps.map (·.2))) ∧ Below w.heap.size w w'
theorem not_walk {W : World} {base : Nat} {e : TypeId} {size : Nat} {v : Value} {k : Nat} {xs : List Value} (h : W.ownsRow base e size v k xs) : ∀ (j : Nat) (o : Obj), v.ownBlock = some j → W.heap[j]? = some o → o.isWalk = false := by
  intro j o hj ho
  rcases h.2 with ⟨rfl, _⟩ | ⟨g, cap, cur, rfl, _, hgb, _⟩
  · simp [Value.ownBlock] at hj
  · have : g = j := by simpa [Value.ownBlock] using hj
    subst this; rw [hgb] at ho; cases ho; rfl
set_option maxRecDepth 100000 in
set_option maxHeartbeats 8000000 in
theorem appSeq_any (p0 b nn : Nat) (f : Plc → Option Fic) (w : World) (hp : Blk w p0 71 #[.map (some b)]) (hm : TMap w keyPlace elemFic b nn f) (hok : ∀ x, f x ≠ none → okI x.1 ∧ okI x.2) (M : Nat) (hM : ∀ ps, PartF f ps → ps.length ≤ M) (hM2 : M ≤ 1000000) :
    Calls Tryz.prog 108 #[.slice none 0 0, .func (.func 84) #[] #[.pointer (some ⟨p0, 0, none⟩)]] w fun e w' => CRet f w e w' := by
  have HM := Lib.hid hM
  have HP := Lib.hid hp
  have HT := Lib.hid hm
  have HOK := Lib.hid hok
  clear hM hp hm hok
  obtain ⟨i0, hi0, hz0, hz1, hz2⟩ := info_parts fic_info
  refine (callsIn_wide (n := 1)).1 (callsIn_of_wp_marks Tryz.func108 rfl trivial ?_)
  simp only [Tryz.ntmps108, List.size_toArray, List.length_cons, List.length_nil, Nat.reduceAdd, Nat.reduceSub, Array.replicate_succ, Array.replicate_zero, List.push_toArray, List.append_toArray, List.nil_append, List.cons_append]
  refine wpIn_wide.2 ?_
  go_wp2_with fail
  obtain ⟨w3, hw3⟩ : ∃ w3, w3 = w.alloc (.cells #[.slice none 0 0] 23) := ⟨_, rfl⟩
  have hs3 : w3.heap.size = w.heap.size + 1 := by rw [hw3]; simp
  have CO : Blk w3 w.heap.size 23 #[.slice none 0 0] := by rw [hw3]; exact Blk.new _ _ _
  have hb3 : Below w.heap.size w w3 := by rw [hw3]; exact below_alloc (Below.refl _ _) _
  rw [← hw3]
  clear hw3
  have HS3 := Lib.hid hs3
  clear hs3
  refine wp_rangeFunc_calls rfl (fun args w => by simp [go_sem]) ?_
  intro fn rec W1 hrec hL hD hs hb
  have hb31 := hb3.trans (hb.mono (by have := hb3.size; omega))
  have HR1 := Lib.hid hrec
  clear hrec
  rw [HS3.out] at hL hD hs hb ⊢
  refine (vals1_any (w.heap.size + 2) p0 b nn f W1 (VJ w (rec .ready none)) (HP.out.kept hb31) (HT.out.call hb31) HOK.out (VJ.abides (by omega)) ?_ ?_).mono ?_
  · exact ⟨_, CO.below hb (by omega), ⟨rfl, .inl ⟨rfl, rfl⟩⟩, hL, hD, hb31⟩
  · clear hL hD hb hb31 CO hb3
    intro pre pl y W hJ hPN
    obtain ⟨u, co, how, hl, hd, hbw⟩ := hJ
    have hl' := hl
    rw [HR1.out] at hl'
    refine round_of_walk hl' rfl ?_
    clear hl'
    have hlt := (Array.getElem?_eq_some_iff.1 hl).1
    have hpreM : pre.length ≤ 1000000 := by have := HM.out _ hPN; rw [List.length_append] at this; omega
    obtain ⟨y1, y2, y3, y4⟩ := y
    simp only
    clear hPN
    gi_wp2
    obtain ⟨W0, hW0⟩ : ∃ W0, W0 = W.alloc (.cells #[.int .i64 y1, .int .i64 y2, .int .i64 y3, .int .i64 y4] 39) := ⟨_, rfl⟩
    have hs0 : W0.heap.size = W.heap.size + 1 := by rw [hW0]; simp
    have hba0 : Below W.heap.size W W0 := by rw [hW0]; exact below_alloc (Below.refl _ _) _
    have bs0 : Blk W0 W.heap.size 39 #[.int .i64 y1, .int .i64 y2, .int .i64 y3, .int .i64 y4] := by rw [hW0]; exact Blk.new _ _ _
    have kn0 : KeepsWalks W W0 := by rw [hW0]; exact KeepsWalks.alloc _ _
    rw [← hW0]
    clear hW0
    have hlW := (hba0.block _ hlt).trans hl
    refine ⟨_, run_beginRound hlW (by rw [HR1.out]; rfl), ?_⟩
    have hd0 := (hba0.block (w.heap.size + 1) (by omega)).trans hd
    have hbw0 := hbw.trans (hba0.mono hbw.size)
    have how0 := own_call how hba0
    have co0 := co.kept hba0
    obtain ⟨r1, hr1⟩ : ∃ r1 : Loop, { rec .ready none with state := .busy } = r1 := ⟨_, rfl⟩
    rw [hr1]
    obtain ⟨W2, hW2⟩ : ∃ W2, W2 = W0.putObj (w.heap.size + 2) (.loop r1) := ⟨_, rfl⟩
    have hs2 : W2.heap.size = W.heap.size + 1 := by rw [hW2]; simp [hs0]
    have hlB : W2.heap[w.heap.size + 2]? = some (.loop r1) := by rw [hW2]; exact World.putObj_heap_same (by omega)
    have hdB : W2.heap[w.heap.size + 1]? = some (.deferred (some [])) := by rw [hW2]; exact (World.putObj_heap_other (by omega)).trans hd0
    have hbB : Below w.heap.size w W2 := by rw [hW2]; exact below_put hbw0 _ (by omega)
    have howB : W2.ownsRow (w.heap.size + 3) 39 4 u pre.length (csFic (pre.map (·.2))) := by rw [hW2]; exact own_put how0 _ (by omega)
    have boB : Blk W2 w.heap.size 23 #[u] := by rw [hW2]; exact co0.put _ (by omega)
    have bsB : Blk W2 W.heap.size 39 #[.int .i64 y1, .int .i64 y2, .int .i64 y3, .int .i64 y4] := by rw [hW2]; exact bs0.put _ (by omega)
    have knB : KeepsWalks W W2 := by rw [hW2]; exact kn0.trans (KeepsWalks.putObj _ hlW rfl)
    rw [← hW2]
    clear hW2 hs0 bs0 kn0 hlW hd0 hbw0 how0 co0 hba0 hl hd hbw how co
    have mo := boB.cell 0
    have s0 := bsB.cell 0
    have s1 := bsB.cell 1
    have s2 := bsB.cell 2
    have s3 := bsB.cell 3
    have lo := boB.lt
    have ls := bsB.lt
    simp only [List.getElem?_toArray, List.getElem?_cons_zero, List.getElem?_cons_succ] at mo s0 s1 s2 s3
    have HKN := Lib.hid knB
    have HB := Lib.hid hbB
    have HS2 := Lib.hid hs2
    have hob : ∀ x, u.ownBlock = some x → w.heap.size + 3 ≤ x := fun x hx => (howB.lt x hx).1
    have hA := below_alloc (Below.refl W2.heap.size W2) (.cells #[.int .i64 y1, .int .i64 y2, .int .i64 y3, .int .i64 y4] 39)
    clear hs2 knB hbB
    repeat ((fail_if_success gi_at_builtin); gi_step)
    refine wpListIn_append_own _ rfl (.tmp 8) (.tmp 10) 23 rfl (w.heap.size + 3) 39 i0 _ 4 32 Tryz.underlying23 hi0 hz0 hz1 hz2 rfl (by omega) u pre.length (csFic (pre.map (·.2))) rfl (own_call howB hA) ⟨W2.heap.size, 0, none⟩ 1 1 [.int .i64 y1, .int .i64 y2, .int .i64 y3, .int .i64 y4] rfl rfl (cells_new _ _ _ _ rfl) (by simp [Value.oneCell']) (by simp only [maxLen]; omega) (by omega) (by have := HS2.out; simp; omega) ?_
    intro v5 w5 hown5 hg5 hat5
    obtain ⟨g5, cap5, rfl⟩ := ownsRow_succ hown5
    have bo5 := Blk.grow (boB.kept hA) hg5 (fun he => by have := hob _ he.symm; omega)
    have co5 := bo5.cell 0
    have fo5 := bo5.frozen 0
    simp only [List.getElem?_toArray, List.getElem?_cons_zero] at co5
    clear mo s0 s1 s2 s3
    gi_wp2
    have hgA : ∀ g, g < w.heap.size + 3 → g < W2.heap.size → w5.heap[g]? = W2.heap[g]? := fun g h1 h2 =>
      (hg5.block g (by simp; omega) (fun he => by have := hob g he.symm; omega)).trans (hA.block g h2)
    have hsz := HS2.out
    have hl5 : (w5.setCell ⟨w.heap.size, 0, none⟩ (.slice (some ⟨g5, 0, none⟩) (pre.length + 1) cap5)).heap[w.heap.size + 2]? = some (.loop r1) :=
      (Below.heap_setCell _ _ _ _ (by show w.heap.size + 2 ≠ w.heap.size; omega)).trans ((hgA _ (by omega) (by omega)).trans hlB)
    have hd5 : (w5.setCell ⟨w.heap.size, 0, none⟩ (.slice (some ⟨g5, 0, none⟩) (pre.length + 1) cap5)).heap[w.heap.size + 1]? = some (.deferred (some [])) :=
      (Below.heap_setCell _ _ _ _ (by show w.heap.size + 1 ≠ w.heap.size; omega)).trans ((hgA _ (by omega) (by omega)).trans hdB)
    have hrA := own_call howB hA
    have hbe2 : Below w.heap.size W2 w5 := Below.grown (B := w.heap.size) (a := W2) (hA.mono (by omega)) hg5 (by simp; omega) (fun x hx => by have := hob x hx; omega)
    have hbel := HB.out.trans hbe2
    refine ⟨_, _, run_endRound none hl5, rfl, ?_, ?_⟩
    · refine ⟨.slice (some ⟨g5, 0, none⟩) (pre.length + 1) cap5, ?_, ?_, ?_, ?_, ?_⟩
      · refine Blk.put ?_ _ (by omega)
        exact bo5.set_ 0 _
      · rw [List.map_append, csFic_append, List.length_append]
        refine own_put (own_set ?_ (by show w.heap.size < _; omega)) _ (by omega)
        exact hown5
      · have e1 : ({ r1 with state := (if (none : Option Code).isNone then LoopState.ready else .done), pending := none } : Loop) = rec .ready none := by rw [← hr1, HR1.out]; rfl
        rw [e1]
        exact World.putObj_heap_same (Array.getElem?_eq_some_iff.1 hl5).1
      · exact (World.putObj_heap_other (by omega)).trans hd5
      · refine below_put ?_ _ (by omega)
        exact hbel.setCell (by simp) _
    · exact (((HKN.out.trans (KeepsWalks.alloc _ _)).trans (KeepsWalks.of_grownBy hg5 (not_walk hrA))).trans (KeepsWalks.setCell _ _ _)).trans (KeepsWalks.putObj _ hl5 rfl)
  · clear hL hD hb hb31 CO hb3
    rintro e W2 ⟨⟨v, rfl⟩, ps, hall, u, co, how, hl, hd, hbw⟩
    refine ⟨⟨v, rfl⟩, .ready, none, by simp, hl, ?_⟩
    simp only
    have hlt := (Array.getElem?_eq_some_iff.1 hl).1
    have HALL := Lib.hid hall
    have co' := co.put (.loop (rec .exhausted none)) (r := w.heap.size + 1 + 1) (by omega)
    have how' := own_put how (.loop (rec .exhausted none)) (r := w.heap.size + 1 + 1) (by omega)
    have hd' := (World.putObj_heap_other (w := W2) (r := w.heap.size + 1 + 1) (o := .loop (rec .exhausted none)) (k := w.heap.size + 1) (by omega)).trans hd
    have hb' := below_put hbw (.loop (rec .exhausted none)) (r := w.heap.size + 1 + 1) (by omega)
    clear hall hl co how hd hbw
    generalize W2.putObj (w.heap.size + 1 + 1) (.loop (rec .exhausted none)) = W4 at *
    have o0 := co'.cell 0
    have lo := co'.lt
    simp only [List.getElem?_toArray, List.getElem?_cons_zero] at o0
    obtain ⟨A5, c5, hu5, _, _, _⟩ := own_reads how'
    have HOW := Lib.hid how'
    have HU := Lib.hid hu5
    clear how'
    subst hu5
    go_wp2
    refine ⟨by simp, .inl ⟨w.heap.size + 1, _, rfl, run_takeDeferred hd', ?_⟩⟩
    refine ⟨.slice A5 ps.length c5, ?_, ?_⟩
    · have hres : Tryz.f108.results = #[.tmp 4] := by kernel_rfl
      simp only [results, hres]
      go_simp
    · refine ⟨_, ps, rfl, HALL.out, ?_, below_put hb' _ (by omega)⟩
      exact own_lower (own_put HOW.out _ (by omega)) (by omega)
set_option maxRecDepth 100000 in
set_option maxHeartbeats 2000000 in
theorem collect_any (p0 b nn : Nat) (f : Plc → Option Fic) (w : World) (hp : Blk w p0 71 #[.map (some b)]) (hm : TMap w keyPlace elemFic b nn f) (hok : ∀ x, f x ≠ none → okI x.1 ∧ okI x.2) (M : Nat) (hM : ∀ ps, PartF f ps → ps.length ≤ M) (hM2 : M ≤ 1000000) :
    Calls Tryz.prog 82 #[.func (.func 84) #[] #[.pointer (some ⟨p0, 0, none⟩)]] w fun e w' => CRet f w e w' := by
  have q := appSeq_any p0 b nn f w hp hm hok M hM hM2
  clear hp hm hok hM
  go_enter Tryz.func82, Tryz.ntmps82
  go_wp2_with fail
  refine q.mono ?_
  rintro e w1 ⟨u, ps, rfl, hall, how, hb⟩
  obtain ⟨A5, c5, hu5, _, _, _⟩ := own_reads how
  have H := Lib.hid (show CRet f w (.returned u) w1 from ⟨u, ps, rfl, hall, how, hb⟩)
  clear q how hall hb
  subst hu5
  go_wp2
  go_ret
  exact H.out
end Go.Proofs.YtpkmiegccfhpnaaGreatDoor
namespace Go.Proofs.YtpkmiegccfhpnaaGreatDoor
open Go.RowKit Go.Sort Go.Maps
instance fic_inh : Inhabited Fic := ⟨(0, 0, 0, 0)⟩
set_option maxRecDepth 100000 in
theorem sortsC_all (N : Nat) (hN : N < 4611686018427387904) : SortsC N := by
  intro u cs base w how hlen hok
  have eg : ∀ args w, (callFunc 118 args).run Tryz.prog w = .ok (.enter 118 args) w := enters_of Tryz.func118 (by kernel_rfl) rfl
  obtain ⟨l, hl⟩ : ∃ l : List CadV, l.map (·.1) = cs := ⟨cs.pmap (fun x h => (⟨x, h⟩ : CadV)) hok, by rw [List.map_pmap, List.pmap_eq_map, List.map_id']⟩
  have hlen2 : l.length = cs.length := by rw [← hl, List.length_map]
  have hfl : ∀ m : List CadV, m.flatMap (fun x => cCad x.1) = csCad (m.map (·.1)) := fun m => by unfold csCad; rw [List.flatMap_map]
  have h := sort_row (P := Tryz.prog) Tryz.sortC 7 (fun w => Tryz.isAgg126 w) (fun w => Tryz.sizeOf126 w) (fun x : CadV => cCad x.1) (fun _ => rfl) (fun x v hv => one_csCad [x.1] v (by simpa [csCad] using hv)) cmpCadV swo_cad _ eg (fun x y W => ford_w x.1 y.1 W) l u base 126 w (by rw [hfl, hl, hlen2]; exact how) (by omega)
  have h : Calls Tryz.prog 117 #[u, .func (.func 118) #[] #[]] w _ := h
  refine h.mono ?_
  rintro e w' ⟨rfl, l', hp, _, how', hg⟩
  refine ⟨rfl, l'.map (·.1), ?_, ?_, hg⟩
  · rw [← hl]; exact hp.map _
  · rw [hfl, hlen2] at how'; exact how'
set_option maxRecDepth 100000 in
theorem sortF_any (l : List Fic) (u : Value) (base : Nat) (w : World) (how : w.ownsRow base 39 4 u l.length (csFic l)) (hlen : l.length ≤ 1000000) :
    Calls Tryz.prog 83 #[u, .func (.func 62) #[] #[]] w fun e w' => e = .returned (.tuple #[]) ∧ ∃ l' : List Fic, l'.Perm l ∧ l'.Pairwise (fun x y => ¬ lessF y x) ∧ w'.ownsRow base 39 4 u l.length (csFic l') ∧ w.grownBy w' u.ownBlock := by
  have eg : ∀ args w, (callFunc 62 args).run Tryz.prog w = .ok (.enter 62 args) w := enters_of Tryz.func62 (by kernel_rfl) rfl
  have h := sort_row (P := Tryz.prog) Tryz.sortF 4 (fun w => Tryz.isAgg39 w) (fun w => Tryz.sizeOf39 w) cFic (fun _ => rfl) (fun x => one_cFic x) cmpFic swo_fic _ eg sord_w l u base 39 w how (by omega)
  have h : Calls Tryz.prog 83 #[u, .func (.func 62) #[] #[]] w _ := h
  refine h.mono ?_
  rintro e w' ⟨rfl, l', hp, hs, how', hg⟩
  refine ⟨rfl, l', hp, hs.imp fun {a b} hab => ?_, how', hg⟩
  rw [cmpFic_lt] at hab
  exact of_decide_eq_false hab
/-- A row of proposals of one's own. -/
def SRet (L : List Fic) (w : World) (e : Ending) (w' : World) : Prop := ∃ u, e = .returned u ∧ w'.ownsRow w.heap.size 39 4 u L.length (csFic L) ∧ Below w.heap.size w w'
set_option maxRecDepth 100000 in
set_option maxHeartbeats 4000000 in
theorem sortedFunc_any (p0 b nn : Nat) (l : List (List Ev)) (f : Plc → Option Fic) (w : World) (hp : Blk w p0 71 #[.map (some b)]) (hm : TMap w keyPlace elemFic b nn f) (hok : ∀ x, f x ≠ none → okI x.1 ∧ okI x.2) (hf : FicOK l f) (hl : (plcL l).length ≤ 1000000) :
    Calls Tryz.prog 60 #[.func (.func 84) #[] #[.pointer (some ⟨p0, 0, none⟩)], .func (.func 62) #[] #[]] w fun e w' => SRet (listF l f) w e w' := by
  have q := collect_any p0 b nn f w hp hm hok (plcL l).length (fun ps hps => hps.few hf) hl
  have HF := Lib.hid hf
  have HLN := Lib.hid hl
  clear hp hm hok hf hl
  go_enter Tryz.func60, Tryz.ntmps60
  go_wp2_with fail
  refine q.mono ?_
  rintro e w1 ⟨u, ps, rfl, hall, how, hb⟩
  have hperm := hall.perm HF.out
  have hlen : (ps.map (·.2)).length = ps.length := by simp
  rw [← hlen] at how
  have hfew : (ps.map (·.2)).length ≤ 1000000 := by rw [hperm.length_eq]; exact Nat.le_trans (listF_len l f) HLN.out
  have q2 := sortF_any (ps.map (·.2)) u _ w1 how hfew
  obtain ⟨L, hL⟩ : ∃ z, z = ps.map (·.2) := ⟨_, rfl⟩
  rw [← hL] at hperm hlen how hfew q2
  have HLL := Lib.hid hperm
  have HOW := Lib.hid how
  have HB := Lib.hid hb
  obtain ⟨A5, c5, hu5, _, _, _⟩ := own_reads how
  subst hu5
  clear hall hperm hlen how hfew hL hb
  go_wp2_with fail
  refine q2.mono ?_
  rintro e w2 ⟨rfl, L', hp, hs, how', hg⟩
  have HR := Lib.hid (show SRet (listF l f) w (.returned (.slice A5 L.length c5)) w2 from by
    have e1 : L' = listF l f := eq_of_orders (hp.trans HLL.out) hs (listF_sorted HF.out)
    have e2 : L.length = (listF l f).length := HLL.out.length_eq
    rw [e1] at how'
    refine ⟨_, rfl, by rw [← e2]; exact how', Below.grown (B := w.heap.size) HB.out hg HB.out.size (fun x hx => (HOW.out.lt x hx).1)⟩)
  clear hp hs how' hg q q2
  go_wp2
  go_ret
  exact HR.out
set_option maxRecDepth 100000 in
set_option maxHeartbeats 4000000 in
theorem sorted_any (b nn : Nat) (l : List (List Ev)) (f : Plc → Option Fic) (w : World) (hm : TMap w keyPlace elemFic b nn f) (hok : ∀ x, f x ≠ none → okI x.1 ∧ okI x.2) (hf : FicOK l f) (hl : (plcL l).length ≤ 1000000) :
    Calls Tryz.prog 42 #[.map (some b)] w fun e w' => SRet (listF l f) w e w' := by
  have q := fun W (hW : Below w.heap.size w W) p0 (hp : Blk W p0 71 #[.map (some b)]) => sortedFunc_any p0 b nn l f W hp (hm.call hW) hok hf hl
  clear hm hok hf hl
  go_enter Tryz.func42, Tryz.ntmps42
  go_wp2_with fail
  refine (values_any _ _).mono ?_
  rintro e w1 ⟨rfl, rfl⟩
  have kb := below_alloc (Below.refl w.heap.size w) (.cells #[.map (some b)] 71)
  have q := q _ kb w.heap.size (Blk.new _ _ _)
  have HK := Lib.hid kb
  clear kb
  go_wp2_with fail
  refine q.mono ?_
  rintro e w2 ⟨u, rfl, how, hb⟩
  have HR := Lib.hid (show SRet (listF l f) w (.returned u) w2 from ⟨u, rfl, own_lower how (by simp), below_call HK.out hb⟩)
  obtain ⟨A5, c5, hu5, _, _, _⟩ := own_reads how
  clear how hb q
  subst hu5
  go_wp2
  go_ret
  exact HR.out
end Go.Proofs.YtpkmiegccfhpnaaGreatDoor
