
/- The law's own functions of layer 29: how many motions of each kind, those into unisons and octaves, two voices that end together. -/
import Derived.Test.YtigfcbofbcpiaaaDoorPaLaw
import Derived.Test.YtigfcbofbcpiaaaDoorPaLevel
import Derived.Deep.LoopGhost
import Derived.BigRegion
import Derived.ChangeKeysEq
namespace Go.Proofs.YtigfcbofbcpiaaaDoor
open Go.RowKit
@[reducible] def tallyC (l : List Par) (k : Nat) : Array Value := #[.int .i64 0, .int .i64 (cntC 1 (l.take k)), .int .i64 (cntC 2 (l.take k)), .int .i64 (cntC 3 (l.take k))]
@[reducible] def vCounts (l : List Par) : Value := .agg #[.int .i64 0, .int .i64 (cntC 1 l), .int .i64 (cntC 2 l), .int .i64 (cntC 3 l)]
theorem cntC_next (k : Int) {l : List Par} {i : Nat} {x : Par} (h : l[i]? = some x) : cntC k (l.take (i + 1)) = cntC k (l.take i) + (if (cB x && decide (x.kind = k)) = true then 1 else 0) := by
  unfold cntC
  rw [filter_next _ h, List.length_append]
  split <;> simp
theorem cntC_bd (k : Int) (l : List Par) (i : Nat) : 0 ≤ cntC k (l.take i) ∧ cntC k (l.take i) ≤ l.length := by
  unfold cntC
  have := filter_bd (fun p : Par => cB p && decide (p.kind = k)) l i
  omega
set_option maxRecDepth 100000 in
set_option maxHeartbeats 4000000 in
theorem counts_any (A : Option Addr) (n c : Nat) (l : List Par) (w : World) (h : Reads w w.heap.size 5 A n (csPar l)) (hn : n ≤ 3200000) (hk : ∀ p ∈ l, p.kind = 1 ∨ p.kind = 2 ∨ p.kind = 3) :
    Calls Tryd.prog 31 #[.slice A n c] w fun e w' => e = .returned (vCounts l) ∧ Below w.heap.size w w' := by
  have HL := Lib.hid h.plen
  have HK := Lib.hid hk
  clear hk
  go_enter Tryd.func31, Tryd.ntmps31
  go_wp2
  go_loopg [4] n (fun gh i wr => ∃ k : Nat, k + gh = n ∧ i = .int .i64 (k : Int) ∧ Blk wr w.heap.size 54 #[.int .i64 0, .int .i64 0, .int .i64 0, .int .i64 0] ∧ Blk wr (w.heap.size + 1) 54 (tallyC l k) ∧ Below w.heap.size w wr)
  case atStart => exact ⟨0, by omega, rfl, (Blk.new _ _ _).alloc _, Blk.newAt _ _ _ _ (by simp), by repeat (first | with_reducible exact Below.refl _ _ | with_reducible assumption | with_reducible refine below_drewN ?_ _ | with_reducible refine Below.drew ?_ | with_reducible refine below_alloc ?_ _ | (with_reducible refine Below.setCell ?_ ?_ _; rotate_left; ((try simp only); omega)))⟩
  case round =>
    obtain ⟨k, hkg, rfl, hr0, hbk, kr⟩ := hrel
    have wk : k + 1 ≤ n → IntKind.i64.wrap ((k : Int) + 1) = (k : Int) + 1 := fun _ => IntWalk.i64_in _ (by omega)
    have lk := hbk.lt
    have l0 := hr0.lt
    cases gk with
    | zero =>
      have hk : k = n := by omega
      have d0 : ¬ ((k : Int) < (n : Int)) := by omega
      have HF := Lib.hid (show l.take k = l by rw [List.take_of_length_le]; rw [HL.out]; omega)
      unfold tallyC at hbk
      rw [HF.out] at hbk
      have e0 := hbk.cell
      have f0 := hr0.cell
      have g0 := hr0.frozen
      have l1 : w.heap.size ≠ w.heap.size + 1 := by omega
      have l2 : w.heap.size + 1 ≠ w.heap.size := by omega
      clear hk hkg
      go_wp2
      refine ret_of (by simp [results, Tryd.results31, go_sem, *]; repeat' (first | rfl | apply And.intro)) rfl ⟨rfl, by repeat (first | with_reducible exact Below.refl _ _ | with_reducible assumption | with_reducible refine below_drewN ?_ _ | with_reducible refine Below.drew ?_ | with_reducible refine below_alloc ?_ _ | (with_reducible refine Below.setCell ?_ ?_ _; rotate_left; ((try simp only); omega)))⟩
    | succ g =>
      have hk : k < n := by omega
      have wk2 := wk (by omega)
      have d0 : (k : Int) < (n : Int) := by omega
      obtain ⟨x, hx⟩ := get_some (l := l) (k := k) (by have := HL.out; omega)
      obtain ⟨bb, off, rfl, hbb, c0, c1, c2, c3, c4⟩ := h.par (Nat.le_refl _) kr hk hx
      have hkd := HK.out x (List.mem_of_getElem? hx)
      have T1 := Lib.hid (cntC_next 1 hx)
      have T2 := Lib.hid (cntC_next 2 hx)
      have T3 := Lib.hid (cntC_next 3 hx)
      have b1 := cntC_bd 1 l k
      have b2 := cntC_bd 2 l k
      have b3 := cntC_bd 3 l k
      rw [HL.out] at b1 b2 b3
      have e0 := hbk.cell 0
      have e1 := hbk.cell 1
      have e2 := hbk.cell 2
      have e3 := hbk.cell 3
      have ef := hbk.frozen
      obtain ⟨n1, hn1⟩ : ∃ y, y = cntC 1 (l.take k) := ⟨_, rfl⟩
      obtain ⟨n2, hn2⟩ : ∃ y, y = cntC 2 (l.take k) := ⟨_, rfl⟩
      obtain ⟨n3, hn3⟩ : ∃ y, y = cntC 3 (l.take k) := ⟨_, rfl⟩
      simp only [tallyC, ← hn1, ← hn2, ← hn3] at e0 e1 e2 e3 b1 b2 b3 T1 T2 T3 hbk
      clear hn1 hn2 hn3
      have w1' : IntKind.i64.wrap (n1 + 1) = n1 + 1 := IntWalk.i64_in _ (by omega)
      have w2' : IntKind.i64.wrap (n2 + 1) = n2 + 1 := IntWalk.i64_in _ (by omega)
      have w3' : IntKind.i64.wrap (n3 + 1) = n3 + 1 := IntWalk.i64_in _ (by omega)
      have hne : w.heap.size ≠ w.heap.size + 1 := by omega
      obtain ⟨x0, xa, xb, xk, xs⟩ := x
      simp only at c0 c1 c2 c3 c4 hkd T1 T2 T3
      clear hx wk
      rcases hkd with rfl | rfl | rfl
      · simp [cB] at T1 T2 T3
        go_wp2
        go_roundg g
        case measure => omega
        case rel => exact ⟨k + 1, by omega, by go_num, Blk.far_ (by simp) hr0, by have hb := hbk.set_ 1 (.int .i64 (n1 + 1)); simpa [tallyC, T1.out, T2.out, T3.out] using hb, by repeat (first | with_reducible exact Below.refl _ _ | with_reducible assumption | with_reducible refine below_drewN ?_ _ | with_reducible refine Below.drew ?_ | with_reducible refine below_alloc ?_ _ | (with_reducible refine Below.setCell ?_ ?_ _; rotate_left; ((try simp only); omega)))⟩
      · by_cases hs : 0 < xs
        · simp [cB, hs] at T1 T2 T3
          go_wp2
          go_roundg g
          case measure => omega
          case rel => exact ⟨k + 1, by omega, by go_num, Blk.far_ (by simp) hr0, by have hb := hbk.set_ 2 (.int .i64 (n2 + 1)); simpa [tallyC, T1.out, T2.out, T3.out] using hb, by repeat (first | with_reducible exact Below.refl _ _ | with_reducible assumption | with_reducible refine below_drewN ?_ _ | with_reducible refine Below.drew ?_ | with_reducible refine below_alloc ?_ _ | (with_reducible refine Below.setCell ?_ ?_ _; rotate_left; ((try simp only); omega)))⟩
        · simp [cB, hs] at T1 T2 T3
          go_wp2
          go_roundg g
          case measure => omega
          case rel => exact ⟨k + 1, by omega, by go_num, hr0, by simpa [tallyC, T1.out, T2.out, T3.out] using hbk, by repeat (first | with_reducible exact Below.refl _ _ | with_reducible assumption | with_reducible refine below_drewN ?_ _ | with_reducible refine Below.drew ?_ | with_reducible refine below_alloc ?_ _ | (with_reducible refine Below.setCell ?_ ?_ _; rotate_left; ((try simp only); omega)))⟩
      · simp [cB] at T1 T2 T3
        go_wp2
        go_roundg g
        case measure => omega
        case rel => exact ⟨k + 1, by omega, by go_num, Blk.far_ (by simp) hr0, by have hb := hbk.set_ 3 (.int .i64 (n3 + 1)); simpa [tallyC, T1.out, T2.out, T3.out] using hb, by repeat (first | with_reducible exact Below.refl _ _ | with_reducible assumption | with_reducible refine below_drewN ?_ _ | with_reducible refine Below.drew ?_ | with_reducible refine below_alloc ?_ _ | (with_reducible refine Below.setCell ?_ ?_ _; rotate_left; ((try simp only); omega)))⟩
set_option maxRecDepth 100000 in
set_option maxHeartbeats 4000000 in
theorem octaves_any (A : Option Addr) (n c : Nat) (l : List Par) (w : World) (h : Reads w w.heap.size 5 A n (csPar l)) (hn : n ≤ 3200000) :
    Calls Tryd.prog 35 #[.slice A n c] w fun e w' => ∃ v, e = .returned v ∧ w'.ownsRow w.heap.size 41 5 v (l.filter octB).length (csPar (l.filter octB)) ∧ Below w.heap.size w w' := by
  have HL := Lib.hid h.plen
  have HP := Lib.hid (fun k => filter_bd octB l k)
  obtain ⟨i0, hi0, hz0, hz1, hz2⟩ := info_parts par_info
  go_enter Tryd.func35, Tryd.ntmps35
  go_wp2
  go_loopg [3, 4] n (fun gh o i wr => ∃ k : Nat, k + gh = n ∧ i = .int .i64 (k : Int) ∧ Hid (wr.ownsRow w.heap.size 41 5 o ((l.take k).filter octB).length (csPar ((l.take k).filter octB))) ∧ Below w.heap.size w wr)
  case atStart => exact ⟨0, by omega, rfl, Lib.hid ⟨rfl, .inl ⟨rfl, rfl⟩⟩, Below.refl _ _⟩
  case round =>
    obtain ⟨k, hkg, rfl, hown, kr⟩ := hrel
    have wk : k + 1 ≤ n → IntKind.i64.wrap ((k : Int) + 1) = (k : Int) + 1 := fun _ => IntWalk.i64_in _ (by omega)
    cases gk with
    | zero =>
      have hk : k = n := by omega
      have d0 : ¬ ((k : Int) < (n : Int)) := by omega
      have HF := Lib.hid (show l.take k = l by rw [List.take_of_length_le]; rw [HL.out]; omega)
      rw [HF.out] at hown
      clear hk hkg
      go_wp2
      go_ret
      exact ⟨u3, rfl, hown.out, kr⟩
    | succ g =>
      have hk : k < n := by omega
      have wk2 := wk (by omega)
      have d0 : (k : Int) < (n : Int) := by omega
      obtain ⟨x, hx⟩ := get_some (l := l) (k := k) (by have := HL.out; omega)
      obtain ⟨bb, off, rfl, hbb, c0, c1, c2, c3, c4⟩ := h.par (Nat.le_refl _) kr hk hx
      have HNX := Lib.hid (filter_next octB hx)
      have HX := Lib.hid (show octB x = (decide (x.kind ≠ 2) && decide (x.steps = 0)) from rfl)
      have hb5 : ((l.take k).filter octB).length ≤ 3200000 := by have := HP.out k; have := HL.out; omega
      obtain ⟨N5, hN5⟩ : ∃ N5, N5 = ((l.take k).filter octB).length := ⟨_, rfl⟩
      rw [← hN5] at hown hb5
      have HN5 := Lib.hid hN5
      obtain ⟨x0, xa, xb, xk, xs⟩ := x
      simp only at c0 c1 c2 c3 c4 HX
      clear hx hN5 wk
      have hkr := kr.size
      have HO := Lib.hid hown.out
      clear hown
      by_cases e1 : xk = 2
      · have f1 : (xk != 2) = false := by simp [e1]
        have HM := Lib.hid (show octB ⟨x0, xa, xb, xk, xs⟩ = false by rw [HX.out]; simp [e1])
        clear HX e1
        go_wp2_with fail
        go_roundg g
        case measure => omega
        case rel => exact ⟨k + 1, by omega, by go_num, Lib.hid (by rw [HNX.out, HM.out, if_neg (by decide), List.append_nil, ← HN5.out]; exact HO.out), kr⟩
      · have f1 : (xk != 2) = true := by simp [e1]
        by_cases e2 : xs = 0
        · have f2 : (xs == 0) = true := by simp [e2]
          have HM := Lib.hid (show octB ⟨x0, xa, xb, xk, xs⟩ = true by rw [HX.out]; simp [e1, e2])
          clear HX e1 e2
          go_wp2_with (at_builtin; (refine wpList_append_any _ rfl (.tmp 25) (.tmp 30) 26 rfl w.heap.size 41 i0 _ 5 40 Tryd.underlying26 hi0 hz0 hz1 hz2 rfl (by omega) u3 N5 (csPar ((l.take k).filter octB)) rfl (own_call HO.out (below_alloc (Below.refl _ _) _)) (wr.heap.size + 1) (some ⟨wr.heap.size, 0, none⟩) 1 1 (csPar [⟨x0, xa, xb, xk, xs⟩]) rfl (Reads.newAt _ _ _ 1 5 _ (by simp) rfl) (one_csPar _) (by simp only [maxLen]; omega) (by omega) (by simp; omega) ?_); intro v4 w4 hown4 hg4 hat4)
          have hB4 : Below w.heap.size w w4 := Below.grown (B := w.heap.size) (kr.alloc (by omega) _) hg4 (by simp; omega) (fun x hx => (HO.out.lt x hx).1)
          go_roundg g
          case measure => omega
          case rel => exact ⟨k + 1, by omega, by go_num, Lib.hid (by rw [HNX.out, if_pos HM.out, List.length_append, csPar_append, ← HN5.out]; exact hown4), hB4⟩
        · have f2 : (xs == 0) = false := by simp [e2]
          have HM := Lib.hid (show octB ⟨x0, xa, xb, xk, xs⟩ = false by rw [HX.out]; simp [e2])
          clear HX e1 e2
          go_wp2_with fail
          go_roundg g
          case measure => omega
          case rel => exact ⟨k + 1, by omega, by go_num, Lib.hid (by rw [HNX.out, HM.out, if_neg (by decide), List.append_nil, ← HN5.out]; exact HO.out), kr⟩
/-- Two counts that are equal are not unequal. -/
@[go_sem] theorem eq_counts (w : World) (a b c : Int) : (Op.equalIn 10000 54 (.agg #[.int .i64 0, .int .i64 a, .int .i64 b, .int .i64 c]) (.agg #[.int .i64 0, .int .i64 a, .int .i64 b, .int .i64 c])).run Tryd.prog w = .ok true w := by
  obtain ⟨i, hi, hz0, hz1, hz2⟩ := info_parts num_info
  have hc : Tryd.prog.cellsOf 3 = 1 := by kernel_rfl
  rw [show (10000 : Nat) = 9998 + 1 + 1 from rfl, run_equalIn_array w (9998 + 1) _ _ Tryd.underlying54 hi, hc]
  simp [Op.eqItems, List.range, List.range.loop, go_sem]
@[go_sem] theorem guard_counts (w : World) (op : BinOp) (x y : Operand) (xs ys : Array Value) : (eqGuard op 54 x y (.agg xs) (.agg ys)).run Tryd.prog w = .ok () w := run_eqGuard_agg w op _ x y xs ys (by kernel_rfl)
/-- Two of the counts. -/
@[go_sem] theorem count_one (w : World) (a b c : Int) : (Instr.index 54 (.agg #[.int .i64 0, .int .i64 a, .int .i64 b, .int .i64 c]) (.int .i64 1)).run Tryd.prog w = .ok (.int .i64 a) w := by
  have hc : Tryd.prog.cellsOf 3 = 1 := by kernel_rfl
  simp [Instr.index, asIntOf, run_underlying Tryd.underlying54, go_sem]
@[go_sem] theorem count_three (w : World) (a b c : Int) : (Instr.index 54 (.agg #[.int .i64 0, .int .i64 a, .int .i64 b, .int .i64 c]) (.int .i64 3)).run Tryd.prog w = .ok (.int .i64 c) w := by
  have hc : Tryd.prog.cellsOf 3 = 1 := by kernel_rfl
  simp [Instr.index, asIntOf, run_underlying Tryd.underlying54, go_sem]
/-- Two voices, and three, laid as a setting. -/
theorem set2 {w : World} {A1 A2 : Option Addr} {n1 n2 c1 c2 : Nat} {v1 v2 : List Ev} (r1 : Reads w w.heap.size 10 A1 n1 (csE v1)) (r2 : Reads w w.heap.size 10 A2 n2 (csE v2)) (h1 : n1 ≤ 9223372036854775807) (h2 : n2 ≤ 9223372036854775807) :
    ∃ W, W = w.alloc (.cells #[.slice A1 n1 c1, .slice A2 n2 c2] 23) ∧ ReadsV W W.heap.size (some ⟨w.heap.size, 0, none⟩) 2 [v1, v2] ∧ Below w.heap.size w W := by
  have hb : Below w.heap.size w (w.alloc (.cells #[.slice A1 n1 c1, .slice A2 n2 c2] 23)) := below_alloc (Below.refl _ _) _
  have R : Reads (w.alloc (.cells #[.slice A1 n1 c1, .slice A2 n2 c2] 23)) (w.alloc (.cells #[.slice A1 n1 c1, .slice A2 n2 c2] 23)).heap.size 1 (some ⟨w.heap.size, 0, none⟩) 2 (csV [(A1, n1, c1), (A2, n2, c2)]) := (Reads.newAt _ _ _ 2 1 _ rfl rfl).more (by simp)
  exact ⟨_, rfl, readsV_row R (show AllV _ _ _ _ from ⟨⟨rd1 r1 hb, h1⟩, ⟨rd1 r2 hb, h2⟩, True.intro⟩), hb⟩
theorem set3 {w : World} {A1 A2 A3 : Option Addr} {n1 n2 n3 c1 c2 c3 : Nat} {v1 v2 v3 : List Ev} (r1 : Reads w w.heap.size 10 A1 n1 (csE v1)) (r2 : Reads w w.heap.size 10 A2 n2 (csE v2)) (r3 : Reads w w.heap.size 10 A3 n3 (csE v3)) (h1 : n1 ≤ 9223372036854775807) (h2 : n2 ≤ 9223372036854775807) (h3 : n3 ≤ 9223372036854775807) :
    ∃ W, W = w.alloc (.cells #[.slice A1 n1 c1, .slice A2 n2 c2, .slice A3 n3 c3] 23) ∧ ReadsV W W.heap.size (some ⟨w.heap.size, 0, none⟩) 3 [v1, v2, v3] ∧ Below w.heap.size w W := by
  have hb : Below w.heap.size w (w.alloc (.cells #[.slice A1 n1 c1, .slice A2 n2 c2, .slice A3 n3 c3] 23)) := below_alloc (Below.refl _ _) _
  have R : Reads (w.alloc (.cells #[.slice A1 n1 c1, .slice A2 n2 c2, .slice A3 n3 c3] 23)) (w.alloc (.cells #[.slice A1 n1 c1, .slice A2 n2 c2, .slice A3 n3 c3] 23)).heap.size 1 (some ⟨w.heap.size, 0, none⟩) 3 (csV [(A1, n1, c1), (A2, n2, c2), (A3, n3, c3)]) := (Reads.newAt _ _ _ 3 1 _ rfl rfl).more (by simp)
  exact ⟨_, rfl, readsV_row R (show AllV _ _ _ _ from ⟨⟨rd1 r1 hb, h1⟩, ⟨rd1 r2 hb, h2⟩, ⟨rd1 r3 hb, h3⟩, True.intro⟩), hb⟩
end Go.Proofs.YtigfcbofbcpiaaaDoor
