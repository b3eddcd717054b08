/- The library's sorting by insertion, in place, by a comparison that a contract gives. -/
import Derived.Test.YtbljfaocmeeljaaAlSlMem
import Derived.Test.YtbljfaocmeeljaaPlain
import Derived.Test.YtbljfaocmeeljaaShelf
import Derived.Deep.LoopGhost
namespace Go.Proofs.Ytbljfaocmeeljaa
open Go.RowKit
def csJ (l : List Nat) : List Value := csN (l.map fun (x : Nat) => (x : Int))
theorem csJ_len (l : List Nat) : (csJ l).length = l.length := by unfold csJ; rw [csN_len]; simp
theorem csJ_get {l : List Nat} {k : Nat} {x : Nat} (h : l[k]? = some x) : (csJ l)[k]? = some (.int .i64 (x : Int)) := by
  have := flat_get cI 1 (fun _ => rfl) (l.map fun (x : Nat) => (x : Int)) k 0 (x : Int) (by rw [List.getElem?_map, h]; rfl) (by omega)
  simpa [csJ, csN, cI] using this
theorem csJ_set (l : List Nat) (k x : Nat) : csJ (l.set k x) = (csJ l).set k (.int .i64 (x : Int)) := by
  apply List.ext_getElem?
  intro j
  rw [List.getElem?_set]
  by_cases hk : k = j
  · subst hk
    rw [if_pos rfl, csJ_len]
    by_cases hl : k < l.length
    · rw [if_pos hl]; exact csJ_get (by rw [List.getElem?_set, if_pos rfl, if_pos hl])
    · rw [if_neg hl, List.getElem?_eq_none (by rw [csJ_len, List.length_set]; omega)]
  · rw [if_neg hk]
    cases hj : l[j]? with
    | none =>
      have := List.getElem?_eq_none_iff.1 hj
      rw [List.getElem?_eq_none (by rw [csJ_len, List.length_set]; omega), List.getElem?_eq_none (by rw [csJ_len]; omega)]
    | some y => rw [csJ_get hj, csJ_get (by rw [List.getElem?_set, if_neg hk]; exact hj)]
theorem sink_mem {α : Type} (lt : α → α → Bool) {P : α → Prop} : ∀ (j : Nat) (l : List α), (∀ x ∈ l, P x) → ∀ x ∈ sink lt j l, P x
  | 0, _, h => h
  | j + 1, l, h => by
    unfold sink
    split
    · rename_i y x hy hx
      split
      · refine sink_mem lt j _ fun z hz => ?_
        rcases List.mem_or_eq_of_mem_set hz with hz | rfl
        · rcases List.mem_or_eq_of_mem_set hz with hz | rfl
          · exact h z hz
          · exact h _ (List.mem_of_getElem? hy)
        · exact h _ (List.mem_of_getElem? hx)
      · exact h
    · exact h
theorem below_call_lo {n0 : Nat} {a b c : World} (h : Below n0 a b) (k : Below b.heap.size b c) (hn : n0 ≤ b.heap.size := by omega) : Below n0 a c := h.trans (k.mono hn)
/-- The comparison handed in compares as c says, in whatever world that lies below n0 as the first. -/
def CmpOk (f : Nat) (bound : Value) (n0 : Nat) (w0 : World) (L : List Nat) (c : Nat → Nat → Int) : Prop :=
  ∀ W, Below n0 w0 W → ∀ x ∈ L, ∀ y ∈ L, Calls Try.prog f #[bound, .int .i64 (x : Int), .int .i64 (y : Int)] W fun e w' => e = .returned (.int .i64 (c x y)) ∧ Below W.heap.size W w'
set_option maxRecDepth 100000 in
set_option maxHeartbeats 8000000 in
theorem ins_any (g n cap : Nat) (L : List Nat) (bound : Value) (c : Nat → Nat → Int) (lt : Nat → Nat → Bool) (n0 : Nat) (w : World) (h : w.ownsRow n0 3 1 (.slice (some ⟨g, 0, none⟩) n cap) n (csJ L)) (hn : n ≤ 8)
    (hc : CmpOk 53 bound n0 w L c) (hlt : ∀ x ∈ L, ∀ y ∈ L, decide (c x y < 0) = lt x y) :
    Calls Try.prog 92 #[.slice (some ⟨g, 0, none⟩) n cap, .int .i64 0, .int .i64 (n : Int), .func (.func 53) #[bound] #[]] w fun e w' =>
      e = .returned (.tuple #[]) ∧ w'.ownsRow n0 3 1 (.slice (some ⟨g, 0, none⟩) n cap) n (csJ (sorts lt 1 (n - 1) L)) ∧ Below n0 w w' := by
  have hLn : L.length = n := by have := h.1; rw [csJ_len] at this; omega
  have HC := Lib.hid hc
  have HLT := Lib.hid hlt
  clear hc hlt
  obtain ⟨M, hM⟩ : ∃ M, M = max n 1 := ⟨_, rfl⟩
  have hg0 := (h.lt g rfl).1
  go_enter Try.func92, Try.ntmps92
  go_wp2
  go_loopg [8, 9] (M - 1) (fun gh i _ wr => ∃ (k : Nat) (l : List Nat), k + gh = M ∧ 1 ≤ k ∧ i = .int .i64 k ∧ Hid (sorts lt k (n - k) l = sorts lt 1 (n - 1) L) ∧ Hid (∀ x ∈ l, x ∈ L) ∧ wr.ownsRow n0 3 1 (.slice (some ⟨g, 0, none⟩) n cap) n (csJ l) ∧ Below n0 w wr)
  case atStart => exact ⟨1, L, by omega, by omega, by simp, Lib.hid rfl, Lib.hid (fun x hx => hx), h, Below.refl _ _⟩
  case round =>
    obtain ⟨k, l, hkg, hk1, rfl, hS, hMem, hown, kr⟩ := hrel
    have hln : l.length = n := by have := hown.1; rw [csJ_len] at this; omega
    cases gk with
    | zero =>
      have d0 : ¬ ((k : Int) < (n : Int)) := by omega
      have E := Lib.hid (show l = sorts lt 1 (n - 1) L by rw [← hS.out, show n - k = 0 by omega]; rfl)
      go_wp2
      rw [E] at hown
      refine bodyPost_end (results_none rfl _ _ _) rfl ?_
      exact ⟨rfl, hown, kr⟩
    | succ gh =>
      have d0 : (k : Int) < (n : Int) := by omega
      have hkn : k < n := by omega
      have wk : IntKind.i64.wrap ((k : Int) + 1) = (k : Int) + 1 := IntWalk.i64_in _ (by omega)
      have HN := Lib.hid (show sorts lt (k + 1) (n - (k + 1)) (sink lt k l) = sorts lt 1 (n - 1) L by rw [← hS.out, show n - k = (n - (k + 1)) + 1 by omega]; rfl)
      go_wp2
      go_loopg [9] k (fun gj j wy => ∃ cur : List Nat, gj ≤ k ∧ j = .int .i64 gj ∧ Hid (sink lt gj cur = sink lt k l) ∧ Hid (∀ x ∈ cur, x ∈ L) ∧ wy.ownsRow n0 3 1 (.slice (some ⟨g, 0, none⟩) n cap) n (csJ cur) ∧ Below n0 w wy)
      case atStart => exact ⟨l, by omega, rfl, Lib.hid rfl, hMem, hown, kr⟩
      case round =>
        clear hown kr hMem hS hln
        obtain ⟨cur, hgk, rfl, hS, hMem, hown, kr⟩ := hrel
        have hcn : cur.length = n := by have := hown.1; rw [csJ_len] at this; omega
        have lg := (hown.lt g rfl).2
        cases gk with
        | zero =>
          have d1 : ¬ ((0 : Int) < ((0 : Nat) : Int)) := by omega
          have E := Lib.hid (show cur = sink lt k l from hS.out)
          go_wp2_with fail
          refine wp_region_calm (by kernel_rfl) (by kernel_rfl) ?_
          repeat (go_big_quiet_step (fail))
          refine wpQuiet_nil ?_
          intro wd gd
          have k2 := below_call_lo kr gd
          go_wp2
          go_roundg gh
          case measure => omega
          case rel => exact ⟨k + 1, cur, by omega, by omega, by go_num, Lib.hid (by rw [E.out]; exact HN.out), hMem, own_call hown gd, k2⟩
        | succ j =>
          obtain ⟨y, hy⟩ := get_some (l := cur) (k := j) (by omega)
          obtain ⟨x, hx⟩ := get_some (l := cur) (k := j + 1) (by omega)
          have cy : wr.cell? ⟨g, j, none⟩ = some (.int .i64 (y : Int)) := by rw [hown.cellAt _ (by omega)]; exact csJ_get hy
          have cx : wr.cell? ⟨g, j + 1, none⟩ = some (.int .i64 (x : Int)) := by rw [hown.cellAt _ (by omega)]; exact csJ_get hx
          have fz := hown.frozenAt
          have mx := hMem.out x (List.mem_of_getElem? hx)
          have my := hMem.out y (List.mem_of_getElem? hy)
          have HQ := Lib.hid (fun W (hW : Below wr.heap.size wr W) => HC.out W (below_call_lo kr hW) x mx y my)
          have D := HLT.out x mx y my
          obtain ⟨cv, hcv⟩ : ∃ cv, cv = c x y := ⟨_, rfl⟩
          rw [← hcv] at HQ D
          have d1 : (0 : Int) < ((j + 1 : Nat) : Int) := by omega
          have w1 : ((j + 1 : Nat) : Int) - 1 = (j : Int) := by omega
          have w2 : IntKind.i64.wrap (j : Int) = (j : Int) := IntWalk.i64_in _ (by omega)
          have lj : (j : Int) < (n : Int) := by omega
          have lj1 : ((j + 1 : Nat) : Int) < (n : Int) := by omega
          have HSK := Lib.hid (show sink lt (j + 1) cur = if lt x y then sink lt j ((cur.set (j + 1) y).set j x) else cur by conv => lhs; unfold sink; rw [hy, hx])
          have HYX := Lib.hid (And.intro hy hx)
          clear hcv mx my hy hx
          by_cases hlt : lt x y = true
          · rw [hlt] at D
            have HN2 := Lib.hid (show sink lt j ((cur.set (j + 1) y).set j x) = sink lt k l by rw [← hS.out, HSK.out, if_pos hlt])
            go_wp2_with fail
            refine wp_region_calm (by kernel_rfl) (by kernel_rfl) ?_
            repeat (go_big_quiet_step ((go_at_call 53; exact calm_call (HQ.out _ (Calm.h _)))))
            refine wpQuiet_nil ?_
            intro wd gd
            have k2 := below_call_lo kr gd
            have own2 := own_call hown gd
            have cyd := (gd.cell (p := ⟨g, j, none⟩) lg).trans cy
            have cxd := (gd.cell (p := ⟨g, j + 1, none⟩) lg).trans cx
            have fzd := own2.frozenAt
            have lgd := (own2.lt g rfl).2
            have BW := Lib.hid (show Below n0 w ((wd.setCell ⟨g, j + 1, none⟩ (.int .i64 (y : Int))).setCell ⟨g, j, none⟩ (.int .i64 (x : Int))) from (k2.setCell hg0 _).setCell hg0 _)
            have OW := Lib.hid (show ((wd.setCell ⟨g, j + 1, none⟩ (.int .i64 (y : Int))).setCell ⟨g, j, none⟩ (.int .i64 (x : Int))).ownsRow n0 3 1 (.slice (some ⟨g, 0, none⟩) n cap) n (csJ ((cur.set (j + 1) y).set j x)) by
              rw [csJ_set, csJ_set]; exact ((own2.stored _ _).1.stored _ _).1)
            have HM2 := Lib.hid (show ∀ z ∈ (cur.set (j + 1) y).set j x, z ∈ L from fun z hz => by
              rcases List.mem_or_eq_of_mem_set hz with hz | rfl
              · rcases List.mem_or_eq_of_mem_set hz with hz | rfl
                · exact hMem.out z hz
                · exact hMem.out _ (List.mem_of_getElem? HYX.out.1)
              · exact hMem.out _ (List.mem_of_getElem? HYX.out.2))
            clear hown kr gd cy cx fz own2 k2 lg
            go_wp2_with fail
            go_region
            go_wp2
            go_roundg j
            case measure => omega
            case rel =>
              have ow := OW.out
              have bw := BW.out
              exact ⟨_, by omega, by go_num, HN2, HM2, ow.drew, bw.drew⟩
          · have hlf : lt x y = false := by simpa using hlt
            rw [hlf] at D
            have E := Lib.hid (show cur = sink lt k l by rw [← hS.out, HSK.out, if_neg hlt])
            go_wp2_with fail
            refine wp_region_calm (by kernel_rfl) (by kernel_rfl) ?_
            repeat (go_big_quiet_step ((go_at_call 53; exact calm_call (HQ.out _ (Calm.h _)))))
            refine wpQuiet_nil ?_
            intro wd gd
            have k2 := below_call_lo kr gd
            go_wp2
            go_roundg gh
            case measure => omega
            case rel => exact ⟨k + 1, cur, by omega, by omega, by go_num, Lib.hid (by rw [E.out]; exact HN.out), hMem, own_call hown gd, k2⟩
set_option maxRecDepth 100000 in
set_option maxHeartbeats 8000000 in
theorem pdq_any (g n cap : Nat) (L : List Nat) (bound : Value) (c : Nat → Nat → Int) (lt : Nat → Nat → Bool) (n0 : Nat) (lim : Int) (w : World) (h : w.ownsRow n0 3 1 (.slice (some ⟨g, 0, none⟩) n cap) n (csJ L)) (hn : n ≤ 8)
    (hc : CmpOk 53 bound n0 w L c) (hlt : ∀ x ∈ L, ∀ y ∈ L, decide (c x y < 0) = lt x y) :
    Calls Try.prog 80 #[.slice (some ⟨g, 0, none⟩) n cap, .int .i64 0, .int .i64 (n : Int), .int .i64 lim, .func (.func 53) #[bound] #[]] w fun e w' =>
      e = .returned (.tuple #[]) ∧ w'.ownsRow n0 3 1 (.slice (some ⟨g, 0, none⟩) n cap) n (csJ (sorts lt 1 (n - 1) L)) ∧ Below n0 w w' := by
  have q1 := ins_any g n cap L bound c lt n0 w h hn hc hlt
  have w1 : IntKind.i64.wrap (n : Int) = (n : Int) := IntWalk.i64_in _ (by omega)
  have d1 : (n : Int) ≤ 12 := by omega
  have d2 : n ≤ 12 := by omega
  clear hc hlt
  go_enter Try.func80, Try.ntmps80
  go_wp2
  go_loopg [1, 2] 0 (fun _ i j wr => i = .int .i64 0 ∧ j = .int .i64 (n : Int) ∧ wr = w)
  case atStart => exact ⟨rfl, rfl, rfl⟩
  case round =>
    obtain ⟨rfl, rfl, rfl⟩ := hrel
    go_wp2_with fail
    refine q1.mono ?_
    rintro e w2 ⟨rfl, ho, hb⟩
    go_wp2
    refine bodyPost_ret (results_none rfl _ _ _) rfl ?_
    exact ⟨rfl, ho, hb⟩
set_option maxRecDepth 100000 in
set_option maxHeartbeats 8000000 in
theorem sort_any (g n cap : Nat) (L : List Nat) (bound : Value) (c : Nat → Nat → Int) (lt : Nat → Nat → Bool) (n0 : Nat) (w : World) (h : w.ownsRow n0 3 1 (.slice (some ⟨g, 0, none⟩) n cap) n (csJ L)) (hn : n ≤ 8)
    (hc : CmpOk 53 bound n0 w L c) (hlt : ∀ x ∈ L, ∀ y ∈ L, decide (c x y < 0) = lt x y) :
    Calls Try.prog 52 #[.slice (some ⟨g, 0, none⟩) n cap, .func (.func 53) #[bound] #[]] w fun e w' =>
      e = .returned (.tuple #[]) ∧ w'.ownsRow n0 3 1 (.slice (some ⟨g, 0, none⟩) n cap) n (csJ (sorts lt 1 (n - 1) L)) ∧ Below n0 w w' := by
  have q1 := pdq_any g n cap L bound c lt n0
  have q2 := Try.bits_Len (n : Int) w (by omega) (by omega)
  have w1 : IntKind.u64.wrap (n : Int) = (n : Int) := IntWalk.u64_in _ (by omega)
  have HC := Lib.hid hc
  have HLT := Lib.hid hlt
  have HH := Lib.hid h
  clear hc hlt
  go_enter Try.func52, Try.ntmps52
  go_wp2_with fail
  refine q2.mono ?_
  rintro e w2 ⟨rfl, rfl⟩
  go_wp2_with fail
  refine (q1 _ _ HH.out hn HC.out HLT.out).mono ?_
  rintro e w3 ⟨rfl, ho, hb⟩
  go_wp2
  refine bodyPost_end (results_none rfl _ _ _) rfl ?_
  exact ⟨rfl, ho, hb⟩
end Go.Proofs.Ytbljfaocmeeljaa
