/- The library's Repeat of one time: the copy of elements of more cells than one; its walk. -/
import Derived.Test.YtbljfaocmeeljaaAlRef
import Derived.Test.YtbljfaocmeeljaaPlain
import Derived.Test.YtbljfaocmeeljaaShelf
import Derived.Laws.CopyOwn
import Derived.Test.YtbljfaocmeeljaaGround
import Derived.Deep.LoopGhost
namespace Go.Proofs.Ytbljfaocmeeljaa
open Go.RowKit
section
variable {P : Program}
theorem run_copyK (size : Nat) (w : World) (dT sT ty elem : TypeId) (g o dLen dCap : Nat) (a : Addr) (sLen sCap : Nat) (cur : Array Value) (t : TypeId) (cs : List Value)
    (hu : P.underlying dT = some (.slice elem)) (hs : (P.info? elem).map (·.size) = some size)
    (hg : w.heap[g]? = some (.cells cur t (0, 0))) (hn : cs.length = Nat.min sLen dLen * size)
    (hsrc : ∀ j v, cs[j]? = some v → w.cell? (a.add j) = some v) (hfit : o + cs.length ≤ cur.size) (h1 : ∀ v ∈ cs, v.oneCell' = true) :
    (Builtin.copy_ #[dT, sT] ty #[.slice (some ⟨g, o, none⟩) dLen dCap, .slice (some a) sLen sCap]).run P w =
      .ok (goInt (Nat.min sLen dLen)) (w.setRow g (cur.toList.take o ++ cs ++ cur.toList.drop (o + cs.length)).toArray) := by
  have hl := run_loadCells_list (P := P) w a cs hsrc
  have hst := run_storeCells_at P g o t cs 0 cur w hg (by simpa using hfit) h1
  cases hq : P.info? elem with
  | none => simp [hq] at hs
  | some i =>
    have hi : i.size = size := by simpa [hq] using hs
    simp [Builtin.copy_, run_underlying hu, Builtin.lenOf, Builtin.firstCells, sizeOf, typeInfo, hq, hi, ← hn, hl, hst]
theorem wp_copyK (size : Nat) {w : World} {o : Oper} {a : Act} {K : Act → World → Prop} {Q : Exit → Act → World → Prop} (d s : Operand) (dT sT : TypeId)
    (ho : o.op = .call { callee := .builtin .copy, args := #[d, s], argTypes := #[dT, sT] }) (elem : TypeId) (hu : P.underlying dT = some (.slice elem)) (hsz : (P.info? elem).map (·.size) = some size)
    (g off dLen dCap : Nat) (ad : Addr) (sLen sCap : Nat) (hd : a.eval d = .slice (some ⟨g, off, none⟩) dLen dCap) (hs : a.eval s = .slice (some ad) sLen sCap)
    (cur : List Value) (t : TypeId) (hg : Blk w g t cur.toArray) (cs : List Value) (hn : cs.length = Nat.min sLen dLen * size)
    (hsrc : ∀ j v, cs[j]? = some v → w.cell? (ad.add j) = some v) (hfit : off + cs.length ≤ cur.length) (h1 : ∀ v ∈ cs, v.oneCell' = true)
    (h : ∀ w', Blk w' g t (cur.take off ++ cs ++ cur.drop (off + cs.length)).toArray → (∀ B, B ≤ g → Below B w w') → K (a.put o.dst (goInt (Nat.min sLen dLen))) w') : Oper.wp P o a w K Q := by
  have hrun := run_copyK (P := P) size w dT sT o.type elem g off dLen dCap ad sLen sCap cur.toArray t cs hu hsz hg hn hsrc (by simpa using hfit) h1
  unfold Oper.wp
  simp [execOp, ho, resolve, invoke, builtin, hd, hs, hrun, Result.andThen]
  refine h _ ?_ (fun B hB => below_setRow (Below.refl _ _) hB _)
  have := setRow_heap w g cur.toArray (cur.take off ++ cs ++ cur.drop (off + cs.length)).toArray t (0, 0) hg
  unfold Blk
  simpa using this
theorem wpList_copyK (size : Nat) {w : World} {ops : Array Oper} {rest : List Oper} {o : Oper} {a : Act} {Q : Exit → Act → World → Prop} (hgd : o.guard = none) (d s : Operand) (dT sT : TypeId)
    (ho : o.op = .call { callee := .builtin .copy, args := #[d, s], argTypes := #[dT, sT] }) (elem : TypeId) (hu : P.underlying dT = some (.slice elem)) (hsz : (P.info? elem).map (·.size) = some size)
    (g off dLen dCap : Nat) (ad : Addr) (sLen sCap : Nat) (hd : a.eval d = .slice (some ⟨g, off, none⟩) dLen dCap) (hs : a.eval s = .slice (some ad) sLen sCap)
    (cur : List Value) (t : TypeId) (hg : Blk w g t cur.toArray) (cs : List Value) (hn : cs.length = Nat.min sLen dLen * size)
    (hsrc : ∀ j v, cs[j]? = some v → w.cell? (ad.add j) = some v) (hfit : off + cs.length ≤ cur.length) (h1 : ∀ v ∈ cs, v.oneCell' = true)
    (h : ∀ w', Blk w' g t (cur.take off ++ cs ++ cur.drop (off + cs.length)).toArray → (∀ B, B ≤ g → Below B w w') → wpList P ops Q rest (a.put o.dst (goInt (Nat.min sLen dLen))) w') : wpList P ops Q (o :: rest) a w :=
  wpList_plain hgd fun _ hK => wp_copyK size d s dT sT ho elem hu hsz g off dLen dCap ad sLen sCap hd hs cur t hg cs hn hsrc hfit h1 fun w' h2 h3 => hK _ _ (h w' h2 h3)
theorem step_copyK (size : Nat) {w : World} {ops : Array Oper} {o : Oper} {a : Act} {K : Act → World → Prop} {Q : Exit → Act → World → Prop} {E : Prop} (hgd : o.guard = none) (d s : Operand) (dT sT : TypeId)
    (ho : o.op = .call { callee := .builtin .copy, args := #[d, s], argTypes := #[dT, sT] }) (elem : TypeId) (hu : P.underlying dT = some (.slice elem)) (hsz : (P.info? elem).map (·.size) = some size)
    (g off dLen dCap : Nat) (ad : Addr) (sLen sCap : Nat) (hd : a.eval d = .slice (some ⟨g, off, none⟩) dLen dCap) (hs : a.eval s = .slice (some ad) sLen sCap)
    (cur : List Value) (t : TypeId) (hg : Blk w g t cur.toArray) (cs : List Value) (hn : cs.length = Nat.min sLen dLen * size)
    (hsrc : ∀ j v, cs[j]? = some v → w.cell? (ad.add j) = some v) (hfit : off + cs.length ≤ cur.length) (h1 : ∀ v ∈ cs, v.oneCell' = true)
    (h : ∀ w', Blk w' g t (cur.take off ++ cs ++ cur.drop (off + cs.length)).toArray → (∀ B, B ≤ g → Below B w w') → K (a.put o.dst (goInt (Nat.min sLen dLen))) w') : if Region.wanted o (yielded ops a.tmps) = true then Oper.wp P o a w K Q else E := by
  have hw : Region.wanted o (yielded ops a.tmps) = true := by simp [Region.wanted, hgd]
  rw [if_pos hw]
  exact wp_copyK size d s dT sT ho elem hu hsz g off dLen dCap ad sLen sCap hd hs cur t hg cs hn hsrc hfit h1 h
end
/-- n times 0/1, the rest 0/0. -/
def half (m n : Nat) : List Tm := List.replicate n (0, 1) ++ List.replicate (m - n) (0, 0)
theorem csT_rep (n : Nat) (t : Tm) : csT (List.replicate n t) = (List.replicate n (cT t)).flatten := by
  unfold csT; rw [List.flatMap_def, List.map_replicate]
theorem half_len (m n : Nat) (h : n ≤ m) : (half m n).length = m := by unfold half; simp; omega
theorem half_copy (m n d : Nat) (h : n + d ≤ m) : (csT (half m n)).take (n * 2) ++ csT (List.replicate d (0, 1)) ++ (csT (half m n)).drop (n * 2 + (csT (List.replicate d ((0 : Int), (1 : Int)))).length) = csT (half m (n + d)) := by
  have e1 : csT (half m n) = csT (List.replicate n (0, 1)) ++ (csT (List.replicate d (0, 0)) ++ csT (List.replicate (m - (n + d)) (0, 0))) := by
    unfold half
    rw [csT_append, ← csT_append (List.replicate d _), List.replicate_append_replicate, show d + (m - (n + d)) = m - n by omega]
  have l1 : (csT (List.replicate n ((0 : Int), (1 : Int)))).length = n * 2 := by rw [csT_len, List.length_replicate]
  have l2 : (csT (List.replicate d ((0 : Int), (1 : Int)))).length = d * 2 := by rw [csT_len, List.length_replicate]
  have l3 : (csT (List.replicate d ((0 : Int), (0 : Int)))).length = d * 2 := by rw [csT_len, List.length_replicate]
  rw [e1, List.take_left' l1, l2, List.drop_append, List.drop_of_length_le (by omega), l1, show n * 2 + d * 2 - n * 2 = d * 2 by omega, List.nil_append, List.drop_left' l3]
  unfold half
  rw [csT_append, ← csT_append (List.replicate n _), List.replicate_append_replicate]
theorem half_get (m n d : Nat) (hd : d ≤ n) (j : Nat) (u : Value) (hu : (csT (List.replicate d ((0 : Int), (1 : Int))))[j]? = some u) : (csT (half m n))[j]? = some u := by
  have hj := (List.getElem?_eq_some_iff.1 hu).1
  have e1 : csT (half m n) = csT (List.replicate d (0, 1)) ++ (csT (List.replicate (n - d) (0, 1)) ++ csT (List.replicate (m - n) (0, 0))) := by
    unfold half
    rw [csT_append, ← List.append_assoc, ← csT_append (List.replicate d _), List.replicate_append_replicate, show d + (n - d) = n by omega]
  rw [e1, List.getElem?_append_left hj]
  exact hu
theorem made_half (m : Nat) : (madeCells #[.int .i64 0, .int .i64 0] (m * 2)) = (csT (half m 0)).toArray := by
  apply Array.ext'
  apply List.ext_getElem?
  intro i
  have e1 : csT (half m 0) = List.flatMap cT (List.replicate m ((0 : Int), (0 : Int))) := by unfold half csT; simp
  rw [e1]
  by_cases hi : i < m * 2
  · have h1 := flat_get cT 2 (fun _ => rfl) (List.replicate m ((0 : Int), (0 : Int))) (i / 2) (i % 2) (0, 0) (by rw [List.getElem?_replicate, if_pos (by omega)]) (Nat.mod_lt _ (by omega))
    rw [show i / 2 * 2 + i % 2 = i by omega] at h1
    rw [List.toList_toArray, h1]
    rcases Nat.mod_two_eq_zero_or_one i with h2 | h2 <;> rw [h2] <;> simp [madeCells, hi, cT, h2]
  · rw [List.getElem?_eq_none (by simp [madeCells]; omega), List.getElem?_eq_none (by
      rw [List.toList_toArray]
      have := csT_len (List.replicate m ((0 : Int), (0 : Int)))
      rw [List.length_replicate] at this
      show (List.flatMap cT _).length ≤ i
      have h3 : (List.flatMap cT (List.replicate m ((0 : Int), (0 : Int)))).length = m * 2 := this
      omega)]
set_option maxRecDepth 100000 in
set_option maxHeartbeats 8000000 in
theorem repeat_any (g0 m : Nat) (B : Nat) (w : World) (h : Reads w B 2 (some ⟨g0, 0, none⟩) 1 (csT [(0, 1)])) (hB : B ≤ w.heap.size) (hm : m ≤ 2000) :
    Calls Try.prog 61 #[.slice (some ⟨g0, 0, none⟩) 1 1, .int .i64 (m : Int)] w fun e w' => ∃ g, e = .returned (.slice (some ⟨g, 0, none⟩) m m) ∧ w'.ownsRow w.heap.size 34 2 (.slice (some ⟨g, 0, none⟩) m m) m (csT (List.replicate m (0, 1))) ∧ Below w.heap.size w w' := by
  obtain ⟨i0, hi0, hz0, hz1, hz2⟩ := info_parts tm_info
  have hsz : (Try.prog.info? 34).map (·.size) = some 2 := by rw [hi0]; simp [hz1]
  have hmk : ∀ u : World, (Instr.makeSlice 48 (.int .i64 (m : Int)) (.int .i64 (m : Int))).run Try.prog u = .ok (.slice (some ⟨u.heap.size, 0, none⟩) m m) (u.alloc (.cells (csT (half m 0)).toArray 34)) := fun u => by
    have := run_makeSlice (P := Try.prog) u 48 34 i0 _ Try.underlying48 hi0 hz0 .i64 .i64 m m (by omega) (Int.le_refl _) (by rw [hz1]; simp; omega) (by rw [hz2]; show ((16 : Nat) : Int) * m ≤ _; omega) (by omega)
    rw [hz1] at this
    rw [← made_half]
    simpa [Value.cells] using this
  have q1 := Try.bits_Mul 1 m (by omega) (by omega)
  rw [show 1 * m / 18446744073709551616 = 0 by omega, show 1 * m % 18446744073709551616 = m by omega] at q1
  have w1 : IntKind.u64.wrap (m : Int) = (m : Int) := IntWalk.u64_in _ (by omega)
  have w2 : IntKind.i64.wrap (m : Int) = (m : Int) := IntWalk.i64_in _ (by omega)
  have d0 : ¬ ((m : Int) < 0) := by omega
  have d1 : ¬ ((9223372036854775807 : Int) < (m : Int)) := by omega
  have hr1 : ∀ j u, (csT [((0 : Int), (1 : Int))])[j]? = some u → w.cell? ((⟨g0, 0, none⟩ : Addr).add j) = some u := fun j u hu => by
    obtain ⟨b, off, e, hb, hc⟩ := h.2 (by omega)
    cases e
    have := hc j u hu
    by_cases hj : j = 0
    · subst hj; simpa [Addr.add] using this
    · simpa [Addr.add, hj] using this
  have hg0 : g0 < w.heap.size := by obtain ⟨b, off, e, hb, hc⟩ := h.2 (by omega); cases e; omega
  have HL := Lib.hid (half_len m 0 (by omega))
  go_enter Try.func61, Try.ntmps61
  go_wp2_with fail
  refine (q1 _).mono ?_
  rintro e wq ⟨rfl, rfl⟩
  obtain ⟨d, hd⟩ : ∃ d, Nat.min 1 m = d := ⟨_, rfl⟩
  have hdm : d ≤ m ∧ d ≤ 1 ∧ (0 < m → d = 1) := by rw [← hd]; refine ⟨Nat.min_le_right _ _, Nat.min_le_left _ _, fun h => Nat.min_eq_left h⟩
  have HD := Lib.hid hd
  have B0 : Blk (wq.alloc (.cells (csT (half m 0)).toArray 34)) wq.heap.size 34 (csT (half m 0)).toArray := Blk.new _ _ _
  have hbq : Below wq.heap.size wq (wq.alloc (.cells (csT (half m 0)).toArray 34)) := by repeat (first | with_reducible exact Below.refl _ _ | with_reducible assumption | with_reducible refine below_drewN ?_ _ | with_reducible refine Below.drew ?_ | with_reducible refine below_alloc ?_ _ | (with_reducible refine Below.setCell ?_ ?_ _; rotate_left; ((try simp only); omega)))
  have hlen : (csT (List.replicate d ((0 : Int), (1 : Int)))).length = d * 2 := by rw [csT_len, List.length_replicate]
  have hlen0 : (csT (half m 0)).length = m * 2 := by rw [csT_len, HL.out]
  have hsrc : ∀ j v, (csT (List.replicate d ((0 : Int), (1 : Int))))[j]? = some v → (wq.alloc (.cells (csT (half m 0)).toArray 34)).cell? ((⟨g0, 0, none⟩ : Addr).add j) = some v := fun j v hv => by
    have hj := (List.getElem?_eq_some_iff.1 hv).1
    have hd1 : d = 1 := by omega
    rw [hd1] at hv
    have h1 := hr1 j v hv
    rw [hbq.cell (p := (⟨g0, 0, none⟩ : Addr).add j) (by unfold Addr.add; split <;> exact hg0)]
    exact h1
  have HC := Lib.hid (half_copy m 0 d (by omega))
  clear hr1 hd
  go_wp2_with (refine wpList_copyK 2 rfl (.tmp 31) (.tmp 32) 48 48 rfl 34 Try.underlying48 hsz wq.heap.size 0 m m ⟨g0, 0, none⟩ 1 1 rfl rfl (csT (half m 0)) 34 B0 (csT (List.replicate d (0, 1))) (by rw [hlen, HD.out]) hsrc (by rw [hlen, hlen0]; omega) (one_csT _) ?_; intro w5 B5 hb5; rw [HD.out])
  have k5 : Below wq.heap.size wq w5 := hbq.trans (hb5 _ (Nat.le_refl _))
  rw [Nat.zero_mul] at HC
  rw [HC.out, Nat.zero_add] at B5
  clear HC hsrc B0 hbq hb5 hlen hlen0
  go_loopg [8] (m - d) (fun gh nn wr => ∃ n, n + gh = m ∧ (0 < m → 0 < n) ∧ nn = .int .i64 (n : Int) ∧ Blk wr wq.heap.size 34 (csT (half m n)).toArray ∧ Below wq.heap.size wq wr)
  case atStart => exact ⟨d, by omega, by omega, rfl, B5, k5⟩
  case round =>
    clear B5 k5 hdm HD
    obtain ⟨n, hnm, hn0, rfl, Bn, kr⟩ := hrel
    cases gk with
    | zero =>
      obtain rfl : n = m := by omega
      have d2 : ¬ ((n : Int) < (n : Int)) := by omega
      have E := Lib.hid (show csT (half n n) = csT (List.replicate n (0, 1)) by unfold half; simp)
      go_wp2
      go_ret
      refine ⟨wq.heap.size, rfl, ?_, kr⟩
      refine ⟨by rw [csT_len, List.length_replicate], .inr ⟨wq.heap.size, n, (csT (half n n)).toArray, rfl, Nat.le_refl _, Bn, Nat.le_refl _, by simp [maxLen]; omega, by rw [List.size_toArray, E.out, csT_len, List.length_replicate], ?_⟩⟩
      rw [E.out]
      exact List.take_of_length_le (by rw [csT_len, List.length_replicate]; exact Nat.le_refl _)
    | succ gh =>
      have d2 : (n : Int) < (m : Int) := by omega
      obtain ⟨d, hd⟩ : ∃ d, Nat.min n (m - n) = d := ⟨_, rfl⟩
      have hdl : d ≤ n ∧ d ≤ m - n ∧ 0 < d := by
        rw [← hd]
        refine ⟨Nat.min_le_left _ _, Nat.min_le_right _ _, ?_⟩
        exact Nat.lt_min.2 ⟨hn0 (by omega), by omega⟩
      have HD := Lib.hid hd
      have hH := (fun W => (tm_head (some ⟨wq.heap.size, 0, none⟩) n m m (by omega)).choose_spec.2 W)
      have hH2 := (tm_head (some ⟨wq.heap.size, 0, none⟩) n m m (by omega)).choose_spec.1
      rw [hH2] at hH
      obtain ⟨AT, hAT, hT⟩ := tm_tail (some ⟨wq.heap.size, 0, none⟩) n m m (by omega) (Nat.le_refl _)
      have hA := hAT _ _ rfl (by omega)
      subst hA
      have lg := Bn.lt
      have hlen : (csT (List.replicate d ((0 : Int), (1 : Int)))).length = d * 2 := by rw [csT_len, List.length_replicate]
      have hlen0 : (csT (half m n)).length = m * 2 := by rw [csT_len, half_len m n (by omega)]
      have HC := Lib.hid (half_copy m n d (by omega))
      have hsrc : ∀ W, Blk W wq.heap.size 34 (csT (half m n)).toArray → ∀ j v, (csT (List.replicate d ((0 : Int), (1 : Int))))[j]? = some v → W.cell? ((⟨wq.heap.size, 0, none⟩ : Addr).add j) = some v := fun W hW j v hv => by
        have h1 := half_get m n d hdl.1 j v hv
        have h2 := hW.cell j
        rw [List.getElem?_toArray, h1] at h2
        by_cases hj : j = 0
        · subst hj; simpa [Addr.add] using h2
        · simpa [Addr.add, hj] using h2
      have w7 : IntKind.i64.wrap ((n : Int) + (d : Int)) = (n : Int) + (d : Int) := IntWalk.i64_in _ (by omega)
      simp only [Nat.zero_add] at hT
      clear hd hAT hH2
      go_wp2_with fail
      refine wp_region_calm_move 7 (by kernel_rfl) (.tmp 8) rfl rfl (by omega) (by kernel_rfl) ?_
      simp only [Nat.reduceSub, List.take_succ_cons, List.take_zero, List.drop_succ_cons, List.drop_zero]
      go_simp
      repeat (go_big_quiet_step (fail))
      refine wpQuiet_nil ?_
      intro wd gd
      have Bd := Bn.kept gd
      go_wp2_with (refine wpList_copyK 2 rfl (.tmp 41) (.tmp 44) 48 48 rfl 34 Try.underlying48 hsz wq.heap.size (n * 2) (m - n) (m - n) ⟨wq.heap.size, 0, none⟩ n m rfl rfl (csT (half m n)) 34 Bd (csT (List.replicate d (0, 1))) (by rw [hlen, HD.out]) (hsrc wd Bd) (by rw [hlen, hlen0]; omega) (one_csT _) ?_; intro w9 B9 hb9; rw [HD.out])
      rw [HC.out] at B9
      refine NoPanic.normal ?_
      go_wp2
      go_roundg (m - (n + d))
      case measure => omega
      case rel => exact ⟨n + d, by omega, by omega, by go_num, B9, (below_call kr gd).trans ((hb9 _ (Nat.le_refl _)))⟩
end Go.Proofs.Ytbljfaocmeeljaa
