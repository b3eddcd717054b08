
/- The program's Slices: a range over the iterator of the slices. -/
import Derived.Test.YtmlcnmnpkemdpaaDoorAlSeq
namespace Go.Proofs.YtmlcnmnpkemdpaaDoor
open Go.RowKit
attribute [local go_sem] Oper.semAt_some
/-! ### A range over a function whose iterator has its contract -/
/-- The loop's record. -/
def recOf (a : Act) (ps : Array Tmp) (assign body : Code) (fn : FuncId) (D : Nat) (st : LoopState) (pe : Option Code) : Loop :=
  { state := st, pending := pe, fn, tmps := a.tmps, params := ps, assign, body, defers := D }
/-- The statement, by what the iterator's call leaves. -/
theorem wp_rangeFunc_calls {P : Program} {g : Operand} {ps : Array Tmp} {assign body : Code} {Q : Exit → Act → World → Prop} {a : Act} {w : World} {gf : Nat} {lb : Array Value}
    (hg : a.eval g = .func (.func gf) #[] lb) (eg : ∀ args w, (callFunc gf args).run P w = .ok (.enter gf args) w)
    (h : ∀ (fn : FuncId) (rec : LoopState → Option Code → Loop) (W1 : World), rec = recOf a ps assign body fn w.heap.size → W1.heap[w.heap.size + 1]? = some (.loop (rec .ready none)) → W1.heap[w.heap.size]? = some (.deferred (some [])) →
      W1.heap.size = w.heap.size + 2 → Below w.heap.size w W1 →
      Calls P gf (#[.func (.yield (w.heap.size + 1)) #[] #[]] ++ lb) W1 fun e W2 => (∃ v, e = .returned v) ∧ ∃ st pe, st ≠ .busy ∧ W2.heap[w.heap.size + 1]? = some (.loop (rec st pe)) ∧
        (match pe with
         | none => Q .normal { a with defers := { target := .collected w.heap.size, args := #[] } :: a.defers } (W2.putObj (w.heap.size + 1) (.loop (rec .exhausted pe)))
         | some c => c.wp P Q { a with defers := { target := .collected w.heap.size, args := #[] } :: a.defers } (W2.putObj (w.heap.size + 1) (.loop (rec .exhausted pe))))) :
    (Code.rangeFunc g ps assign body).wp P Q a w := by
  refine (wpIn_wide (n := 1)).1 (wpIn_rangeFunc ?_)
  intro fn _
  obtain ⟨W1, hW1⟩ : ∃ W1, (w.alloc (.deferred (some []))).alloc (.loop (recOf a ps assign body fn w.heap.size .ready none)) = W1 := ⟨_, rfl⟩
  have hL1 : W1.heap[w.heap.size + 1]? = some (.loop (recOf a ps assign body fn w.heap.size .ready none)) := by
    rw [← hW1]; have := World.alloc_heap_new (w.alloc (.deferred (some []))) (.loop (recOf a ps assign body fn w.heap.size .ready none)); rwa [World.size_alloc] at this
  have hK1 : W1.heap[w.heap.size]? = some (.deferred (some [])) := by
    rw [← hW1]; exact (Below.heap_alloc _ _ _ (by simp)).trans (World.alloc_heap_new w _)
  have hs1 : W1.heap.size = w.heap.size + 2 := by rw [← hW1]; simp
  have hb1 : Below w.heap.size w W1 := by
    rw [← hW1]; exact below_alloc (below_alloc (Below.refl _ _) _) _
  refine ⟨w.heap.size + 1, [{ target := .collected w.heap.size, args := #[] }], W1, { target := .fn (.func gf) lb, args := #[.func (.yield (w.heap.size + 1)) #[] #[]] }, W1, gf,
    #[.func (.yield (w.heap.size + 1)) #[] #[]] ++ lb, W1, ?_, ?_, fun f' _ => trivial, ?_, fun _ => Nat.le_refl _, ?_⟩
  · rw [← hW1]; exact run_enterLoop_outer _ _ _ _ _
  · simp only [resolve, hg]
    simp [go_sem]
  · simp [invoke, go_sem, eg]
  · refine callsIn_wide.2 ((h fn _ W1 rfl hL1 hK1 hs1 hb1).mono ?_)
    rintro e W2 ⟨⟨v, rfl⟩, st, pe, hst, hl, hq⟩
    refine ⟨pe, W2.putObj (w.heap.size + 1) (.loop (recOf a ps assign body fn w.heap.size .exhausted pe)), run_endLoop hl hst, ?_⟩
    · cases pe with
      | none => exact hq
      | some c => exact wpIn_wide.2 hq
/-- One round, by the body's walk. -/
theorem round_of_walk {P : Program} {a : Act} {ps : Array Tmp} {assign body : Code} {fn : FuncId} {L D : Nat} {W : World} {args : Array Value} {R : Ending → World → Prop}
    (hl : W.heap[L]? = some (.loop (recOf a ps assign body fn D .ready none))) (hs : args.size = ps.size)
    (h : assign.wpIn (Fence.wide.inRound L) 0 P (Exit.then (fun a₁ w₁ => ∃ w₂, (Instr.beginRound L).run P w₁ = .ok () w₂ ∧ body.wpIn (Fence.wide.inRound L) 0 P (roundPost P L R) a₁ w₂) (fun _ _ _ => False))
      { tmps := (ps.zip args).foldl (fun t (p, v) => t.setIfInBounds p v) a.tmps, defers := [] } W) :
    ∃ fn' tmps assign' body', (Instr.yield L args).run P W = .ok (.round L fn' tmps assign' body') W ∧ RoundIn Fence.wide 0 P L fn' tmps assign' body' W R :=
  ⟨fn, _, assign, body, run_yield hl hs, roundIn_of_wpIn trivial h⟩
theorem gb_put (W : World) (l : Nat) (o : Obj) : Gb l W (W.putObj l o) := grownBy_putObj' W l o
/-- Between two rounds: the results' cells, the list so far, the loop's record. -/
def SJ (l : List (List Ev)) (w : World) (bo D : Nat) (r : Loop) (ba k : Nat) (W : World) : Prop := ∃ v, Blk W w.heap.size 61 #[.slice none 0 0] ∧ Blk W (w.heap.size + 1) 27 #[.int .i64 0] ∧ Blk W bo 61 #[v] ∧
  OwnS W (ba + 1) v ((List.range k).map (slOf l (momS l))) ∧ W.heap[D + 1]? = some (.loop r) ∧ W.heap[D]? = some (.deferred (some [])) ∧ Below w.heap.size w W ∧ durFrom (momS l) k ((momS l).length - 1 - k) = durFrom (momS l) 0 ((momS l).length - 1) ∧ D + 1 < ba
/-- A round has left by an error. -/
def SX (l : List (List Ev)) (w : World) (D : Nat) (r : Loop) (k : Nat) (W : World) : Prop := Blk W w.heap.size 61 #[.slice none 0 0] ∧ Blk W (w.heap.size + 1) 27 #[.int .i64 (slicesE l).2] ∧ (slicesE l).1 = [] ∧
  W.heap[D + 1]? = some (.loop r) ∧ W.heap[D]? = some (.deferred (some [])) ∧ Below w.heap.size w W ∧ k = k
theorem slicesE_dur {l : List (List Ev)} (hz : (checkA l).1 = 0) {k : Nat} (hd : durFrom (momS l) k ((momS l).length - 1 - k) = durFrom (momS l) 0 ((momS l).length - 1)) (hk : k + 1 < (momS l).length) (he : (durE (momS l) k).2 ≠ 0) : slicesE l = ([], (durE (momS l) k).2) := by
  rw [show (momS l).length - 1 - k = ((momS l).length - 1 - k - 1) + 1 by omega, durFrom_bad he] at hd
  unfold slicesE
  rw [if_neg (by omega), if_pos (by rw [← hd]; exact he), ← hd]
theorem slicesE_done {l : List (List Ev)} (hz : (checkA l).1 = 0) (hd : durFrom (momS l) ((momS l).length - 1) ((momS l).length - 1 - ((momS l).length - 1)) = durFrom (momS l) 0 ((momS l).length - 1)) : slicesE l = ((List.range ((momS l).length - 1)).map (slOf l (momS l)), 0) := by
  rw [Nat.sub_self] at hd
  unfold slicesE
  rw [if_neg (by omega), if_neg (by rw [← hd]; simp [durFrom])]
theorem dur_next {m : List Tm} {k : Nat} (hd : durFrom m k (m.length - 1 - k) = durFrom m 0 (m.length - 1)) (hk : k + 1 < m.length) (he : (durE m k).2 = 0) : durFrom m (k + 1) (m.length - 1 - (k + 1)) = durFrom m 0 (m.length - 1) := by
  rw [show m.length - 1 - k = (m.length - 1 - (k + 1)) + 1 by omega, durFrom_next he] at hd
  exact hd
theorem cells_new (w : World) (t : TypeId) (cs : Array Value) (g : Nat) (hg : g = w.heap.size) (j : Nat) (u : Value) (h : cs.toList[j]? = some u) : (w.alloc (.cells cs t)).cell? ((⟨g, 0, none⟩ : Addr).add j) = some u := by
  subst hg
  have := (Blk.new w t cs).cell j
  rw [Array.getElem?_toList] at h
  by_cases hj : j = 0
  · subst hj; simpa [Addr.add] using this.trans h
  · simpa [Addr.add, hj] using this.trans h
theorem Blk.put {w : World} {g r : Nat} {t : TypeId} {cs : Array Value} (h : Blk w g t cs) (o : Obj) (hne : g ≠ r) : Blk (w.putObj r o) g t cs := (World.putObj_heap_other hne).trans h
theorem below_put {w W : World} {B r : Nat} (h : Below B w W) (o : Obj) (hr : B ≤ r) : Below B w (W.putObj r o) := ⟨h.os, h.tape, h.output, by simpa using h.size, fun i hi => (World.putObj_heap_other (by omega)).trans (h.block i hi)⟩
theorem own_put {w : World} {base size n r : Nat} {e : TypeId} {v : Value} {xs : List Value} (h : w.ownsRow base e size v n xs) (o : Obj) (hr : r < base) : (w.putObj r o).ownsRow base e size v n xs := by
  obtain ⟨h1, h2⟩ := h
  refine ⟨h1, ?_⟩
  rcases h2 with h2 | ⟨g, cap, cur, hv, hg, hh, rest⟩
  · exact .inl h2
  · exact .inr ⟨g, cap, cur, hv, hg, (World.putObj_heap_other (by omega)).trans hh, rest⟩
theorem OwnS.put {w : World} {base r : Nat} {v : Value} {l : List Sl} (h : OwnS w base v l) (o : Obj) (hr : r < base) : OwnS (w.putObj r o) base v l := by
  obtain ⟨ps, h1, h2, h3⟩ := h
  exact ⟨ps, h1, own_put h2 o hr, fun p hp => ⟨(h3 p hp).1, own_put (h3 p hp).2 o hr⟩⟩
theorem OwnS.set {w : World} {base : Nat} {v u : Value} {l : List Sl} {p : Addr} (h : OwnS w base v l) (hr : p.block < base) : OwnS (w.setCell p u) base v l := by
  obtain ⟨ps, h1, h2, h3⟩ := h
  exact ⟨ps, h1, own_set h2 hr, fun p hp => ⟨(h3 p hp).1, own_set (h3 p hp).2 hr⟩⟩
theorem SJ.gb {l : List (List Ev)} {w : World} {bo D : Nat} {r : Loop} {ba k : Nat} {W W' : World} (h : SJ l w bo D r ba k W) (hg : Gb ba W W') (h1 : w.heap.size + 2 ≤ bo) (h2 : bo < D) : SJ l w bo D r ba k W' := by
  obtain ⟨v, a1, a2, a3, a4, a5, a6, a7, a8, a9⟩ := h
  have hlt := (Array.getElem?_eq_some_iff.1 a5).1
  exact ⟨v, a1.gb hg (by omega), a2.gb hg (by omega), a3.gb hg (by omega), a4.gb hg (by omega), (hg.block _ hlt (fun e => by cases e; omega)).trans a5, (hg.block _ (by omega) (fun e => by cases e; omega)).trans a6,
    a7.trans (hg.below (by omega) a7.size), a8, a9⟩
set_option maxRecDepth 100000 in
set_option maxHeartbeats 8000000 in
theorem slicesOf_any (A : Option Addr) (n c : Nat) (w : World) :
    Calls Tryd.prog 44 #[.slice A n c] w fun e w' => e = .returned (.func (.func 61) #[] #[.pointer (some ⟨w.heap.size, 0, none⟩)]) ∧ w' = w.alloc (.cells #[.slice A n c] 22) := by
  go_enter Tryd.func44, Tryd.ntmps44
  go_wp2
  go_ret
  exact ⟨rfl, rfl⟩
set_option maxRecDepth 100000 in
set_option maxHeartbeats 8000000 in
theorem slices_any (A : Option Addr) (n c : Nat) (l : List (List Ev)) (B : Nat) (w : World) (h : ReadsV w B A n l) (hB : B ≤ w.heap.size) (hn : n ≤ 9223372036854775807) :
    Calls Tryd.prog 30 #[.slice A n c] w fun e w' => ∃ v, e = .returned (.tuple #[v, .int .i64 (slicesE l).2]) ∧ OwnS w' w.heap.size v (slicesE l).1 ∧ Below w.heap.size w w' := by
  have q1 := fun W (hW : Below w.heap.size w W) => alCheck_any A n c l B W (h.below hB hW) (Nat.le_trans hB hW.size) hn
  refine (callsIn_wide (n := 1)).1 (callsIn_of_wp_marks Tryd.func30 rfl trivial ?_)
  simp only [Tryd.ntmps30, List.size_toArray, List.length_cons, List.length_nil, Nat.reduceAdd, Nat.reduceSub, Array.replicate_succ, Array.replicate_zero, List.push_toArray, List.append_toArray, List.nil_append, List.cons_append]
  refine wpIn_wide.2 ?_
  by_cases hz : (checkA l).1 = 0
  · rw [hz] at q1
    go_wp2_with fail
    refine Calls.mono (q1 _ ?_) ?_
    · repeat (first | with_reducible exact Below.refl _ _ | with_reducible assumption | with_reducible refine below_drewN ?_ _ | with_reducible refine Below.drew ?_ | with_reducible refine below_alloc ?_ _ | (with_reducible refine Below.setCell ?_ ?_ _; rotate_left; ((try simp only); omega)))
    rintro e w1 ⟨rfl, hb1⟩
    have B2 : Blk w1 w.heap.size 61 #[.slice none 0 0] := (Blk.alloc (Blk.new _ _ _) _).kept hb1
    have B3 : Blk w1 (w.heap.size + 1) 27 #[.int .i64 0] := (Blk.newAt _ _ _ _ (by simp)).kept hb1
    go_wp2_with fail
    refine (slicesOf_any A n c _).mono ?_
    rintro e w2 ⟨rfl, rfl⟩
    go_wp2_with fail
    have hl1 : w.heap.size + 2 ≤ w1.heap.size := by have := hb1.size; simpa using this
    have hbw1 : Below w.heap.size w w1 := by
      refine Below.trans ?_ (hb1.mono (by simp; omega))
      exact below_alloc (below_alloc (Below.refl _ _) _) _
    obtain ⟨w3, hw3⟩ : ∃ w3, w3 = (w1.alloc (.cells #[.slice none 0 0] 61)).alloc (.cells #[.slice A n c] 22) := ⟨_, rfl⟩
    have hs3 : w3.heap.size = w1.heap.size + 2 := by rw [hw3]; simp
    have C2 : Blk w3 w.heap.size 61 #[.slice none 0 0] := by rw [hw3]; exact (B2.alloc _).alloc _
    have C3 : Blk w3 (w.heap.size + 1) 27 #[.int .i64 0] := by rw [hw3]; exact (B3.alloc _).alloc _
    have CO : Blk w3 w1.heap.size 61 #[.slice none 0 0] := by rw [hw3]; exact (Blk.new _ _ _).alloc _
    have CP : Blk w3 (w1.heap.size + 1) 22 #[.slice A n c] := by rw [hw3]; exact Blk.newAt _ _ _ _ (by simp)
    have hb3 : Below w.heap.size w w3 := by rw [hw3]; exact below_alloc (below_alloc hbw1 _) _
    rw [← hw3]
    clear hw3 hb1 hbw1 B2 B3
    have HS3 := Lib.hid hs3
    clear hs3
    have HML := Lib.hid (show (momS l).length ≤ 32000 by obtain ⟨f1, f2, _⟩ := set_facts hz; have := momS_len l (fun v hv => (f2 v hv).2.2); omega)
    refine wp_rangeFunc_calls rfl (fun args w => by simp [go_sem]) ?_
    intro fn rec W1 hrec hL hD hs hb
    have hb31 := hb3.trans (hb.mono (by have := hb3.size; omega))
    have HB31 := Lib.hid hb31
    have HR := Lib.hid hrec
    clear hrec
    refine (slicesOf1_any A n c l B (w1.heap.size + 1) w.heap.size (w3.heap.size + 1) W1 ?_ hB ?_ hz ?_ (SJ l w w1.heap.size w3.heap.size (rec .ready none)) (SX l w w3.heap.size (rec .done (some .ret))) ?_ ?_ ?_).mono ?_
    · exact h.below hB hb31
    · have := HS3.out; omega
    · exact CP.kept hb
    · exact fun ba k W W' h1 h2 h3 => h2.gb h3 (by omega) (by have := HS3.out; omega)
    · intro ba hba
      exact ⟨_, C2.kept hb, C3.kept hb, CO.kept hb, OwnS.nil_ _ _, hL, hD, hb31, rfl, by omega⟩
    · clear hL hD hb hb31 q1 CP CO C2 C3 hb3
      intro ba k W p hk hJ hp hev hba
      obtain ⟨v, c2, c3, co, how, hl, hd, hbw, hdur, hDb⟩ := hJ
      have hl' := hl
      rw [HR.out] at hl'
      refine round_of_walk hl' rfl ?_
      clear hl'
      have hlt := (Array.getElem?_eq_some_iff.1 hl).1
      obtain ⟨⟨⟨a0, a1⟩, ⟨d0, d1⟩, evs⟩, pA, pn, pc⟩ := p
      simp only [cS]
      gi_wp2
      obtain ⟨W0, hW0⟩ : ∃ W0, W0 = W.alloc (.cells #[.int .i64 a0, .int .i64 a1, .int .i64 d0, .int .i64 d1, .slice pA pn pc] 77) := ⟨_, rfl⟩
      have hs0 : W0.heap.size = W.heap.size + 1 := by rw [hW0]; simp
      have hba0 : Below W.heap.size W W0 := by rw [hW0]; exact below_alloc (Below.refl _ _) _
      have bs0 : Blk W0 W.heap.size 77 #[.int .i64 a0, .int .i64 a1, .int .i64 d0, .int .i64 d1, .slice pA pn pc] := by rw [hW0]; exact Blk.new _ _ _
      have kn0 : KeepN W W0 := by rw [hW0]; exact (KeepN.refl W).alloc _
      rw [← hW0]
      clear hW0
      have hlW := (hba0.block _ hlt).trans hl
      refine ⟨_, run_beginRound hlW (by rw [HR.out]; rfl), ?_⟩
      have hd0 := (hba0.block w3.heap.size (by omega)).trans hd
      have hbw0 := hbw.trans (hba0.mono hbw.size)
      have how0 := how.kept hba0
      have hev0 := hev.kept hba0
      have c20 := c2.kept hba0
      have c30 := c3.kept hba0
      have co0 := co.kept hba0
      obtain ⟨r1, hr1⟩ : ∃ r1 : Loop, { rec .ready none with state := .busy } = r1 := ⟨_, rfl⟩
      rw [hr1]
      obtain ⟨W2, hW2⟩ : ∃ W2, W2 = W0.putObj (w3.heap.size + 1) (.loop r1) := ⟨_, rfl⟩
      have hs2 : W2.heap.size = W.heap.size + 1 := by rw [hW2]; simp [hs0]
      have hD3 : w1.heap.size + 2 = w3.heap.size := HS3.out.symm
      have hlB : W2.heap[w3.heap.size + 1]? = some (.loop r1) := by rw [hW2]; exact World.putObj_heap_same (by omega)
      have hdB : W2.heap[w3.heap.size]? = some (.deferred (some [])) := by rw [hW2]; exact (World.putObj_heap_other (by omega)).trans hd0
      have hbB : Below w.heap.size w W2 := by rw [hW2]; exact below_put hbw0 _ (by omega)
      have howB : OwnS W2 (ba + 1) v ((List.range k).map (slOf l (momS l))) := by rw [hW2]; exact how0.put _ (by omega)
      have b2B : Blk W2 w.heap.size 61 #[.slice none 0 0] := by rw [hW2]; exact c20.put _ (by omega)
      have b3B : Blk W2 (w.heap.size + 1) 27 #[.int .i64 0] := by rw [hW2]; exact c30.put _ (by omega)
      have boB : Blk W2 w1.heap.size 61 #[v] := by rw [hW2]; exact co0.put _ (by omega)
      have bsB : Blk W2 W.heap.size 77 #[.int .i64 a0, .int .i64 a1, .int .i64 d0, .int .i64 d1, .slice pA pn pc] := by rw [hW2]; exact bs0.put _ (by omega)
      have knB : KeepN W W2 := by rw [hW2]; exact kn0.put _ hlW rfl
      have hevB : EvsAt W2 (ba + 1) [(⟨(a0, a1), (d0, d1), evs⟩, pA, pn, pc)] := by rw [hW2]; exact fun q hq => ⟨(hev0 q hq).1, own_put (hev0 q hq).2 _ (by omega)⟩
      have HWW := Lib.hid (show Below w.heap.size W W2 by rw [hW2]; exact below_put (hba0.mono (by have := hbw.size; omega)) _ (by omega))
      rw [← hW2]
      clear hW2 hs0 bs0 kn0 hlW hd0 hbw0 how0 hev0 c20 c30 co0 hba0 hl hd hbw how hev c2 c3 co hlt
      have m2 := b2B.cell 0
      have m3 := b3B.cell 0
      have mo := boB.cell 0
      have z2 := b2B.frozen 0
      have z3 := b3B.frozen 0
      simp only [List.getElem?_toArray, List.getElem?_cons_zero] at m2 m3 mo
      have HP := Lib.hid hp
      have HB := Lib.hid hbB
      have HDU := Lib.hid hdur
      have HKN := Lib.hid knB
      have HK := Lib.hid hk
      have HS2 := Lib.hid hs2
      clear hs2
      clear hp hbB hdur knB hk
      by_cases he : (durE (momS l) k).2 = 0
      · have HE := Lib.hid he
        rw [he]
        clear he
        have s0 := bsB.cell 0
        have s1 := bsB.cell 1
        have s2 := bsB.cell 2
        have s3 := bsB.cell 3
        have s4 := bsB.cell 4
        simp only [List.getElem?_toArray, List.getElem?_cons_zero, List.getElem?_cons_succ] at s0 s1 s2 s3 s4
        obtain ⟨ps, hps, hrow, hevs⟩ := howB
        have HPS := Lib.hid hps
        rw [List.length_map, List.length_range] at hrow
        have hob : ∀ x, v.ownBlock = some x → ba + 1 ≤ x := fun x hx => (hrow.lt x hx).1
        obtain ⟨i0, hi0, hz0, hz1, hz2⟩ := info_parts sl_info
        have hA := below_alloc (Below.refl W2.heap.size W2) (.cells #[.int .i64 a0, .int .i64 a1, .int .i64 d0, .int .i64 d1, .slice pA pn pc] 77)
        have hkM : k ≤ 32000 := by have := HK.out; have := HML.out; omega
        clear hps
        repeat ((fail_if_success gi_at_builtin); gi_step)
        refine wpListIn_append_own _ rfl (.tmp 24) (.tmp 26) 61 rfl (ba + 1) 77 i0 _ 5 56 Tryd.underlying61 hi0 hz0 hz1 hz2 rfl (by omega) v k (csS ps) rfl (own_call hrow hA) ⟨W2.heap.size, 0, none⟩ 1 1 [.int .i64 a0, .int .i64 a1, .int .i64 d0, .int .i64 d1, .slice pA pn pc] rfl rfl (cells_new _ _ _ _ rfl) (by simp [Value.oneCell']) (by simp only [maxLen]; omega) (by omega) (by have := HS2.out; simp; omega) ?_
        intro v5 w5 hown5 hg5 hat5; obtain ⟨g5, cap5, rfl⟩ := ownsRow_succ hown5; have bo5 := Blk.grow (boB.kept hA) hg5 (fun he => by have := hob _ he.symm; omega); have co5 := bo5.cell 0; have fo5 := bo5.frozen 0; simp only [List.getElem?_toArray, List.getElem?_cons_zero] at co5
        gi_wp2
        have hgA : ∀ g, g ≤ ba → g < W2.heap.size → w5.heap[g]? = W2.heap[g]? := fun g h1 h2 =>
          (hg5.block g (by simp; omega) (fun he => by have := hob g he.symm; omega)).trans (hA.block g h2)
        have hsz := HS2.out
        have hl5 : (w5.setCell ⟨w1.heap.size, 0, none⟩ (.slice (some ⟨g5, 0, none⟩) (k + 1) cap5)).heap[w3.heap.size + 1]? = some (.loop r1) :=
          (Below.heap_setCell _ _ _ _ (by show w3.heap.size + 1 ≠ w1.heap.size; omega)).trans ((hgA _ (by omega) (by omega)).trans hlB)
        have hd5 : (w5.setCell ⟨w1.heap.size, 0, none⟩ (.slice (some ⟨g5, 0, none⟩) (k + 1) cap5)).heap[w3.heap.size]? = some (.deferred (some [])) :=
          (Below.heap_setCell _ _ _ _ (by show w3.heap.size ≠ w1.heap.size; omega)).trans ((hgA _ (by omega) (by omega)).trans hdB)
        have b25 : Blk w5 w.heap.size 61 #[.slice none 0 0] := (hgA _ (by omega) (by omega)).trans b2B
        have b35 : Blk w5 (w.heap.size + 1) 27 #[.int .i64 0] := (hgA _ (by omega) (by omega)).trans b3B
        have hrA := own_call hrow hA
        have hbe2 : Below w.heap.size W2 w5 := Below.grown (B := w.heap.size) (a := W2) (hA.mono (by omega)) hg5 (by simp; omega) (fun x hx => by have := hob x hx; omega)
        have hbel := HB.out.trans hbe2
        refine ⟨_, _, run_endRound none hl5, .inl ⟨rfl, ?_, ?_, ?_⟩⟩
        · refine KeepN.put ?_ _ hl5 rfl
          refine KeepN.set (t := 61) (cs := #[v]) ?_ bo5 (.inl rfl) _
          exact KeepN.grown (HKN.out.alloc _) hrA hg5 (.inr (.inr rfl))
        · refine below_put ?_ _ (by omega)
          exact (HWW.out.trans hbe2).setCell (by simp; omega) _
        · refine ⟨.slice (some ⟨g5, 0, none⟩) (k + 1) cap5, ?_, ?_, ?_, ?_, ?_, ?_, ?_, ?_, hDb⟩
          · refine Blk.put ?_ _ (by omega)
            repeat (first | with_reducible exact b25 | with_reducible exact Blk.new _ _ _ | (with_reducible refine Blk.newAt _ _ _ _ ?_; first | rfl | (simp; done)) | with_reducible apply Blk.alloc | with_reducible apply Blk.drewN | with_reducible apply Blk.drew | with_reducible apply Blk.set_to | (with_reducible apply Blk.far_; (simp only [ne_eq]; omega)) | rfl)
          · refine Blk.put ?_ _ (by omega)
            repeat (first | with_reducible exact b35 | with_reducible exact Blk.new _ _ _ | (with_reducible refine Blk.newAt _ _ _ _ ?_; first | rfl | (simp; done)) | with_reducible apply Blk.alloc | with_reducible apply Blk.drewN | with_reducible apply Blk.drew | with_reducible apply Blk.set_to | (with_reducible apply Blk.far_; (simp only [ne_eq]; omega)) | rfl)
          · refine Blk.put ?_ _ (by omega)
            exact bo5.set_ 0 _
          · rw [range_next, ← HP.out]
            refine OwnS.put (OwnS.set ?_ (by show w1.heap.size < _; omega)) _ (by omega)
            have hown6 : w5.ownsRow (ba + 1) 77 5 (.slice (some ⟨g5, 0, none⟩) (k + 1) cap5) (k + 1) (csS ps ++ csS [(⟨(a0, a1), (d0, d1), evs⟩, pA, pn, pc)]) := hown5
            have hev1 := hevB _ (List.mem_singleton.2 rfl)
            exact OwnS.snoc (p := (⟨(a0, a1), (d0, d1), evs⟩, pA, pn, pc)) HPS.out (by simp) hown6 hrA (hevs.kept hA) ⟨hev1.1, own_call hev1.2 hA⟩ hg5
          · have e1 : ({ r1 with state := (if (none : Option Code).isNone then LoopState.ready else .done), pending := none } : Loop) = rec .ready none := by rw [← hr1, HR.out]; rfl
            rw [e1]
            exact World.putObj_heap_same (Array.getElem?_eq_some_iff.1 hl5).1
          · exact (World.putObj_heap_other (by omega)).trans hd5
          · refine below_put ?_ _ (by omega)
            exact hbel.setCell (by simp; omega) _
          · exact dur_next HDU.out HK.out HE.out
      · have hne : ((durE (momS l) k).2 != 0) = true := by simpa using he
        have HE := Lib.hid he
        clear he
        gi_wp2
        have E := slicesE_dur hz HDU.out HK.out HE.out
        have hlC : ((W2.setCell ⟨w.heap.size, 0, none⟩ (.slice none 0 0)).setCell ⟨w.heap.size + 1, 0, none⟩ (.int .i64 (durE (momS l) k).2)).heap[w3.heap.size + 1]? = some (.loop r1) :=
          (Below.heap_setCell _ _ _ _ (by show w3.heap.size + 1 ≠ w.heap.size + 1; omega)).trans ((Below.heap_setCell _ _ _ _ (by show w3.heap.size + 1 ≠ w.heap.size; omega)).trans hlB)
        have hdC : ((W2.setCell ⟨w.heap.size, 0, none⟩ (.slice none 0 0)).setCell ⟨w.heap.size + 1, 0, none⟩ (.int .i64 (durE (momS l) k).2)).heap[w3.heap.size]? = some (.deferred (some [])) :=
          (Below.heap_setCell _ _ _ _ (by show w3.heap.size ≠ w.heap.size + 1; omega)).trans ((Below.heap_setCell _ _ _ _ (by show w3.heap.size ≠ w.heap.size; omega)).trans hdB)
        refine ⟨_, _, run_endRound (some .ret) hlC, .inr ⟨rfl, ?_, ?_, ?_, ?_, ?_, ?_, rfl⟩⟩
        · refine Blk.put ?_ _ (by omega)
          repeat (first | with_reducible exact b2B | with_reducible exact Blk.new _ _ _ | (with_reducible refine Blk.newAt _ _ _ _ ?_; first | rfl | (simp; done)) | with_reducible apply Blk.alloc | with_reducible apply Blk.drewN | with_reducible apply Blk.drew | with_reducible apply Blk.set_to | (with_reducible apply Blk.far_; (simp only [ne_eq]; omega)) | rfl)
        · refine Blk.put ?_ _ (by omega)
          rw [E]
          repeat (first | with_reducible exact b3B | with_reducible exact Blk.new _ _ _ | (with_reducible refine Blk.newAt _ _ _ _ ?_; first | rfl | (simp; done)) | with_reducible apply Blk.alloc | with_reducible apply Blk.drewN | with_reducible apply Blk.drew | with_reducible apply Blk.set_to | (with_reducible apply Blk.far_; (simp only [ne_eq]; omega)) | rfl)
        · rw [E]
        · rw [← hr1, HR.out]
          exact World.putObj_heap_same (Array.getElem?_eq_some_iff.1 hlC).1
        · exact (World.putObj_heap_other (by omega)).trans hdC
        · refine below_put ?_ _ (by omega)
          exact (HB.out.setCell (by simp) _).setCell (by simp) _
    · clear hL hD hb hb31 q1 CP CO C2 C3 hb3
      rintro e W2 ⟨⟨v, rfl⟩, hend⟩
      refine ⟨⟨v, rfl⟩, ?_⟩
      rcases hend with ⟨ba, hba, v, c2, c3, co, how, hl, hd, hbw, hdur, hDb⟩ | ⟨k, c2, c3, hE, hl, hd, hbw, _⟩
      · refine ⟨.ready, none, by simp, hl, ?_⟩
        simp only
        obtain ⟨Av, cv, hv, _⟩ := how.reads
        obtain ⟨N, hN⟩ : ∃ N, N = ((List.range ((momS l).length - 1)).map (slOf l (momS l))).length := ⟨_, rfl⟩
        rw [← hN] at hv
        clear hN
        subst hv
        have hlt := (Array.getElem?_eq_some_iff.1 hl).1
        have := HS3.out
        have HDU := Lib.hid hdur
        clear hdur
        have c2' := c2.put (.loop (rec .exhausted none)) (r := w3.heap.size + 1) (by have := HS3.out; omega)
        have c3' := c3.put (.loop (rec .exhausted none)) (r := w3.heap.size + 1) (by have := HS3.out; omega)
        have co' := co.put (.loop (rec .exhausted none)) (r := w3.heap.size + 1) (by have := HS3.out; omega)
        have how' := how.put (.loop (rec .exhausted none)) (r := w3.heap.size + 1) (by have := HS3.out; omega)
        have hd' := (World.putObj_heap_other (w := W2) (r := w3.heap.size + 1) (o := .loop (rec .exhausted none)) (k := w3.heap.size) (by omega)).trans hd
        have hb' := below_put hbw (.loop (rec .exhausted none)) (r := w3.heap.size + 1) (by have := HS3.out; omega)
        generalize W2.putObj (w3.heap.size + 1) (.loop (rec .exhausted none)) = W4 at *
        have k2 := c2'.cell 0
        have k3 := c3'.cell 0
        have ko := co'.cell 0
        have f2 := c2'.frozen 0
        have f3 := c3'.frozen 0
        have l2 := c2'.lt
        have l3 := c3'.lt
        simp only [List.getElem?_toArray, List.getElem?_cons_zero] at k2 k3 ko
        go_wp2
        have hd5 : ((W4.setCell ⟨w.heap.size, 0, none⟩ (.slice Av N cv)).setCell ⟨w.heap.size + 1, 0, none⟩ (.int .i64 0)).heap[w3.heap.size]? = some (.deferred (some [])) :=
          (Below.heap_setCell _ _ _ _ (by show w3.heap.size ≠ w.heap.size + 1; omega)).trans ((Below.heap_setCell _ _ _ _ (by show w3.heap.size ≠ w.heap.size; omega)).trans hd')
        refine ⟨by simp, .inl ⟨w3.heap.size, _, rfl, run_takeDeferred hd5, ?_⟩⟩
        refine ⟨.tuple #[.slice Av N cv, .int .i64 0], ?_, ?_⟩
        · have hres : Tryd.f30.results = #[.cell 2 61, .cell 3 27] := by kernel_rfl
          have e2 : Blk (((W4.setCell ⟨w.heap.size, 0, none⟩ (.slice Av N cv)).setCell ⟨w.heap.size + 1, 0, none⟩ (.int .i64 0)).putObj w3.heap.size (.deferred none)) w.heap.size 61 #[.slice Av N cv] := by
            refine Blk.put ?_ _ (by omega)
            repeat (first | with_reducible exact c2' | with_reducible exact Blk.new _ _ _ | (with_reducible refine Blk.newAt _ _ _ _ ?_; first | rfl | (simp; done)) | with_reducible apply Blk.alloc | with_reducible apply Blk.drewN | with_reducible apply Blk.drew | with_reducible apply Blk.set_to | (with_reducible apply Blk.far_; (simp only [ne_eq]; omega)) | rfl)
          have e3 : Blk (((W4.setCell ⟨w.heap.size, 0, none⟩ (.slice Av N cv)).setCell ⟨w.heap.size + 1, 0, none⟩ (.int .i64 0)).putObj w3.heap.size (.deferred none)) (w.heap.size + 1) 27 #[.int .i64 0] := by
            refine Blk.put ?_ _ (by omega)
            repeat (first | with_reducible exact c3' | with_reducible exact Blk.new _ _ _ | (with_reducible refine Blk.newAt _ _ _ _ ?_; first | rfl | (simp; done)) | with_reducible apply Blk.alloc | with_reducible apply Blk.drewN | with_reducible apply Blk.drew | with_reducible apply Blk.set_to | (with_reducible apply Blk.far_; (simp only [ne_eq]; omega)) | rfl)
          generalize ((W4.setCell ⟨w.heap.size, 0, none⟩ (.slice Av N cv)).setCell ⟨w.heap.size + 1, 0, none⟩ (.int .i64 0)).putObj w3.heap.size (.deferred none) = W9 at *
          have n2 := e2.cell 0
          have n3 := e3.cell 0
          simp only [List.getElem?_toArray, List.getElem?_cons_zero] at n2 n3
          simp only [results, hres]
          go_simp
        · have E := slicesE_done hz HDU.out
          refine ⟨_, by rw [E], ?_, ?_⟩
          · rw [E]
            exact (((how'.set (by show w.heap.size < _; omega)).set (by show w.heap.size + 1 < _; omega)).put _ (by omega)).lower (by omega)
          · refine below_put ?_ _ (by omega)
            exact (hb'.setCell (by simp) _).setCell (by simp) _
      · refine ⟨.done, some .ret, by simp, hl, ?_⟩
        simp only
        have hlt := (Array.getElem?_eq_some_iff.1 hl).1
        have c2' := c2.put (.loop (rec .exhausted (some .ret))) (r := w3.heap.size + 1) (by have := HS3.out; omega)
        have c3' := c3.put (.loop (rec .exhausted (some .ret))) (r := w3.heap.size + 1) (by have := HS3.out; omega)
        have hd' := (World.putObj_heap_other (w := W2) (r := w3.heap.size + 1) (o := .loop (rec .exhausted (some .ret))) (k := w3.heap.size) (by omega)).trans hd
        have hb' := below_put hbw (.loop (rec .exhausted (some .ret))) (r := w3.heap.size + 1) (by have := HS3.out; omega)
        generalize W2.putObj (w3.heap.size + 1) (.loop (rec .exhausted (some .ret))) = W4 at *
        have HE := Lib.hid hE
        clear hE
        go_wp2
        refine ⟨by simp, .inl ⟨w3.heap.size, _, rfl, run_takeDeferred hd', ?_⟩⟩
        refine ⟨.tuple #[.slice none 0 0, .int .i64 (slicesE l).2], ?_, ?_⟩
        · have hres : Tryd.f30.results = #[.cell 2 61, .cell 3 27] := by kernel_rfl
          have e2 := c2'.put (.deferred none) (r := w3.heap.size) (by have := HS3.out; omega)
          have e3 := c3'.put (.deferred none) (r := w3.heap.size) (by have := HS3.out; omega)
          generalize W4.putObj w3.heap.size (.deferred none) = W9 at *
          have n2 := e2.cell 0
          have n3 := e3.cell 0
          simp only [List.getElem?_toArray, List.getElem?_cons_zero] at n2 n3
          simp only [results, hres]
          go_simp
        · refine ⟨_, rfl, ?_, below_put hb' _ (by have := HS3.out; omega)⟩
          rw [HE.out]
          exact OwnS.nil_ _ _
  · have hb : ((checkA l).1 != 0) = true := by simpa using hz
    have E := Lib.hid (show slicesE l = ([], (checkA l).1) by unfold slicesE; rw [if_pos hz])
    clear hz
    go_wp2_with fail
    refine Calls.mono (q1 _ ?_) ?_
    · repeat (first | with_reducible exact Below.refl _ _ | with_reducible assumption | with_reducible refine below_drewN ?_ _ | with_reducible refine Below.drew ?_ | with_reducible refine below_alloc ?_ _ | (with_reducible refine Below.setCell ?_ ?_ _; rotate_left; ((try simp only); omega)))
    rintro e w1 ⟨rfl, hb1⟩
    have hc1 := (bcell hb1).1
    have hf1 := (bcell hb1).2
    have B2 : Blk w1 w.heap.size 61 #[.slice none 0 0] := (Blk.alloc (Blk.new _ _ _) _).kept hb1
    have B3 : Blk w1 (w.heap.size + 1) 27 #[.int .i64 0] := (Blk.newAt _ _ _ _ (by simp)).kept hb1
    have hbw1 : Below w.heap.size w w1 := by
      refine Below.trans ?_ (hb1.mono (by simp; omega))
      exact below_alloc (below_alloc (Below.refl _ _) _) _
    go_wp2
    refine ⟨.tuple #[.slice none 0 0, .int .i64 (checkA l).1], ?_, ?_⟩
    · have hres : Tryd.f30.results = #[.cell 2 61, .cell 3 27] := by kernel_rfl
      have e2 : Blk ((w1.setCell ⟨w.heap.size, 0, none⟩ (.slice none 0 0)).setCell ⟨w.heap.size + 1, 0, none⟩ (.int .i64 (checkA l).1)) w.heap.size 61 #[.slice none 0 0] := by repeat (first | with_reducible exact B2 | with_reducible exact Blk.new _ _ _ | (with_reducible refine Blk.newAt _ _ _ _ ?_; first | rfl | (simp; done)) | with_reducible apply Blk.alloc | with_reducible apply Blk.drewN | with_reducible apply Blk.drew | with_reducible apply Blk.set_to | (with_reducible apply Blk.far_; (simp only [ne_eq]; omega)) | rfl)
      have e3 : Blk ((w1.setCell ⟨w.heap.size, 0, none⟩ (.slice none 0 0)).setCell ⟨w.heap.size + 1, 0, none⟩ (.int .i64 (checkA l).1)) (w.heap.size + 1) 27 #[.int .i64 (checkA l).1] := by repeat (first | with_reducible exact B3 | with_reducible exact Blk.new _ _ _ | (with_reducible refine Blk.newAt _ _ _ _ ?_; first | rfl | (simp; done)) | with_reducible apply Blk.alloc | with_reducible apply Blk.drewN | with_reducible apply Blk.drew | with_reducible apply Blk.set_to | (with_reducible apply Blk.far_; (simp only [ne_eq]; omega)) | rfl)
      generalize (w1.setCell ⟨w.heap.size, 0, none⟩ (.slice none 0 0)).setCell ⟨w.heap.size + 1, 0, none⟩ (.int .i64 (checkA l).1) = W9 at *
      have n2 := e2.cell 0
      have n3 := e3.cell 0
      simp only [List.getElem?_toArray, List.getElem?_cons_zero] at n2 n3
      simp only [results, hres]
      go_simp
    · refine ⟨_, by rw [E.out], ?_, (hbw1.setCell (by simp) _).setCell (by simp) _⟩
      rw [E.out]
      exact OwnS.nil_ _ _
end Go.Proofs.YtmlcnmnpkemdpaaDoor
