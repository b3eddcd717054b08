/- Parts of the proofs of layer 31: AlSlices, FiStg, FiYield. -/
import Derived.Test.YtpkmiegccfhpnaaGreatDoorK11
import Derived.Test.YtpkmiegccfhpnaaGreatDoorK02
import Derived.Test.YtpkmiegccfhpnaaGreatDoorK10
import Derived.StillTail
namespace Go.Proofs.YtpkmiegccfhpnaaGreatDoor
open Go.RowKit
attribute [local go_sem] Oper.semAt_some
/-! ### A range over a function whose iterator has its contract -/
/-- The loop's record. -/
def recOf (a : Act) (ps : Array Tmp) (assign body : Code) (fn : FuncId) (D : Nat) (st : LoopState) (pe : Option Code) : Loop :=
  { state := st, pending := pe, fn, tmps := a.tmps, params := ps, assign, body, defers := D }
/-- The statement, by what the iterator's call leaves. -/
theorem wp_rangeFunc_calls {P : Program} {g : Operand} {ps : Array Tmp} {assign body : Code} {Q : Exit → Act → World → Prop} {a : Act} {w : World} {gf : Nat} {lb : Array Value}
    (hg : a.eval g = .func (.func gf) #[] lb) (eg : ∀ args w, (callFunc gf args).run P w = .ok (.enter gf args) w)
    (h : ∀ (fn : FuncId) (rec : LoopState → Option Code → Loop) (W1 : World), rec = recOf a ps assign body fn w.heap.size → W1.heap[w.heap.size + 1]? = some (.loop (rec .ready none)) → W1.heap[w.heap.size]? = some (.deferred (some [])) →
      W1.heap.size = w.heap.size + 2 → Below w.heap.size w W1 →
      Calls P gf (#[.func (.yield (w.heap.size + 1)) #[] #[]] ++ lb) W1 fun e W2 => (∃ v, e = .returned v) ∧ ∃ st pe, st ≠ .busy ∧ W2.heap[w.heap.size + 1]? = some (.loop (rec st pe)) ∧
        (match pe with
         | none => Q .normal { a with defers := { target := .collected w.heap.size, args := #[] } :: a.defers } (W2.putObj (w.heap.size + 1) (.loop (rec .exhausted pe)))
         | some c => c.wp P Q { a with defers := { target := .collected w.heap.size, args := #[] } :: a.defers } (W2.putObj (w.heap.size + 1) (.loop (rec .exhausted pe))))) :
    (Code.rangeFunc g ps assign body).wp P Q a w := by
  refine (wpIn_wide (n := 1)).1 (wpIn_rangeFunc ?_)
  intro fn _
  obtain ⟨W1, hW1⟩ : ∃ W1, (w.alloc (.deferred (some []))).alloc (.loop (recOf a ps assign body fn w.heap.size .ready none)) = W1 := ⟨_, rfl⟩
  have hL1 : W1.heap[w.heap.size + 1]? = some (.loop (recOf a ps assign body fn w.heap.size .ready none)) := by
    rw [← hW1]; have := World.alloc_heap_new (w.alloc (.deferred (some []))) (.loop (recOf a ps assign body fn w.heap.size .ready none)); rwa [World.size_alloc] at this
  have hK1 : W1.heap[w.heap.size]? = some (.deferred (some [])) := by
    rw [← hW1]; exact (Below.heap_alloc _ _ _ (by simp)).trans (World.alloc_heap_new w _)
  have hs1 : W1.heap.size = w.heap.size + 2 := by rw [← hW1]; simp
  have hb1 : Below w.heap.size w W1 := by
    rw [← hW1]; exact below_alloc (below_alloc (Below.refl _ _) _) _
  refine ⟨w.heap.size + 1, [{ target := .collected w.heap.size, args := #[] }], W1, { target := .fn (.func gf) lb, args := #[.func (.yield (w.heap.size + 1)) #[] #[]] }, W1, gf,
    #[.func (.yield (w.heap.size + 1)) #[] #[]] ++ lb, W1, ?_, ?_, fun f' _ => trivial, ?_, fun _ => Nat.le_refl _, ?_⟩
  · rw [← hW1]; exact run_enterLoop_outer _ _ _ _ _
  · simp only [resolve, hg]
    simp [go_sem]
  · simp [invoke, go_sem, eg]
  · refine callsIn_wide.2 ((h fn _ W1 rfl hL1 hK1 hs1 hb1).mono ?_)
    rintro e W2 ⟨⟨v, rfl⟩, st, pe, hst, hl, hq⟩
    refine ⟨pe, W2.putObj (w.heap.size + 1) (.loop (recOf a ps assign body fn w.heap.size .exhausted pe)), run_endLoop hl hst, ?_⟩
    · cases pe with
      | none => exact hq
      | some c => exact wpIn_wide.2 hq
/-- One round, by the body's walk. -/
theorem round_of_walk {P : Program} {a : Act} {ps : Array Tmp} {assign body : Code} {fn : FuncId} {L D : Nat} {W : World} {args : Array Value} {R : Ending → World → Prop}
    (hl : W.heap[L]? = some (.loop (recOf a ps assign body fn D .ready none))) (hs : args.size = ps.size)
    (h : assign.wpIn (Fence.wide.inRound L) 0 P (Exit.then (fun a₁ w₁ => ∃ w₂, (Instr.beginRound L).run P w₁ = .ok () w₂ ∧ body.wpIn (Fence.wide.inRound L) 0 P (roundPost P L R) a₁ w₂) (fun _ _ _ => False))
      { tmps := (ps.zip args).foldl (fun t (p, v) => t.setIfInBounds p v) a.tmps, defers := [] } W) :
    ∃ fn' tmps assign' body', (Instr.yield L args).run P W = .ok (.round L fn' tmps assign' body') W ∧ RoundIn Fence.wide 0 P L fn' tmps assign' body' W R :=
  ⟨fn, _, assign, body, run_yield hl hs, roundIn_of_wpIn trivial h⟩
/-- Between two rounds: the results' cells, the list so far, the loop's record. -/
def SJ (l : List (List Ev)) (w : World) (bo D : Nat) (r : Loop) (ba k : Nat) (W : World) : Prop := ∃ v, Blk W w.heap.size 55 #[.slice none 0 0] ∧ Blk W (w.heap.size + 1) 27 #[.int .i64 0] ∧ Blk W bo 55 #[v] ∧
  OwnS W (ba + 1) v ((List.range k).map (slOf l (momS l))) ∧ W.heap[D + 1]? = some (.loop r) ∧ W.heap[D]? = some (.deferred (some [])) ∧ Below w.heap.size w W ∧ durFrom (momS l) k ((momS l).length - 1 - k) = durFrom (momS l) 0 ((momS l).length - 1) ∧ D + 1 < ba
/-- A round has left by an error. -/
def SX (l : List (List Ev)) (w : World) (D : Nat) (r : Loop) (k : Nat) (W : World) : Prop := Blk W w.heap.size 55 #[.slice none 0 0] ∧ Blk W (w.heap.size + 1) 27 #[.int .i64 (slicesE l).2] ∧ (slicesE l).1 = [] ∧
  W.heap[D + 1]? = some (.loop r) ∧ W.heap[D]? = some (.deferred (some [])) ∧ Below w.heap.size w W ∧ k = k
theorem slicesE_dur {l : List (List Ev)} (hz : (checkA l).1 = 0) {k : Nat} (hd : durFrom (momS l) k ((momS l).length - 1 - k) = durFrom (momS l) 0 ((momS l).length - 1)) (hk : k + 1 < (momS l).length) (he : (durE (momS l) k).2 ≠ 0) : slicesE l = ([], (durE (momS l) k).2) := by
  rw [show (momS l).length - 1 - k = ((momS l).length - 1 - k - 1) + 1 by omega, durFrom_bad he] at hd
  unfold slicesE
  rw [if_neg (by omega), if_pos (by rw [← hd]; exact he), ← hd]
theorem slicesE_done {l : List (List Ev)} (hz : (checkA l).1 = 0) (hd : durFrom (momS l) ((momS l).length - 1) ((momS l).length - 1 - ((momS l).length - 1)) = durFrom (momS l) 0 ((momS l).length - 1)) : slicesE l = ((List.range ((momS l).length - 1)).map (slOf l (momS l)), 0) := by
  rw [Nat.sub_self] at hd
  unfold slicesE
  rw [if_neg (by omega), if_neg (by rw [← hd]; simp [durFrom])]
theorem dur_next {m : List Tm} {k : Nat} (hd : durFrom m k (m.length - 1 - k) = durFrom m 0 (m.length - 1)) (hk : k + 1 < m.length) (he : (durE m k).2 = 0) : durFrom m (k + 1) (m.length - 1 - (k + 1)) = durFrom m 0 (m.length - 1) := by
  rw [show m.length - 1 - k = (m.length - 1 - (k + 1)) + 1 by omega, durFrom_next he] at hd
  exact hd
theorem cells_new (w : World) (t : TypeId) (cs : Array Value) (g : Nat) (hg : g = w.heap.size) (j : Nat) (u : Value) (h : cs.toList[j]? = some u) : (w.alloc (.cells cs t)).cell? ((⟨g, 0, none⟩ : Addr).add j) = some u := by
  subst hg
  have := (Blk.new w t cs).cell j
  rw [Array.getElem?_toList] at h
  by_cases hj : j = 0
  · subst hj; simpa [Addr.add] using this.trans h
  · simpa [Addr.add, hj] using this.trans h
theorem Blk.put {w : World} {g r : Nat} {t : TypeId} {cs : Array Value} (h : Blk w g t cs) (o : Obj) (hne : g ≠ r) : Blk (w.putObj r o) g t cs := (World.putObj_heap_other hne).trans h
theorem below_put {w W : World} {B r : Nat} (h : Below B w W) (o : Obj) (hr : B ≤ r) : Below B w (W.putObj r o) := ⟨h.os, h.tape, h.output, by simpa using h.size, fun i hi => (World.putObj_heap_other (by omega)).trans (h.block i hi)⟩
theorem own_put {w : World} {base size n r : Nat} {e : TypeId} {v : Value} {xs : List Value} (h : w.ownsRow base e size v n xs) (o : Obj) (hr : r < base) : (w.putObj r o).ownsRow base e size v n xs := by
  obtain ⟨h1, h2⟩ := h
  refine ⟨h1, ?_⟩
  rcases h2 with h2 | ⟨g, cap, cur, hv, hg, hh, rest⟩
  · exact .inl h2
  · exact .inr ⟨g, cap, cur, hv, hg, (World.putObj_heap_other (by omega)).trans hh, rest⟩
theorem OwnS.put {w : World} {base r : Nat} {v : Value} {l : List Sl} (h : OwnS w base v l) (o : Obj) (hr : r < base) : OwnS (w.putObj r o) base v l := by
  obtain ⟨ps, h1, h2, h3⟩ := h
  exact ⟨ps, h1, own_put h2 o hr, fun p hp => ⟨(h3 p hp).1, own_put (h3 p hp).2 o hr⟩⟩
theorem OwnS.set {w : World} {base : Nat} {v u : Value} {l : List Sl} {p : Addr} (h : OwnS w base v l) (hr : p.block < base) : OwnS (w.setCell p u) base v l := by
  obtain ⟨ps, h1, h2, h3⟩ := h
  exact ⟨ps, h1, own_set h2 hr, fun p hp => ⟨(h3 p hp).1, own_set (h3 p hp).2 hr⟩⟩
theorem SJ.gb {l : List (List Ev)} {w : World} {bo D : Nat} {r : Loop} {ba k : Nat} {W W' : World} (h : SJ l w bo D r ba k W) (hg : Gb ba W W') (h1 : w.heap.size + 2 ≤ bo) (h2 : bo < D) : SJ l w bo D r ba k W' := by
  obtain ⟨v, a1, a2, a3, a4, a5, a6, a7, a8, a9⟩ := h
  have hlt := (Array.getElem?_eq_some_iff.1 a5).1
  exact ⟨v, a1.gb hg (by omega), a2.gb hg (by omega), a3.gb hg (by omega), a4.gb hg (by omega), (hg.block _ hlt (fun e => by cases e; omega)).trans a5, (hg.block _ (by omega) (fun e => by cases e; omega)).trans a6,
    a7.trans (hg.below (by omega) a7.size), a8, a9⟩
set_option maxRecDepth 100000 in
set_option maxHeartbeats 8000000 in
theorem slicesOf_any (A : Option Addr) (n c : Nat) (w : World) :
    Calls Tryz.prog 48 #[.slice A n c] w fun e w' => e = .returned (.func (.func 71) #[] #[.pointer (some ⟨w.heap.size, 0, none⟩)]) ∧ w' = w.alloc (.cells #[.slice A n c] 22) := by
  go_enter Tryz.func48, Tryz.ntmps48
  go_wp2
  go_ret
  exact ⟨rfl, rfl⟩
set_option maxRecDepth 100000 in
set_option maxHeartbeats 8000000 in
theorem slices_any (A : Option Addr) (n c : Nat) (l : List (List Ev)) (B : Nat) (w : World) (h : ReadsV w B A n l) (hB : B ≤ w.heap.size) (hn : n ≤ 9223372036854775807) :
    Calls Tryz.prog 29 #[.slice A n c] w fun e w' => ∃ v, e = .returned (.tuple #[v, .int .i64 (slicesE l).2]) ∧ OwnS w' w.heap.size v (slicesE l).1 ∧ Below w.heap.size w w' := by
  have q1 := fun W (hW : Below w.heap.size w W) => alCheck_any A n c l B W (h.below hB hW) (Nat.le_trans hB hW.size) hn
  refine (callsIn_wide (n := 1)).1 (callsIn_of_wp_marks Tryz.func29 rfl trivial ?_)
  simp only [Tryz.ntmps29, List.size_toArray, List.length_cons, List.length_nil, Nat.reduceAdd, Nat.reduceSub, Array.replicate_succ, Array.replicate_zero, List.push_toArray, List.append_toArray, List.nil_append, List.cons_append]
  refine wpIn_wide.2 ?_
  by_cases hz : (checkA l).1 = 0
  · rw [hz] at q1
    go_wp2_with fail
    refine Calls.mono (q1 _ ?_) ?_
    · repeat (first | with_reducible exact Below.refl _ _ | with_reducible assumption | with_reducible refine below_drewN ?_ _ | with_reducible refine Below.drew ?_ | with_reducible refine below_alloc ?_ _ | (with_reducible refine Below.setCell ?_ ?_ _; rotate_left; ((try simp only); omega)))
    rintro e w1 ⟨rfl, hb1⟩
    have B2 : Blk w1 w.heap.size 55 #[.slice none 0 0] := (Blk.alloc (Blk.new _ _ _) _).kept hb1
    have B3 : Blk w1 (w.heap.size + 1) 27 #[.int .i64 0] := (Blk.newAt _ _ _ _ (by simp)).kept hb1
    go_wp2_with fail
    refine (slicesOf_any A n c _).mono ?_
    rintro e w2 ⟨rfl, rfl⟩
    go_wp2_with fail
    have hl1 : w.heap.size + 2 ≤ w1.heap.size := by have := hb1.size; simpa using this
    have hbw1 : Below w.heap.size w w1 := by
      refine Below.trans ?_ (hb1.mono (by simp; omega))
      exact below_alloc (below_alloc (Below.refl _ _) _) _
    obtain ⟨w3, hw3⟩ : ∃ w3, w3 = (w1.alloc (.cells #[.slice none 0 0] 55)).alloc (.cells #[.slice A n c] 22) := ⟨_, rfl⟩
    have hs3 : w3.heap.size = w1.heap.size + 2 := by rw [hw3]; simp
    have C2 : Blk w3 w.heap.size 55 #[.slice none 0 0] := by rw [hw3]; exact (B2.alloc _).alloc _
    have C3 : Blk w3 (w.heap.size + 1) 27 #[.int .i64 0] := by rw [hw3]; exact (B3.alloc _).alloc _
    have CO : Blk w3 w1.heap.size 55 #[.slice none 0 0] := by rw [hw3]; exact (Blk.new _ _ _).alloc _
    have CP : Blk w3 (w1.heap.size + 1) 22 #[.slice A n c] := by rw [hw3]; exact Blk.newAt _ _ _ _ (by simp)
    have hb3 : Below w.heap.size w w3 := by rw [hw3]; exact below_alloc (below_alloc hbw1 _) _
    rw [← hw3]
    clear hw3 hb1 hbw1 B2 B3
    have HS3 := Lib.hid hs3
    clear hs3
    have HML := Lib.hid (show (momS l).length ≤ 32000 by obtain ⟨f1, f2, _⟩ := set_facts hz; have := momS_len l (fun v hv => (f2 v hv).2.2); omega)
    refine wp_rangeFunc_calls rfl (fun args w => by simp [go_sem]) ?_
    intro fn rec W1 hrec hL hD hs hb
    have hb31 := hb3.trans (hb.mono (by have := hb3.size; omega))
    have HB31 := Lib.hid hb31
    have HR := Lib.hid hrec
    clear hrec
    refine (slicesOf1_any A n c l B (w1.heap.size + 1) w.heap.size (w3.heap.size + 1) W1 ?_ hB ?_ hz ?_ (SJ l w w1.heap.size w3.heap.size (rec .ready none)) (SX l w w3.heap.size (rec .done (some .ret))) ?_ ?_ ?_).mono ?_
    · exact h.below hB hb31
    · have := HS3.out; omega
    · exact CP.kept hb
    · exact fun ba k W W' h1 h2 h3 => h2.gb h3 (by omega) (by have := HS3.out; omega)
    · intro ba hba
      exact ⟨_, C2.kept hb, C3.kept hb, CO.kept hb, OwnS.nil_ _ _, hL, hD, hb31, rfl, by omega⟩
    · clear hL hD hb hb31 q1 CP CO C2 C3 hb3
      intro ba k W p hk hJ hp hev hba
      obtain ⟨v, c2, c3, co, how, hl, hd, hbw, hdur, hDb⟩ := hJ
      have hl' := hl
      rw [HR.out] at hl'
      refine round_of_walk hl' rfl ?_
      clear hl'
      have hlt := (Array.getElem?_eq_some_iff.1 hl).1
      obtain ⟨⟨⟨a0, a1⟩, ⟨d0, d1⟩, evs⟩, pA, pn, pc⟩ := p
      simp only [cS]
      gi_wp2
      obtain ⟨W0, hW0⟩ : ∃ W0, W0 = W.alloc (.cells #[.int .i64 a0, .int .i64 a1, .int .i64 d0, .int .i64 d1, .slice pA pn pc] 85) := ⟨_, rfl⟩
      have hs0 : W0.heap.size = W.heap.size + 1 := by rw [hW0]; simp
      have hba0 : Below W.heap.size W W0 := by rw [hW0]; exact below_alloc (Below.refl _ _) _
      have bs0 : Blk W0 W.heap.size 85 #[.int .i64 a0, .int .i64 a1, .int .i64 d0, .int .i64 d1, .slice pA pn pc] := by rw [hW0]; exact Blk.new _ _ _
      have kn0 : KeepN W W0 := by rw [hW0]; exact (KeepN.refl W).alloc _
      rw [← hW0]
      clear hW0
      have hlW := (hba0.block _ hlt).trans hl
      refine ⟨_, run_beginRound hlW (by rw [HR.out]; rfl), ?_⟩
      have hd0 := (hba0.block w3.heap.size (by omega)).trans hd
      have hbw0 := hbw.trans (hba0.mono hbw.size)
      have how0 := how.kept hba0
      have hev0 := hev.kept hba0
      have c20 := c2.kept hba0
      have c30 := c3.kept hba0
      have co0 := co.kept hba0
      obtain ⟨r1, hr1⟩ : ∃ r1 : Loop, { rec .ready none with state := .busy } = r1 := ⟨_, rfl⟩
      rw [hr1]
      obtain ⟨W2, hW2⟩ : ∃ W2, W2 = W0.putObj (w3.heap.size + 1) (.loop r1) := ⟨_, rfl⟩
      have hs2 : W2.heap.size = W.heap.size + 1 := by rw [hW2]; simp [hs0]
      have hD3 : w1.heap.size + 2 = w3.heap.size := HS3.out.symm
      have hlB : W2.heap[w3.heap.size + 1]? = some (.loop r1) := by rw [hW2]; exact World.putObj_heap_same (by omega)
      have hdB : W2.heap[w3.heap.size]? = some (.deferred (some [])) := by rw [hW2]; exact (World.putObj_heap_other (by omega)).trans hd0
      have hbB : Below w.heap.size w W2 := by rw [hW2]; exact below_put hbw0 _ (by omega)
      have howB : OwnS W2 (ba + 1) v ((List.range k).map (slOf l (momS l))) := by rw [hW2]; exact how0.put _ (by omega)
      have b2B : Blk W2 w.heap.size 55 #[.slice none 0 0] := by rw [hW2]; exact c20.put _ (by omega)
      have b3B : Blk W2 (w.heap.size + 1) 27 #[.int .i64 0] := by rw [hW2]; exact c30.put _ (by omega)
      have boB : Blk W2 w1.heap.size 55 #[v] := by rw [hW2]; exact co0.put _ (by omega)
      have bsB : Blk W2 W.heap.size 85 #[.int .i64 a0, .int .i64 a1, .int .i64 d0, .int .i64 d1, .slice pA pn pc] := by rw [hW2]; exact bs0.put _ (by omega)
      have knB : KeepN W W2 := by rw [hW2]; exact kn0.put _ hlW rfl
      have hevB : EvsAt W2 (ba + 1) [(⟨(a0, a1), (d0, d1), evs⟩, pA, pn, pc)] := by rw [hW2]; exact fun q hq => ⟨(hev0 q hq).1, own_put (hev0 q hq).2 _ (by omega)⟩
      have HWW := Lib.hid (show Below w.heap.size W W2 by rw [hW2]; exact below_put (hba0.mono (by have := hbw.size; omega)) _ (by omega))
      rw [← hW2]
      clear hW2 hs0 bs0 kn0 hlW hd0 hbw0 how0 hev0 c20 c30 co0 hba0 hl hd hbw how hev c2 c3 co hlt
      have m2 := b2B.cell 0
      have m3 := b3B.cell 0
      have mo := boB.cell 0
      have z2 := b2B.frozen 0
      have z3 := b3B.frozen 0
      simp only [List.getElem?_toArray, List.getElem?_cons_zero] at m2 m3 mo
      have HP := Lib.hid hp
      have HB := Lib.hid hbB
      have HDU := Lib.hid hdur
      have HKN := Lib.hid knB
      have HK := Lib.hid hk
      have HS2 := Lib.hid hs2
      clear hs2
      clear hp hbB hdur knB hk
      by_cases he : (durE (momS l) k).2 = 0
      · have HE := Lib.hid he
        rw [he]
        clear he
        have s0 := bsB.cell 0
        have s1 := bsB.cell 1
        have s2 := bsB.cell 2
        have s3 := bsB.cell 3
        have s4 := bsB.cell 4
        simp only [List.getElem?_toArray, List.getElem?_cons_zero, List.getElem?_cons_succ] at s0 s1 s2 s3 s4
        obtain ⟨ps, hps, hrow, hevs⟩ := howB
        have HPS := Lib.hid hps
        rw [List.length_map, List.length_range] at hrow
        have hob : ∀ x, v.ownBlock = some x → ba + 1 ≤ x := fun x hx => (hrow.lt x hx).1
        obtain ⟨i0, hi0, hz0, hz1, hz2⟩ := info_parts sl_info
        have hA := below_alloc (Below.refl W2.heap.size W2) (.cells #[.int .i64 a0, .int .i64 a1, .int .i64 d0, .int .i64 d1, .slice pA pn pc] 85)
        have hkM : k ≤ 32000 := by have := HK.out; have := HML.out; omega
        clear hps
        repeat ((fail_if_success gi_at_builtin); gi_step)
        refine wpListIn_append_own _ rfl (.tmp 24) (.tmp 26) 55 rfl (ba + 1) 85 i0 _ 5 56 Tryz.underlying55 hi0 hz0 hz1 hz2 rfl (by omega) v k (csS ps) rfl (own_call hrow hA) ⟨W2.heap.size, 0, none⟩ 1 1 [.int .i64 a0, .int .i64 a1, .int .i64 d0, .int .i64 d1, .slice pA pn pc] rfl rfl (cells_new _ _ _ _ rfl) (by simp [Value.oneCell']) (by simp only [maxLen]; omega) (by omega) (by have := HS2.out; simp; omega) ?_
        intro v5 w5 hown5 hg5 hat5; obtain ⟨g5, cap5, rfl⟩ := ownsRow_succ hown5; have bo5 := Blk.grow (boB.kept hA) hg5 (fun he => by have := hob _ he.symm; omega); have co5 := bo5.cell 0; have fo5 := bo5.frozen 0; simp only [List.getElem?_toArray, List.getElem?_cons_zero] at co5
        gi_wp2
        have hgA : ∀ g, g ≤ ba → g < W2.heap.size → w5.heap[g]? = W2.heap[g]? := fun g h1 h2 =>
          (hg5.block g (by simp; omega) (fun he => by have := hob g he.symm; omega)).trans (hA.block g h2)
        have hsz := HS2.out
        have hl5 : (w5.setCell ⟨w1.heap.size, 0, none⟩ (.slice (some ⟨g5, 0, none⟩) (k + 1) cap5)).heap[w3.heap.size + 1]? = some (.loop r1) :=
          (Below.heap_setCell _ _ _ _ (by show w3.heap.size + 1 ≠ w1.heap.size; omega)).trans ((hgA _ (by omega) (by omega)).trans hlB)
        have hd5 : (w5.setCell ⟨w1.heap.size, 0, none⟩ (.slice (some ⟨g5, 0, none⟩) (k + 1) cap5)).heap[w3.heap.size]? = some (.deferred (some [])) :=
          (Below.heap_setCell _ _ _ _ (by show w3.heap.size ≠ w1.heap.size; omega)).trans ((hgA _ (by omega) (by omega)).trans hdB)
        have b25 : Blk w5 w.heap.size 55 #[.slice none 0 0] := (hgA _ (by omega) (by omega)).trans b2B
        have b35 : Blk w5 (w.heap.size + 1) 27 #[.int .i64 0] := (hgA _ (by omega) (by omega)).trans b3B
        have hrA := own_call hrow hA
        have hbe2 : Below w.heap.size W2 w5 := Below.grown (B := w.heap.size) (a := W2) (hA.mono (by omega)) hg5 (by simp; omega) (fun x hx => by have := hob x hx; omega)
        have hbel := HB.out.trans hbe2
        refine ⟨_, _, run_endRound none hl5, .inl ⟨rfl, ?_, ?_, ?_⟩⟩
        · refine KeepN.put ?_ _ hl5 rfl
          refine KeepN.set (t := 55) (cs := #[v]) ?_ bo5 (.inl rfl) _
          exact KeepN.grown (HKN.out.alloc _) hrA hg5 (.inr (.inr rfl))
        · refine below_put ?_ _ (by omega)
          exact (HWW.out.trans hbe2).setCell (by simp; omega) _
        · refine ⟨.slice (some ⟨g5, 0, none⟩) (k + 1) cap5, ?_, ?_, ?_, ?_, ?_, ?_, ?_, ?_, hDb⟩
          · refine Blk.put ?_ _ (by omega)
            repeat (first | with_reducible exact b25 | with_reducible exact Blk.new _ _ _ | (with_reducible refine Blk.newAt _ _ _ _ ?_; first | rfl | (simp; done)) | with_reducible apply Blk.alloc | with_reducible apply Blk.drewN | with_reducible apply Blk.drew | with_reducible apply Blk.set_to | (with_reducible apply Blk.far_; (simp only [ne_eq]; omega)) | rfl)
          · refine Blk.put ?_ _ (by omega)
            repeat (first | with_reducible exact b35 | with_reducible exact Blk.new _ _ _ | (with_reducible refine Blk.newAt _ _ _ _ ?_; first | rfl | (simp; done)) | with_reducible apply Blk.alloc | with_reducible apply Blk.drewN | with_reducible apply Blk.drew | with_reducible apply Blk.set_to | (with_reducible apply Blk.far_; (simp only [ne_eq]; omega)) | rfl)
          · refine Blk.put ?_ _ (by omega)
            exact bo5.set_ 0 _
          · rw [range_next, ← HP.out]
            refine OwnS.put (OwnS.set ?_ (by show w1.heap.size < _; omega)) _ (by omega)
            have hown6 : w5.ownsRow (ba + 1) 85 5 (.slice (some ⟨g5, 0, none⟩) (k + 1) cap5) (k + 1) (csS ps ++ csS [(⟨(a0, a1), (d0, d1), evs⟩, pA, pn, pc)]) := hown5
            have hev1 := hevB _ (List.mem_singleton.2 rfl)
            exact OwnS.snoc (p := (⟨(a0, a1), (d0, d1), evs⟩, pA, pn, pc)) HPS.out (by simp) hown6 hrA (hevs.kept hA) ⟨hev1.1, own_call hev1.2 hA⟩ hg5
          · have e1 : ({ r1 with state := (if (none : Option Code).isNone then LoopState.ready else .done), pending := none } : Loop) = rec .ready none := by rw [← hr1, HR.out]; rfl
            rw [e1]
            exact World.putObj_heap_same (Array.getElem?_eq_some_iff.1 hl5).1
          · exact (World.putObj_heap_other (by omega)).trans hd5
          · refine below_put ?_ _ (by omega)
            exact hbel.setCell (by simp; omega) _
          · exact dur_next HDU.out HK.out HE.out
      · have hne : ((durE (momS l) k).2 != 0) = true := by simpa using he
        have HE := Lib.hid he
        clear he
        gi_wp2
        have E := slicesE_dur hz HDU.out HK.out HE.out
        have hlC : ((W2.setCell ⟨w.heap.size, 0, none⟩ (.slice none 0 0)).setCell ⟨w.heap.size + 1, 0, none⟩ (.int .i64 (durE (momS l) k).2)).heap[w3.heap.size + 1]? = some (.loop r1) :=
          (Below.heap_setCell _ _ _ _ (by show w3.heap.size + 1 ≠ w.heap.size + 1; omega)).trans ((Below.heap_setCell _ _ _ _ (by show w3.heap.size + 1 ≠ w.heap.size; omega)).trans hlB)
        have hdC : ((W2.setCell ⟨w.heap.size, 0, none⟩ (.slice none 0 0)).setCell ⟨w.heap.size + 1, 0, none⟩ (.int .i64 (durE (momS l) k).2)).heap[w3.heap.size]? = some (.deferred (some [])) :=
          (Below.heap_setCell _ _ _ _ (by show w3.heap.size ≠ w.heap.size + 1; omega)).trans ((Below.heap_setCell _ _ _ _ (by show w3.heap.size ≠ w.heap.size; omega)).trans hdB)
        refine ⟨_, _, run_endRound (some .ret) hlC, .inr ⟨rfl, ?_, ?_, ?_, ?_, ?_, ?_, rfl⟩⟩
        · refine Blk.put ?_ _ (by omega)
          repeat (first | with_reducible exact b2B | with_reducible exact Blk.new _ _ _ | (with_reducible refine Blk.newAt _ _ _ _ ?_; first | rfl | (simp; done)) | with_reducible apply Blk.alloc | with_reducible apply Blk.drewN | with_reducible apply Blk.drew | with_reducible apply Blk.set_to | (with_reducible apply Blk.far_; (simp only [ne_eq]; omega)) | rfl)
        · refine Blk.put ?_ _ (by omega)
          rw [E]
          repeat (first | with_reducible exact b3B | with_reducible exact Blk.new _ _ _ | (with_reducible refine Blk.newAt _ _ _ _ ?_; first | rfl | (simp; done)) | with_reducible apply Blk.alloc | with_reducible apply Blk.drewN | with_reducible apply Blk.drew | with_reducible apply Blk.set_to | (with_reducible apply Blk.far_; (simp only [ne_eq]; omega)) | rfl)
        · rw [E]
        · rw [← hr1, HR.out]
          exact World.putObj_heap_same (Array.getElem?_eq_some_iff.1 hlC).1
        · exact (World.putObj_heap_other (by omega)).trans hdC
        · refine below_put ?_ _ (by omega)
          exact (HB.out.setCell (by simp) _).setCell (by simp) _
    · clear hL hD hb hb31 q1 CP CO C2 C3 hb3
      rintro e W2 ⟨⟨v, rfl⟩, hend⟩
      refine ⟨⟨v, rfl⟩, ?_⟩
      rcases hend with ⟨ba, hba, v, c2, c3, co, how, hl, hd, hbw, hdur, hDb⟩ | ⟨k, c2, c3, hE, hl, hd, hbw, _⟩
      · refine ⟨.ready, none, by simp, hl, ?_⟩
        simp only
        obtain ⟨Av, cv, hv, _⟩ := how.reads
        obtain ⟨N, hN⟩ : ∃ N, N = ((List.range ((momS l).length - 1)).map (slOf l (momS l))).length := ⟨_, rfl⟩
        rw [← hN] at hv
        clear hN
        subst hv
        have hlt := (Array.getElem?_eq_some_iff.1 hl).1
        have := HS3.out
        have HDU := Lib.hid hdur
        clear hdur
        have c2' := c2.put (.loop (rec .exhausted none)) (r := w3.heap.size + 1) (by have := HS3.out; omega)
        have c3' := c3.put (.loop (rec .exhausted none)) (r := w3.heap.size + 1) (by have := HS3.out; omega)
        have co' := co.put (.loop (rec .exhausted none)) (r := w3.heap.size + 1) (by have := HS3.out; omega)
        have how' := how.put (.loop (rec .exhausted none)) (r := w3.heap.size + 1) (by have := HS3.out; omega)
        have hd' := (World.putObj_heap_other (w := W2) (r := w3.heap.size + 1) (o := .loop (rec .exhausted none)) (k := w3.heap.size) (by omega)).trans hd
        have hb' := below_put hbw (.loop (rec .exhausted none)) (r := w3.heap.size + 1) (by have := HS3.out; omega)
        generalize W2.putObj (w3.heap.size + 1) (.loop (rec .exhausted none)) = W4 at *
        have k2 := c2'.cell 0
        have k3 := c3'.cell 0
        have ko := co'.cell 0
        have f2 := c2'.frozen 0
        have f3 := c3'.frozen 0
        have l2 := c2'.lt
        have l3 := c3'.lt
        simp only [List.getElem?_toArray, List.getElem?_cons_zero] at k2 k3 ko
        go_wp2
        have hd5 : ((W4.setCell ⟨w.heap.size, 0, none⟩ (.slice Av N cv)).setCell ⟨w.heap.size + 1, 0, none⟩ (.int .i64 0)).heap[w3.heap.size]? = some (.deferred (some [])) :=
          (Below.heap_setCell _ _ _ _ (by show w3.heap.size ≠ w.heap.size + 1; omega)).trans ((Below.heap_setCell _ _ _ _ (by show w3.heap.size ≠ w.heap.size; omega)).trans hd')
        refine ⟨by simp, .inl ⟨w3.heap.size, _, rfl, run_takeDeferred hd5, ?_⟩⟩
        refine ⟨.tuple #[.slice Av N cv, .int .i64 0], ?_, ?_⟩
        · have hres : Tryz.f29.results = #[.cell 2 55, .cell 3 27] := by kernel_rfl
          have e2 : Blk (((W4.setCell ⟨w.heap.size, 0, none⟩ (.slice Av N cv)).setCell ⟨w.heap.size + 1, 0, none⟩ (.int .i64 0)).putObj w3.heap.size (.deferred none)) w.heap.size 55 #[.slice Av N cv] := by
            refine Blk.put ?_ _ (by omega)
            repeat (first | with_reducible exact c2' | with_reducible exact Blk.new _ _ _ | (with_reducible refine Blk.newAt _ _ _ _ ?_; first | rfl | (simp; done)) | with_reducible apply Blk.alloc | with_reducible apply Blk.drewN | with_reducible apply Blk.drew | with_reducible apply Blk.set_to | (with_reducible apply Blk.far_; (simp only [ne_eq]; omega)) | rfl)
          have e3 : Blk (((W4.setCell ⟨w.heap.size, 0, none⟩ (.slice Av N cv)).setCell ⟨w.heap.size + 1, 0, none⟩ (.int .i64 0)).putObj w3.heap.size (.deferred none)) (w.heap.size + 1) 27 #[.int .i64 0] := by
            refine Blk.put ?_ _ (by omega)
            repeat (first | with_reducible exact c3' | with_reducible exact Blk.new _ _ _ | (with_reducible refine Blk.newAt _ _ _ _ ?_; first | rfl | (simp; done)) | with_reducible apply Blk.alloc | with_reducible apply Blk.drewN | with_reducible apply Blk.drew | with_reducible apply Blk.set_to | (with_reducible apply Blk.far_; (simp only [ne_eq]; omega)) | rfl)
          generalize ((W4.setCell ⟨w.heap.size, 0, none⟩ (.slice Av N cv)).setCell ⟨w.heap.size + 1, 0, none⟩ (.int .i64 0)).putObj w3.heap.size (.deferred none) = W9 at *
          have n2 := e2.cell 0
          have n3 := e3.cell 0
          simp only [List.getElem?_toArray, List.getElem?_cons_zero] at n2 n3
          simp only [results, hres]
          go_simp
        · have E := slicesE_done hz HDU.out
          refine ⟨_, by rw [E], ?_, ?_⟩
          · rw [E]
            exact (((how'.set (by show w.heap.size < _; omega)).set (by show w.heap.size + 1 < _; omega)).put _ (by omega)).lower (by omega)
          · refine below_put ?_ _ (by omega)
            exact (hb'.setCell (by simp) _).setCell (by simp) _
      · refine ⟨.done, some .ret, by simp, hl, ?_⟩
        simp only
        have hlt := (Array.getElem?_eq_some_iff.1 hl).1
        have c2' := c2.put (.loop (rec .exhausted (some .ret))) (r := w3.heap.size + 1) (by have := HS3.out; omega)
        have c3' := c3.put (.loop (rec .exhausted (some .ret))) (r := w3.heap.size + 1) (by have := HS3.out; omega)
        have hd' := (World.putObj_heap_other (w := W2) (r := w3.heap.size + 1) (o := .loop (rec .exhausted (some .ret))) (k := w3.heap.size) (by omega)).trans hd
        have hb' := below_put hbw (.loop (rec .exhausted (some .ret))) (r := w3.heap.size + 1) (by have := HS3.out; omega)
        generalize W2.putObj (w3.heap.size + 1) (.loop (rec .exhausted (some .ret))) = W4 at *
        have HE := Lib.hid hE
        clear hE
        go_wp2
        refine ⟨by simp, .inl ⟨w3.heap.size, _, rfl, run_takeDeferred hd', ?_⟩⟩
        refine ⟨.tuple #[.slice none 0 0, .int .i64 (slicesE l).2], ?_, ?_⟩
        · have hres : Tryz.f29.results = #[.cell 2 55, .cell 3 27] := by kernel_rfl
          have e2 := c2'.put (.deferred none) (r := w3.heap.size) (by have := HS3.out; omega)
          have e3 := c3'.put (.deferred none) (r := w3.heap.size) (by have := HS3.out; omega)
          generalize W4.putObj w3.heap.size (.deferred none) = W9 at *
          have n2 := e2.cell 0
          have n3 := e3.cell 0
          simp only [List.getElem?_toArray, List.getElem?_cons_zero] at n2 n3
          simp only [results, hres]
          go_simp
        · refine ⟨_, rfl, ?_, below_put hb' _ (by have := HS3.out; omega)⟩
          rw [HE.out]
          exact OwnS.nil_ _ _
  · have hb : ((checkA l).1 != 0) = true := by simpa using hz
    have E := Lib.hid (show slicesE l = ([], (checkA l).1) by unfold slicesE; rw [if_pos hz])
    clear hz
    go_wp2_with fail
    refine Calls.mono (q1 _ ?_) ?_
    · repeat (first | with_reducible exact Below.refl _ _ | with_reducible assumption | with_reducible refine below_drewN ?_ _ | with_reducible refine Below.drew ?_ | with_reducible refine below_alloc ?_ _ | (with_reducible refine Below.setCell ?_ ?_ _; rotate_left; ((try simp only); omega)))
    rintro e w1 ⟨rfl, hb1⟩
    have hc1 := (bcell hb1).1
    have hf1 := (bcell hb1).2
    have B2 : Blk w1 w.heap.size 55 #[.slice none 0 0] := (Blk.alloc (Blk.new _ _ _) _).kept hb1
    have B3 : Blk w1 (w.heap.size + 1) 27 #[.int .i64 0] := (Blk.newAt _ _ _ _ (by simp)).kept hb1
    have hbw1 : Below w.heap.size w w1 := by
      refine Below.trans ?_ (hb1.mono (by simp; omega))
      exact below_alloc (below_alloc (Below.refl _ _) _) _
    go_wp2
    refine ⟨.tuple #[.slice none 0 0, .int .i64 (checkA l).1], ?_, ?_⟩
    · have hres : Tryz.f29.results = #[.cell 2 55, .cell 3 27] := by kernel_rfl
      have e2 : Blk ((w1.setCell ⟨w.heap.size, 0, none⟩ (.slice none 0 0)).setCell ⟨w.heap.size + 1, 0, none⟩ (.int .i64 (checkA l).1)) w.heap.size 55 #[.slice none 0 0] := by repeat (first | with_reducible exact B2 | with_reducible exact Blk.new _ _ _ | (with_reducible refine Blk.newAt _ _ _ _ ?_; first | rfl | (simp; done)) | with_reducible apply Blk.alloc | with_reducible apply Blk.drewN | with_reducible apply Blk.drew | with_reducible apply Blk.set_to | (with_reducible apply Blk.far_; (simp only [ne_eq]; omega)) | rfl)
      have e3 : Blk ((w1.setCell ⟨w.heap.size, 0, none⟩ (.slice none 0 0)).setCell ⟨w.heap.size + 1, 0, none⟩ (.int .i64 (checkA l).1)) (w.heap.size + 1) 27 #[.int .i64 (checkA l).1] := by repeat (first | with_reducible exact B3 | with_reducible exact Blk.new _ _ _ | (with_reducible refine Blk.newAt _ _ _ _ ?_; first | rfl | (simp; done)) | with_reducible apply Blk.alloc | with_reducible apply Blk.drewN | with_reducible apply Blk.drew | with_reducible apply Blk.set_to | (with_reducible apply Blk.far_; (simp only [ne_eq]; omega)) | rfl)
      generalize (w1.setCell ⟨w.heap.size, 0, none⟩ (.slice none 0 0)).setCell ⟨w.heap.size + 1, 0, none⟩ (.int .i64 (checkA l).1) = W9 at *
      have n2 := e2.cell 0
      have n3 := e3.cell 0
      simp only [List.getElem?_toArray, List.getElem?_cons_zero] at n2 n3
      simp only [results, hres]
      go_simp
    · refine ⟨_, by rw [E.out], ?_, (hbw1.setCell (by simp) _).setCell (by simp) _⟩
      rw [E.out]
      exact OwnS.nil_ _ _
end Go.Proofs.YtpkmiegccfhpnaaGreatDoor
namespace Go.Proofs.YtpkmiegccfhpnaaGreatDoor
open Go.RowKit
theorem ReadsV.more {w : World} {B B' n : Nat} {A : Option Addr} {l : List (List Ev)} (h : ReadsV w B A n l) (hB : B ≤ B') : ReadsV w B' A n l := by
  obtain ⟨ds, h1, h2, h3⟩ := h
  exact ⟨ds, h1, h2.more hB, fun k d v hd hv => ⟨(h3 k d v hd hv).1.more hB, (h3 k d v hd hv).2⟩⟩
theorem mom_big {l : List (List Ev)} (hz : (checkA l).1 = 0) : (momS l).length ≤ 32000 := by
  obtain ⟨f1, f2, _⟩ := set_facts hz; have := momS_len l (fun v hv => (f2 v hv).2.2); omega
theorem ReadsS.el {w W : World} {B n : Nat} {A : Option Addr} {l : List Sl} (h : ReadsS w B A n l) (hB : B ≤ w.heap.size) (hb : Below w.heap.size w W) {k : Nat} {s : Sl} (hk : k < n) (hs : l[k]? = some s) :
    ∃ b off p q c, A = some ⟨b, off, none⟩ ∧ b < W.heap.size ∧ s.evs.length = q ∧ Reads W W.heap.size 1 p q (csN s.evs) ∧ W.cell? ⟨b, off + k * 5, none⟩ = some (.int .i64 s.at_.1) ∧ W.cell? ⟨b, off + k * 5 + 1, none⟩ = some (.int .i64 s.at_.2) ∧
      W.cell? ⟨b, off + k * 5 + 2, none⟩ = some (.int .i64 s.dur.1) ∧ W.cell? ⟨b, off + k * 5 + 3, none⟩ = some (.int .i64 s.dur.2) ∧ W.cell? ⟨b, off + k * 5 + 4, none⟩ = some (.slice p q c) := by
  obtain ⟨ps, h1, h2, h3⟩ := h
  have hp : ∃ x, ps[k]? = some x ∧ x.1 = s := by
    rw [← h1, List.getElem?_map] at hs
    cases hx : ps[k]? with
    | none => rw [hx] at hs; cases hs
    | some x => rw [hx] at hs; exact ⟨x, rfl, by simpa using hs⟩
  obtain ⟨⟨s', p, q, c⟩, hx, rfl⟩ := hp
  obtain ⟨b, off, hA, hbB, hc⟩ := Reads.elem (f := cS) (fun _ => rfl) h2 hk hx
  obtain ⟨e1, e2⟩ := h3 _ (List.mem_of_getElem? hx)
  have hz := hb.size
  have hall : ∀ j u, (cS (s', p, q, c))[j]? = some u → W.cell? ⟨b, off + k * 5 + j, none⟩ = some u := fun j u hj => by
    rw [hb.cell (by simp; omega), Nat.add_assoc]
    exact hc j u hj
  exact ⟨b, off, p, q, c, hA, by omega, e1, (e2.below hB hb).more (by omega), hall 0 _ rfl, hall 1 _ rfl, hall 2 _ rfl, hall 3 _ rfl, hall 4 _ rfl⟩
theorem rdV {w w' : World} {A : Option Addr} {n : Nat} {l : List (List Ev)} (h : ReadsV w w.heap.size A n l) (hb : Below w.heap.size w w') : ReadsV w' w'.heap.size A n l := (h.below (Nat.le_refl _) hb).more hb.size
theorem rd1 {w w' : World} {A : Option Addr} {n size : Nat} {xs : List Value} (h : Reads w w.heap.size size A n xs) (hb : Below w.heap.size w w') : Reads w' w'.heap.size size A n xs := (h.below (Nat.le_refl _) hb).more hb.size
theorem ReadsS.kept {w W : World} {n : Nat} {A : Option Addr} {l : List Sl} (h : ReadsS w w.heap.size A n l) (hb : Below w.heap.size w W) : ReadsS W W.heap.size A n l := by
  obtain ⟨ps, h1, h2, h3⟩ := h
  exact ⟨ps, h1, rd1 h2 hb, fun p hp => ⟨(h3 p hp).1, rd1 (h3 p hp).2 hb⟩⟩
/-- A setting with its slices: voices at A, slices at S. -/
structure Stg (w : World) (A S : Option Addr) (n K : Nat) (l : List (List Ev)) : Prop where
  voices : ReadsV w w.heap.size A n l
  slices : ReadsS w w.heap.size S K ((List.range K).map (slOf l (momS l)))
  good : (checkA l).1 = 0
  many : K = (momS l).length - 1
theorem Stg.kept {w w' : World} {A S : Option Addr} {n K : Nat} {l : List (List Ev)} (h : Stg w A S n K l) (hb : Below w.heap.size w w') : Stg w' A S n K l := ⟨rdV h.voices hb, h.slices.kept hb, h.good, h.many⟩
theorem Stg.len {w : World} {A S : Option Addr} {n K : Nat} {l : List (List Ev)} (h : Stg w A S n K l) : l.length = n := h.voices.len
theorem Stg.big {w : World} {A S : Option Addr} {n K : Nat} {l : List (List Ev)} (h : Stg w A S n K l) : K ≤ 32000 ∧ n ≤ 8 := by
  have h1 := mom_big h.good
  have h2 := h.many
  have h3 := (checkA_all h.good).1
  have h4 := h.len
  omega
/-- The cells that the walks read of voice i and slice k. -/
theorem Stg.at_ {w W : World} {A S : Option Addr} {n K : Nat} {l : List (List Ev)} (h : Stg w A S n K l) (hb : Below w.heap.size w W) {i k : Nat} (hi : i < n) (hk : k < K) {v : List Ev} (hv : l[i]? = some v) :
    ∃ ba oa bs os be oe ce A' n' c', A = some ⟨ba, oa, none⟩ ∧ S = some ⟨bs, os, none⟩ ∧ ba < W.heap.size ∧ bs < W.heap.size ∧ be < W.heap.size ∧
      W.cell? ⟨bs, os + k * 5, none⟩ = some (.int .i64 (mAt (momS l) k).1) ∧ W.cell? ⟨bs, os + k * 5 + 1, none⟩ = some (.int .i64 (mAt (momS l) k).2) ∧
      W.cell? ⟨bs, os + k * 5 + 4, none⟩ = some (.slice (some ⟨be, oe, none⟩) n ce) ∧ W.cell? ⟨be, oe + i, none⟩ = some (.int .i64 (onS v (mAt (momS l) k))) ∧
      W.cell? ⟨ba, oa + i, none⟩ = some (.slice A' n' c') ∧ Reads W W.heap.size 10 A' n' (csE v) ∧ v.length = n' := by
  have hg : ((List.range K).map (slOf l (momS l)))[k]? = some (slOf l (momS l) k) := by rw [List.getElem?_map, List.getElem?_range hk]; rfl
  obtain ⟨bs, os, p, q, ce, hS, hbs, hq, hr, c0, c1, _, _, c4⟩ := h.slices.el (Nat.le_refl _) hb hk hg
  have hqn : q = n := by rw [← hq]; show (l.map _).length = n; rw [List.length_map]; exact h.len
  subst hqn
  obtain ⟨be, oe, hp, hbe, hce⟩ := Reads.elem (f := cI) (fun _ => rfl) hr (k := i) hi (x := onS v (mAt (momS l) k)) (by show (l.map _)[i]? = _; rw [List.getElem?_map, hv]; rfl)
  have e0 : W.cell? ⟨be, oe + i, none⟩ = some (.int .i64 (onS v (mAt (momS l) k))) := by have h0 := hce 0 _ rfl; simpa using h0
  obtain ⟨ba, oa, A', n', c', hA, hba, cv, hre, _, hvn⟩ := h.voices.voice (Nat.le_refl _) hb hi hv
  subst hp
  exact ⟨ba, oa, bs, os, be, oe, ce, A', n', c', hA, hS, hba, hbs, hbe, c0, c1, c4, e0, cv, hre.more hb.size, hvn⟩
/-- A world from which the walk counts ('ht.kept' of the walk's printed rows). -/
structure Anch (w : World) : Prop where
theorem Anch.kept {w W : World} (_ : Anch w) (hb : Below w.heap.size w W) : Below w.heap.size w W := hb
end Go.Proofs.YtpkmiegccfhpnaaGreatDoor
namespace Go.Proofs.YtpkmiegccfhpnaaGreatDoor
open Go.RowKit Go.Maps
theorem evA_nat {l : List (List Ev)} {i j : Nat} {v : List Ev} {x : Ev} (hv : l[i]? = some v) (hx : v[j]? = some x) : evA l ((i : Int), (j : Int)) = some x := by
  unfold evA
  rw [if_neg (by simp only; omega)]
  simp only [Int.toNat_natCast]
  rw [getD_at hv, hx]
theorem evA_some {l : List (List Ev)} {p : Plc} {x : Ev} (h : evA l p = some x) : ∃ (i j : Nat) (v : List Ev), p = ((i : Int), (j : Int)) ∧ l[i]? = some v ∧ v[j]? = some x := by
  unfold evA at h
  split at h
  · cases h
  · obtain ⟨a, b⟩ := p
    rename_i h0
    simp only at h0 h
    refine ⟨a.toNat, b.toNat, l.getD a.toNat [], by rw [Prod.mk.injEq]; omega, ?_, h⟩
    have hb := (List.getElem?_eq_some_iff.1 h).1
    have ha : a.toNat < l.length := by
      by_cases hh : a.toNat < l.length
      · exact hh
      · rw [show l.getD a.toNat [] = [] by simp [List.getD, hh]] at hb
        simp at hb
    obtain ⟨v, hv⟩ := get_some ha
    rw [hv, getD_at hv]
theorem free_ev {l : List (List Ev)} {p : Plc} {x : Ev} (h : evA l p = some x) : freeB l p = (!x.rest && decide (x.pit.2.2 = 0)) := by unfold freeB; rw [h]
set_option maxRecDepth 100000 in
set_option maxHeartbeats 2000000 in
theorem of_ok (A : Option Addr) (n c : Nat) (l : List (List Ev)) (B : Nat) (w : World) (h : ReadsV w B A n l) (hB : B ≤ w.heap.size) {i j : Nat} {x : Ev} (hx : evA l ((i : Int), (j : Int)) = some x) :
    Calls Tryz.prog 49 #[.slice A n c, .agg #[.int .i64 (i : Int), .int .i64 (j : Int)]] w fun e w' => e = .returned (.agg (cE x).toArray) ∧ Below w.heap.size w w' := by
  obtain ⟨i', j', v, e, hv, hx⟩ := evA_some hx
  rw [Prod.mk.injEq] at e
  obtain ⟨e1, e2⟩ := e
  obtain rfl : i = i' := by omega
  obtain rfl : j = j' := by omega
  clear e1 e2
  have hl := h.len
  have hin : i < n := by have := (List.getElem?_eq_some_iff.1 hv).1; omega
  obtain ⟨bv, ov, A', n', c', rfl, hbv, cv, rv, hn', hvn⟩ := h.voice hB (Below.refl _ _) hin hv
  have hjn : j < n' := by have := (List.getElem?_eq_some_iff.1 hx).1; omega
  obtain ⟨bx, ox, rfl, hbx, hcx⟩ := rv.ev hB (Below.refl _ _) hjn hx
  obtain ⟨x0, x1, x2, x3, x4, x5, x6, x7, x8, x9⟩ := ten hcx
  have hin' : (i : Int) < (n : Int) := by omega
  have hjn' : (j : Int) < (n' : Int) := by omega
  obtain ⟨⟨a0, a1⟩, ⟨d0, d1⟩, ⟨p0, p1, p2⟩, rs, sg, ps⟩ := x
  simp only at x0 x1 x2 x3 x4 x5 x6 x7 x8 x9
  clear hx hv hl hcx rv h
  have E := Lib.hid (show (cE ⟨(a0, a1), (d0, d1), (p0, p1, p2), rs, sg, ps⟩).toArray = #[.int .i64 a0, .int .i64 a1, .int .i64 d0, .int .i64 d1, .int .i64 p0, .int .i64 p1, .int .i64 p2, .bool rs, .int .i64 sg, .int .i64 ps] from rfl)
  rw [E.out]
  go_enter Tryz.func49, Tryz.ntmps49
  go_wp2_with fail
  obtain ⟨wq, hwq⟩ : ∃ z, z = (w.alloc (.cells #[.int .i64 (i : Int), .int .i64 (j : Int)] 61)).alloc (.cells #[.int .i64 0, .int .i64 0, .int .i64 0, .int .i64 0, .int .i64 0, .int .i64 0, .int .i64 0, .bool false, .int .i64 0, .int .i64 0] 49) := ⟨_, rfl⟩
  have bp : Blk wq w.heap.size 61 #[.int .i64 (i : Int), .int .i64 (j : Int)] := by rw [hwq]; exact (Blk.new _ _ _).alloc _
  have br : Blk wq (w.heap.size + 1) 49 #[.int .i64 0, .int .i64 0, .int .i64 0, .int .i64 0, .int .i64 0, .int .i64 0, .int .i64 0, .bool false, .int .i64 0, .int .i64 0] := by rw [hwq]; exact Blk.newAt _ _ _ _ (by simp)
  have kq : Below w.heap.size w wq := by rw [hwq]; repeat (first | with_reducible exact Below.refl _ _ | with_reducible assumption | with_reducible refine below_drewN ?_ _ | with_reducible refine Below.drew ?_ | with_reducible refine below_alloc ?_ _ | (with_reducible refine Below.setCell ?_ ?_ _; rotate_left; ((try simp only); omega)))
  rw [← hwq]
  have zq := kq.size
  have q0 := bp.cell 0
  have q1 := bp.cell 1
  have lp := bp.lt
  simp only [List.getElem?_toArray, List.getElem?_cons_zero, List.getElem?_cons_succ] at q0 q1
  have y0 := (kq.cell (p := ⟨_, _, none⟩) hbx).trans x0
  have y1 := (kq.cell (p := ⟨_, _, none⟩) hbx).trans x1
  have y2 := (kq.cell (p := ⟨_, _, none⟩) hbx).trans x2
  have y3 := (kq.cell (p := ⟨_, _, none⟩) hbx).trans x3
  have y4 := (kq.cell (p := ⟨_, _, none⟩) hbx).trans x4
  have y5 := (kq.cell (p := ⟨_, _, none⟩) hbx).trans x5
  have y6 := (kq.cell (p := ⟨_, _, none⟩) hbx).trans x6
  have y7 := (kq.cell (p := ⟨_, _, none⟩) hbx).trans x7
  have y8 := (kq.cell (p := ⟨_, _, none⟩) hbx).trans x8
  have y9 := (kq.cell (p := ⟨_, _, none⟩) hbx).trans x9
  have cv' := (kq.cell (p := ⟨_, _, none⟩) hbv).trans cv
  have l1 : bx < wq.heap.size := by omega
  have l2 : bv < wq.heap.size := by omega
  clear hwq x0 x1 x2 x3 x4 x5 x6 x7 x8 x9 cv hbx hbv
  refine wp_region_calm_tail 9 (by kernel_rfl) (by kernel_rfl) ?_
  simp only [List.take_succ_cons, List.take_zero, List.drop_succ_cons, List.drop_zero]
  repeat (go_big_quiet_step (fail))
  refine wpQuiet_nil ?_
  intro wd gd
  have kd := below_call kq gd
  have bd := br.kept gd
  have cd := bd.cell
  have fd := bd.frozen
  have ld := bd.lt
  clear y0 y1 y2 y3 y4 y5 y6 y7 y8 y9 cv' q0 q1 gd br bp kq zq
  go_wp2
  refine ret_of (by simp [results, Tryz.results49, go_sem, *]; repeat' (first | rfl | apply And.intro)) rfl ⟨rfl, by repeat (first | with_reducible exact Below.refl _ _ | with_reducible assumption | with_reducible refine below_drewN ?_ _ | with_reducible refine Below.drew ?_ | with_reducible refine below_alloc ?_ _ | (with_reducible refine Below.setCell ?_ ?_ _; rotate_left; ((try simp only); omega)))⟩
set_option maxRecDepth 100000 in
set_option maxHeartbeats 2000000 in
theorem free_ok (A : Option Addr) (n c : Nat) (l : List (List Ev)) (B : Nat) (w : World) (h : ReadsV w B A n l) (hB : B ≤ w.heap.size) {i j : Nat} {x : Ev} (hx : evA l ((i : Int), (j : Int)) = some x) :
    Calls Tryz.prog 30 #[.slice A n c, .agg #[.int .i64 (i : Int), .int .i64 (j : Int)]] w fun e w' => e = .returned (.bool (freeB l ((i : Int), (j : Int)))) ∧ Below w.heap.size w w' := by
  have q1 := fun W (hW : Below w.heap.size w W) => of_ok A n c l B W (h.below hB hW) (Nat.le_trans hB hW.size) hx
  have E := Lib.hid (free_ev hx)
  obtain ⟨⟨a0, a1⟩, ⟨d0, d1⟩, ⟨p0, p1, p2⟩, rs, sg, ps⟩ := x
  rw [show (cE ⟨(a0, a1), (d0, d1), (p0, p1, p2), rs, sg, ps⟩).toArray = #[.int .i64 a0, .int .i64 a1, .int .i64 d0, .int .i64 d1, .int .i64 p0, .int .i64 p1, .int .i64 p2, .bool rs, .int .i64 sg, .int .i64 ps] from rfl] at q1
  have ht : Anch w := ⟨⟩
  clear hx h
  simp only at E
  have hf3 : ∀ (w : World), (Instr.field 49 (.agg #[.int .i64 a0, .int .i64 a1, .int .i64 d0, .int .i64 d1, .int .i64 p0, .int .i64 p1, .int .i64 p2, .bool rs, .int .i64 sg, .int .i64 ps]) 3).run Tryz.prog w = .ok (.bool rs) w := fun _ => by kernel_rfl
  have hf2 : ∀ (w : World), (Instr.field 49 (.agg #[.int .i64 a0, .int .i64 a1, .int .i64 d0, .int .i64 d1, .int .i64 p0, .int .i64 p1, .int .i64 p2, .bool rs, .int .i64 sg, .int .i64 ps]) 2).run Tryz.prog w = .ok (.agg #[.int .i64 p0, .int .i64 p1, .int .i64 p2]) w := fun _ => by kernel_rfl
  have hfp : ∀ (w : World), (Instr.field 47 (.agg #[.int .i64 p0, .int .i64 p1, .int .i64 p2]) 2).run Tryz.prog w = .ok (.int .i64 p2) w := fun _ => by kernel_rfl
  cases rs with
  | true =>
    go_enter Tryz.func30, Tryz.ntmps30
    go_wp2_with fail
    refine Calls.mono (q1 _ ?_) ?_
    · exact ht.kept (by repeat (first | exact Below.refl _ _ | refine below_drewN ?_ _ | refine Below.drew ?_ | refine below_alloc ?_ _ | (refine below_call ?_ (by assumption)) | (refine Below.setCell ?_ ?_ _; rotate_left; (simp; try omega))))
    rintro e w1 ⟨rfl, hb1⟩
    have BP1 : Blk w1 (w.heap.size) 61 #[.int .i64 (i : Int), .int .i64 (j : Int)] := by
      refine Blk.kept ?_ hb1
      repeat (first | with_reducible exact Blk.new _ _ _ | (with_reducible refine Blk.newAt _ _ _ _ ?_; first | rfl | (simp; done)) | with_reducible apply Blk.alloc | with_reducible apply Blk.drewN | with_reducible apply Blk.drew | with_reducible apply Blk.set_to | (with_reducible apply Blk.far_; (simp only [ne_eq]; omega)) | rfl)
    have cP0_1 : w1.cell? ⟨w.heap.size, 0, none⟩ = some (.int .i64 (i : Int)) := BP1.cell 0
    have cP1_1 : w1.cell? ⟨w.heap.size, 1, none⟩ = some (.int .i64 (j : Int)) := BP1.cell 1
    have lP1 : w.heap.size < w1.heap.size := BP1.lt
    have mP1 : w.heap.size < w1.heap.size + 1 := by omega
    have nP1 : w.heap.size < w1.heap.size + 1 + 1 := by omega
    have hs1 : w.heap.size ≤ w1.heap.size := by have h := hb1.size; (try simp at h); omega
    go_wp2
    refine ret_of (by simp [results, Tryz.results30, go_sem, *]; repeat' (first | rfl | apply And.intro)) rfl ⟨?_, by repeat (first | exact Below.refl _ _ | refine below_drewN ?_ _ | refine Below.drew ?_ | refine below_alloc ?_ _ | (refine below_call ?_ (by assumption)) | (refine Below.setCell ?_ ?_ _; rotate_left; (simp; try omega)))⟩
    rw [E.out]
    rfl
  | false =>
    have b0 : (p2 == 0) = decide (p2 = 0) := by rw [Bool.eq_iff_iff]; simp
    go_enter Tryz.func30, Tryz.ntmps30
    go_wp2_with fail
    refine Calls.mono (q1 _ ?_) ?_
    · exact ht.kept (by repeat (first | exact Below.refl _ _ | refine below_drewN ?_ _ | refine Below.drew ?_ | refine below_alloc ?_ _ | (refine below_call ?_ (by assumption)) | (refine Below.setCell ?_ ?_ _; rotate_left; (simp; try omega))))
    rintro e w1 ⟨rfl, hb1⟩
    have BP1 : Blk w1 (w.heap.size) 61 #[.int .i64 (i : Int), .int .i64 (j : Int)] := by
      refine Blk.kept ?_ hb1
      repeat (first | with_reducible exact Blk.new _ _ _ | (with_reducible refine Blk.newAt _ _ _ _ ?_; first | rfl | (simp; done)) | with_reducible apply Blk.alloc | with_reducible apply Blk.drewN | with_reducible apply Blk.drew | with_reducible apply Blk.set_to | (with_reducible apply Blk.far_; (simp only [ne_eq]; omega)) | rfl)
    have cP0_1 : w1.cell? ⟨w.heap.size, 0, none⟩ = some (.int .i64 (i : Int)) := BP1.cell 0
    have cP1_1 : w1.cell? ⟨w.heap.size, 1, none⟩ = some (.int .i64 (j : Int)) := BP1.cell 1
    have lP1 : w.heap.size < w1.heap.size := BP1.lt
    have mP1 : w.heap.size < w1.heap.size + 1 := by omega
    have nP1 : w.heap.size < w1.heap.size + 1 + 1 := by omega
    have hs1 : w.heap.size ≤ w1.heap.size := by have h := hb1.size; (try simp at h); omega
    go_wp2_with fail
    refine Calls.mono (q1 _ ?_) ?_
    · exact ht.kept (by repeat (first | exact Below.refl _ _ | refine below_drewN ?_ _ | refine Below.drew ?_ | refine below_alloc ?_ _ | (refine below_call ?_ (by assumption)) | (refine Below.setCell ?_ ?_ _; rotate_left; (simp; try omega))))
    rintro e w2 ⟨rfl, hb2⟩
    have BP2 : Blk w2 (w.heap.size) 61 #[.int .i64 (i : Int), .int .i64 (j : Int)] := by
      refine Blk.kept ?_ hb2
      repeat (first | with_reducible exact BP1 | with_reducible exact Blk.new _ _ _ | (with_reducible refine Blk.newAt _ _ _ _ ?_; first | rfl | (simp; done)) | with_reducible apply Blk.alloc | with_reducible apply Blk.drewN | with_reducible apply Blk.drew | with_reducible apply Blk.set_to | (with_reducible apply Blk.far_; (simp only [ne_eq]; omega)) | rfl)
    have cP0_2 : w2.cell? ⟨w.heap.size, 0, none⟩ = some (.int .i64 (i : Int)) := BP2.cell 0
    have cP1_2 : w2.cell? ⟨w.heap.size, 1, none⟩ = some (.int .i64 (j : Int)) := BP2.cell 1
    have lP2 : w.heap.size < w2.heap.size := BP2.lt
    have mP2 : w.heap.size < w2.heap.size + 1 := by omega
    have nP2 : w.heap.size < w2.heap.size + 1 + 1 := by omega
    clear BP1 lP1 mP1 nP1 cP0_1 cP1_1
    have hs2 : w.heap.size ≤ w2.heap.size := by have h := hb2.size; (try simp at h); omega
    go_wp2
    refine ret_of (by simp [results, Tryz.results30, go_sem, *]; repeat' (first | rfl | apply And.intro)) rfl ⟨?_, by repeat (first | exact Below.refl _ _ | refine below_drewN ?_ _ | refine Below.drew ?_ | refine below_alloc ?_ _ | (refine below_call ?_ (by assumption)) | (refine Below.setCell ?_ ?_ _; rotate_left; (simp; try omega)))⟩
    rw [E.out]
    rfl
/-! ### The proposals of a round, under way -/
/-- Maps of proposals that may be nil. -/
def DoneAt (W : World) (pd : Option Nat) (dn : Plc → Option Fic) : Prop := (pd = none ∧ dn = fun _ => none) ∨ ∃ b nd, pd = some b ∧ TMap W keyPlace elemFic b nd dn
theorem DoneAt.call {W W' : World} {pd : Option Nat} {dn : Plc → Option Fic} (h : DoneAt W pd dn) (hb : Below W.heap.size W W') : DoneAt W' pd dn := by
  rcases h with h | ⟨b, nd, e, h⟩
  · exact .inl h
  · exact .inr ⟨b, nd, e, h.call hb⟩
theorem DoneAt.grown {W W' : World} {pd : Option Nat} {dn : Plc → Option Fic} (h : DoneAt W pd dn) {row : Option Nat} (hg : W.grownBy W' row) (hne : pd ≠ row ∨ row = none) : DoneAt W' pd dn := by
  rcases h with h | ⟨b, nd, e, h⟩
  · exact .inl h
  · refine .inr ⟨b, nd, e, h.grown hg ?_⟩
    rcases hne with hne | rfl
    · rw [← e]; exact hne
    · simp
set_option maxRecDepth 100000 in
theorem zero_fic (w : World) : (zeroValue 39).run Tryz.prog w = .ok (ficV (0, 0, 0, 0)) w := by kernel_rfl
theorem DoneAt.look {W : World} {pd : Option Nat} {dn : Plc → Option Fic} (h : DoneAt W pd dn) {x : Plc} (hx : okI x.1 ∧ okI x.2) :
    (Instr.lookup 71 (.map pd) (twoV x) true).run Tryz.prog W = .ok (.tuple #[ficV ((dn x).getD (0, 0, 0, 0)), .bool (dn x).isSome]) W := by
  rcases h with ⟨rfl, rfl⟩ | ⟨b, nd, rfl, h⟩
  · exact look_nil keyPlace Tryz.underlying71 (zero_fic W) hx
  · exact h.look Tryz.underlying71 (y0 := (0, 0, 0, 0)) (zero_fic W) trivial hx
structure YS (W : World) (db ob ib : Nat) (pd : Option Nat) (dn : Plc → Option Fic) (mo no : Nat) (f : Plc → Option Fic) (r : Int) : Prop where
  dbox : Blk W db 71 #[.map pd]
  done : DoneAt W pd dn
  apart : pd ≠ some mo
  obox : Blk W ob 71 #[.map (some mo)]
  out : TMap W keyPlace elemFic mo no f
  ibox : Blk W ib 3 #[.int .i64 (r - 1)]
section
variable {W W' : World} {db ob ib mo no no' : Nat} {pd : Option Nat} {dn f f' : Plc → Option Fic} {r : Int}
theorem YS.call (h : YS W db ob ib pd dn mo no f r) (hb : Below W.heap.size W W') : YS W' db ob ib pd dn mo no f r :=
  ⟨h.dbox.kept hb, h.done.call hb, h.apart, h.obox.kept hb, h.out.call hb, h.ibox.kept hb⟩
theorem blk_map {g b n : Nat} {t : TypeId} {cs : Array Value} {γ β : Type} {K : TypeId} {G : KeyG γ K} {T : ElemT β} {f : γ → Option β} (h : Blk W g t cs) (hm : TMap W G T b n f) : g ≠ b := by
  rintro rfl
  obtain ⟨D, ⟨es, clock, hblk, _⟩, _⟩ := hm
  unfold Blk at h
  rw [hblk] at h
  cases h
theorem YS.grow (h : YS W db ob ib pd dn mo no f r) (hg : W.grownBy W' (some mo)) (hm : TMap W' keyPlace elemFic mo no' f') : YS W' db ob ib pd dn mo no' f' r :=
  ⟨Blk.gb h.dbox hg (blk_map h.dbox h.out), h.done.grown hg (.inl h.apart), h.apart, Blk.gb h.obox hg (blk_map h.obox h.out), hm, Blk.gb h.ibox hg (blk_map h.ibox h.out)⟩
end
set_option maxRecDepth 100000 in
set_option maxHeartbeats 4000000 in
theorem yield_ok {w : World} {db ob ib mo no : Nat} {pd : Option Nat} {dn f : Plc → Option Fic} {r : Int} (h : YS w db ob ib pd dn mo no f r) (hno : no ≤ 100000000) (hr : 1 ≤ r ∧ r ≤ 3) (p : Plc) (hp : okI p.1 ∧ okI p.2) (al : Int) :
    Calls Tryz.prog 66 #[.agg #[.int .i64 p.1, .int .i64 p.2], .int .i64 al, .pointer (some ⟨db, 0, none⟩), .pointer (some ⟨ob, 0, none⟩), .pointer (some ⟨ib, 0, none⟩)] w fun e w' => e = .returned (.tuple #[]) ∧ YS w' db ob ib pd dn mo (no + 1) (yld dn r al f p) r ∧ w.grownBy w' (some mo) := by
  obtain ⟨v, e⟩ := p
  simp only
  have HYL := Lib.hid (show yld dn r al f (v, e) = if (dn (v, e)).isSome = false ∧ (f (v, e)).isSome = false then updO f (v, e) (v, e, al, r) else f from rfl)
  obtain ⟨⟨a1, a2, a3, a4⟩, ha⟩ : ∃ z, z = (dn (v, e)).getD (0, 0, 0, 0) := ⟨_, rfl⟩
  obtain ⟨b1, hb1⟩ : ∃ z, z = (dn (v, e)).isSome := ⟨_, rfl⟩
  obtain ⟨⟨c1, c2, c3, c4⟩, hc⟩ : ∃ z, z = (f (v, e)).getD (0, 0, 0, 0) := ⟨_, rfl⟩
  obtain ⟨b2, hb2⟩ : ∃ z, z = (f (v, e)).isSome := ⟨_, rfl⟩
  have lk1 := fun W (hW : Below w.heap.size w W) => (h.done.call hW).look (x := (v, e)) hp
  rw [← ha, ← hb1] at lk1
  have lk1 : ∀ W, Below w.heap.size w W → (Instr.lookup 71 (.map pd) (.agg #[.int .i64 v, .int .i64 e]) true).run Tryz.prog W = .ok (.tuple #[.agg #[.int .i64 a1, .int .i64 a2, .int .i64 a3, .int .i64 a4], .bool b1]) W := lk1
  have lk2 := fun W (hW : Below w.heap.size w W) => (h.out.call hW).look Tryz.underlying71 (y0 := (0, 0, 0, 0)) (zero_fic W) trivial (x := (v, e)) hp
  rw [← hc, ← hb2] at lk2
  have lk2 : ∀ W, Below w.heap.size w W → (Instr.lookup 71 (.map (some mo)) (.agg #[.int .i64 v, .int .i64 e]) true).run Tryz.prog W = .ok (.tuple #[.agg #[.int .i64 c1, .int .i64 c2, .int .i64 c3, .int .i64 c4], .bool b2]) W := lk2
  rw [← hb1, ← hb2] at HYL
  clear ha hb1 hc hb2
  have x0 := h.dbox.cell 0
  have y0 := h.obox.cell 0
  have z0 := h.ibox.cell 0
  have lx := h.dbox.lt
  have ly := h.obox.lt
  have lz := h.ibox.lt
  simp only [List.getElem?_toArray, List.getElem?_cons_zero] at x0 y0 z0
  have k1 := below_alloc (Below.refl w.heap.size w) (.cells #[.int .i64 v, .int .i64 e] 61)
  have l1 := lk1 _ k1
  have k2 := below_alloc k1 (.cells #[.int .i64 a1, .int .i64 a2, .int .i64 a3, .int .i64 a4] 39)
  have l2 := lk2 _ k2
  have k3 := below_alloc k2 (.cells #[.int .i64 c1, .int .i64 c2, .int .i64 c3, .int .i64 c4] 39)
  have h3 := h.call k3
  have wr : IntKind.i64.wrap (r - 1 + 1) = r := by rw [show r - 1 + 1 = r by omega]; exact IntWalk.i64_in _ (by omega)
  have ly1 : ob < w.heap.size + 1 := by omega
  have ly2 : ob < w.heap.size + 1 + 1 := by omega
  have lz1 : ib < w.heap.size + 1 := by omega
  have lz2 : ib < w.heap.size + 1 + 1 := by omega
  clear lk1 lk2
  cases b1 with
  | true =>
    have E := Lib.hid (show yld dn r al f (v, e) = f by rw [HYL.out, if_neg (by simp)])
    clear HYL
    go_enter Tryz.func66, Tryz.ntmps66
    go_wp2
    refine bodyPost_end (results_none rfl _ _ _) rfl ?_
    rw [E.out]
    exact ⟨rfl, ⟨h3.dbox, h3.done, h3.apart, h3.obox, h3.out.mono (by omega), h3.ibox⟩, Gb.of_below k3⟩
  | false =>
    cases b2 with
    | true =>
      have E := Lib.hid (show yld dn r al f (v, e) = f by rw [HYL.out, if_neg (by simp)])
      clear HYL
      go_enter Tryz.func66, Tryz.ntmps66
      go_wp2
      refine bodyPost_end (results_none rfl _ _ _) rfl ?_
      rw [E.out]
      exact ⟨rfl, ⟨h3.dbox, h3.done, h3.apart, h3.obox, h3.out.mono (by omega), h3.ibox⟩, Gb.of_below k3⟩
    | false =>
      have E := Lib.hid (show yld dn r al f (v, e) = updO f (v, e) (v, e, al, r) by rw [HYL.out, if_pos ⟨rfl, rfl⟩])
      clear HYL
      go_enter Tryz.func66, Tryz.ntmps66
      go_wp2_with (refine wpList_tput rfl (.tmp 29) (.tmp 30) (.tmp 38) rfl h3.out Tryz.underlying71 (by simp only [maxLen]; omega) (v, e) hp (v, e, al, r) trivial rfl rfl rfl ?_; intro w5 m5 g5)
      refine bodyPost_end (results_none rfl _ _ _) rfl ?_
      rw [E.out]
      exact ⟨rfl, h3.grow g5 m5, (Gb.of_below k3).tr g5⟩
end Go.Proofs.YtpkmiegccfhpnaaGreatDoor
