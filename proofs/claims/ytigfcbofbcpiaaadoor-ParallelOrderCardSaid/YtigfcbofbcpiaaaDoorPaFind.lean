
/- All forbidden motions, by the program. -/
import Derived.Test.YtigfcbofbcpiaaaDoorPaPairs
namespace Go.Proofs.YtigfcbofbcpiaaaDoor
open Go.RowKit
attribute [local go_sem] Oper.semAt_some
def cPar (p : Par) : List Value := [.int .i64 p.n, .int .i64 p.a, .int .i64 p.b, .int .i64 p.kind, .int .i64 p.steps]
def csPar (l : List Par) : List Value := l.flatMap cPar
theorem csPar_append (l m : List Par) : csPar (l ++ m) = csPar l ++ csPar m := by unfold csPar; rw [List.flatMap_append]
theorem csPar_len (l : List Par) : (csPar l).length = l.length * 5 := flat_len cPar 5 (fun _ => rfl) l
theorem one_csPar (l : List Par) : ∀ u ∈ csPar l, u.oneCell' = true := by
  intro u hu
  obtain ⟨t, _, ht⟩ := List.mem_flatMap.1 hu
  simp [cPar] at ht
  rcases ht with rfl | rfl | rfl | rfl | rfl <;> rfl
set_option maxRecDepth 100000 in
theorem par_info : (Tryd.prog.info? 41).map (fun i => (i.zero, i.size, i.bytes)) = some (some (.agg #[.int .i64 0, .int .i64 0, .int .i64 0, .int .i64 0, .int .i64 0]), 5, 40) := by kernel_rfl
set_option maxRecDepth 100000 in
set_option maxHeartbeats 2000000 in
theorem opened_ok (A : Option Addr) (n c : Nat) (l : List (List Ev)) (w : World) (h : ReadsV w w.heap.size A n l) (hn : n ≤ 9223372036854775807) :
    Calls Tryd.prog 40 #[.slice A n c] w fun e w' => ∃ v, e = .returned (.tuple #[.agg #[.slice A n c, v], .int .i64 (slicesE l).2]) ∧ OwnS w' w.heap.size v (slicesE l).1 ∧ Below w.heap.size w w' := by
  have k0 : Below w.heap.size w (w.alloc (.cells #[.slice none 0 0, .slice none 0 0] 75)) := by repeat (first | with_reducible exact Below.refl _ _ | with_reducible assumption | with_reducible refine below_drewN ?_ _ | with_reducible refine Below.drew ?_ | with_reducible refine below_alloc ?_ _ | (with_reducible refine Below.setCell ?_ ?_ _; rotate_left; ((try simp only); omega)))
  have q1 := slices_any A n c l _ _ (rdV h k0) (Nat.le_refl _) hn
  have r0 : Blk (w.alloc (.cells #[.slice none 0 0, .slice none 0 0] 75)) w.heap.size 75 #[.slice none 0 0, .slice none 0 0] := Blk.new _ _ _
  go_enter Tryd.func40, Tryd.ntmps40
  go_wp2_with fail
  refine q1.mono ?_
  rintro e w1 ⟨v, rfl, ho, hb⟩
  have r1 := r0.kept hb
  have k1 := below_call k0 hb
  obtain ⟨Av, cv, rfl, _⟩ := ho.reads
  have c0 : w1.cell? ⟨w.heap.size, 0, none⟩ = some (.slice none 0 0) := r1.cell 0
  have c1 : w1.cell? ⟨w.heap.size, 1, none⟩ = some (.slice none 0 0) := r1.cell 1
  have f1 := r1.frozen
  have l1 := r1.lt
  have ho2 := ho.lower (by simp : w.heap.size ≤ (w.alloc (.cells #[.slice none 0 0, .slice none 0 0] 75)).heap.size)
  obtain ⟨ps, hps, hrow, hev⟩ := ho
  have HOW := Lib.hid (show OwnS ((w1.setCell ⟨w.heap.size, 0, none⟩ (.slice A n c)).setCell ⟨w.heap.size, 1, none⟩ (.slice Av (slicesE l).1.length cv)) w.heap.size (.slice Av (slicesE l).1.length cv) (slicesE l).1 from by
    have hs : ∀ {p : Addr} {u : Value} {W : World}, OwnS W (w.heap.size + 1) (.slice Av (slicesE l).1.length cv) (slicesE l).1 → p.block = w.heap.size → OwnS (W.setCell p u) (w.heap.size + 1) (.slice Av (slicesE l).1.length cv) (slicesE l).1 := fun h hp => h.set (by omega)
    have h0 : OwnS w1 (w.heap.size + 1) (.slice Av (slicesE l).1.length cv) (slicesE l).1 := ⟨ps, hps, by simpa using hrow, by simpa using hev⟩
    exact (hs (hs h0 rfl) rfl).lower (by omega))
  clear hps hrow hev ho2 hb
  go_wp2
  refine ret_of (by simp [results, Tryd.results40, go_sem, *]; repeat' (first | rfl | apply And.intro)) rfl ⟨_, rfl, HOW.out, by repeat (first | with_reducible exact Below.refl _ _ | with_reducible assumption | with_reducible refine below_drewN ?_ _ | with_reducible refine Below.drew ?_ | with_reducible refine below_alloc ?_ _ | (with_reducible refine Below.setCell ?_ ?_ _; rotate_left; ((try simp only); omega)))⟩
/-! ### A function leaves with many marks -/
@[reducible] def markD (D : Nat) : Deferred := { target := .collected D, args := #[] }
/-- Nothing but the blocks Ds has been turned. -/
structure Marked (Ds : List Nat) (W W' : World) : Prop where
  os : W'.os = W.os
  tape : W'.tape = W.tape
  output : W'.output = W.output
  size : W'.heap.size = W.heap.size
  same : ∀ i, i ∉ Ds → W'.heap[i]? = W.heap[i]?
theorem leave_marks {P : Program} {fn : Func} {tmps : Array Value} {R : Ending → World → Prop} {n : Nat} {v : Value} (hres : ∀ W, (results fn tmps).run P W = .ok v W) : ∀ (Ds : List Nat) (W : World), Ds.Nodup → (∀ D ∈ Ds, W.heap[D]? = some (.deferred (some []))) →
    (∀ W', Marked Ds W W' → R (.returned v) W') → LeavesInM Fence.wide n P fn tmps R (Ds.map markD) .returning W
  | [], W, _, _, h => ⟨v, hres W, h W ⟨rfl, rfl, rfl, rfl, fun _ _ => rfl⟩⟩
  | D :: Ds, W, hnd, hD, h => by
    have hn := List.nodup_cons.1 hnd
    refine ⟨by simp, .inl ⟨D, _, rfl, run_takeDeferred (hD D (by simp)), ?_⟩⟩
    refine leave_marks hres Ds _ hn.2 (fun E hE => (World.putObj_heap_other (fun e => hn.1 (by subst e; exact hE))).trans (hD E (by simp [hE]))) fun W' hW' => h W' ?_
    refine ⟨hW'.os, hW'.tape, hW'.output, by rw [hW'.size]; simp, fun i hi => ?_⟩
    rw [hW'.same i (fun hx => hi (by simp [hx]))]
    exact World.putObj_heap_other (fun e => hi (by simp [e]))
theorem own_marked {Ds : List Nat} {W W' : World} {base size n : Nat} {e : TypeId} {v : Value} {xs : List Value} (h : W.ownsRow base e size v n xs) (hm : Marked Ds W W') (hD : ∀ D ∈ Ds, W.heap[D]? = some (.deferred (some []))) : W'.ownsRow base e size v n xs := by
  obtain ⟨h1, h2⟩ := h
  refine ⟨h1, ?_⟩
  rcases h2 with h2 | ⟨g, cap, cur, hv, hg, hh, rest⟩
  · exact .inl h2
  · refine .inr ⟨g, cap, cur, hv, hg, (hm.same g fun hx => ?_).trans hh, rest⟩
    rw [hD g hx] at hh; cases hh
theorem below_marked {Ds : List Nat} {B : Nat} {w W W' : World} (h : Below B w W) (hm : Marked Ds W W') (hD : ∀ D ∈ Ds, B ≤ D) : Below B w W' :=
  ⟨hm.os.trans h.os, hm.tape.trans h.tape, hm.output.trans h.output, by rw [hm.size]; exact h.size, fun i hi => (hm.same i fun hx => by have := hD i hx; omega).trans (h.block i hi)⟩
theorem own_put2 {w : World} {base size n r : Nat} {e : TypeId} {v : Value} {xs : List Value} {o : Obj} (h : w.ownsRow base e size v n xs) (hr : w.heap[r]? = some o) (ho : o.isCells = false) (o' : Obj) : (w.putObj r o').ownsRow base e size v n xs := by
  obtain ⟨h1, h2⟩ := h
  refine ⟨h1, ?_⟩
  rcases h2 with h2 | ⟨g, cap, cur, hv, hg, hh, rest⟩
  · exact .inl h2
  · refine .inr ⟨g, cap, cur, hv, hg, (World.putObj_heap_other fun e => ?_).trans hh, rest⟩
    subst e
    rw [hr] at hh; cases hh; cases ho
/-- Between two rounds of the inner loop. -/
structure JF (l : List (List Ev)) (w1 : World) (x nb D : Nat) (vx : Array Value) (L : List Par) (r : Loop) (Ds : List Nat) (n k a b : Nat) (W : World) : Prop where
  set : Blk W x 75 vx
  num : Blk W nb 3 #[.int .i64 k]
  box : Blk W (nb + 1) 3 #[.int .i64 n]
  row : ∃ v, Blk W (x + 1) 26 #[v] ∧ W.ownsRow (x + 2) 41 5 v (L ++ accM l (momS l) k a b).length (csPar (L ++ accM l (momS l) k a b))
  loop : W.heap[D + 1]? = some (.loop r)
  mark : W.heap[D]? = some (.deferred (some []))
  old : ∀ D ∈ Ds, W.heap[D]? = some (.deferred (some []))
  keep : Below w1.heap.size w1 W
set_option maxRecDepth 100000 in
set_option maxHeartbeats 8000000 in
theorem find_any (A : Option Addr) (n c : Nat) (l : List (List Ev)) (B : Nat) (w : World) (h : ReadsV w B A n l) (hB : B ≤ w.heap.size) (hn : n ≤ 9223372036854775807) (ht : Tabs w) :
    Calls Tryd.prog 10 #[.slice A n c] w fun e w' => ∃ v, e = .returned (.tuple #[v, .int .i64 (findE l).2]) ∧ w'.ownsRow w.heap.size 41 5 v (findE l).1.length (csPar (findE l).1) ∧ Below w.heap.size w w' := by
  have q1 := opened_ok A n c l w (h.more hB) hn
  refine (callsIn_wide (n := 1)).1 (callsIn_of_wp_marks Tryd.func10 rfl trivial ?_)
  simp only [Tryd.ntmps10, List.size_toArray, List.length_cons, List.length_nil, Nat.reduceAdd, Nat.reduceSub, Array.replicate_succ, Array.replicate_zero, List.push_toArray, List.append_toArray, List.nil_append, List.cons_append]
  refine wpIn_wide.2 ?_
  go_wp2_with fail
  refine q1.mono ?_
  rintro e w1 ⟨v1, rfl, ho1, k1⟩
  by_cases he : (slicesE l).2 = 0
  · obtain ⟨hz, hsl⟩ := slicesE_ok he
    obtain ⟨S, d, rfl, rs⟩ := ho1.reads
    have HKL := Lib.hid (show (slicesE l).1.length = (momS l).length - 1 by rw [hsl]; simp)
    rw [hsl] at rs
    simp only [List.length_map, List.length_range] at rs
    rw [HKL.out, he]
    have hKm : ∃ K, K = (momS l).length - 1 := ⟨_, rfl⟩
    obtain ⟨K, hK⟩ := hKm
    rw [← hK] at rs ⊢
    have stg : Stg w1 A S n K l := ⟨(h.below hB k1).more (Nat.le_trans hB k1.size), by rw [hK]; rw [hK] at rs; exact rs, hz, hK⟩
    have ht1 := ht.kept k1
    have hbig := stg.big
    have hln := stg.len
    have E := Lib.hid (show findE l = ((List.range K).flatMap (allM l (momS l)), 0) by unfold findE; rw [he, if_neg (fun h => h rfl), hK])
    have HALL := Lib.hid (fun k => all_len l (momS l) (by rw [hln]; exact hbig.2) k)
    have HACC := Lib.hid (fun k a b (ha : a ≤ 8) (hb : b ≤ 9) => accM_len l (momS l) k a b (by rw [hln]; exact hbig.2) ha hb)
    have HLN := Lib.hid hln
    clear hK he hsl ho1 HKL rs hz q1 h ht hln
    go_wp2_with fail
    obtain ⟨w2, hw2⟩ : ∃ w2, w2 = (w1.alloc (.cells #[.slice A n c, .slice S K d] 75)).alloc (.cells #[.slice none 0 0] 26) := ⟨_, rfl⟩
    have BX : Blk w2 w1.heap.size 75 #[.slice A n c, .slice S K d] := by rw [hw2]; exact (Blk.new _ _ _).alloc _
    have BO : Blk w2 (w1.heap.size + 1) 26 #[.slice none 0 0] := by rw [hw2]; exact Blk.newAt _ _ _ _ (by simp)
    have b2 : Below w1.heap.size w1 w2 := by rw [hw2]; exact below_alloc (below_alloc (Below.refl _ _) _) _
    have z2 : w1.heap.size + 2 ≤ w2.heap.size := by rw [hw2]; simp
    rw [← hw2]
    clear hw2
    refine wp_loop_ghost_k (fun g a wr => ∃ u7 u8 u9 u10 u11 u24 u25 u26 u27 u28 u29 u30 u31 u32 u33 u34 u35 u36 u37 u38 u39 u40 u41 u42 u43 u44 u45 u46 u47 u48 u49 u50 : Value, ∃ (k : Nat) (Ds : List Nat), a = { tmps := #[.slice A n c, undef, .slice none 0 0, .int .i64 0, .pointer (some ⟨w1.heap.size, 0, none⟩), .int .i64 0, .pointer (some ⟨w1.heap.size + 1, 0, none⟩), u7, u8, u9, u10, u11, .tuple #[.agg #[.slice A n c, .slice S K d], .int .i64 0], .slice A n c, .tuple #[.agg #[.slice A n c, .slice S K d], .int .i64 0], .agg #[.slice A n c, .slice S K d], .int .i64 0, .int .i64 0, .bool false, undef, .pointer (some ⟨w1.heap.size, 1, none⟩), .slice S K d, .int .i64 K, .int .i64 (k : Int), u24, u25, u26, u27, u28, u29, u30, u31, u32, u33, u34, u35, u36, u37, u38, u39, u40, u41, u42, u43, u44, u45, u46, u47, u48, u49, u50, undef], defers := Ds.map markD } ∧ k + g = K ∧ Hid (Ds.Nodup ∧ ∀ D ∈ Ds, w1.heap.size + 2 ≤ D ∧ D < wr.heap.size ∧ wr.heap[D]? = some (.deferred (some []))) ∧ Blk wr w1.heap.size 75 #[.slice A n c, .slice S K d] ∧
      Hid (∃ v, Blk wr (w1.heap.size + 1) 26 #[v] ∧ wr.ownsRow (w1.heap.size + 2) 41 5 v ((List.range k).flatMap (allM l (momS l))).length (csPar ((List.range k).flatMap (allM l (momS l))))) ∧ Below w1.heap.size w1 wr) K ?_ ?_
    · exact ⟨undef, undef, undef, undef, undef, undef, undef, undef, undef, undef, undef, undef, undef, undef, undef, undef, undef, undef, undef, undef, undef, undef, undef, undef, undef, undef, undef, undef, undef, undef, undef, undef, 0, [], rfl, by omega, Lib.hid ⟨List.nodup_nil, fun D hD => by cases hD⟩, BX, Lib.hid ⟨_, BO, ⟨rfl, .inl ⟨rfl, rfl⟩⟩⟩, b2⟩
    · rintro gk a wr ⟨u7, u8, u9, u10, u11, u24, u25, u26, u27, u28, u29, u30, u31, u32, u33, u34, u35, u36, u37, u38, u39, u40, u41, u42, u43, u44, u45, u46, u47, u48, u49, u50, k, Ds, rfl, hkg, hDs, BXr, hrow, kr⟩ J KK hJ hKK
      clear BX BO b2 z2
      have wk : IntKind.i64.wrap ((k : Int) + 1) = (k : Int) + 1 := IntWalk.i64_in _ (by omega)
      have x0 : wr.cell? ⟨w1.heap.size, 0, none⟩ = some (.slice A n c) := BXr.cell 0
      have x1 : wr.cell? ⟨w1.heap.size, 1, none⟩ = some (.slice S K d) := BXr.cell 1
      have lX := BXr.lt
      have lO9 : w1.heap.size + 1 < wr.heap.size := by obtain ⟨v, hv, _⟩ := hrow.out; exact hv.lt
      cases gk with
      | zero =>
        have hkK : k = K := by omega
        have d0 : ¬ ((k : Int) < (K : Int)) := by omega
        obtain ⟨v, BOr, hown⟩ := hrow.out
        obtain ⟨Av, cv, rfl, _, _, _⟩ := own_reads hown
        have o0 : wr.cell? ⟨w1.heap.size + 1, 0, none⟩ = some (.slice Av ((List.range k).flatMap (allM l (momS l))).length cv) := BOr.cell 0
        have lO := BOr.lt
        rw [hkK] at hown o0
        obtain ⟨L, hL⟩ : ∃ L, L = (List.range K).flatMap (allM l (momS l)) := ⟨_, rfl⟩
        rw [← hL] at hown o0
        have HF := Lib.hid (show findE l = (L, 0) by rw [E.out, hL])
        obtain ⟨N, hN⟩ : ∃ N, N = L.length := ⟨_, rfl⟩
        rw [← hN] at hown o0
        have HNL := Lib.hid hN
        clear hrow hL hN BOr hkK
        go_wp2
        refine leave_marks (v := .tuple #[.slice Av N cv, .int .i64 0]) (fun W => by simp [results, Tryd.results10, go_sem]) Ds wr hDs.out.1 (fun D hD => (hDs.out.2 D hD).2.2) fun W' hW' => ⟨.slice Av N cv, by rw [HF.out], ?_, ?_⟩
        · rw [HF.out, ← HNL.out]
          exact own_marked (own_lower hown (by have := k1.size; omega)) hW' (fun D hD => (hDs.out.2 D hD).2.2)
        · exact below_marked (below_call k1 kr) hW' (fun D hD => by have := (hDs.out.2 D hD).1; have := k1.size; omega)
      | succ gh =>
        have hkK : k < K := by omega
        have d0 : (k : Int) < (K : Int) := by omega
        go_wp2_with fail
        refine (pairs_any n _).mono ?_
        rintro e w3 ⟨rfl, rfl⟩
        go_wp2_with fail
        obtain ⟨w4, hw4⟩ : ∃ w4, w4 = (wr.alloc (.cells #[.int .i64 k] 3)).alloc (.cells #[.int .i64 n] 3) := ⟨_, rfl⟩
        have s4 : w4.heap.size = wr.heap.size + 2 := by rw [hw4]; simp
        have b4 : Below wr.heap.size wr w4 := by rw [hw4]; exact below_alloc (below_alloc (Below.refl _ _) _) _
        have BN : Blk w4 wr.heap.size 3 #[.int .i64 k] := by rw [hw4]; exact (Blk.new _ _ _).alloc _
        have BB : Blk w4 (wr.heap.size + 1) 3 #[.int .i64 n] := by rw [hw4]; exact Blk.newAt _ _ _ _ (by simp)
        rw [← hw4]
        clear hw4
        have HS4 := Lib.hid s4
        clear s4
        refine wp_rangeFunc_calls rfl (fun args w => by simp [go_sem]) ?_
        intro fn rec W1 hrec hL hD hs hb
        have HR := Lib.hid hrec
        clear hrec
        refine (pairs1_any n (wr.heap.size + 1) (w4.heap.size + 1) W1 (by omega) (fun a b W => JF l w1 w1.heap.size wr.heap.size w4.heap.size #[.slice A n c, .slice S K d] ((List.range k).flatMap (allM l (momS l))) (rec .ready none) Ds n k a b W) ?_ ?_ ?_ ?_).mono ?_
        · exact fun a b W hJ => ⟨hJ.box.cell 0, hJ.box.lt⟩
        · obtain ⟨v, BOr, hown⟩ := hrow.out
          refine ⟨(BXr.kept b4).kept hb, BN.kept hb, BB.kept hb, ⟨v, (BOr.kept b4).kept hb, ?_⟩, hL, hD, fun D hD => ?_, (kr.trans ((b4.mono kr.size).trans (hb.mono (by have := kr.size; have := b4.size; omega))))⟩
          · rw [acc_zero, List.append_nil]
            exact own_call (own_call hown b4) hb
          · obtain ⟨h1, h2, h3⟩ := hDs.out.2 D hD
            exact (hb.block D (by have := b4.size; omega)).trans ((b4.block D h2).trans h3)
        · intro a W ha hJ
          have e1 := acc_row l (momS l) k a
          rw [HLN.out] at e1
          obtain ⟨g1, g2, g3, g4, g5, g6, g7, g8⟩ := hJ
          rw [e1] at g4
          exact ⟨g1, g2, g3, g4, g5, g6, g7, g8⟩
        · clear hL hD hs hb b4 BN BB BXr hrow x0 x1
          intro a b W hab hbn hJ
          obtain ⟨g1, g2, g3, ⟨v, g4, g4'⟩, g5, g6, g7, g8⟩ := hJ
          have hl := g5
          rw [HR.out] at hl
          refine round_of_walk hl rfl ?_
          clear hl
          gi_wp2
          refine ⟨_, run_beginRound g5 (by rw [HR.out]; rfl), ?_⟩
          obtain ⟨r1, hr1⟩ : ∃ r1 : Loop, { rec .ready none with state := .busy } = r1 := ⟨_, rfl⟩
          rw [hr1]
          obtain ⟨W2, hW2⟩ : ∃ W2, W2 = W.putObj (w4.heap.size + 1) (.loop r1) := ⟨_, rfl⟩
          have hlt := (Array.getElem?_eq_some_iff.1 g5).1
          have hD3 := HS4.out
          have A1 : Blk W2 w1.heap.size 75 #[.slice A n c, .slice S K d] := by rw [hW2]; exact g1.put _ (by omega)
          have A2 : Blk W2 wr.heap.size 3 #[.int .i64 k] := by rw [hW2]; exact g2.put _ (by omega)
          have A3 : Blk W2 (wr.heap.size + 1) 3 #[.int .i64 n] := by rw [hW2]; exact g3.put _ (by omega)
          have A4 : Blk W2 (w1.heap.size + 1) 26 #[v] := by rw [hW2]; exact g4.put _ (by omega)
          have A4' : W2.ownsRow (w1.heap.size + 2) 41 5 v ((List.range k).flatMap (allM l (momS l)) ++ accM l (momS l) k a b).length (csPar ((List.range k).flatMap (allM l (momS l)) ++ accM l (momS l) k a b)) := by rw [hW2]; exact own_put2 g4' g5 rfl _
          have A5 : W2.heap[w4.heap.size + 1]? = some (.loop r1) := by rw [hW2]; exact World.putObj_heap_same hlt
          have A6 : W2.heap[w4.heap.size]? = some (.deferred (some [])) := by rw [hW2]; exact (World.putObj_heap_other (by omega)).trans g6
          have A7 := Lib.hid (show ∀ D ∈ Ds, W2.heap[D]? = some (.deferred (some [])) from fun D hD => by
            rw [hW2]; exact (World.putObj_heap_other (by have := (hDs.out.2 D hD).2.1; omega)).trans (g7 D hD))
          have A8 : Below w1.heap.size w1 W2 := by rw [hW2]; exact below_put g8 _ (by omega)
          have hs2 : W2.heap.size = W.heap.size := by rw [hW2]; simp
          rw [← hW2]
          clear hW2 g1 g2 g3 g4 g4' g5 g6 g7 g8
          obtain ⟨va, hva⟩ := get_some (l := l) (k := a) (by have := HLN.out; omega)
          obtain ⟨vb, hvb⟩ := get_some (l := l) (k := b) (by have := HLN.out; omega)
          have qk := kind_ok (stg.kept A8) (ht1.kept A8) c d hva hvb hkK
          have HM := Lib.hid (show motL l (momS l) k a b = if 0 < (motE va vb (momS l) k).1 then [⟨k, a, b, (motE va vb (momS l) k).1, (motE va vb (momS l) k).2⟩] else [] by
            unfold motL
            rw [show l.getD a [] = va by simp [List.getD, hva], show l.getD b [] = vb by simp [List.getD, hvb]])
          have HNX := Lib.hid (acc_next l (momS l) k hab)
          obtain ⟨⟨kd, st⟩, hmo⟩ : ∃ z, z = motE va vb (momS l) k := ⟨_, rfl⟩
          rw [← hmo] at qk HM
          simp only at qk HM
          have o0 : W2.cell? ⟨w1.heap.size + 1, 0, none⟩ = some v := A4.cell 0
          have o1 : W2.cell? ⟨w1.heap.size, 0, none⟩ = some (.slice A n c) := A1.cell 0
          have o2 : W2.cell? ⟨w1.heap.size, 1, none⟩ = some (.slice S K d) := A1.cell 1
          have o3 : W2.cell? ⟨wr.heap.size, 0, none⟩ = some (.int .i64 k) := A2.cell 0
          have l1 := A1.lt
          have l2 := A2.lt
          have HZ := Lib.hid hs2
          have HLT := Lib.hid hlt
          clear hva hvb hmo hs2 hD3 hlt
          gi_wp2_with fail
          refine ⟨trivial, rfl, ?_⟩
          refine (CallsIn.inRound (w4.heap.size + 1) (callsIn_wide.2 qk)).mono ?_
          rintro e w5 ⟨rfl, hb5⟩
          have C1 := A1.kept hb5; have C2 := A2.kept hb5; have C3 := A3.kept hb5; have C4 := A4.kept hb5
          have C4' := own_call A4' hb5
          have C5 : w5.heap[w4.heap.size + 1]? = some (.loop r1) := (hb5.block _ (by rw [HZ.out]; exact HLT.out)).trans A5
          have C6 : w5.heap[w4.heap.size]? = some (.deferred (some [])) := (hb5.block _ (by rw [HZ.out]; have := HLT.out; omega)).trans A6
          have C7 := Lib.hid (show ∀ D ∈ Ds, w5.heap[D]? = some (.deferred (some [])) from fun D hD => (hb5.block _ (Array.getElem?_eq_some_iff.1 (A7.out D hD)).1).trans (A7.out D hD))
          have C8 : Below w1.heap.size w1 w5 := below_call A8 hb5
          have RR := Lib.hid (show ({ r1 with state := (if (none : Option Code).isNone then LoopState.ready else .done), pending := none } : Loop) = rec .ready none by rw [← hr1, HR.out]; rfl)
          clear A1 A2 A3 A4 A4' A5 A6 A7 A8 o0 o1 o2 o3 l1 l2 qk
          by_cases hk0 : 0 < kd
          · have HM2 := Lib.hid (show accM l (momS l) k a (b + 1) = accM l (momS l) k a b ++ [⟨k, a, b, kd, st⟩] by rw [HNX.out, HM.out, if_pos hk0])
            clear HM HNX
            obtain ⟨Lc, hLc⟩ : ∃ L, L = (List.range k).flatMap (allM l (momS l)) ++ accM l (momS l) k a b := ⟨_, rfl⟩
            have hLcl : Lc.length ≤ 4000000 := by
              rw [hLc, List.length_append]
              have h1 := HALL.out k; have h2 := HACC.out k a b (by omega) (by omega)
              omega
            have HLC := Lib.hid (show (List.range k).flatMap (allM l (momS l)) ++ accM l (momS l) k a (b + 1) = Lc ++ [⟨k, a, b, kd, st⟩] by rw [HM2.out, ← List.append_assoc, hLc])
            rw [← hLc] at C4'
            clear hLc
            obtain ⟨N, hN⟩ : ∃ N, N = Lc.length := ⟨_, rfl⟩
            rw [← hN] at C4' hLcl
            have HN := Lib.hid hN
            clear hN
            obtain ⟨i0, hi0, hz0, hz1, hz2⟩ := info_parts par_info
            have o0 : w5.cell? ⟨w1.heap.size + 1, 0, none⟩ = some v := C4.cell 0
            have o3 : w5.cell? ⟨wr.heap.size, 0, none⟩ = some (.int .i64 k) := C2.cell 0
            have l1 := C4.lt
            have l2 := C2.lt
            have hA := below_alloc (Below.refl w5.heap.size w5) (.cells #[.int .i64 k, .int .i64 a, .int .i64 b, .int .i64 kd, .int .i64 st] 41)
            have hob : ∀ x, v.ownBlock = some x → w1.heap.size + 2 ≤ x := fun x hx => (C4'.lt x hx).1
            have hsz := C8.size
            dsimp only
            repeat ((fail_if_success gi_at_builtin); gi_step)
            refine wpListIn_append_own _ rfl (.tmp 41) (.tmp 48) 26 rfl (w1.heap.size + 2) 41 i0 _ 5 40 Tryd.underlying26 hi0 hz0 hz1 hz2 rfl (by omega) v N (csPar Lc) rfl (own_call C4' hA) ⟨w5.heap.size, 0, none⟩ 1 1 [.int .i64 k, .int .i64 a, .int .i64 b, .int .i64 kd, .int .i64 st] rfl rfl (cells_new _ _ _ _ rfl) (by simp [Value.oneCell']) (by simp only [maxLen]; omega) (by omega) (by simp; omega) ?_
            intro v6 w6 hown6 hg6 hat6
            obtain ⟨g6, cap6, rfl⟩ := ownsRow_succ hown6
            have hrA := own_call C4' hA
            have hne : ∀ {g : Nat} {o : Obj}, w5.heap[g]? = some o → (∀ x, v.ownBlock = some x → x ≠ g) → w6.heap[g]? = some o := fun {g o} hg h => by
              have hlt := (Array.getElem?_eq_some_iff.1 hg).1
              exact (hg6.block g (by simp; omega) (fun he => h g he.symm rfl)).trans ((hA.block g hlt).trans hg)
            have hcell : ∀ {g : Nat} {o : Obj}, w5.heap[g]? = some o → o.isCells = false → (∀ x, v.ownBlock = some x → x ≠ g) := fun {g o} hg ho x hx e => by
              subst e
              obtain ⟨_, h2⟩ := C4'
              rcases h2 with ⟨rfl, _⟩ | ⟨g2, cap2, cur2, hv2, _, hh2, _⟩
              · cases hx
              · rw [hv2] at hx; cases hx; rw [hg] at hh2; cases hh2; cases ho
            have htyp : ∀ {g : Nat} {t : TypeId} {cs : Array Value}, Blk w5 g t cs → t ≠ 41 → (∀ x, v.ownBlock = some x → x ≠ g) := fun {g t cs} hg ht x hx e => by
              subst e
              unfold Blk at hg
              obtain ⟨_, h2⟩ := C4'
              rcases h2 with ⟨rfl, _⟩ | ⟨g2, cap2, cur2, hv2, _, hh2, _⟩
              · cases hx
              · rw [hv2] at hx; cases hx; rw [hg] at hh2; cases hh2; exact ht rfl
            have D1 : Blk w6 w1.heap.size 75 #[.slice A n c, .slice S K d] := hne C1 (htyp C1 (by decide))
            have D2 : Blk w6 wr.heap.size 3 #[.int .i64 k] := hne C2 (htyp C2 (by decide))
            have D3 : Blk w6 (wr.heap.size + 1) 3 #[.int .i64 n] := hne C3 (htyp C3 (by decide))
            have D4 : Blk w6 (w1.heap.size + 1) 26 #[v] := hne C4 (htyp C4 (by decide))
            have D5 := hne C5 (hcell C5 rfl)
            have D6 := hne C6 (hcell C6 rfl)
            have D7 := Lib.hid (fun D (hD : D ∈ Ds) => hne (C7.out D hD) (hcell (C7.out D hD) rfl))
            have D8 : Below w1.heap.size w1 w6 := Below.grown (B := w1.heap.size) (C8.alloc (by omega) _) hg6 (by simp; omega) (fun x hx => by have := hob x hx; omega)
            have p0 : w6.cell? ⟨w1.heap.size + 1, 0, none⟩ = some v := D4.cell 0
            have f0 := D4.frozen 0
            have l6 := D4.lt
            clear hne hcell htyp C1 C2 C3 C4 C5 C6 C7 C8 o0 o3 l1 l2 hob hsz hA
            gi_wp2
            have hlt6 := (Array.getElem?_eq_some_iff.1 D5).1
            have hD5 := HS4.out
            have E5 : (w6.setCell ⟨w1.heap.size + 1, 0, none⟩ (.slice (some ⟨g6, 0, none⟩) (N + 1) cap6)).heap[w4.heap.size + 1]? = some (.loop r1) := (Below.heap_setCell _ _ _ _ (by show w4.heap.size + 1 ≠ w1.heap.size + 1; omega)).trans D5
            refine ⟨_, _, run_endRound none E5, rfl, ?_⟩
            rw [RR.out]
            have ow6 : (w6.setCell ⟨w1.heap.size + 1, 0, none⟩ (.slice (some ⟨g6, 0, none⟩) (N + 1) cap6)).ownsRow (w1.heap.size + 2) 41 5 (.slice (some ⟨g6, 0, none⟩) (N + 1) cap6) (N + 1) (csPar Lc ++ csPar [⟨k, a, b, kd, st⟩]) := own_set hown6 (by simp)
            refine ⟨(D1.far (by simp) _).put _ (by omega), (D2.far (by simp; omega) _).put _ (by omega), (D3.far (by simp; omega) _).put _ (by omega), ⟨.slice (some ⟨g6, 0, none⟩) (N + 1) cap6, (D4.set_ 0 _).put _ (by omega), ?_⟩, World.putObj_heap_same (by simpa [World.setCell] using hlt6), (World.putObj_heap_other (by omega)).trans ((Below.heap_setCell _ _ _ _ (by show w4.heap.size ≠ w1.heap.size + 1; omega)).trans D6), fun D hD => (World.putObj_heap_other (by have := (hDs.out.2 D hD).2.1; omega)).trans ((Below.heap_setCell _ _ _ _ (by have := (hDs.out.2 D hD).1; show D ≠ w1.heap.size + 1; omega)).trans (D7.out D hD)), below_put (D8.setCell (by simp) _) _ (by omega)⟩
            rw [HLC.out, List.length_append, csPar_append, ← HN.out]
            exact own_put2 ow6 E5 rfl _
          · have HM2 := Lib.hid (show accM l (momS l) k a (b + 1) = accM l (momS l) k a b by rw [HNX.out, HM.out, if_neg hk0, List.append_nil])
            clear HM HNX
            gi_wp2
            refine ⟨_, _, run_endRound none C5, rfl, ?_⟩
            have hlt5 := (Array.getElem?_eq_some_iff.1 C5).1
            have hD5 := HS4.out
            rw [RR.out]
            refine ⟨C1.put _ (by omega), C2.put _ (by omega), C3.put _ (by omega), ⟨v, C4.put _ (by omega), ?_⟩, World.putObj_heap_same hlt5, (World.putObj_heap_other (by omega)).trans C6, fun D hD => (World.putObj_heap_other (by have := (hDs.out.2 D hD).2.1; omega)).trans (C7.out D hD), below_put C8 _ (by omega)⟩
            rw [HM2.out]
            exact own_put2 C4' C5 rfl _
        · clear hL hD hs hb BN BB BXr hrow x0 x1
          rintro e W2 ⟨⟨v, rfl⟩, hJe⟩
          refine ⟨⟨v, rfl⟩, .ready, none, by simp, hJe.loop, ?_⟩
          simp only
          have hD3 := HS4.out
          obtain ⟨g1, g2, g3, ⟨v, g4, g4'⟩, g5, g6, g7, g8⟩ := hJe
          have hlt := (Array.getElem?_eq_some_iff.1 g5).1
          have HEND := Lib.hid (show (List.range k).flatMap (allM l (momS l)) ++ accM l (momS l) k n (n + 1) = (List.range (k + 1)).flatMap (allM l (momS l)) by
            have e1 := acc_end l (momS l) k
            rw [HLN.out] at e1
            rw [e1, List.range_succ, List.flatMap_append]
            simp)
          rw [HEND.out] at g4'
          have F1 := g1.put (.loop (rec .exhausted none)) (r := w4.heap.size + 1) (by omega)
          have F4 := g4.put (.loop (rec .exhausted none)) (r := w4.heap.size + 1) (by omega)
          have F4' := own_put2 g4' g5 rfl (.loop (rec .exhausted none))
          have F6 := (World.putObj_heap_other (w := W2) (r := w4.heap.size + 1) (o := .loop (rec .exhausted none)) (k := w4.heap.size) (by omega)).trans g6
          have F7 := Lib.hid (fun D (hD : D ∈ Ds) => (World.putObj_heap_other (w := W2) (r := w4.heap.size + 1) (o := .loop (rec .exhausted none)) (k := D) (by have := (hDs.out.2 D hD).2.1; omega)).trans (g7 D hD))
          have F8 := below_put g8 (.loop (rec .exhausted none)) (r := w4.heap.size + 1) (by omega)
          have hsz : (W2.putObj (w4.heap.size + 1) (.loop (rec .exhausted none))).heap.size = W2.heap.size := by simp
          generalize W2.putObj (w4.heap.size + 1) (.loop (rec .exhausted none)) = W5 at *
          have HDN := Lib.hid (show (w4.heap.size :: Ds).Nodup ∧ ∀ D ∈ w4.heap.size :: Ds, w1.heap.size + 2 ≤ D ∧ D < W5.heap.size ∧ W5.heap[D]? = some (.deferred (some [])) from by
            refine ⟨List.nodup_cons.2 ⟨fun hm => by have := (hDs.out.2 _ hm).2.1; omega, hDs.out.1⟩, fun D hD => ?_⟩
            rcases List.mem_cons.1 hD with rfl | hD
            · exact ⟨by omega, by omega, F6⟩
            · obtain ⟨h1, h2, _⟩ := hDs.out.2 D hD
              exact ⟨h1, by omega, F7.out D hD⟩)
          have HRW := Lib.hid (show ∃ v, Blk W5 (w1.heap.size + 1) 26 #[v] ∧ W5.ownsRow (w1.heap.size + 2) 41 5 v ((List.range (k + 1)).flatMap (allM l (momS l))).length (csPar ((List.range (k + 1)).flatMap (allM l (momS l)))) from ⟨v, F4, F4'⟩)
          clear hDs g1 g2 g3 g4 g4' g5 g6 g7 F4 F4' F6 F7 hlt hsz hD3 g8 HEND
          go_wp2
          exact Handed.intro gh (by omega) (hJ _ _ _ ⟨_, _, _, _, _, _, _, _, _, _, _, _, _, _, _, _, _, _, _, _, _, _, _, _, _, _, _, _, _, _, _, _, k + 1, w4.heap.size :: Ds, rfl, by omega, HDN, F1, HRW, F8⟩)
  · have hne : ((slicesE l).2 != 0) = true := by simpa using he
    have E := Lib.hid (show findE l = ([], (slicesE l).2) by unfold findE; rw [if_pos he])
    have hnil := slicesE_err he
    obtain ⟨S, d, rfl, _⟩ := ho1.reads
    obtain ⟨er, her⟩ : ∃ x, x = (slicesE l).2 := ⟨_, rfl⟩
    rw [← her] at hne E ⊢
    clear he her ho1
    go_wp2
    refine leave_marks (v := .tuple #[.slice none 0 0, .int .i64 er]) (fun W => by simp [results, Tryd.results10, go_sem]) [] _ List.nodup_nil (fun D hD => by cases hD) fun W' hW' => ⟨.slice none 0 0, by rw [E.out], ?_, ?_⟩
    · rw [E.out]; exact ⟨rfl, .inl ⟨rfl, rfl⟩⟩
    · exact below_marked (below_alloc k1 _) hW' (fun D hD => by cases hD)
end Go.Proofs.YtigfcbofbcpiaaaDoor
