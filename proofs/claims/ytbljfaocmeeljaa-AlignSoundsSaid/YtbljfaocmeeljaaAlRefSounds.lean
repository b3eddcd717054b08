/- Who sounds in a slice, from the lowest, by the reference. -/
import Derived.Test.YtbljfaocmeeljaaAlSounds
import Derived.Test.YtbljfaocmeeljaaAlRefStarts
namespace Go.Proofs.Ytbljfaocmeeljaa
open Go.RowKit
set_option maxRecDepth 100000 in
set_option maxHeartbeats 1000000 in
theorem lower_any (i j : Int) (p q : Int × Int × Int) (hp : pchk p = 0) (hq : pchk q = 0) (w : World) :
    Calls Try.prog 54 #[.int .i64 i, .int .i64 j, .agg #[.int .i64 p.1, .int .i64 p.2.1, .int .i64 p.2.2], .agg #[.int .i64 q.1, .int .i64 q.2.1, .int .i64 q.2.2]] w fun e w' => e = .returned (.bool (ltK (numP p, p.2.2, i) (numP q, q.2.2, j))) ∧ Below w.heap.size w w' := by
  have q1 := refNumber_any p
  have q2 := refNumber_any q
  rw [show numE p = (numP p, 0) by unfold numE; rw [if_neg (fun h => h hp)]] at q1
  rw [show numE q = (numP q, 0) by unfold numE; rw [if_neg (fun h => h hq)]] at q2
  have E := Lib.hid (show ltK (numP p, p.2.2, i) (numP q, q.2.2, j) = decide (numP p < numP q ∨ (numP p = numP q ∧ (p.2.2 < q.2.2 ∨ (p.2.2 = q.2.2 ∧ i < j)))) from rfl)
  obtain ⟨np, hnp⟩ : ∃ y, y = numP p := ⟨_, rfl⟩
  obtain ⟨nq, hnq⟩ : ∃ y, y = numP q := ⟨_, rfl⟩
  rw [← hnp] at q1 E ⊢
  rw [← hnq] at q2 E ⊢
  clear hnp hnq hp hq
  obtain ⟨p0, p1, p2⟩ := p
  obtain ⟨r0, r1, r2⟩ := q
  unfold vP at q1 q2
  simp only at q1 q2 E ⊢
  rw [E.out]
  obtain ⟨wq, hwq⟩ : ∃ wq, wq = (w.alloc (.cells #[.int .i64 p0, .int .i64 p1, .int .i64 p2] 65)).alloc (.cells #[.int .i64 r0, .int .i64 r1, .int .i64 r2] 65) := ⟨_, rfl⟩
  have B6 : Blk wq w.heap.size 65 #[.int .i64 p0, .int .i64 p1, .int .i64 p2] := by rw [hwq]; exact (Blk.new _ _ _).alloc _
  have B7 : Blk wq (w.heap.size + 1) 65 #[.int .i64 r0, .int .i64 r1, .int .i64 r2] := by rw [hwq]; exact Blk.newAt _ _ _ _ (by simp)
  have k0 : Below w.heap.size w wq := by rw [hwq]; exact below_alloc (below_alloc (Below.refl _ _) _) _
  go_enter Try.func54, Try.ntmps54
  go_wp2_with fail
  rw [← hwq]
  clear hwq
  refine (q1 _).mono ?_
  rintro e w5 ⟨rfl, hb5⟩
  have k5 := below_call k0 hb5
  have B65 := B6.kept hb5
  have B75 := B7.kept hb5
  obtain ⟨e0, e1, e2⟩ : w5.cell? ⟨w.heap.size + 1, 0, none⟩ = some (.int .i64 r0) ∧ w5.cell? ⟨w.heap.size + 1, 1, none⟩ = some (.int .i64 r1) ∧ w5.cell? ⟨w.heap.size + 1, 2, none⟩ = some (.int .i64 r2) := ⟨B75.cell 0, B75.cell 1, B75.cell 2⟩
  go_wp2_with fail
  refine (q2 _).mono ?_
  rintro e w6 ⟨rfl, hb6⟩
  have k6 := below_call k5 hb6
  have B66 := B65.kept hb6
  have B76 := B75.kept hb6
  have e3 : w6.cell? ⟨w.heap.size, 2, none⟩ = some (.int .i64 p2) := B66.cell 2
  have e4 : w6.cell? ⟨w.heap.size + 1, 2, none⟩ = some (.int .i64 r2) := B76.cell 2
  clear hb5 hb6 B6 B7 B65 B75 q1 q2 e0 e1 e2
  by_cases c1 : np = nq
  · have f1 : (np != nq) = false := by simp [c1]
    by_cases c2 : p2 = r2
    · have f2 : (p2 != r2) = false := by simp [c2]
      have E2 := Lib.hid (show decide (np < nq ∨ (np = nq ∧ (p2 < r2 ∨ (p2 = r2 ∧ i < j)))) = decide (i < j) from decide_eq_decide.2 (by omega))
      clear c1 c2
      go_wp2
      go_ret
      rw [E2.out]
      exact ⟨rfl, k6⟩
    · have f2 : (p2 != r2) = true := by simp [c2]
      have E2 := Lib.hid (show decide (np < nq ∨ (np = nq ∧ (p2 < r2 ∨ (p2 = r2 ∧ i < j)))) = decide (p2 < r2) from decide_eq_decide.2 (by omega))
      clear c1 c2
      go_wp2
      go_ret
      rw [E2.out]
      exact ⟨rfl, k6⟩
  · have f1 : (np != nq) = true := by simp [c1]
    have E2 := Lib.hid (show decide (np < nq ∨ (np = nq ∧ (p2 < r2 ∨ (p2 = r2 ∧ i < j)))) = decide (np < nq) from decide_eq_decide.2 (by omega))
    clear c1
    go_wp2
    go_ret
    rw [E2.out]
    exact ⟨rfl, k6⟩
theorem own_prefix {w : World} {base size n k c : Nat} {e : TypeId} {A : Option Addr} {xs : List Value} (h : w.ownsRow base e size (.slice A n c) n xs) (hk : k ≤ n) : w.ownsRow base e size (.slice A k c) k (xs.take (k * size)) := by
  obtain ⟨hl, h1⟩ := h
  have hks : k * size ≤ n * size := Nat.mul_le_mul_right _ hk
  refine ⟨by rw [List.length_take, hl]; omega, ?_⟩
  rcases h1 with ⟨e1, rfl⟩ | ⟨g, cap, cur, e1, hb, hh, hnc, hm, hs, ht⟩
  · cases e1
    obtain rfl : k = 0 := by omega
    exact .inl ⟨rfl, rfl⟩
  · cases e1
    exact .inr ⟨g, c, cur, rfl, hb, hh, by omega, hm, hs, by rw [← ht, List.take_take, Nat.min_eq_left hks]⟩
theorem own_keep {w w' : World} {base size n : Nat} {e : TypeId} {v : Value} {xs : List Value} {row : Option Nat} (h : w.ownsRow base e size v n xs) (hg : w.grownBy w' row) (hne : ∀ k, v.ownBlock = some k → some k ≠ row) : w'.ownsRow base e size v n xs := by
  have hl := h.lt
  obtain ⟨h1, h3⟩ := h
  refine ⟨h1, ?_⟩
  rcases h3 with h3 | ⟨g, cap, cur, hv, hb, hh, rest⟩
  · exact .inl h3
  · have e0 : v.ownBlock = some g := by rw [hv]; rfl
    exact .inr ⟨g, cap, cur, hv, hb, (hg.block g (hl g e0).2 (hne g e0)).trans hh, rest⟩
theorem insAll_mem {α : Type} {lt : α → α → Bool} {x : α} : ∀ (L o : List α), x ∈ L.foldl (fun o x => ins lt x o) o ↔ x ∈ L ∨ x ∈ o
  | [], o => by simp
  | y :: L, o => by
    rw [List.foldl_cons, insAll_mem L, (ins_perm lt y o).mem_iff]
    simp only [List.mem_cons]
    grind
theorem int_lit (w : World) (base g : Nat) (hg : g = w.heap.size) (hb : base ≤ w.heap.size) : (w.alloc (.cells #[] 3)).ownsRow base 3 1 (.slice (some ⟨g, 0, none⟩) 0 0) 0 [] := by
  subst hg; exact World.ownsRow_lit w #[] 0 hb (by simp [maxLen]) rfl
theorem csJ_take (l : List Nat) (k : Nat) : (csJ l).take k = csJ (l.take k) := by
  have e : csJ l = csJ (l.take k) ++ csJ (l.drop k) := by rw [← csJ_append, List.take_append_drop]
  by_cases hk : k ≤ l.length
  · rw [e]; exact List.take_left' (by rw [csJ_len, List.length_take]; omega)
  · rw [List.take_of_length_le (by rw [csJ_len]; omega), List.take_of_length_le (by omega)]
theorem reads_dropJ {w : World} {B n k : Nat} {A : Option Addr} {l : List Nat} (h : Reads w B 1 A n (csJ l)) (hk : k ≤ n) (A' : Option Addr) (hA : ∀ b off, A = some ⟨b, off, none⟩ → k < n → A' = some ⟨b, off + k, none⟩) : Reads w B 1 A' (n - k) (csJ (l.drop k)) := by
  have hl : l.length = n := by have := h.1; rw [csJ_len] at this; omega
  refine ⟨by rw [csJ_len, List.length_drop]; omega, fun h0 => ?_⟩
  obtain ⟨b, off, e, hb, hc⟩ := h.2 (by omega)
  refine ⟨b, off + k, hA b off e (by omega), hb, fun j u hu => ?_⟩
  rw [Nat.add_assoc]
  refine hc (k + j) u ?_
  have e2 : csJ l = csJ (l.take k) ++ csJ (l.drop k) := by rw [← csJ_append, List.take_append_drop]
  have e3 : (csJ (l.take k)).length = k := by rw [csJ_len, List.length_take]; omega
  rw [e2, List.getElem?_append_right (by omega), e3, show k + j - k = j by omega, hu]
set_option maxRecDepth 100000 in
/-- s[:k] -/
theorem int_head (A : Option Addr) (k n c : Nat) (h : k ≤ c) : ∀ W : World, (Instr.slice 42 (.slice A n c) none (some (.int .i64 (k : Int))) none).run Try.prog W = .ok (.slice A k c) W := by
  intro W
  rw [run_slice_h W 42 _ _ _ Try.underlying42 .i64 _ (by omega) (by omega), show (Go.sizeOf (Try.prog.elem 42)).run Try.prog W = .ok 1 W by kernel_rfl]
  have ha : A.map (fun a => a.add 0) = A := by cases A <;> simp [Addr.add]
  by_cases hne : c = 0 <;> simp [Result.andThen, sliced, hne, ha]
set_option maxRecDepth 100000 in
/-- s[k:] -/
theorem int_tail (A : Option Addr) (k n c : Nat) (h : k ≤ n) (hc : n ≤ c) : ∃ A' : Option Addr, (∀ b off, A = some ⟨b, off, none⟩ → k < n → A' = some ⟨b, off + k, none⟩) ∧
    ∀ W : World, (Instr.slice 42 (.slice A n c) (some (.int .i64 (k : Int))) none none).run Try.prog W = .ok (.slice A' (n - k) (c - k)) W := by
  refine ⟨if c = k then A else A.map (·.add (k * 1)), fun b off e h0 => by rw [if_neg (by omega), e]; simp [Addr.add], fun W => ?_⟩
  rw [run_slice_l W 42 _ _ _ Try.underlying42 .i64 _ (by omega) (by omega), show (Go.sizeOf (Try.prog.elem 42)).run Try.prog W = .ok 1 W by kernel_rfl]
  by_cases hne : c = k <;> simp [Result.andThen, sliced, hne]
set_option maxRecDepth 100000 in
set_option maxHeartbeats 8000000 in
theorem refSounds_any (A : Option Addr) (n c : Nat) (l : List (List Ev)) (j : Int) (B : Nat) (w : World) (h : ReadsV w B A n l) (hB : B ≤ w.heap.size) (hn : n ≤ 9223372036854775807) :
    Calls Try.prog 25 #[.slice A n c, .int .i64 j] w fun e w' => ∃ v, e = .returned (.tuple #[v, .int .i64 (soundsE l j).2]) ∧ w'.ownsRow w.heap.size 3 1 v (soundsE l j).1.length (csJ (soundsE l j).1) ∧ Below w.heap.size w w' := by
  have HL := Lib.hid h.len
  have q1 := refSlices_any A n c l B w h hB hn
  obtain ⟨i0, hi0, hz0, hz1, hz2⟩ := info_parts num_info
  go_enter Try.func25, Try.ntmps25
  go_wp2_with fail
  refine q1.mono ?_
  rintro e w1 ⟨v1, rfl, ho1, k1⟩
  clear q1
  by_cases he : (slicesE l).2 = 0
  · obtain ⟨hz, hsl⟩ := slicesE_ok he
    obtain ⟨As, cs, rfl, rs⟩ := ho1.reads
    have HKL := Lib.hid (show (slicesE l).1.length = (momS l).length - 1 by rw [hsl]; simp)
    rw [hsl] at rs
    simp only [List.length_map, List.length_range] at rs
    rw [HKL.out, he]
    obtain ⟨K, hK⟩ : ∃ K, K = (momS l).length - 1 := ⟨_, rfl⟩
    rw [← hK] at rs HKL ⊢
    have HK := Lib.hid hK
    have HE := Lib.hid he
    clear hK he hsl ho1
    by_cases hj0 : j < 0
    · have E := Lib.hid (show soundsE l j = ([], 2) by unfold soundsE; rw [if_neg (fun h0 => h0 HE.out), if_pos (.inl hj0)])
      go_wp2
      refine ret_of (by simp [results, Try.results25, go_sem, *]; repeat' (first | rfl | apply And.intro)) rfl ⟨.slice none 0 0, ?_, ?_, by repeat (first | with_reducible exact Below.refl _ _ | with_reducible assumption | with_reducible refine below_drewN ?_ _ | with_reducible refine Below.drew ?_ | with_reducible refine below_alloc ?_ _ | (with_reducible refine Below.setCell ?_ ?_ _; rotate_left; ((try simp only); omega)))⟩
      · rw [E.out]
      · rw [E.out]; exact ⟨rfl, .inl ⟨rfl, rfl⟩⟩
    by_cases hj1 : (K : Int) ≤ j
    · have E := Lib.hid (show soundsE l j = ([], 2) by unfold soundsE; rw [if_neg (fun h0 => h0 HE.out), HKL.out, if_pos (.inr hj1)])
      have d0 : decide (j < 0) = false := decide_eq_false hj0
      go_wp2
      refine ret_of (by simp [results, Try.results25, go_sem, *]; repeat' (first | rfl | apply And.intro)) rfl ⟨.slice none 0 0, ?_, ?_, by repeat (first | with_reducible exact Below.refl _ _ | with_reducible assumption | with_reducible refine below_drewN ?_ _ | with_reducible refine Below.drew ?_ | with_reducible refine below_alloc ?_ _ | (with_reducible refine Below.setCell ?_ ?_ _; rotate_left; ((try simp only); omega)))⟩
      · rw [E.out]
      · rw [E.out]; exact ⟨rfl, .inl ⟨rfl, rfl⟩⟩
    obtain ⟨i, rfl⟩ : ∃ i : Nat, j = (i : Int) := ⟨j.toNat, by omega⟩
    have hik : i < K := by omega
    have hik' : (i : Int) < (K : Int) := by omega
    have hki' : ¬ ((K : Int) ≤ (i : Int)) := by omega
    have hg : ((List.range K).map (slOf l (momS l)))[i]? = some (slOf l (momS l) i) := by rw [List.getElem?_map, List.getElem?_range hik]; rfl
    obtain ⟨s, hs⟩ : ∃ s, s = slOf l (momS l) i := ⟨_, rfl⟩
    rw [← hs] at hg
    obtain ⟨f1, f2, _, f4, f5⟩ := set_facts hz
    have HV := Lib.hid f2
    have HOK := Lib.hid (ok_mAt f5 (i := i) (by have := HK.out; omega))
    obtain ⟨bs, os, p, q, kc, rfl, hbs, hq, hr, c0, c1, c2, c3, c4⟩ := rs.el (Nat.le_refl _) (Below.refl _ w1) hik hg
    clear hg
    obtain ⟨⟨y0, y1⟩, ⟨d0, d1⟩, evs⟩ := s
    have HY := Lib.hid (show ((y0, y1) : Tm) = mAt (momS l) i from congrArg Sl.at_ hs)
    have hev : evs = l.map fun v => onS v (mAt (momS l) i) := congrArg Sl.evs hs
    rw [← HY.out] at hev
    rw [← HY.out] at HOK
    subst hev
    simp only at c0 c1 c2 c3 c4 hq hr
    have E := Lib.hid (show soundsE l (i : Int) = (insAll (ltV l (y0, y1)) (sndS l (y0, y1)), 0) by unfold soundsE; rw [if_neg (fun h0 => h0 HE.out), HKL.out, if_neg (by omega), HY.out, Int.toNat_natCast])
    have hqn : q = n := by rw [← hq, List.length_map]; exact HL.out
    subst hqn
    have h8 : q ≤ 8 := by have := HL.out; omega
    obtain ⟨w2, hw2⟩ : ∃ w2, w2 = w1 := ⟨_, rfl⟩
    have r2 := hr
    have k2 := k1
    have hb2 := Below.refl w1.heap.size w1
    subst hw2
    clear hs hz f1 f2 f4 f5 hq hr c2 c3 rs
    go_wp2_with fail
    have HR := Lib.hid r2
    go_loopg [8, 9, 10, 11, 12] q (fun g u i _ _ _ wr => ∃ k : Nat, k + g = q ∧ i = .int .i64 k ∧ Below w2.heap.size w2 wr ∧ wr.ownsRow w2.heap.size 3 1 u (insAll (ltV l (y0, y1)) (sndP l (y0, y1) k)).length (csJ (insAll (ltV l (y0, y1)) (sndP l (y0, y1) k))))
    case atStart => exact ⟨0, by omega, by simp, Below.refl _ _, ⟨rfl, .inl ⟨rfl, rfl⟩⟩⟩
    case round =>
      obtain ⟨k, hkg, rfl, kr, hrow⟩ := hrel
      have kw := below_call k2 kr
      have s0 := (kr.cell (p := ⟨bs, os + i * 5, none⟩) hbs).trans c0
      have s1 := (kr.cell (p := ⟨bs, os + i * 5 + 1, none⟩) hbs).trans c1
      have s4 := (kr.cell (p := ⟨bs, os + i * 5 + 4, none⟩) hbs).trans c4
      have lS : bs < wr.heap.size := Nat.lt_of_lt_of_le hbs kr.size
      have wk : IntKind.i64.wrap ((k : Int) + 1) = (k : Int) + 1 := IntWalk.i64_in _ (by omega)
      cases gk with
      | zero =>
        obtain rfl : k = q := by omega
        have d0 : ¬ ((k : Int) < (k : Int)) := by omega
        have hSP : sndP l (y0, y1) k = sndS l (y0, y1) := by unfold sndP sndS; rw [HL.out]
        rw [hSP] at hrow
        clear hSP
        go_wp2
        refine ret_of (by simp [results, Try.results25, go_sem, *]; repeat' (first | rfl | apply And.intro)) rfl ⟨u8, ?_, ?_, kw⟩
        · rw [E.out]
        · rw [E.out]
          exact own_lower hrow k1.size
      | succ g =>
        have hk : k < q := by omega
        have hk' : (k : Int) < (q : Int) := by omega
        obtain ⟨v, hv⟩ := get_some (l := l) (k := k) (by have := HL.out; omega)
        have hvm := List.mem_of_getElem? hv
        obtain ⟨hck, hval, hvl⟩ := HV.out v hvm
        obtain ⟨be, oe, hpe, hbe, he⟩ := Reads.elem (f := cI) (l := l.map fun v => onS v (y0, y1)) (fun _ => rfl) (HR.out.below (Nat.le_refl _) kr) hk (by rw [List.getElem?_map, hv]; rfl)
        subst hpe
        have e0 : wr.cell? ⟨be, oe + k, none⟩ = some (.int .i64 (onS v (y0, y1))) := by have := he 0 _ rfl; simpa using this
        obtain ⟨b, off, A', n', c', rfl, hab, cv, hre, hn', hvn⟩ := h.voice hB kw hk hv
        have gv : l.getD k [] = v := by simp [List.getD, hv]
        have hSN := sndP_next l (y0, y1) k
        have hlen9 : (sndP l (y0, y1) k).length ≤ 8 := by have := sndP_len l (y0, y1) k; omega
        have hSB : soundB (l.getD k []) (y0, y1) = match eventAt v (y0, y1) with | some x => !x.rest | none => false := by rw [gv]; rfl
        have hEA : eventAt v (y0, y1) = match onS v (y0, y1) with | .ofNat k => v[k]? | .negSucc _ => none := rfl
        rcases on_char hval HOK.out with ⟨kk, x, hx, _, hon⟩ | hon
        · have hkl := (List.getElem?_eq_some_iff.1 hx).1
          have hHS : soundB (l.getD k []) (y0, y1) = !x.rest := by rw [hSB, hEA, hon]; simp [hx]
          have hev : eventAt (l.getD k []) (y0, y1) = some x := by rw [gv, hEA, hon]; exact hx
          rw [hHS] at hSN
          rw [hon] at e0
          obtain ⟨b2, off2, hA2, hab2, hc2⟩ := hre.ev (Nat.le_trans hB kw.size) (Below.refl _ wr) (k := kk) (by omega) hx
          subst hA2
          obtain ⟨_, _, _, _, x4, x5, x6, x7, _⟩ := ten hc2
          have hkk : (kk : Int) < (n' : Int) := by omega
          have hkk0 : (0 : Int) ≤ (kk : Int) := by omega
          have HXM := Lib.hid (List.mem_of_getElem? hx)
          have HEV := Lib.hid hev
          clear hc2 hSB hEA hon hx hHS gv hv he hev
          obtain ⟨rs, hrs⟩ : ∃ rs, rs = x.rest := ⟨_, rfl⟩
          rw [← hrs] at x7 hSN
          have HRS := Lib.hid hrs
          clear hrs
          cases rs
          · have HSP := Lib.hid (show insAll (ltV l (y0, y1)) (sndP l (y0, y1) (k + 1)) = ins (ltV l (y0, y1)) k (insAll (ltV l (y0, y1)) (sndP l (y0, y1) k)) by rw [hSN]; unfold insAll; rw [List.foldl_append]; rfl)
            have HPX := Lib.hid (pit_ok hck HXM.out HRS.out.symm)
            clear hSN
            obtain ⟨o, ho⟩ : ∃ o, o = insAll (ltV l (y0, y1)) (sndP l (y0, y1) k) := ⟨_, rfl⟩
            have HOM := Lib.hid (show ∀ y ∈ o, y < l.length ∧ soundB (l.getD y []) (y0, y1) = true from fun y hy => by
              rw [ho] at hy
              have h1 := (insAll_mem (sndP l (y0, y1) k) []).1 hy
              rcases h1 with h1 | h1
              · have h2 := List.mem_filter.1 h1
                have := List.mem_range.1 h2.1
                exact ⟨by have := HL.out; omega, by simpa using h2.2⟩
              · cases h1)
            have hol : o.length ≤ 8 := by
              rw [ho]
              have h1 := (insAll_spec (ltV_tot l (y0, y1)) (sndP l (y0, y1) k) [] (fun _ _ => trivial) (fun _ _ => trivial) (by rw [List.append_nil]; exact List.Pairwise.filter _ List.nodup_range) List.Pairwise.nil).2.length_eq
              rw [List.append_nil] at h1
              show (List.foldl _ [] _).length ≤ 8
              omega
            rw [← ho] at hrow HSP
            have HINS := ins_pos (ltV l (y0, y1)) k o
            clear ho
            obtain ⟨m, hm⟩ : ∃ m, m = o.length := ⟨_, rfl⟩
            have HOL := Lib.hid hm.symm
            rw [← hm] at hrow hol
            clear hm
            obtain ⟨Ao, co, hu8, ro, hmc, hcm⟩ := own_reads hrow
            subst hu8
            have hco : co ≤ 9223372036854775807 := by simp only [maxLen] at hcm; omega
            have RO := Lib.hid ro
            have HROW := Lib.hid hrow
            obtain ⟨wo, rfl⟩ : ∃ wo : World, wo = wr := ⟨_, rfl⟩
            clear hrow ro
            go_wp2_with fail
            go_loopg [11] m (fun g2 a wy => ∃ p : Nat, p + g2 = m ∧ a = .int .i64 p ∧ Hid (∀ (j : Nat) y, j < p → o[j]? = some y → ltV l (y0, y1) y k = true) ∧ Below wo.heap.size wo wy)
            case atStart => exact ⟨0, by omega, rfl, Lib.hid (fun j y hj _ => by omega), Below.refl _ _⟩
            case round =>
              obtain ⟨p, hpg, rfl, hP, kz⟩ := hrel
              cases gk with
              | zero =>
                have hpm : p = m := by omega
                have hple : p ≤ m := by omega
                have HPOS := Lib.hid (show insPos (ltV l (y0, y1)) k o = p from insPos_is hP.out (by have := HOL.out; omega) (fun y hy => by rw [List.getElem?_eq_none (by have := HOL.out; omega)] at hy; cases hy))
                have d0 : ¬ ((p : Int) < (m : Int)) := by omega
                have d1 : decide (p < m) = false := by simp; omega
                have d2 : ¬ (p < m) := by omega
                clear hpm hpg
                go_wp2_with fail
                refine wp_region_calm (by kernel_rfl) (by kernel_rfl) ?_
                repeat (go_big_quiet_step (fail))
                refine wpQuiet_nil ?_
                intro wd gd
                rw [HPOS.out] at HINS
                have ownd := own_call HROW.out (below_call kz gd)
                have bz := kz.size
                have br := kr.size
                have bd := gd.size
                have hH := int_head Ao p m co (by omega)
                obtain ⟨AT, hAT, hT⟩ := int_tail Ao p m co (by omega) (by omega)
                have hob : ∀ x, (Value.slice Ao m co).ownBlock = some x → w2.heap.size ≤ x ∧ x < wd.heap.size := fun x hx => ⟨(ownd.lt x hx).1, (ownd.lt x hx).2⟩
                have rod : Reads wd wd.heap.size 1 Ao m (csJ o) := (RO.out.below (Nat.le_refl _) (below_call kz gd)).more (below_call kz gd).size
                have HHO := Lib.hid hob
                clear hob
                repeat ((fail_if_success at_builtin); go_step)
                refine wpList_append_any _ rfl (.tmp 98) (.tmp 101) 42 rfl w2.heap.size 3 i0 _ 1 8 Try.underlying42 hi0 hz0 hz1 hz2 rfl (by omega) (.slice (some ⟨wd.heap.size, 0, none⟩) 0 0) 0 [] rfl (int_lit wd w2.heap.size wd.heap.size rfl (by omega)) wd.heap.size AT (m - p) (co - p) (csJ (o.drop p)) rfl (reads_dropJ (rod.below (Nat.le_refl _) (below_alloc (Below.refl _ _) _)) (by omega) _ hAT) (one_csJ _) (by simp only [maxLen]; omega) (by omega) (by simp; omega) ?_
                intro v15 w15 hown15 hg15 hat15
                rw [Nat.zero_add, List.nil_append] at hown15
                have own15 := own_keep (own_call ownd (below_alloc (Below.refl wd.heap.size wd) (.cells #[] 3))) hg15 (fun x hx he => by have := (HHO.out x hx).2; have h9 : x = wd.heap.size := Option.some.inj he; omega)
                have h15 := Lib.hid (show ∀ x, v15.ownBlock = some x → wd.heap.size ≤ x from fun x hx => by
                  rcases hat15 with e | e
                  · rw [e] at hx; have h9 : wd.heap.size = x := Option.some.inj hx; omega
                  · rw [e] at hx; cases hx; simp)
                have b15 : Below w2.heap.size wr w15 := Below.grown (B := w2.heap.size) (a := wr) ((below_alloc gd (.cells #[] 3)).mono (by omega)) hg15 (by simp; omega) (fun x hx => by have h9 : wd.heap.size = x := Option.some.inj hx; omega)
                have s15 := b15.size
                have O15 := Lib.hid hown15
                have W15 := Lib.hid own15
                clear hown15 hat15 hg15 own15 ownd rod
                repeat ((fail_if_success at_builtin); go_step)
                refine wpList_append_any _ rfl (.tmp 105) (.tmp 107) 42 rfl w2.heap.size 3 i0 _ 1 8 Try.underlying42 hi0 hz0 hz1 hz2 rfl (by omega) (.slice Ao p co) p (csJ (o.take p)) rfl (own_call (by have := own_prefix (k := p) W15.out (by omega); rw [Nat.mul_one, csJ_take] at this; exact this) (below_alloc (Below.refl _ _) _)) (w15.heap.size + 1) (some ⟨w15.heap.size, 0, none⟩) 1 1 (csJ [k]) rfl (Reads.newAt _ _ _ 1 1 _ rfl rfl) (one_csJ _) (by simp only [maxLen]; omega) (by omega) (by simp; omega) ?_
                intro v16 w16 hown16 hg16 hat16
                have hpb : ∀ x, (Value.slice Ao p co).ownBlock = some x → w2.heap.size ≤ x ∧ x < wd.heap.size := fun x hx => HHO.out x (by cases hA9 : (Ao : Option Addr) with | none => rw [hA9] at hx; cases hx | some a9 => rw [hA9] at hx; exact hx)
                have rest16 := own_keep (own_call O15.out (below_alloc (Below.refl w15.heap.size w15) (.cells #[.int .i64 (k : Int)] 3))) hg16 (fun x hx he => by have := (hpb x he.symm).2; have := h15.out x hx; omega)
                obtain ⟨AR, cR, hAR, rR, _, _⟩ := own_reads rest16
                have b16 : Below w2.heap.size wr w16 := Below.grown (B := w2.heap.size) (a := wr) (b15.alloc (by omega) (.cells #[.int .i64 (k : Int)] 3)) hg16 (by simp; omega) (fun x hx => (hpb x hx).1)
                have s16 := b16.size
                subst hAR
                clear hat16 hg16 rest16 hpb W15 O15
                repeat ((fail_if_success at_builtin); go_step)
                refine wpList_append_any _ rfl (.tmp 108) (.tmp 109) 42 rfl w2.heap.size 3 i0 _ 1 8 Try.underlying42 hi0 hz0 hz1 hz2 rfl (by omega) v16 (p + 1) (csJ (o.take p) ++ csJ [k]) rfl hown16 w16.heap.size AR (m - p) cR (csJ (o.drop p)) rfl rR (one_csJ _) (by simp only [maxLen]; omega) (by omega) (by omega) ?_
                intro v17 w17 hown17 hg17 hat17
                have b17 : Below w2.heap.size wr w17 := Below.grown (B := w2.heap.size) (a := wr) b16 hg17 (by omega) (fun x hx => (hown16.lt x hx).1)
                go_wp2
                go_roundg g
                case measure => omega
                case rel =>
                  refine ⟨k + 1, by omega, by go_num, kr.trans ((kz.mono (by omega)).trans b17), ?_⟩
                  rw [HSP.out, HINS]
                  rw [← csJ_append, ← csJ_append] at hown17
                  have hl9 : (o.take p ++ k :: o.drop p).length = p + 1 + (m - p) := by have := HOL.out; simp; omega
                  have hl8 : o.take p ++ k :: o.drop p = o.take p ++ [k] ++ o.drop p := by simp
                  rw [hl9, hl8]
                  exact hown17
              | succ g2 =>
                have hpm : p < m := by omega
                have hpm' : (p : Int) < (m : Int) := by omega
                obtain ⟨y, hy⟩ := get_some (l := o) (k := p) (by have := HOL.out; omega)
                obtain ⟨hyl, hys⟩ := HOM.out y (List.mem_of_getElem? hy)
                obtain ⟨vy, hvy⟩ := get_some (l := l) (k := y) hyl
                have gy : l.getD y [] = vy := by simp [List.getD, hvy]
                obtain ⟨hev9, hrest9⟩ := sound_ev hys
                have pity : pchk (evK l (y0, y1) y).pit = 0 := by
                  have h1 := hev9
                  rw [gy] at h1
                  obtain ⟨kk9, _, hk9⟩ := eventAt_on h1
                  exact pit_ok (HV.out vy (List.mem_of_getElem? hvy)).1 (List.mem_of_getElem? hk9) hrest9
                have kw2 := below_call kw kz
                rw [gy] at hev9
                obtain ⟨ky, hky, hxy⟩ := eventAt_on hev9
                obtain ⟨b3, o3, A3, n3, c3, e3, hb3, cv3, r3, _, hn3⟩ := h.voice hB kw2 (show y < q by have := HL.out; omega) hvy
                cases e3
                obtain ⟨be2, oe2, e4, hbe2, he2⟩ := Reads.elem (f := cI) (l := l.map fun v => onS v (y0, y1)) (fun _ => rfl) (HR.out.below (Nat.le_refl _) (below_call kr kz)) (show y < q by have := HL.out; omega) (by rw [List.getElem?_map, hvy]; rfl)
                cases e4
                have e5 : wr.cell? ⟨be, oe + y, none⟩ = some (.int .i64 (ky : Int)) := by have h0 : wr.cell? ⟨be, oe + (y * 1 + 0), none⟩ = some (.int .i64 (onS vy (y0, y1))) := he2 0 _ rfl; rw [hky] at h0; simpa using h0
                obtain ⟨b4, o4, hA4, hb4, hc4⟩ := r3.ev (Nat.le_trans hB kw2.size) (Below.refl _ wr) (k := ky) (by have := (List.getElem?_eq_some_iff.1 hxy).1; omega) hxy
                subst hA4
                obtain ⟨_, _, _, _, z4, z5, z6, _⟩ := ten hc4
                have lky : (ky : Int) < (n3 : Int) := by have := (List.getElem?_eq_some_iff.1 hxy).1; omega
                have lyq : (y : Int) < (q : Int) := by have := HL.out; omega
                obtain ⟨bo, oo, hAo, hbo, hco9⟩ := Reads.elem (f := cI) (l := o.map fun (x : Nat) => (x : Int)) (fun _ => rfl) (RO.out.below (Nat.le_refl _) kz) hpm (by rw [List.getElem?_map, hy]; rfl)
                have eo : wr.cell? ⟨bo, oo + p, none⟩ = some (.int .i64 (y : Int)) := by have h0 : wr.cell? ⟨bo, oo + (p * 1 + 0), none⟩ = some (.int .i64 (y : Int)) := hco9 0 _ rfl; simpa using h0
                have t4 := (kz.cell (p := ⟨bs, os + i * 5 + 4, none⟩) lS).trans s4
                have tv := (kz.cell (p := ⟨b, off + k, none⟩) hab).trans cv
                have u4 := (kz.cell (p := ⟨b2, off2 + kk * 10 + 4, none⟩) hab2).trans x4
                have u5 := (kz.cell (p := ⟨b2, off2 + kk * 10 + 5, none⟩) hab2).trans x5
                have u6 := (kz.cell (p := ⟨b2, off2 + kk * 10 + 6, none⟩) hab2).trans x6
                have kzs := kz.size
                have l1 : bs < wr.heap.size := by omega
                have l2 : b < wr.heap.size := by omega
                have l3 : b2 < wr.heap.size := by omega
                have l5 : be < wr.heap.size := by have := kr.size; omega
                have l6 : bo < wr.heap.size := by omega
                have HCell := Lib.hid (And.intro hAo (And.intro hev9 gy))
                have q7 := lower_any (y : Int) (k : Int) (evK l (y0, y1) y).pit x.pit pity HPX.out
                have D : ltK (numP (evK l (y0, y1) y).pit, (evK l (y0, y1) y).pit.2.2, (y : Int)) (numP x.pit, x.pit.2.2, (k : Int)) = ltV l (y0, y1) y k := by
                  unfold ltV
                  rw [show keyOf l (y0, y1) y = (numP (evK l (y0, y1) y).pit, (evK l (y0, y1) y).pit.2.2, (y : Int)) by unfold keyOf; rw [gy, hev9], show keyOf l (y0, y1) k = (numP x.pit, x.pit.2.2, (k : Int)) by unfold keyOf; rw [HEV.out]]
                rw [D] at q7
                have HY2 := Lib.hid hy
                obtain ⟨⟨py0, py1, py2⟩, hpy⟩ : ∃ y9, y9 = (evK l (y0, y1) y).pit := ⟨_, rfl⟩
                obtain ⟨⟨px0, px1, px2⟩, hpx⟩ : ∃ y9, y9 = x.pit := ⟨_, rfl⟩
                rw [← hpy] at q7 z4 z5 z6
                rw [← hpx] at q7 u4 u5 u6
                simp only at q7 z4 z5 z6 u4 u5 u6
                clear D hpy hpx hc4 hco9 he2 hxy hky hvy gy hev9 hrest9 pity hys hy x4 x5 x6 cv s4
                subst hAo
                by_cases hl : ltV l (y0, y1) y k = true
                · have HP2 := Lib.hid (show ∀ (j : Nat) z, j < p + 1 → o[j]? = some z → ltV l (y0, y1) z k = true from fun j z hj hz => by
                    by_cases hjp : j = p
                    · subst hjp; rw [HY2.out] at hz; cases hz; exact hl
                    · exact hP.out j z (by omega) hz)
                  have wp : IntKind.i64.wrap ((p : Int) + 1) = (p : Int) + 1 := IntWalk.i64_in _ (by omega)
                  rw [hl] at q7
                  clear hl
                  go_wp2_with fail
                  refine wp_region_calm (by kernel_rfl) (by kernel_rfl) ?_
                  repeat (go_big_quiet_step ((go_at_call 54; with_reducible exact calm_call (q7 _))))
                  refine wpQuiet_nil ?_
                  intro wd gd
                  go_wp2
                  go_roundg g2
                  case measure => omega
                  case rel => exact ⟨p + 1, by omega, by go_num, HP2, below_call kz gd⟩
                · have hlf : ltV l (y0, y1) y k = false := by simpa using hl
                  have HPOS := Lib.hid (show insPos (ltV l (y0, y1)) k o = p from insPos_is hP.out (by have := HOL.out; omega) (fun z hz => by rw [HY2.out] at hz; cases hz; exact hlf))
                  rw [hlf] at q7
                  clear hl hlf
                  go_wp2_with fail
                  refine wp_region_calm (by kernel_rfl) (by kernel_rfl) ?_
                  repeat (go_big_quiet_step ((go_at_call 54; with_reducible exact calm_call (q7 _))))
                  refine wpQuiet_nil ?_
                  intro wd gd
                  rw [HPOS.out] at HINS
                  have ownd := own_call HROW.out (below_call kz gd)
                  have bz := kz.size
                  have br := kr.size
                  have bd := gd.size
                  have hH := int_head (some ⟨bo, oo, none⟩) p m co (by omega)
                  obtain ⟨AT, hAT, hT⟩ := int_tail (some ⟨bo, oo, none⟩) p m co (by omega) (by omega)
                  have hob : ∀ x, (Value.slice (some ⟨bo, oo, none⟩) m co).ownBlock = some x → w2.heap.size ≤ x ∧ x < wd.heap.size := fun x hx => ⟨(ownd.lt x hx).1, (ownd.lt x hx).2⟩
                  have rod : Reads wd wd.heap.size 1 (some ⟨bo, oo, none⟩) m (csJ o) := (RO.out.below (Nat.le_refl _) (below_call kz gd)).more (below_call kz gd).size
                  have HHO := Lib.hid hob
                  clear hob
                  repeat ((fail_if_success at_builtin); go_step)
                  refine wpList_append_any _ rfl (.tmp 98) (.tmp 101) 42 rfl w2.heap.size 3 i0 _ 1 8 Try.underlying42 hi0 hz0 hz1 hz2 rfl (by omega) (.slice (some ⟨wd.heap.size, 0, none⟩) 0 0) 0 [] rfl (int_lit wd w2.heap.size wd.heap.size rfl (by omega)) wd.heap.size AT (m - p) (co - p) (csJ (o.drop p)) rfl (reads_dropJ (rod.below (Nat.le_refl _) (below_alloc (Below.refl _ _) _)) (by omega) _ hAT) (one_csJ _) (by simp only [maxLen]; omega) (by omega) (by simp; omega) ?_
                  intro v15 w15 hown15 hg15 hat15
                  rw [Nat.zero_add, List.nil_append] at hown15
                  have own15 := own_keep (own_call ownd (below_alloc (Below.refl wd.heap.size wd) (.cells #[] 3))) hg15 (fun x hx he => by have := (HHO.out x hx).2; have h9 : x = wd.heap.size := Option.some.inj he; omega)
                  have h15 := Lib.hid (show ∀ x, v15.ownBlock = some x → wd.heap.size ≤ x from fun x hx => by
                    rcases hat15 with e | e
                    · rw [e] at hx; have h9 : wd.heap.size = x := Option.some.inj hx; omega
                    · rw [e] at hx; cases hx; simp)
                  have b15 : Below w2.heap.size wr w15 := Below.grown (B := w2.heap.size) (a := wr) ((below_alloc gd (.cells #[] 3)).mono (by omega)) hg15 (by simp; omega) (fun x hx => by have h9 : wd.heap.size = x := Option.some.inj hx; omega)
                  have s15 := b15.size
                  have O15 := Lib.hid hown15
                  have W15 := Lib.hid own15
                  clear hown15 hat15 hg15 own15 ownd rod
                  repeat ((fail_if_success at_builtin); go_step)
                  refine wpList_append_any _ rfl (.tmp 105) (.tmp 107) 42 rfl w2.heap.size 3 i0 _ 1 8 Try.underlying42 hi0 hz0 hz1 hz2 rfl (by omega) (.slice (some ⟨bo, oo, none⟩) p co) p (csJ (o.take p)) rfl (own_call (by have := own_prefix (k := p) W15.out (by omega); rw [Nat.mul_one, csJ_take] at this; exact this) (below_alloc (Below.refl _ _) _)) (w15.heap.size + 1) (some ⟨w15.heap.size, 0, none⟩) 1 1 (csJ [k]) rfl (Reads.newAt _ _ _ 1 1 _ rfl rfl) (one_csJ _) (by simp only [maxLen]; omega) (by omega) (by simp; omega) ?_
                  intro v16 w16 hown16 hg16 hat16
                  have hpb : ∀ x, (Value.slice (some ⟨bo, oo, none⟩) p co).ownBlock = some x → w2.heap.size ≤ x ∧ x < wd.heap.size := fun x hx => HHO.out x (by cases hA9 : ((some ⟨bo, oo, none⟩) : Option Addr) with | none => rw [hA9] at hx; cases hx | some a9 => rw [hA9] at hx; exact hx)
                  have rest16 := own_keep (own_call O15.out (below_alloc (Below.refl w15.heap.size w15) (.cells #[.int .i64 (k : Int)] 3))) hg16 (fun x hx he => by have := (hpb x he.symm).2; have := h15.out x hx; omega)
                  obtain ⟨AR, cR, hAR, rR, _, _⟩ := own_reads rest16
                  have b16 : Below w2.heap.size wr w16 := Below.grown (B := w2.heap.size) (a := wr) (b15.alloc (by omega) (.cells #[.int .i64 (k : Int)] 3)) hg16 (by simp; omega) (fun x hx => (hpb x hx).1)
                  have s16 := b16.size
                  subst hAR
                  clear hat16 hg16 rest16 hpb W15 O15
                  repeat ((fail_if_success at_builtin); go_step)
                  refine wpList_append_any _ rfl (.tmp 108) (.tmp 109) 42 rfl w2.heap.size 3 i0 _ 1 8 Try.underlying42 hi0 hz0 hz1 hz2 rfl (by omega) v16 (p + 1) (csJ (o.take p) ++ csJ [k]) rfl hown16 w16.heap.size AR (m - p) cR (csJ (o.drop p)) rfl rR (one_csJ _) (by simp only [maxLen]; omega) (by omega) (by omega) ?_
                  intro v17 w17 hown17 hg17 hat17
                  have b17 : Below w2.heap.size wr w17 := Below.grown (B := w2.heap.size) (a := wr) b16 hg17 (by omega) (fun x hx => (hown16.lt x hx).1)
                  go_wp2
                  go_roundg g
                  case measure => omega
                  case rel =>
                    refine ⟨k + 1, by omega, by go_num, kr.trans ((kz.mono (by omega)).trans b17), ?_⟩
                    rw [HSP.out, HINS]
                    rw [← csJ_append, ← csJ_append] at hown17
                    have hl9 : (o.take p ++ k :: o.drop p).length = p + 1 + (m - p) := by have := HOL.out; simp; omega
                    have hl8 : o.take p ++ k :: o.drop p = o.take p ++ [k] ++ o.drop p := by simp
                    rw [hl9, hl8]
                    exact hown17
          · have HSP := Lib.hid (show insAll (ltV l (y0, y1)) (sndP l (y0, y1) (k + 1)) = insAll (ltV l (y0, y1)) (sndP l (y0, y1) k) by rw [hSN]; simp)
            clear hSN
            go_wp2
            go_roundg g
            case measure => omega
            case rel => exact ⟨k + 1, by omega, by go_num, kr, by rw [HSP.out]; exact hrow⟩
        · have HSP := Lib.hid (show insAll (ltV l (y0, y1)) (sndP l (y0, y1) (k + 1)) = insAll (ltV l (y0, y1)) (sndP l (y0, y1) k) by rw [hSN, hSB, hEA, hon]; exact congrArg (insAll _) (List.append_nil _))
          rw [hon] at e0
          clear hSB hEA hon hSN gv hv he
          have n1 : ((-1 : Int) < 0) := by omega
          go_wp2
          go_roundg g
          case measure => omega
          case rel => exact ⟨k + 1, by omega, by go_num, kr, by rw [HSP.out]; exact hrow⟩
  · have hne : ((slicesE l).2 != 0) = true := by simpa using he
    have E := Lib.hid (show soundsE l j = ([], (slicesE l).2) by unfold soundsE; rw [if_pos he])
    clear he ho1
    go_wp2
    refine ret_of (by simp [results, Try.results25, go_sem, *]; repeat' (first | rfl | apply And.intro)) rfl ⟨.slice none 0 0, ?_, ?_, by repeat (first | with_reducible exact Below.refl _ _ | with_reducible assumption | with_reducible refine below_drewN ?_ _ | with_reducible refine Below.drew ?_ | with_reducible refine below_alloc ?_ _ | (with_reducible refine Below.setCell ?_ ?_ _; rotate_left; ((try simp only); omega)))⟩
    · rw [E.out]
    · rw [E.out]; exact ⟨rfl, .inl ⟨rfl, rfl⟩⟩
end Go.Proofs.Ytbljfaocmeeljaa
