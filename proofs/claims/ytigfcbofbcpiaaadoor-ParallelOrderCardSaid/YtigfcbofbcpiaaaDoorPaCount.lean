
/- How many forbidden motions there are, and the first one: the program's and the reference's Count and First. -/
import Derived.Test.YtigfcbofbcpiaaaDoorPaPair
namespace Go.Proofs.YtigfcbofbcpiaaaDoor
open Go.RowKit
theorem mot_kinds (va vb : List Ev) (m : List Tm) (n : Nat) : (motE va vb m n).1 = 0 ∨ (motE va vb m n).1 = 1 ∨ (motE va vb m n).1 = 2 ∨ (motE va vb m n).1 = 3 := by
  unfold motE
  split
  · exact .inl rfl
  · split
    · exact .inl rfl
    · split
      · split <;> simp
      · split <;> split <;> simp
theorem findE_kinds {l : List (List Ev)} {p : Par} (h : p ∈ (findE l).1) : p.kind = 1 ∨ p.kind = 2 ∨ p.kind = 3 := by
  unfold findE at h
  split at h
  · simp at h
  · simp only at h
    obtain ⟨n, _, h⟩ := List.mem_flatMap.1 h
    unfold allM at h
    obtain ⟨a, _, h⟩ := List.mem_flatMap.1 h
    unfold rowM at h
    obtain ⟨b, _, h⟩ := List.mem_flatMap.1 h
    unfold motL at h
    split at h
    · rename_i h0
      rw [List.mem_singleton] at h
      subst h
      have := mot_kinds (l.getD a []) (l.getD b []) (momS l) n
      simp only
      omega
    · simp at h
theorem cnt_next (k : Int) {l : List Par} {i : Nat} {x : Par} (h : l[i]? = some x) : cntP k (l.take (i + 1)) = cntP k (l.take i) + (if x.kind = k then 1 else 0) := by
  unfold cntP
  rw [filter_next _ h, List.length_append]
  by_cases hk : x.kind = k <;> simp [hk]
theorem cnt_bd (k : Int) (l : List Par) (i : Nat) : 0 ≤ cntP k (l.take i) ∧ cntP k (l.take i) ≤ l.length := by
  unfold cntP
  have := filter_bd (fun p : Par => decide (p.kind = k)) l i
  omega
theorem countE_err {l : List (List Ev)} (h : (findE l).2 ≠ 0) : countE l = ([], (findE l).2) := by unfold countE; rw [if_pos h]
theorem countE_in {l : List (List Ev)} (h : (findE l).2 = 0) : countE l = ([((findE l).1.length : Int), cntP 1 (findE l).1, cntP 2 (findE l).1, cntP 3 (findE l).1], 0) := by unfold countE; rw [if_neg (fun hh => hh h)]
def CountRet (R : List Int × Int) (e : Ending) (w' : World) : Prop := ∃ A c, e = .returned (.tuple #[.slice A R.1.length c, .int .i64 R.2]) ∧ Reads w' w'.heap.size 1 A R.1.length (csN R.1)
/-- The four counts, k of the motions seen. -/
@[reducible] def tally (F : List Par) (z : Int) (k : Nat) : Array Value := #[.int .i64 z, .int .i64 (cntP 1 (F.take k)), .int .i64 (cntP 2 (F.take k)), .int .i64 (cntP 3 (F.take k))]
set_option maxRecDepth 100000 in
set_option maxHeartbeats 8000000 in
theorem count_any (A : Option Addr) (n c : Nat) (l : List (List Ev)) (B : Nat) (w : World) (h : ReadsV w B A n l) (hB : B ≤ w.heap.size) (hn : n ≤ 9223372036854775807) (ht : Tabs w) :
    Calls Tryd.prog 23 #[.slice A n c] w fun e w' => CountRet (countE l) e w' ∧ Below w.heap.size w w' := by
  have q1 := find_any A n c l B w h hB hn ht
  have HFB := findE_len l
  have HFK := Lib.hid (fun p (hp : p ∈ (findE l).1) => findE_kinds hp)
  obtain ⟨R, hR⟩ : ∃ R, R = countE l := ⟨_, rfl⟩
  rw [← hR]
  go_enter Tryd.func23, Tryd.ntmps23
  go_wp2_with fail
  refine q1.mono ?_
  rintro e w1 ⟨v1, rfl, ho1, k1⟩
  obtain ⟨S, d, rfl, rs, hcap⟩ := own_reads ho1
  by_cases he : (findE l).2 = 0
  · have E := Lib.hid (show R = ([((findE l).1.length : Int), cntP 1 (findE l).1, cntP 2 (findE l).1, cntP 3 (findE l).1], 0) by rw [hR]; exact countE_in he)
    rw [he]
    obtain ⟨F, hF⟩ : ∃ F, F = (findE l).1 := ⟨_, rfl⟩
    rw [← hF] at E rs HFB HFK ⊢
    obtain ⟨N, hN⟩ : ∃ N, N = F.length := ⟨_, rfl⟩
    rw [← hN] at rs HFB E ⊢
    have HN := Lib.hid hN
    clear hR hF hN ho1 he
    go_wp2_with fail

    go_loopg [8, 19] N (fun gh _ i wr => ∃ k : Nat, k + gh = N ∧ i = .int .i64 (k : Int) ∧ Blk wr w1.heap.size 54 (tally F (k : Int) k) ∧ Below w1.heap.size w1 wr)
    case atStart => exact ⟨0, by omega, rfl, Blk.new _ _ _, below_alloc (Below.refl _ _) _⟩
    case round =>
      obtain ⟨k, hkg, rfl, hbk, kr⟩ := hrel
      have wk : IntKind.i64.wrap ((k : Int) + 1) = (k : Int) + 1 := IntWalk.i64_in _ (by omega)
      have lk := hbk.lt
      cases gk with
      | zero =>
        have hk : k = N := by omega
        have d0 : ¬ ((k : Int) < (N : Int)) := by omega
        have HF := Lib.hid (show F.take k = F by rw [List.take_of_length_le]; rw [← HN.out]; omega)
        unfold tally at hbk
        rw [HF.out] at hbk
        clear hkg rs
        go_wp2
        refine ret_of (by simp [results, Tryd.results23, go_sem, *]; repeat' (first | rfl | apply And.intro)) rfl ⟨⟨some ⟨w1.heap.size, 0, none⟩, 4, ?_, ?_⟩, below_call k1 kr⟩
        · rw [E.out]; rfl
        · rw [E.out]
          refine ⟨rfl, fun _ => ⟨_, _, rfl, lk, fun j u hu => ?_⟩⟩
          rw [Nat.zero_add, hbk.cell, show (k : Int) = (N : Int) from by omega]
          simpa [csN, cI] using hu
      | succ g =>
        have hk : k < N := by omega
        have d0 : (k : Int) < (N : Int) := by omega
        obtain ⟨x, hx⟩ := get_some (l := F) (k := k) (by have := HN.out; omega)
        obtain ⟨bb, off, rfl, hbb, c0, c1, c2, c3, c4⟩ := rs.par (Nat.le_refl _) kr hk hx
        have hkd := HFK.out x (List.mem_of_getElem? hx)
        have T1 := Lib.hid (cnt_next 1 hx)
        have T2 := Lib.hid (cnt_next 2 hx)
        have T3 := Lib.hid (cnt_next 3 hx)
        have b1 := cnt_bd 1 F k
        have b2 := cnt_bd 2 F k
        have b3 := cnt_bd 3 F k
        rw [← HN.out] at b1 b2 b3
        have e0 := hbk.cell 0
        have e1 := hbk.cell 1
        have e2 := hbk.cell 2
        have e3 := hbk.cell 3
        have ef := hbk.frozen
        obtain ⟨n1, hn1⟩ : ∃ y, y = cntP 1 (F.take k) := ⟨_, rfl⟩
        obtain ⟨n2, hn2⟩ : ∃ y, y = cntP 2 (F.take k) := ⟨_, rfl⟩
        obtain ⟨n3, hn3⟩ : ∃ y, y = cntP 3 (F.take k) := ⟨_, rfl⟩
        simp only [tally, ← hn1, ← hn2, ← hn3] at e0 e1 e2 e3 b1 b2 b3 T1 T2 T3 hbk
        clear hn1 hn2 hn3
        have w1' : IntKind.i64.wrap (n1 + 1) = n1 + 1 := IntWalk.i64_in _ (by omega)
        have w2' : IntKind.i64.wrap (n2 + 1) = n2 + 1 := IntWalk.i64_in _ (by omega)
        have w3' : IntKind.i64.wrap (n3 + 1) = n3 + 1 := IntWalk.i64_in _ (by omega)
        obtain ⟨x0, xa, xb, xk, xs⟩ := x
        simp only at c0 c1 c2 c3 c4 hkd T1 T2 T3
        clear hx
        rcases hkd with rfl | rfl | rfl
        · go_wp2
          go_roundg g
          case measure => omega
          case rel => exact ⟨k + 1, by omega, by go_num, by have hb := ((hbk.set_ 0 (.int .i64 ((k : Int) + 1))).set_ 1 (.int .i64 (n1 + 1))); simpa [tally, T1.out, T2.out, T3.out] using hb.alloc _, by repeat (first | with_reducible exact Below.refl _ _ | with_reducible assumption | with_reducible refine below_drewN ?_ _ | with_reducible refine Below.drew ?_ | with_reducible refine below_alloc ?_ _ | (with_reducible refine Below.setCell ?_ ?_ _; rotate_left; ((try simp only); omega)))⟩
        · go_wp2
          go_roundg g
          case measure => omega
          case rel => exact ⟨k + 1, by omega, by go_num, by have hb := ((hbk.set_ 0 (.int .i64 ((k : Int) + 1))).set_ 2 (.int .i64 (n2 + 1))); simpa [tally, T1.out, T2.out, T3.out] using hb.alloc _, by repeat (first | with_reducible exact Below.refl _ _ | with_reducible assumption | with_reducible refine below_drewN ?_ _ | with_reducible refine Below.drew ?_ | with_reducible refine below_alloc ?_ _ | (with_reducible refine Below.setCell ?_ ?_ _; rotate_left; ((try simp only); omega)))⟩
        · go_wp2
          go_roundg g
          case measure => omega
          case rel => exact ⟨k + 1, by omega, by go_num, by have hb := ((hbk.set_ 0 (.int .i64 ((k : Int) + 1))).set_ 3 (.int .i64 (n3 + 1))); simpa [tally, T1.out, T2.out, T3.out] using hb.alloc _, by repeat (first | with_reducible exact Below.refl _ _ | with_reducible assumption | with_reducible refine below_drewN ?_ _ | with_reducible refine Below.drew ?_ | with_reducible refine below_alloc ?_ _ | (with_reducible refine Below.setCell ?_ ?_ _; rotate_left; ((try simp only); omega)))⟩
  · have hne : ((findE l).2 != 0) = true := by simpa using he
    have E := Lib.hid (show R = ([], (findE l).2) by rw [hR]; exact countE_err he)
    obtain ⟨er, her⟩ : ∃ x, x = (findE l).2 := ⟨_, rfl⟩
    rw [← her] at hne E ⊢
    clear he her ho1 hR rs HFK
    go_wp2
    refine ret_of (by simp [results, Tryd.results23, go_sem, *]; repeat' (first | rfl | apply And.intro)) rfl ⟨⟨none, 0, ?_, ?_⟩, by repeat (first | with_reducible exact Below.refl _ _ | with_reducible assumption | with_reducible refine below_drewN ?_ _ | with_reducible refine Below.drew ?_ | with_reducible refine below_alloc ?_ _ | (with_reducible refine Below.setCell ?_ ?_ _; rotate_left; ((try simp only); omega)))⟩
    · rw [E.out]; rfl
    · rw [E.out]; exact Reads.none_
set_option maxRecDepth 100000 in
set_option maxHeartbeats 8000000 in
theorem rcount_any (A : Option Addr) (n c : Nat) (l : List (List Ev)) (B : Nat) (w : World) (h : ReadsV w B A n l) (hB : B ≤ w.heap.size) (hn : n ≤ 9223372036854775807)  :
    Calls Tryd.prog 24 #[.slice A n c] w fun e w' => CountRet (countE l) e w' ∧ Below w.heap.size w w' := by
  have q1 := rfind_any A n c l B w h hB hn
  have HFB := findE_len l
  have HFK := Lib.hid (fun p (hp : p ∈ (findE l).1) => findE_kinds hp)
  obtain ⟨R, hR⟩ : ∃ R, R = countE l := ⟨_, rfl⟩
  rw [← hR]
  go_enter Tryd.func24, Tryd.ntmps24
  go_wp2_with fail
  refine q1.mono ?_
  rintro e w1 ⟨v1, rfl, ho1, k1⟩
  obtain ⟨S, d, rfl, rs, hcap⟩ := own_reads ho1
  by_cases he : (findE l).2 = 0
  · have E := Lib.hid (show R = ([((findE l).1.length : Int), cntP 1 (findE l).1, cntP 2 (findE l).1, cntP 3 (findE l).1], 0) by rw [hR]; exact countE_in he)
    rw [he]
    obtain ⟨F, hF⟩ : ∃ F, F = (findE l).1 := ⟨_, rfl⟩
    rw [← hF] at E rs HFB HFK ⊢
    obtain ⟨N, hN⟩ : ∃ N, N = F.length := ⟨_, rfl⟩
    rw [← hN] at rs HFB E ⊢
    have HN := Lib.hid hN
    clear hR hF hN ho1 he
    go_wp2_with fail

    go_loopg [7] N (fun gh i wr => ∃ k : Nat, k + gh = N ∧ i = .int .i64 (k : Int) ∧ Blk wr w1.heap.size 3 (tally F (N : Int) k) ∧ Below w1.heap.size w1 wr)
    case atStart => exact ⟨0, by omega, rfl, Blk.new _ _ _, below_alloc (Below.refl _ _) _⟩
    case round =>
      obtain ⟨k, hkg, rfl, hbk, kr⟩ := hrel
      have wk : IntKind.i64.wrap ((k : Int) + 1) = (k : Int) + 1 := IntWalk.i64_in _ (by omega)
      have lk := hbk.lt
      cases gk with
      | zero =>
        have hk : k = N := by omega
        have d0 : ¬ ((k : Int) < (N : Int)) := by omega
        have HF := Lib.hid (show F.take k = F by rw [List.take_of_length_le]; rw [← HN.out]; omega)
        unfold tally at hbk
        rw [HF.out] at hbk
        clear hkg rs
        go_wp2
        refine ret_of (by simp [results, Tryd.results24, go_sem, *]; repeat' (first | rfl | apply And.intro)) rfl ⟨⟨some ⟨w1.heap.size, 0, none⟩, 4, ?_, ?_⟩, below_call k1 kr⟩
        · rw [E.out]; rfl
        · rw [E.out]
          refine ⟨rfl, fun _ => ⟨_, _, rfl, lk, fun j u hu => ?_⟩⟩
          rw [Nat.zero_add, hbk.cell, show (N : Int) = (N : Int) from rfl]
          simpa [csN, cI] using hu
      | succ g =>
        have hk : k < N := by omega
        have d0 : (k : Int) < (N : Int) := by omega
        obtain ⟨x, hx⟩ := get_some (l := F) (k := k) (by have := HN.out; omega)
        obtain ⟨bb, off, rfl, hbb, c0, c1, c2, c3, c4⟩ := rs.par (Nat.le_refl _) kr hk hx
        have hkd := HFK.out x (List.mem_of_getElem? hx)
        have T1 := Lib.hid (cnt_next 1 hx)
        have T2 := Lib.hid (cnt_next 2 hx)
        have T3 := Lib.hid (cnt_next 3 hx)
        have b1 := cnt_bd 1 F k
        have b2 := cnt_bd 2 F k
        have b3 := cnt_bd 3 F k
        rw [← HN.out] at b1 b2 b3
        have e0 := hbk.cell 0
        have e1 := hbk.cell 1
        have e2 := hbk.cell 2
        have e3 := hbk.cell 3
        have ef := hbk.frozen
        obtain ⟨n1, hn1⟩ : ∃ y, y = cntP 1 (F.take k) := ⟨_, rfl⟩
        obtain ⟨n2, hn2⟩ : ∃ y, y = cntP 2 (F.take k) := ⟨_, rfl⟩
        obtain ⟨n3, hn3⟩ : ∃ y, y = cntP 3 (F.take k) := ⟨_, rfl⟩
        simp only [tally, ← hn1, ← hn2, ← hn3] at e0 e1 e2 e3 b1 b2 b3 T1 T2 T3 hbk
        clear hn1 hn2 hn3
        have w1' : IntKind.i64.wrap (n1 + 1) = n1 + 1 := IntWalk.i64_in _ (by omega)
        have w2' : IntKind.i64.wrap (n2 + 1) = n2 + 1 := IntWalk.i64_in _ (by omega)
        have w3' : IntKind.i64.wrap (n3 + 1) = n3 + 1 := IntWalk.i64_in _ (by omega)
        obtain ⟨x0, xa, xb, xk, xs⟩ := x
        simp only at c0 c1 c2 c3 c4 hkd T1 T2 T3
        clear hx
        rcases hkd with rfl | rfl | rfl
        · go_wp2
          go_roundg g
          case measure => omega
          case rel => exact ⟨k + 1, by omega, by go_num, by have hb := (hbk.set_ 1 (.int .i64 (n1 + 1))); simpa [tally, T1.out, T2.out, T3.out] using hb, by repeat (first | with_reducible exact Below.refl _ _ | with_reducible assumption | with_reducible refine below_drewN ?_ _ | with_reducible refine Below.drew ?_ | with_reducible refine below_alloc ?_ _ | (with_reducible refine Below.setCell ?_ ?_ _; rotate_left; ((try simp only); omega)))⟩
        · go_wp2
          go_roundg g
          case measure => omega
          case rel => exact ⟨k + 1, by omega, by go_num, by have hb := (hbk.set_ 2 (.int .i64 (n2 + 1))); simpa [tally, T1.out, T2.out, T3.out] using hb, by repeat (first | with_reducible exact Below.refl _ _ | with_reducible assumption | with_reducible refine below_drewN ?_ _ | with_reducible refine Below.drew ?_ | with_reducible refine below_alloc ?_ _ | (with_reducible refine Below.setCell ?_ ?_ _; rotate_left; ((try simp only); omega)))⟩
        · go_wp2
          go_roundg g
          case measure => omega
          case rel => exact ⟨k + 1, by omega, by go_num, by have hb := (hbk.set_ 3 (.int .i64 (n3 + 1))); simpa [tally, T1.out, T2.out, T3.out] using hb, by repeat (first | with_reducible exact Below.refl _ _ | with_reducible assumption | with_reducible refine below_drewN ?_ _ | with_reducible refine Below.drew ?_ | with_reducible refine below_alloc ?_ _ | (with_reducible refine Below.setCell ?_ ?_ _; rotate_left; ((try simp only); omega)))⟩
  · have hne : ((findE l).2 != 0) = true := by simpa using he
    have E := Lib.hid (show R = ([], (findE l).2) by rw [hR]; exact countE_err he)
    obtain ⟨er, her⟩ : ∃ x, x = (findE l).2 := ⟨_, rfl⟩
    rw [← her] at hne E ⊢
    clear he her ho1 hR rs HFK
    go_wp2
    refine ret_of (by simp [results, Tryd.results24, go_sem, *]; repeat' (first | rfl | apply And.intro)) rfl ⟨⟨none, 0, ?_, ?_⟩, by repeat (first | with_reducible exact Below.refl _ _ | with_reducible assumption | with_reducible refine below_drewN ?_ _ | with_reducible refine Below.drew ?_ | with_reducible refine below_alloc ?_ _ | (with_reducible refine Below.setCell ?_ ?_ _; rotate_left; ((try simp only); omega)))⟩
    · rw [E.out]; rfl
    · rw [E.out]; exact Reads.none_
@[reducible] def vPar (p : Par) : Value := .agg #[.int .i64 p.n, .int .i64 p.a, .int .i64 p.b, .int .i64 p.kind, .int .i64 p.steps]
theorem firstP_nil {l : List (List Ev)} (h : (findE l).1 = []) : firstP l = (zeroPar, false, (findE l).2) := by unfold firstP; rw [h]
theorem firstP_err {l : List (List Ev)} (h : (findE l).2 ≠ 0) : firstP l = (zeroPar, false, (findE l).2) := by
  unfold firstP
  split
  · rfl
  · rw [if_pos h]
theorem firstP_in {l : List (List Ev)} {p : Par} (h : (findE l).2 = 0) (hp : (findE l).1[0]? = some p) : firstP l = (p, true, 0) := by
  unfold firstP
  split
  · rename_i e; rw [e] at hp; simp at hp
  · rename_i q _ e
    rw [e] at hp
    simp only [List.getElem?_cons_zero, Option.some.injEq] at hp
    rw [hp, if_neg (fun hh => hh h)]
set_option maxRecDepth 100000 in
set_option maxHeartbeats 8000000 in
theorem firstM_any (A : Option Addr) (n c : Nat) (l : List (List Ev)) (B : Nat) (w : World) (h : ReadsV w B A n l) (hB : B ≤ w.heap.size) (hn : n ≤ 9223372036854775807) (ht : Tabs w) :
    Calls Tryd.prog 25 #[.slice A n c] w fun e w' => e = .returned (.tuple #[vPar (firstP l).1, .bool (firstP l).2.1, .int .i64 (firstP l).2.2]) ∧ Below w.heap.size w w' := by
  have r0 : Blk (w.alloc (.cells #[.int .i64 0, .int .i64 0, .int .i64 0, .int .i64 0, .int .i64 0] 41)) w.heap.size 41 #[.int .i64 0, .int .i64 0, .int .i64 0, .int .i64 0, .int .i64 0] := Blk.new _ _ _
  have k0 : Below w.heap.size w (w.alloc (.cells #[.int .i64 0, .int .i64 0, .int .i64 0, .int .i64 0, .int .i64 0] 41)) := by repeat (first | with_reducible exact Below.refl _ _ | with_reducible assumption | with_reducible refine below_drewN ?_ _ | with_reducible refine Below.drew ?_ | with_reducible refine below_alloc ?_ _ | (with_reducible refine Below.setCell ?_ ?_ _; rotate_left; ((try simp only); omega)))
  have q1 := find_any A n c l B _ (h.below hB k0) (Nat.le_trans hB k0.size) hn (ht.kept k0)
  obtain ⟨R, hR⟩ : ∃ R, R = firstP l := ⟨_, rfl⟩
  rw [← hR]
  go_enter Tryd.func25, Tryd.ntmps25
  go_wp2_with fail
  refine q1.mono ?_
  rintro e w1 ⟨v1, rfl, ho1, kb⟩
  have r1 := r0.kept kb
  have k1 := below_call k0 kb
  have e0 := r1.cell 0
  have e1 := r1.cell 1
  have e2 := r1.cell 2
  have e3 := r1.cell 3
  have e4 := r1.cell 4
  have ef := r1.frozen
  have el := r1.lt
  obtain ⟨S, d, rfl, rs, hcap⟩ := own_reads ho1
  have HL := Lib.hid rs.plen
  clear kb ho1 r0 k0 h q1
  by_cases he : (findE l).2 = 0
  · cases hF : (findE l).1 with
    | nil =>
      have E := Lib.hid (show R = (zeroPar, false, 0) by rw [hR, firstP_nil hF, he])
      rw [he]
      clear rs hR hF he hcap HL
      simp only [List.length_nil]
      go_wp2
      refine ret_of (by simp [results, Tryd.results25, go_sem, *]; repeat' (first | rfl | apply And.intro)) rfl ⟨?_, by repeat (first | with_reducible exact Below.refl _ _ | with_reducible assumption | with_reducible refine below_drewN ?_ _ | with_reducible refine Below.drew ?_ | with_reducible refine below_alloc ?_ _ | (with_reducible refine Below.setCell ?_ ?_ _; rotate_left; ((try simp only); omega)))⟩
      rw [E.out]; rfl
    | cons p ps =>
      have hp : (findE l).1[0]? = some p := by rw [hF]; rfl
      have E := Lib.hid (show R = (p, true, 0) by rw [hR, firstP_in he hp])
      obtain ⟨bb, off, rfl, hbb, c0, c1, c2, c3, c4⟩ := rs.par (Nat.le_refl _) (Below.refl _ w1) (k := 0) (by rw [hF]; simp) hp
      simp only [Nat.zero_mul, Nat.add_zero] at c0 c1 c2 c3 c4
      rw [he]
      obtain ⟨N, hN⟩ : ∃ N, N = ps.length + 1 := ⟨_, rfl⟩
      have hN0 : 0 < N := by omega
      have hNe : ((N : Int) == 0) = false := by simp; omega
      simp only [List.length_cons]
      rw [← hN]
      obtain ⟨x0, xa, xb, xk, xs⟩ := p
      simp only at c0 c1 c2 c3 c4
      clear rs hR hF he hcap HL hp hN
      go_wp2
      refine ret_of (by simp [results, Tryd.results25, go_sem, *]; repeat' (first | rfl | apply And.intro)) rfl ⟨?_, by repeat (first | with_reducible exact Below.refl _ _ | with_reducible assumption | with_reducible refine below_drewN ?_ _ | with_reducible refine Below.drew ?_ | with_reducible refine below_alloc ?_ _ | (with_reducible refine Below.setCell ?_ ?_ _; rotate_left; ((try simp only); omega)))⟩
      rw [E.out]
  · have hne : ((findE l).2 != 0) = true := by simpa using he
    have E := Lib.hid (show R = (zeroPar, false, (findE l).2) by rw [hR, firstP_err he])
    obtain ⟨er, her⟩ : ∃ x, x = (findE l).2 := ⟨_, rfl⟩
    rw [← her] at hne E ⊢
    clear he her hR rs hcap HL
    go_wp2
    refine ret_of (by simp [results, Tryd.results25, go_sem, *]; repeat' (first | rfl | apply And.intro)) rfl ⟨?_, by repeat (first | with_reducible exact Below.refl _ _ | with_reducible assumption | with_reducible refine below_drewN ?_ _ | with_reducible refine Below.drew ?_ | with_reducible refine below_alloc ?_ _ | (with_reducible refine Below.setCell ?_ ?_ _; rotate_left; ((try simp only); omega)))⟩
    rw [E.out]; rfl
set_option maxRecDepth 100000 in
set_option maxHeartbeats 8000000 in
theorem rfirstM_any (A : Option Addr) (n c : Nat) (l : List (List Ev)) (B : Nat) (w : World) (h : ReadsV w B A n l) (hB : B ≤ w.heap.size) (hn : n ≤ 9223372036854775807)  :
    Calls Tryd.prog 26 #[.slice A n c] w fun e w' => e = .returned (.tuple #[vPar (firstP l).1, .bool (firstP l).2.1, .int .i64 (firstP l).2.2]) ∧ Below w.heap.size w w' := by
  have r0 : Blk (w.alloc (.cells #[.int .i64 0, .int .i64 0, .int .i64 0, .int .i64 0, .int .i64 0] 41)) w.heap.size 41 #[.int .i64 0, .int .i64 0, .int .i64 0, .int .i64 0, .int .i64 0] := Blk.new _ _ _
  have k0 : Below w.heap.size w (w.alloc (.cells #[.int .i64 0, .int .i64 0, .int .i64 0, .int .i64 0, .int .i64 0] 41)) := by repeat (first | with_reducible exact Below.refl _ _ | with_reducible assumption | with_reducible refine below_drewN ?_ _ | with_reducible refine Below.drew ?_ | with_reducible refine below_alloc ?_ _ | (with_reducible refine Below.setCell ?_ ?_ _; rotate_left; ((try simp only); omega)))
  have q1 := rfind_any A n c l B _ (h.below hB k0) (Nat.le_trans hB k0.size) hn
  obtain ⟨R, hR⟩ : ∃ R, R = firstP l := ⟨_, rfl⟩
  rw [← hR]
  go_enter Tryd.func26, Tryd.ntmps26
  go_wp2_with fail
  refine q1.mono ?_
  rintro e w1 ⟨v1, rfl, ho1, kb⟩
  have r1 := r0.kept kb
  have k1 := below_call k0 kb
  have e0 := r1.cell 0
  have e1 := r1.cell 1
  have e2 := r1.cell 2
  have e3 := r1.cell 3
  have e4 := r1.cell 4
  have ef := r1.frozen
  have el := r1.lt
  obtain ⟨S, d, rfl, rs, hcap⟩ := own_reads ho1
  have HL := Lib.hid rs.plen
  clear kb ho1 r0 k0 h q1
  by_cases he : (findE l).2 = 0
  · cases hF : (findE l).1 with
    | nil =>
      have E := Lib.hid (show R = (zeroPar, false, 0) by rw [hR, firstP_nil hF, he])
      rw [he]
      clear rs hR hF he hcap HL
      simp only [List.length_nil]
      go_wp2
      refine ret_of (by simp [results, Tryd.results26, go_sem, *]; repeat' (first | rfl | apply And.intro)) rfl ⟨?_, by repeat (first | with_reducible exact Below.refl _ _ | with_reducible assumption | with_reducible refine below_drewN ?_ _ | with_reducible refine Below.drew ?_ | with_reducible refine below_alloc ?_ _ | (with_reducible refine Below.setCell ?_ ?_ _; rotate_left; ((try simp only); omega)))⟩
      rw [E.out]; rfl
    | cons p ps =>
      have hp : (findE l).1[0]? = some p := by rw [hF]; rfl
      have E := Lib.hid (show R = (p, true, 0) by rw [hR, firstP_in he hp])
      obtain ⟨bb, off, rfl, hbb, c0, c1, c2, c3, c4⟩ := rs.par (Nat.le_refl _) (Below.refl _ w1) (k := 0) (by rw [hF]; simp) hp
      simp only [Nat.zero_mul, Nat.add_zero] at c0 c1 c2 c3 c4
      rw [he]
      obtain ⟨N, hN⟩ : ∃ N, N = ps.length + 1 := ⟨_, rfl⟩
      have hN0 : 0 < N := by omega
      have hNe : ((N : Int) == 0) = false := by simp; omega
      simp only [List.length_cons]
      rw [← hN]
      obtain ⟨x0, xa, xb, xk, xs⟩ := p
      simp only at c0 c1 c2 c3 c4
      clear rs hR hF he hcap HL hp hN
      go_wp2
      refine ret_of (by simp [results, Tryd.results26, go_sem, *]; repeat' (first | rfl | apply And.intro)) rfl ⟨?_, by repeat (first | with_reducible exact Below.refl _ _ | with_reducible assumption | with_reducible refine below_drewN ?_ _ | with_reducible refine Below.drew ?_ | with_reducible refine below_alloc ?_ _ | (with_reducible refine Below.setCell ?_ ?_ _; rotate_left; ((try simp only); omega)))⟩
      rw [E.out]
  · have hne : ((findE l).2 != 0) = true := by simpa using he
    have E := Lib.hid (show R = (zeroPar, false, (findE l).2) by rw [hR, firstP_err he])
    obtain ⟨er, her⟩ : ∃ x, x = (findE l).2 := ⟨_, rfl⟩
    rw [← her] at hne E ⊢
    clear he her hR rs hcap HL
    go_wp2
    refine ret_of (by simp [results, Tryd.results26, go_sem, *]; repeat' (first | rfl | apply And.intro)) rfl ⟨?_, by repeat (first | with_reducible exact Below.refl _ _ | with_reducible assumption | with_reducible refine below_drewN ?_ _ | with_reducible refine Below.drew ?_ | with_reducible refine below_alloc ?_ _ | (with_reducible refine Below.setCell ?_ ?_ _; rotate_left; ((try simp only); omega)))⟩
    rw [E.out]; rfl
end Go.Proofs.YtigfcbofbcpiaaaDoor
