
/- The forbidden motions of two voices: the program's and the reference's Pair. -/
import Derived.Test.YtigfcbofbcpiaaaDoorPaFind
import Derived.Test.YtigfcbofbcpiaaaDoorPaRFind
import Derived.Test.YtigfcbofbcpiaaaDoorPaMoves
namespace Go.Proofs.YtigfcbofbcpiaaaDoor
open Go.RowKit
theorem findE_len (l : List (List Ev)) : (findE l).1.length ≤ 3200000 := by
  unfold findE
  split
  · simp
  · rename_i h
    have he : (slicesE l).2 = 0 := by omega
    obtain ⟨hz, _⟩ := slicesE_ok he
    have h1 := mom_big hz
    have h2 := (checkA_all hz).1
    have h3 := all_len l (momS l) (by omega) ((momS l).length - 1)
    simp only
    omega
/-- Motion k of a row of motions. -/
theorem Reads.par {w W : World} {B n : Nat} {A : Option Addr} {l : List Par} (h : Reads w B 5 A n (csPar l)) (hB : B ≤ w.heap.size) (hb : Below w.heap.size w W) {k : Nat} {x : Par} (hk : k < n) (hx : l[k]? = some x) :
    ∃ b off, A = some ⟨b, off, none⟩ ∧ b < W.heap.size ∧ W.cell? ⟨b, off + k * 5, none⟩ = some (.int .i64 x.n) ∧ W.cell? ⟨b, off + k * 5 + 1, none⟩ = some (.int .i64 x.a) ∧ W.cell? ⟨b, off + k * 5 + 2, none⟩ = some (.int .i64 x.b) ∧
      W.cell? ⟨b, off + k * 5 + 3, none⟩ = some (.int .i64 x.kind) ∧ W.cell? ⟨b, off + k * 5 + 4, none⟩ = some (.int .i64 x.steps) := by
  obtain ⟨b, off, hA, hbB, hc⟩ := h.elem (f := cPar) (fun _ => rfl) hk hx
  have hall : ∀ j u, (cPar x)[j]? = some u → W.cell? ⟨b, off + k * 5 + j, none⟩ = some u := fun j u hj => by
    rw [hb.cell (by simp; omega), Nat.add_assoc]
    exact hc j u hj
  exact ⟨b, off, hA, by have := hb.size; omega, hall 0 _ rfl, hall 1 _ rfl, hall 2 _ rfl, hall 3 _ rfl, hall 4 _ rfl⟩
theorem Reads.plen {w : World} {B n : Nat} {A : Option Addr} {l : List Par} (h : Reads w B 5 A n (csPar l)) : l.length = n := h.len (size := 5) (l := l) (f := cPar) (fun _ => rfl) (by decide)
def pickP (a b : Int) (p : Par) : Bool := decide (p.a = min a b) && decide (p.b = max a b)
theorem pairE_err {l : List (List Ev)} {a b : Int} (h : (findE l).2 ≠ 0) : pairE l a b = ([], (findE l).2) := by unfold pairE; rw [if_pos h]
theorem pairE_out {l : List (List Ev)} {a b : Int} (h : (findE l).2 = 0) (ho : a < 0 ∨ b < 0 ∨ (l.length : Int) ≤ a ∨ (l.length : Int) ≤ b ∨ a = b) : pairE l a b = ([], 2) := by unfold pairE; rw [if_neg (fun hh => hh h), if_pos ho]
theorem pairE_in {l : List (List Ev)} {a b : Int} (h : (findE l).2 = 0) (ho : ¬ (a < 0 ∨ b < 0 ∨ (l.length : Int) ≤ a ∨ (l.length : Int) ≤ b ∨ a = b)) : pairE l a b = ((findE l).1.filter (pickP a b), 0) := by unfold pairE; rw [if_neg (fun hh => hh h), if_neg ho]; rfl
theorem filter_next {α : Type} (f : α → Bool) {l : List α} {k : Nat} {x : α} (h : l[k]? = some x) : (l.take (k + 1)).filter f = (l.take k).filter f ++ (if f x = true then [x] else []) := by
  rw [take_get h, List.filter_append]
  congr 1
  by_cases hf : f x = true <;> simp [hf]
theorem filter_bd {α : Type} (f : α → Bool) (l : List α) (k : Nat) : ((l.take k).filter f).length ≤ l.length := by
  have := List.length_filter_le f (l.take k)
  have h2 : (l.take k).length ≤ l.length := by rw [List.length_take]; omega
  omega
set_option maxRecDepth 100000 in
set_option maxHeartbeats 8000000 in
theorem pair_any (A : Option Addr) (n c : Nat) (l : List (List Ev)) (a b : Int) (B : Nat) (w : World) (h : ReadsV w B A n l) (hB : B ≤ w.heap.size) (hn : n ≤ 9223372036854775807) (ht : Tabs w) :
    Calls Tryd.prog 21 #[.slice A n c, .int .i64 a, .int .i64 b] w fun e w' => ∃ v, e = .returned (.tuple #[v, .int .i64 (pairE l a b).2]) ∧ w'.ownsRow w.heap.size 41 5 v (pairE l a b).1.length (csPar (pairE l a b).1) ∧ Below w.heap.size w w' := by
  have q1 := find_any A n c l B w h hB hn ht
  have HLN := Lib.hid h.len
  have HFB := findE_len l
  obtain ⟨R, hR⟩ : ∃ R, R = pairE l a b := ⟨_, rfl⟩
  rw [← hR]
  go_enter Tryd.func21, Tryd.ntmps21
  go_wp2_with fail
  refine q1.mono ?_
  rintro e w1 ⟨v1, rfl, ho1, k1⟩
  obtain ⟨S, d, rfl, rs, hcap⟩ := own_reads ho1
  by_cases he : (findE l).2 = 0
  · by_cases hout : a < 0 ∨ b < 0 ∨ (n : Int) ≤ a ∨ (n : Int) ≤ b ∨ a = b
    · have E := Lib.hid (show R = ([], 2) by rw [hR]; exact pairE_out he (by rw [HLN.out]; exact hout))
      rw [he]
      clear rs hR ho1 he
      go_wp2
      all_goals try (exfalso; omega)
      all_goals
        refine ret_of (by simp [results, Tryd.results21, go_sem, *]; repeat' (first | rfl | apply And.intro)) rfl ⟨.slice none 0 0, ?_, ?_, by repeat (first | with_reducible exact Below.refl _ _ | with_reducible assumption | with_reducible refine below_drewN ?_ _ | with_reducible refine Below.drew ?_ | with_reducible refine below_alloc ?_ _ | (with_reducible refine Below.setCell ?_ ?_ _; rotate_left; ((try simp only); omega)))⟩
        · rw [E.out]
        · rw [E.out]; exact ⟨rfl, .inl ⟨rfl, rfl⟩⟩
    · have d1 : ¬ a < 0 := by omega
      have d2 : ¬ b < 0 := by omega
      have d3 : ¬ (n : Int) ≤ a := by omega
      have d4 : ¬ (n : Int) ≤ b := by omega
      have d5 : (a == b) = false := by simp; omega
      have E := Lib.hid (show R = ((findE l).1.filter (pickP a b), 0) by rw [hR]; exact pairE_in he (by rw [HLN.out]; exact hout))
      rw [he]
      obtain ⟨F, hF⟩ : ∃ F, F = (findE l).1 := ⟨_, rfl⟩
      rw [← hF] at E rs HFB ⊢
      obtain ⟨N, hN⟩ : ∃ N, N = F.length := ⟨_, rfl⟩
      rw [← hN] at rs HFB ⊢
      have HN := Lib.hid hN
      have HP := Lib.hid (fun k => filter_bd (pickP a b) F k)
      clear hR hF hN ho1 he
      obtain ⟨i0, hi0, hz0, hz1, hz2⟩ := info_parts par_info
      go_wp2_with fail
      all_goals try (exfalso; omega)
      go_loopg [10, 12, 46] N (fun gh o _ i wr => ∃ k : Nat, k + gh = N ∧ i = .int .i64 (k : Int) ∧ Hid (wr.ownsRow w1.heap.size 41 5 o ((F.take k).filter (pickP a b)).length (csPar ((F.take k).filter (pickP a b)))) ∧ Below w1.heap.size w1 wr)
      case atStart => exact ⟨0, by omega, rfl, Lib.hid ⟨rfl, .inl ⟨rfl, rfl⟩⟩, Below.refl _ _⟩
      case round =>
        obtain ⟨k, hkg, rfl, hown, kr⟩ := hrel
        have wk : IntKind.i64.wrap ((k : Int) + 1) = (k : Int) + 1 := IntWalk.i64_in _ (by omega)
        cases gk with
        | zero =>
          have hk : k = N := by omega
          have d0 : ¬ ((k : Int) < (N : Int)) := by omega
          have HF := Lib.hid (show F.take k = F by rw [List.take_of_length_le]; rw [← HN.out]; omega)
          rw [HF.out] at hown
          clear hk hkg rs
          go_wp2
          refine ret_of (by simp [results, Tryd.results21, go_sem, *]; repeat' (first | rfl | apply And.intro)) rfl ⟨u10, ?_, ?_, below_call k1 kr⟩
          · rw [E.out]
          · rw [E.out]; exact own_lower hown.out k1.size
        | succ g =>
          have hk : k < N := by omega
          have d0 : (k : Int) < (N : Int) := by omega
          obtain ⟨x, hx⟩ := get_some (l := F) (k := k) (by have := HN.out; omega)
          obtain ⟨bb, off, rfl, hbb, c0, c1, c2, c3, c4⟩ := rs.par (Nat.le_refl _) kr hk hx
          have HNX := Lib.hid (filter_next (pickP a b) hx)
          have HX := Lib.hid (show pickP a b x = (decide (x.a = min a b) && decide (x.b = max a b)) from rfl)
          have hb5 : ((F.take k).filter (pickP a b)).length ≤ 3200000 := by have := HP.out k; have := HN.out; omega
          obtain ⟨N5, hN5⟩ : ∃ N5, N5 = ((F.take k).filter (pickP a b)).length := ⟨_, rfl⟩
          rw [← hN5] at hown hb5
          have HN5 := Lib.hid hN5
          obtain ⟨x0, xa, xb, xk, xs⟩ := x
          simp only at c0 c1 c2 c3 c4 HX
          clear hx hN5
          have hkr := kr.size
          have HO := Lib.hid hown.out
          clear hown
          obtain ⟨lo, hlo⟩ : ∃ y, y = min a b := ⟨_, rfl⟩
          obtain ⟨hi, hhi⟩ : ∃ y, y = max a b := ⟨_, rfl⟩
          have m1 : (if b < a then b else a) = lo := by split <;> omega
          have m2 : (if a < b then b else a) = hi := by split <;> omega
          have m3 : (if b < a then a else b) = hi := by split <;> omega
          rw [← hlo, ← hhi] at HX
          clear hlo hhi
          by_cases e1 : xa = lo
          · have f1 : (xa == lo) = true := by simp [e1]
            by_cases e2 : xb = hi
            · have f2 : (xb == hi) = true := by simp [e2]
              have HM := Lib.hid (show pickP a b ⟨x0, xa, xb, xk, xs⟩ = true by rw [HX.out, e1, e2]; simp)
              clear HX e1 e2
              go_wp2_with (at_builtin; (refine wpList_append_any _ rfl (.tmp 64) (.tmp 66) 26 rfl w1.heap.size 41 i0 _ 5 40 Tryd.underlying26 hi0 hz0 hz1 hz2 rfl (by omega) u10 N5 (csPar ((F.take k).filter (pickP a b))) rfl (own_call HO.out (below_alloc (below_alloc (Below.refl _ _) _) _)) (wr.heap.size + 1 + 1) (some ⟨wr.heap.size + 1, 0, none⟩) 1 1 (csPar [⟨x0, xa, xb, xk, xs⟩]) rfl (Reads.newAt _ _ _ 1 5 _ (by simp) rfl) (one_csPar _) (by simp only [maxLen]; omega) (by omega) (by simp; omega) ?_); intro v4 w4 hown4 hg4 hat4)
              have hB4 : Below w1.heap.size w1 w4 := Below.grown (B := w1.heap.size) ((kr.alloc (by omega) _).alloc (by simp; omega) _) hg4 (by simp; omega) (fun x hx => (HO.out.lt x hx).1)
              go_roundg g
              case measure => omega
              case rel => exact ⟨k + 1, by omega, by go_num, Lib.hid (by rw [HNX.out, if_pos HM.out, List.length_append, csPar_append, ← HN5.out]; exact hown4), hB4⟩
            · have f2 : (xb == hi) = false := by simp [e2]
              have HM := Lib.hid (show pickP a b ⟨x0, xa, xb, xk, xs⟩ = false by rw [HX.out]; simp [e2])
              clear HX e1 e2
              go_wp2_with fail
              go_roundg g
              case measure => omega
              case rel => exact ⟨k + 1, by omega, by go_num, Lib.hid (by rw [HNX.out, HM.out, if_neg (by decide), List.append_nil, ← HN5.out]; exact own_call HO.out (by refine below_alloc ?_ _; exact Below.refl _ _)), by refine below_alloc ?_ _; exact kr⟩
          · have f1 : (xa == lo) = false := by simp [e1]
            have HM := Lib.hid (show pickP a b ⟨x0, xa, xb, xk, xs⟩ = false by rw [HX.out]; simp [e1])
            clear HX e1
            go_wp2_with fail
            go_roundg g
            case measure => omega
            case rel => exact ⟨k + 1, by omega, by go_num, Lib.hid (by rw [HNX.out, HM.out, if_neg (by decide), List.append_nil, ← HN5.out]; exact own_call HO.out (by refine below_alloc ?_ _; exact Below.refl _ _)), by refine below_alloc ?_ _; exact kr⟩
  · have hne : ((findE l).2 != 0) = true := by simpa using he
    have E := Lib.hid (show R = ([], (findE l).2) by rw [hR]; exact pairE_err he)
    obtain ⟨er, her⟩ : ∃ x, x = (findE l).2 := ⟨_, rfl⟩
    rw [← her] at hne E ⊢
    clear he her ho1 hR rs
    go_wp2
    refine ret_of (by simp [results, Tryd.results21, go_sem, *]; repeat' (first | rfl | apply And.intro)) rfl ⟨.slice none 0 0, ?_, ?_, by repeat (first | with_reducible exact Below.refl _ _ | with_reducible assumption | with_reducible refine below_drewN ?_ _ | with_reducible refine Below.drew ?_ | with_reducible refine below_alloc ?_ _ | (with_reducible refine Below.setCell ?_ ?_ _; rotate_left; ((try simp only); omega)))⟩
    · rw [E.out]
    · rw [E.out]; exact ⟨rfl, .inl ⟨rfl, rfl⟩⟩
set_option maxRecDepth 100000 in
set_option maxHeartbeats 8000000 in
theorem rpair_any (A : Option Addr) (n c : Nat) (l : List (List Ev)) (a b : Int) (B : Nat) (w : World) (h : ReadsV w B A n l) (hB : B ≤ w.heap.size) (hn : n ≤ 9223372036854775807)  :
    Calls Tryd.prog 22 #[.slice A n c, .int .i64 a, .int .i64 b] w fun e w' => ∃ v, e = .returned (.tuple #[v, .int .i64 (pairE l a b).2]) ∧ w'.ownsRow w.heap.size 41 5 v (pairE l a b).1.length (csPar (pairE l a b).1) ∧ Below w.heap.size w w' := by
  have q1 := rfind_any A n c l B w h hB hn
  have HLN := Lib.hid h.len
  have HFB := findE_len l
  obtain ⟨R, hR⟩ : ∃ R, R = pairE l a b := ⟨_, rfl⟩
  rw [← hR]
  go_enter Tryd.func22, Tryd.ntmps22
  go_wp2_with fail
  refine q1.mono ?_
  rintro e w1 ⟨v1, rfl, ho1, k1⟩
  obtain ⟨S, d, rfl, rs, hcap⟩ := own_reads ho1
  by_cases he : (findE l).2 = 0
  · by_cases hout : a < 0 ∨ b < 0 ∨ (n : Int) ≤ a ∨ (n : Int) ≤ b ∨ a = b
    · have E := Lib.hid (show R = ([], 2) by rw [hR]; exact pairE_out he (by rw [HLN.out]; exact hout))
      rw [he]
      clear rs hR ho1 he
      go_wp2
      all_goals try (exfalso; omega)
      all_goals
        refine ret_of (by simp [results, Tryd.results22, go_sem, *]; repeat' (first | rfl | apply And.intro)) rfl ⟨.slice none 0 0, ?_, ?_, by repeat (first | with_reducible exact Below.refl _ _ | with_reducible assumption | with_reducible refine below_drewN ?_ _ | with_reducible refine Below.drew ?_ | with_reducible refine below_alloc ?_ _ | (with_reducible refine Below.setCell ?_ ?_ _; rotate_left; ((try simp only); omega)))⟩
        · rw [E.out]
        · rw [E.out]; exact ⟨rfl, .inl ⟨rfl, rfl⟩⟩
    · have d1 : ¬ a < 0 := by omega
      have d2 : ¬ b < 0 := by omega
      have d3 : ¬ (n : Int) ≤ a := by omega
      have d4 : ¬ (n : Int) ≤ b := by omega
      have d5 : (a == b) = false := by simp; omega
      have E := Lib.hid (show R = ((findE l).1.filter (pickP a b), 0) by rw [hR]; exact pairE_in he (by rw [HLN.out]; exact hout))
      rw [he]
      obtain ⟨F, hF⟩ : ∃ F, F = (findE l).1 := ⟨_, rfl⟩
      rw [← hF] at E rs HFB ⊢
      obtain ⟨N, hN⟩ : ∃ N, N = F.length := ⟨_, rfl⟩
      rw [← hN] at rs HFB ⊢
      have HN := Lib.hid hN
      have HP := Lib.hid (fun k => filter_bd (pickP a b) F k)
      clear hR hF hN ho1 he
      obtain ⟨i0, hi0, hz0, hz1, hz2⟩ := info_parts par_info
      go_wp2_with fail
      all_goals try (exfalso; omega)
      go_loopg [10, 11] N (fun gh o i wr => ∃ k : Nat, k + gh = N ∧ i = .int .i64 (k : Int) ∧ Hid (wr.ownsRow w1.heap.size 41 5 o ((F.take k).filter (pickP a b)).length (csPar ((F.take k).filter (pickP a b)))) ∧ Below w1.heap.size w1 wr)
      case atStart => exact ⟨0, by omega, rfl, Lib.hid ⟨rfl, .inl ⟨rfl, rfl⟩⟩, Below.refl _ _⟩
      case round =>
        obtain ⟨k, hkg, rfl, hown, kr⟩ := hrel
        have wk : IntKind.i64.wrap ((k : Int) + 1) = (k : Int) + 1 := IntWalk.i64_in _ (by omega)
        cases gk with
        | zero =>
          have hk : k = N := by omega
          have d0 : ¬ ((k : Int) < (N : Int)) := by omega
          have HF := Lib.hid (show F.take k = F by rw [List.take_of_length_le]; rw [← HN.out]; omega)
          rw [HF.out] at hown
          clear hk hkg rs
          go_wp2
          refine ret_of (by simp [results, Tryd.results22, go_sem, *]; repeat' (first | rfl | apply And.intro)) rfl ⟨u10, ?_, ?_, below_call k1 kr⟩
          · rw [E.out]
          · rw [E.out]; exact own_lower hown.out k1.size
        | succ g =>
          have hk : k < N := by omega
          have d0 : (k : Int) < (N : Int) := by omega
          obtain ⟨x, hx⟩ := get_some (l := F) (k := k) (by have := HN.out; omega)
          obtain ⟨bb, off, rfl, hbb, c0, c1, c2, c3, c4⟩ := rs.par (Nat.le_refl _) kr hk hx
          have HNX := Lib.hid (filter_next (pickP a b) hx)
          have HX := Lib.hid (show pickP a b x = (decide (x.a = min a b) && decide (x.b = max a b)) from rfl)
          have hb5 : ((F.take k).filter (pickP a b)).length ≤ 3200000 := by have := HP.out k; have := HN.out; omega
          obtain ⟨N5, hN5⟩ : ∃ N5, N5 = ((F.take k).filter (pickP a b)).length := ⟨_, rfl⟩
          rw [← hN5] at hown hb5
          have HN5 := Lib.hid hN5
          obtain ⟨x0, xa, xb, xk, xs⟩ := x
          simp only at c0 c1 c2 c3 c4 HX
          clear hx hN5
          have hkr := kr.size
          have HO := Lib.hid hown.out
          clear hown
          obtain ⟨lo, hlo⟩ : ∃ y, y = min a b := ⟨_, rfl⟩
          obtain ⟨hi, hhi⟩ : ∃ y, y = max a b := ⟨_, rfl⟩
          have m1 : (if b < a then b else a) = lo := by split <;> omega
          have m2 : (if a < b then b else a) = hi := by split <;> omega
          have m3 : (if b < a then a else b) = hi := by split <;> omega
          rw [← hlo, ← hhi] at HX
          clear hlo hhi
          by_cases e1 : xa = lo
          · have f1 : (xa == lo) = true := by simp [e1]
            by_cases e2 : xb = hi
            · have f2 : (xb == hi) = true := by simp [e2]
              have HM := Lib.hid (show pickP a b ⟨x0, xa, xb, xk, xs⟩ = true by rw [HX.out, e1, e2]; simp)
              clear HX e1 e2
              go_wp2_with (at_builtin; (refine wpList_append_any _ rfl (.tmp 69) (.tmp 74) 26 rfl w1.heap.size 41 i0 _ 5 40 Tryd.underlying26 hi0 hz0 hz1 hz2 rfl (by omega) u10 N5 (csPar ((F.take k).filter (pickP a b))) rfl (own_call HO.out (below_alloc (Below.refl _ _) _)) (wr.heap.size + 1) (some ⟨wr.heap.size, 0, none⟩) 1 1 (csPar [⟨x0, xa, xb, xk, xs⟩]) rfl (Reads.newAt _ _ _ 1 5 _ (by simp) rfl) (one_csPar _) (by simp only [maxLen]; omega) (by omega) (by simp; omega) ?_); intro v4 w4 hown4 hg4 hat4)
              have hB4 : Below w1.heap.size w1 w4 := Below.grown (B := w1.heap.size) (kr.alloc (by omega) _) hg4 (by simp; omega) (fun x hx => (HO.out.lt x hx).1)
              go_roundg g
              case measure => omega
              case rel => exact ⟨k + 1, by omega, by go_num, Lib.hid (by rw [HNX.out, if_pos HM.out, List.length_append, csPar_append, ← HN5.out]; exact hown4), hB4⟩
            · have f2 : (xb == hi) = false := by simp [e2]
              have HM := Lib.hid (show pickP a b ⟨x0, xa, xb, xk, xs⟩ = false by rw [HX.out]; simp [e2])
              clear HX e1 e2
              go_wp2_with fail
              go_roundg g
              case measure => omega
              case rel => exact ⟨k + 1, by omega, by go_num, Lib.hid (by rw [HNX.out, HM.out, if_neg (by decide), List.append_nil, ← HN5.out]; exact own_call HO.out (by skip; exact Below.refl _ _)), by skip; exact kr⟩
          · have f1 : (xa == lo) = false := by simp [e1]
            have HM := Lib.hid (show pickP a b ⟨x0, xa, xb, xk, xs⟩ = false by rw [HX.out]; simp [e1])
            clear HX e1
            go_wp2_with fail
            go_roundg g
            case measure => omega
            case rel => exact ⟨k + 1, by omega, by go_num, Lib.hid (by rw [HNX.out, HM.out, if_neg (by decide), List.append_nil, ← HN5.out]; exact own_call HO.out (by skip; exact Below.refl _ _)), by skip; exact kr⟩
  · have hne : ((findE l).2 != 0) = true := by simpa using he
    have E := Lib.hid (show R = ([], (findE l).2) by rw [hR]; exact pairE_err he)
    obtain ⟨er, her⟩ : ∃ x, x = (findE l).2 := ⟨_, rfl⟩
    rw [← her] at hne E ⊢
    clear he her ho1 hR rs
    go_wp2
    refine ret_of (by simp [results, Tryd.results22, go_sem, *]; repeat' (first | rfl | apply And.intro)) rfl ⟨.slice none 0 0, ?_, ?_, by repeat (first | with_reducible exact Below.refl _ _ | with_reducible assumption | with_reducible refine below_drewN ?_ _ | with_reducible refine Below.drew ?_ | with_reducible refine below_alloc ?_ _ | (with_reducible refine Below.setCell ?_ ?_ _; rotate_left; ((try simp only); omega)))⟩
    · rw [E.out]
    · rw [E.out]; exact ⟨rfl, .inl ⟨rfl, rfl⟩⟩
end Go.Proofs.YtigfcbofbcpiaaaDoor
