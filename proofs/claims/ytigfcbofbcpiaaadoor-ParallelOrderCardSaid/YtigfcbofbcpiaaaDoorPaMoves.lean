
/- By how many steps a voice moves into a slice: the program's and the reference's Moves. -/
import Derived.Test.YtigfcbofbcpiaaaDoorPaFind
import Derived.Test.YtigfcbofbcpiaaaDoorPaMotion
import Derived.Test.YtigfcbofbcpiaaaDoorAlRefSlices
namespace Go.Proofs.YtigfcbofbcpiaaaDoor
open Go.RowKit
theorem movesE_err {l : List (List Ev)} {i k : Int} (h : (slicesE l).2 ≠ 0) : movesE l i k = (0, (slicesE l).2) := by unfold movesE; rw [if_pos h]
theorem movesE_out {l : List (List Ev)} {i k : Int} (h : (slicesE l).2 = 0) (ho : i < 0 ∨ (l.length : Int) ≤ i ∨ k < 0 ∨ (((momS l).length - 1 : Nat) : Int) ≤ k) : movesE l i k = (0, 2) := by unfold movesE; rw [if_neg (fun hh => hh h), if_pos ho]
theorem movesE_in {l : List (List Ev)} {i k : Nat} {v : List Ev} (h : (slicesE l).2 = 0) (hv : l[i]? = some v) (hk : k < (momS l).length - 1) : movesE l (i : Int) (k : Int) = if (mvV v (momS l) k).2 = true then ((mvV v (momS l) k).1, 0) else (0, 18) := by
  have hi := (List.getElem?_eq_some_iff.1 hv).1
  unfold movesE
  rw [if_neg (fun hh => hh h), if_neg (by omega)]
  simp only [Int.toNat_natCast]
  rw [show l.getD i [] = v by simp [List.getD, hv]]
set_option maxRecDepth 100000 in
set_option maxHeartbeats 8000000 in
theorem moves_any (A : Option Addr) (n c : Nat) (l : List (List Ev)) (i k : Int) (B : Nat) (w : World) (h : ReadsV w B A n l) (hB : B ≤ w.heap.size) (hn : n ≤ 9223372036854775807) :
    Calls Tryd.prog 15 #[.slice A n c, .int .i64 i, .int .i64 k] w fun e w' => e = .returned (.tuple #[.int .i64 (movesE l i k).1, .int .i64 (movesE l i k).2]) ∧ Below w.heap.size w w' := by
  have q1 := opened_ok A n c l w (h.more hB) hn
  have HLN := Lib.hid h.len
  obtain ⟨R, hR⟩ : ∃ R, R = movesE l i k := ⟨_, rfl⟩
  rw [← hR]
  go_enter Tryd.func15, Tryd.ntmps15
  go_wp2_with fail
  refine q1.mono ?_
  rintro e w1 ⟨v1, rfl, ho1, k1⟩
  by_cases he : (slicesE l).2 = 0
  · obtain ⟨hz, hsl⟩ := slicesE_ok he
    obtain ⟨S, d, rfl, rs⟩ := ho1.reads
    have HKL := Lib.hid (show (slicesE l).1.length = (momS l).length - 1 by rw [hsl]; simp)
    rw [hsl] at rs
    simp only [List.length_map, List.length_range] at rs
    rw [HKL.out, he]
    obtain ⟨K, hK⟩ : ∃ K, K = (momS l).length - 1 := ⟨_, rfl⟩
    rw [← hK] at rs ⊢
    have stg : Stg w1 A S n K l := ⟨(h.below hB k1).more (Nat.le_trans hB k1.size), by rw [hK]; rw [hK] at rs; exact rs, hz, hK⟩
    have HE := Lib.hid he
    have HK := Lib.hid hK
    clear he hsl ho1 HKL rs hz hK q1
    by_cases hout : i < 0 ∨ (n : Int) ≤ i ∨ k < 0 ∨ (K : Int) ≤ k
    · have E := Lib.hid (show R = (0, 2) by rw [hR]; exact movesE_out HE.out (by rw [HLN.out, ← HK.out]; exact hout))
      have hp : i < 0 ∨ (¬ i < 0 ∧ (n : Int) ≤ i) ∨ (¬ i < 0 ∧ ¬ (n : Int) ≤ i ∧ k < 0) ∨ (¬ i < 0 ∧ ¬ (n : Int) ≤ i ∧ ¬ k < 0 ∧ (K : Int) ≤ k) := by omega
      clear hout stg h hR
      rcases hp with h0 | ⟨h0, h1⟩ | ⟨h0, h1, h2⟩ | ⟨h0, h1, h2, h3⟩
      all_goals
        go_wp2
        all_goals
          refine ret_of (by simp [results, Tryd.results15, go_sem, *]; repeat' (first | rfl | apply And.intro)) rfl ⟨?_, by repeat (first | with_reducible exact Below.refl _ _ | with_reducible assumption | with_reducible refine below_drewN ?_ _ | with_reducible refine Below.drew ?_ | with_reducible refine below_alloc ?_ _ | (with_reducible refine Below.setCell ?_ ?_ _; rotate_left; ((try simp only); omega)))⟩
          rw [E.out]
    · obtain ⟨i, rfl⟩ : ∃ j : Nat, i = (j : Int) := ⟨i.toNat, by omega⟩
      obtain ⟨k, rfl⟩ : ∃ j : Nat, k = (j : Int) := ⟨k.toNat, by omega⟩
      have hkK : k < K := by omega
      obtain ⟨v, hv⟩ := get_some (l := l) (k := i) (by have := HLN.out; omega)
      have HM := Lib.hid (show R = if (mvV v (momS l) k).2 = true then ((mvV v (momS l) k).1, 0) else (0, 18) by rw [hR]; exact movesE_in HE.out hv (by rw [← HK.out]; exact hkK))
      have q2 := fun W (hW : Below w1.heap.size w1 W) => moves_ok (stg.kept hW) c d hv hkK
      have d1 : ¬ ((i : Int) < 0) := by omega
      have d2 : ¬ ((n : Int) ≤ (i : Int)) := by omega
      have d3 : ¬ ((k : Int) < 0) := by omega
      have d4 : ¬ ((K : Int) ≤ (k : Int)) := by omega
      have d2' : i < n := by omega
      have d2n : ¬ n ≤ i := by omega
      have d4n : ¬ K ≤ k := by omega
      obtain ⟨⟨x, bx⟩, hx⟩ : ∃ y, y = mvV v (momS l) k := ⟨_, rfl⟩
      rw [← hx] at q2 HM
      simp only at q2 HM
      clear hx hv hR stg hout h
      go_wp2_with fail
      all_goals try (exfalso; omega)
      refine Calls.mono (q2 _ ?_) ?_
      · first | exact Below.refl _ _ | exact below_alloc (Below.refl _ _) _
      rintro e w2 ⟨rfl, hb2⟩
      have k2 := below_call k1 (below_call (by first | exact Below.refl w1.heap.size w1 | exact below_alloc (Below.refl w1.heap.size w1) (.cells #[.slice A n c, .slice S K d] 75)) hb2)
      cases bx
      · have E := Lib.hid (show R = (0, 18) by rw [HM.out]; rfl)
        clear HM
        go_wp2
        refine ret_of (by simp [results, Tryd.results15, go_sem, *]; repeat' (first | rfl | apply And.intro)) rfl ⟨?_, by repeat (first | with_reducible exact Below.refl _ _ | with_reducible assumption | with_reducible refine below_drewN ?_ _ | with_reducible refine Below.drew ?_ | with_reducible refine below_alloc ?_ _ | (with_reducible refine Below.setCell ?_ ?_ _; rotate_left; ((try simp only); omega)))⟩
        rw [E.out]
      · have E := Lib.hid (show R = (x, 0) by rw [HM.out]; rfl)
        clear HM
        go_wp2
        refine ret_of (by simp [results, Tryd.results15, go_sem, *]; repeat' (first | rfl | apply And.intro)) rfl ⟨?_, by repeat (first | with_reducible exact Below.refl _ _ | with_reducible assumption | with_reducible refine below_drewN ?_ _ | with_reducible refine Below.drew ?_ | with_reducible refine below_alloc ?_ _ | (with_reducible refine Below.setCell ?_ ?_ _; rotate_left; ((try simp only); omega)))⟩
        rw [E.out]
  · have hne : ((slicesE l).2 != 0) = true := by simpa using he
    have E := Lib.hid (show R = (0, (slicesE l).2) by rw [hR]; exact movesE_err he)
    obtain ⟨S, d, rfl, _⟩ := ho1.reads
    obtain ⟨er, her⟩ : ∃ x, x = (slicesE l).2 := ⟨_, rfl⟩
    rw [← her] at hne E ⊢
    clear he her ho1 hR
    go_wp2
    refine ret_of (by simp [results, Tryd.results15, go_sem, *]; repeat' (first | rfl | apply And.intro)) rfl ⟨?_, by repeat (first | with_reducible exact Below.refl _ _ | with_reducible assumption | with_reducible refine below_drewN ?_ _ | with_reducible refine Below.drew ?_ | with_reducible refine below_alloc ?_ _ | (with_reducible refine Below.setCell ?_ ?_ _; rotate_left; ((try simp only); omega)))⟩
    rw [E.out]
set_option maxRecDepth 100000 in
set_option maxHeartbeats 8000000 in
theorem rMoves_any (A : Option Addr) (n c : Nat) (l : List (List Ev)) (i k : Int) (B : Nat) (w : World) (h : ReadsV w B A n l) (hB : B ≤ w.heap.size) (hn : n ≤ 9223372036854775807) :
    Calls Tryd.prog 17 #[.slice A n c, .int .i64 i, .int .i64 k] w fun e w' => e = .returned (.tuple #[.int .i64 (movesE l i k).1, .int .i64 (movesE l i k).2]) ∧ Below w.heap.size w w' := by
  have q1 := refSlices_any A n c l B w h hB hn
  have HLN := Lib.hid h.len
  obtain ⟨R, hR⟩ : ∃ R, R = movesE l i k := ⟨_, rfl⟩
  rw [← hR]
  go_enter Tryd.func17, Tryd.ntmps17
  go_wp2_with fail
  refine q1.mono ?_
  rintro e w1 ⟨v1, rfl, ho1, k1⟩
  by_cases he : (slicesE l).2 = 0
  · obtain ⟨hz, hsl⟩ := slicesE_ok he
    obtain ⟨S, d, rfl, rs⟩ := ho1.reads
    have HKL := Lib.hid (show (slicesE l).1.length = (momS l).length - 1 by rw [hsl]; simp)
    rw [hsl] at rs
    simp only [List.length_map, List.length_range] at rs
    rw [HKL.out, he]
    obtain ⟨K, hK⟩ : ∃ K, K = (momS l).length - 1 := ⟨_, rfl⟩
    rw [← hK] at rs ⊢
    have stg : Stg w1 A S n K l := ⟨(h.below hB k1).more (Nat.le_trans hB k1.size), by rw [hK]; rw [hK] at rs; exact rs, hz, hK⟩
    have HE := Lib.hid he
    have HK := Lib.hid hK
    clear he hsl ho1 HKL rs hz hK q1
    by_cases hout : i < 0 ∨ (n : Int) ≤ i ∨ k < 0 ∨ (K : Int) ≤ k
    · have E := Lib.hid (show R = (0, 2) by rw [hR]; exact movesE_out HE.out (by rw [HLN.out, ← HK.out]; exact hout))
      have hp : i < 0 ∨ (¬ i < 0 ∧ (n : Int) ≤ i) ∨ (¬ i < 0 ∧ ¬ (n : Int) ≤ i ∧ k < 0) ∨ (¬ i < 0 ∧ ¬ (n : Int) ≤ i ∧ ¬ k < 0 ∧ (K : Int) ≤ k) := by omega
      clear hout stg h hR
      rcases hp with h0 | ⟨h0, h1⟩ | ⟨h0, h1, h2⟩ | ⟨h0, h1, h2, h3⟩
      all_goals
        go_wp2
        all_goals
          refine ret_of (by simp [results, Tryd.results17, go_sem, *]; repeat' (first | rfl | apply And.intro)) rfl ⟨?_, by repeat (first | with_reducible exact Below.refl _ _ | with_reducible assumption | with_reducible refine below_drewN ?_ _ | with_reducible refine Below.drew ?_ | with_reducible refine below_alloc ?_ _ | (with_reducible refine Below.setCell ?_ ?_ _; rotate_left; ((try simp only); omega)))⟩
          rw [E.out]
    · obtain ⟨i, rfl⟩ : ∃ j : Nat, i = (j : Int) := ⟨i.toNat, by omega⟩
      obtain ⟨k, rfl⟩ : ∃ j : Nat, k = (j : Int) := ⟨k.toNat, by omega⟩
      have hkK : k < K := by omega
      obtain ⟨v, hv⟩ := get_some (l := l) (k := i) (by have := HLN.out; omega)
      have HM := Lib.hid (show R = if (mvV v (momS l) k).2 = true then ((mvV v (momS l) k).1, 0) else (0, 18) by rw [hR]; exact movesE_in HE.out hv (by rw [← HK.out]; exact hkK))
      have q2 := fun W (hW : Below w1.heap.size w1 W) => rmoves_ok (stg.kept hW) c d hv hkK
      have d1 : ¬ ((i : Int) < 0) := by omega
      have d2 : ¬ ((n : Int) ≤ (i : Int)) := by omega
      have d3 : ¬ ((k : Int) < 0) := by omega
      have d4 : ¬ ((K : Int) ≤ (k : Int)) := by omega
      have d2' : i < n := by omega
      have d2n : ¬ n ≤ i := by omega
      have d4n : ¬ K ≤ k := by omega
      obtain ⟨⟨x, bx⟩, hx⟩ : ∃ y, y = mvV v (momS l) k := ⟨_, rfl⟩
      rw [← hx] at q2 HM
      simp only at q2 HM
      clear hx hv hR stg hout h
      go_wp2_with fail
      all_goals try (exfalso; omega)
      refine Calls.mono (q2 _ ?_) ?_
      · first | exact Below.refl _ _ | exact below_alloc (Below.refl _ _) _
      rintro e w2 ⟨rfl, hb2⟩
      have k2 := below_call k1 (below_call (by first | exact Below.refl w1.heap.size w1 | exact below_alloc (Below.refl w1.heap.size w1) (.cells #[.slice A n c, .slice S K d] 75)) hb2)
      cases bx
      · have E := Lib.hid (show R = (0, 18) by rw [HM.out]; rfl)
        clear HM
        go_wp2
        refine ret_of (by simp [results, Tryd.results17, go_sem, *]; repeat' (first | rfl | apply And.intro)) rfl ⟨?_, by repeat (first | with_reducible exact Below.refl _ _ | with_reducible assumption | with_reducible refine below_drewN ?_ _ | with_reducible refine Below.drew ?_ | with_reducible refine below_alloc ?_ _ | (with_reducible refine Below.setCell ?_ ?_ _; rotate_left; ((try simp only); omega)))⟩
        rw [E.out]
      · have E := Lib.hid (show R = (x, 0) by rw [HM.out]; rfl)
        clear HM
        go_wp2
        refine ret_of (by simp [results, Tryd.results17, go_sem, *]; repeat' (first | rfl | apply And.intro)) rfl ⟨?_, by repeat (first | with_reducible exact Below.refl _ _ | with_reducible assumption | with_reducible refine below_drewN ?_ _ | with_reducible refine Below.drew ?_ | with_reducible refine below_alloc ?_ _ | (with_reducible refine Below.setCell ?_ ?_ _; rotate_left; ((try simp only); omega)))⟩
        rw [E.out]
  · have hne : ((slicesE l).2 != 0) = true := by simpa using he
    have E := Lib.hid (show R = (0, (slicesE l).2) by rw [hR]; exact movesE_err he)
    obtain ⟨S, d, rfl, _⟩ := ho1.reads
    obtain ⟨er, her⟩ : ∃ x, x = (slicesE l).2 := ⟨_, rfl⟩
    rw [← her] at hne E ⊢
    clear he her ho1 hR
    go_wp2
    refine ret_of (by simp [results, Tryd.results17, go_sem, *]; repeat' (first | rfl | apply And.intro)) rfl ⟨?_, by repeat (first | with_reducible exact Below.refl _ _ | with_reducible assumption | with_reducible refine below_drewN ?_ _ | with_reducible refine Below.drew ?_ | with_reducible refine below_alloc ?_ _ | (with_reducible refine Below.setCell ?_ ?_ _; rotate_left; ((try simp only); omega)))⟩
    rw [E.out]
end Go.Proofs.YtigfcbofbcpiaaaDoor
