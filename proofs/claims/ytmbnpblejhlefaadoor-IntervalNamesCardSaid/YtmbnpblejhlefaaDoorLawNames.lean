/- IntervalNames: for every four numbers: the interval of a name is that of the two pitches that have it, and names of different intervals differ. -/
import Derived.Test.YtmbnpblejhlefaaDoorChSentOf
import Derived.Test.YtmbnpblejhlefaaDoorChOct
namespace Go.Proofs.YtmbnpblejhlefaaDoor.intervalNames
open Go.RowKit Go.ChangeShapes Go.WideShapes Go.ChangeAt
theorem nameE_up {p q : Int × Int × Int} (hp : pchk p = 0) (hq : pchk q = 0) : nameE p q = if nameX (upI p q) = ⟨#[]⟩ then (⟨#[]⟩, 18) else (nameX (upI p q), 0) := by
  have hu : upE p q = (upI p q, 0) := by unfold upE; rw [bothP_mk hp hq, if_neg (fun h => h rfl)]
  unfold nameE
  rw [hu, if_neg (fun h => h rfl)]
theorem name_size {x : Int × Int} (h0 : 0 ≤ x.1) (h1 : x.1 ≤ 62) (hn : nameX x ≠ ⟨#[]⟩) : (nameX x).size ≤ maxLen := by
  obtain ⟨c, hs, _⟩ := nameX_shape h0 h1 rfl hn
  have := shape_size hs
  unfold maxLen; omega
set_option maxRecDepth 100000 in
set_option maxHeartbeats 4000000 in
theorem walk (a b c d : Int) (w : World) (ha : -9223372036854775808 ≤ a ∧ a ≤ 9223372036854775807) (hb : -9223372036854775808 ≤ b ∧ b ≤ 9223372036854775807) (hc : -9223372036854775808 ≤ c ∧ c ≤ 9223372036854775807) (hd : -9223372036854775808 ≤ d ∧ d ≤ 9223372036854775807) (ht : Tabs2 w) :
    Calls Tryd.prog 7 #[.int .i64 a, .int .i64 b, .int .i64 c, .int .i64 d] w fun e w' => e = .returned (.bool true) ∧ Below w.heap.size w w' := by
  have qk := fun W (hW : Tabs2 W) => known_any W hW
  have m1 := fun W => made_any a W ha.1 ha.2
  have m2 := fun W => made_any b W hb.1 hb.2
  have m3 := fun W => made_any c W hc.1 hc.2
  have m4 := fun W => made_any d W hd.1 hd.2
  have hpa := madeP_ok a
  have hpb := madeP_ok b
  have hpc := madeP_ok c
  have hpd := madeP_ok d
  have n1 := fun W (hW : Tabs2 W) => Name_any (madeP a) (madeP b) W hW.tabs
  have n2 := fun W (hW : Tabs2 W) => Name_any (madeP c) (madeP d) W hW.tabs
  have qu := rUp_ok (madeP a) (madeP b) hpa hpb
  have bx := upI_bd hpa hpb
  have bY := upI_bd hpc hpd
  rw [nameE_up hpa hpb] at n1
  rw [nameE_up hpc hpd] at n2
  obtain ⟨x, hx⟩ : ∃ x, x = upI (madeP a) (madeP b) := ⟨_, rfl⟩
  obtain ⟨y, hy⟩ : ∃ x, x = upI (madeP c) (madeP d) := ⟨_, rfl⟩
  rw [← hx] at n1 qu bx
  rw [← hy] at n2 bY
  clear hpa hpb hpc hpd hx hy
  obtain ⟨p, hp⟩ : ∃ p, p = madeP a := ⟨_, rfl⟩
  obtain ⟨q, hq⟩ : ∃ p, p = madeP b := ⟨_, rfl⟩
  obtain ⟨r, hr⟩ : ∃ p, p = madeP c := ⟨_, rfl⟩
  obtain ⟨s, hs⟩ : ∃ p, p = madeP d := ⟨_, rfl⟩
  rw [← hp] at m1 n1 qu
  rw [← hq] at m2 n1 qu
  rw [← hr] at m3 n2
  rw [← hs] at m4 n2
  clear hp hq hr hs
  obtain ⟨p0, p1, p2⟩ := p
  obtain ⟨q0, q1, q2⟩ := q
  obtain ⟨r0, r1, r2⟩ := r
  obtain ⟨s0, s1, s2⟩ := s
  by_cases hx : nameX x = ⟨#[]⟩
  · rw [if_pos hx] at n1
    clear qu bx bY hx
    by_cases hy : nameX y = ⟨#[]⟩
    · rw [if_pos hy] at n2
      clear hy
      go_enter Tryd.func7, Tryd.ntmps7
      go_wp2_with fail
      refine Calls.mono (qk _ ?_) ?_
      · exact ht.kept (by repeat (first | with_reducible exact Below.refl _ _ | with_reducible assumption | with_reducible refine below_drewN ?_ _ | with_reducible refine Below.drew ?_ | with_reducible refine below_alloc ?_ _ | (with_reducible refine Below.setCell ?_ ?_ _; rotate_left; ((try simp only); omega))))
      rintro e w1 ⟨rfl, hb1⟩
      have kb1 : Below w.heap.size w w1 := below_call (by repeat (first | with_reducible exact Below.refl _ _ | with_reducible assumption | with_reducible refine below_drewN ?_ _ | with_reducible refine Below.drew ?_ | with_reducible refine below_alloc ?_ _ | (with_reducible refine Below.setCell ?_ ?_ _; rotate_left; ((try simp only); omega)))) hb1
      have hs1 : w.heap.size ≤ w1.heap.size := by have h := hb1.size; (try simp at h); omega
      go_wp2_with fail
      refine (m1 _).mono ?_
      rintro e w2 ⟨rfl, hb2⟩
      have kb2 : Below w.heap.size w w2 := below_call (by repeat (first | with_reducible exact Below.refl _ _ | with_reducible assumption | with_reducible refine below_drewN ?_ _ | with_reducible refine Below.drew ?_ | with_reducible refine below_alloc ?_ _ | (with_reducible refine Below.setCell ?_ ?_ _; rotate_left; ((try simp only); omega)))) hb2
      have hs2 : w.heap.size ≤ w2.heap.size := by have h := hb2.size; (try simp at h); omega
      go_wp2_with fail
      refine (m2 _).mono ?_
      rintro e w3 ⟨rfl, hb3⟩
      have kb3 : Below w.heap.size w w3 := below_call (by repeat (first | with_reducible exact Below.refl _ _ | with_reducible assumption | with_reducible refine below_drewN ?_ _ | with_reducible refine Below.drew ?_ | with_reducible refine below_alloc ?_ _ | (with_reducible refine Below.setCell ?_ ?_ _; rotate_left; ((try simp only); omega)))) hb3
      have hs3 : w.heap.size ≤ w3.heap.size := by have h := hb3.size; (try simp at h); omega
      go_wp2_with fail
      refine Calls.mono (n1 _ ?_) ?_
      · exact ht.kept (by repeat (first | with_reducible exact Below.refl _ _ | with_reducible assumption | with_reducible refine below_drewN ?_ _ | with_reducible refine Below.drew ?_ | with_reducible refine below_alloc ?_ _ | (with_reducible refine Below.setCell ?_ ?_ _; rotate_left; ((try simp only); omega))))
      rintro e w4 ⟨rfl, hb4⟩
      have kb4 : Below w.heap.size w w4 := below_call (by repeat (first | with_reducible exact Below.refl _ _ | with_reducible assumption | with_reducible refine below_drewN ?_ _ | with_reducible refine Below.drew ?_ | with_reducible refine below_alloc ?_ _ | (with_reducible refine Below.setCell ?_ ?_ _; rotate_left; ((try simp only); omega)))) hb4
      have hs4 : w.heap.size ≤ w4.heap.size := by have h := hb4.size; (try simp at h); omega
      go_wp2_with fail
      refine (m3 _).mono ?_
      rintro e w5 ⟨rfl, hb5⟩
      have kb5 : Below w.heap.size w w5 := below_call (by repeat (first | with_reducible exact Below.refl _ _ | with_reducible assumption | with_reducible refine below_drewN ?_ _ | with_reducible refine Below.drew ?_ | with_reducible refine below_alloc ?_ _ | (with_reducible refine Below.setCell ?_ ?_ _; rotate_left; ((try simp only); omega)))) hb5
      have hs5 : w.heap.size ≤ w5.heap.size := by have h := hb5.size; (try simp at h); omega
      go_wp2_with fail
      refine (m4 _).mono ?_
      rintro e w6 ⟨rfl, hb6⟩
      have kb6 : Below w.heap.size w w6 := below_call (by repeat (first | with_reducible exact Below.refl _ _ | with_reducible assumption | with_reducible refine below_drewN ?_ _ | with_reducible refine Below.drew ?_ | with_reducible refine below_alloc ?_ _ | (with_reducible refine Below.setCell ?_ ?_ _; rotate_left; ((try simp only); omega)))) hb6
      have hs6 : w.heap.size ≤ w6.heap.size := by have h := hb6.size; (try simp at h); omega
      go_wp2_with fail
      refine Calls.mono (n2 _ ?_) ?_
      · exact ht.kept (by repeat (first | with_reducible exact Below.refl _ _ | with_reducible assumption | with_reducible refine below_drewN ?_ _ | with_reducible refine Below.drew ?_ | with_reducible refine below_alloc ?_ _ | (with_reducible refine Below.setCell ?_ ?_ _; rotate_left; ((try simp only); omega))))
      rintro e w7 ⟨rfl, hb7⟩
      have kb7 : Below w.heap.size w w7 := below_call (by repeat (first | with_reducible exact Below.refl _ _ | with_reducible assumption | with_reducible refine below_drewN ?_ _ | with_reducible refine Below.drew ?_ | with_reducible refine below_alloc ?_ _ | (with_reducible refine Below.setCell ?_ ?_ _; rotate_left; ((try simp only); omega)))) hb7
      have hs7 : w.heap.size ≤ w7.heap.size := by have h := hb7.size; (try simp at h); omega
      go_wp2
      go_ret
      exact ⟨rfl, by repeat (first | with_reducible exact Below.refl _ _ | with_reducible assumption | with_reducible refine below_drewN ?_ _ | with_reducible refine Below.drew ?_ | with_reducible refine below_alloc ?_ _ | (with_reducible refine Below.setCell ?_ ?_ _; rotate_left; ((try simp only); omega)))⟩
    · rw [if_neg hy] at n2
      obtain ⟨ty, hty⟩ : ∃ t, t = nameX y := ⟨_, rfl⟩
      rw [← hty] at n2
      clear hy hty
      go_enter Tryd.func7, Tryd.ntmps7
      go_wp2_with fail
      refine Calls.mono (qk _ ?_) ?_
      · exact ht.kept (by repeat (first | with_reducible exact Below.refl _ _ | with_reducible assumption | with_reducible refine below_drewN ?_ _ | with_reducible refine Below.drew ?_ | with_reducible refine below_alloc ?_ _ | (with_reducible refine Below.setCell ?_ ?_ _; rotate_left; ((try simp only); omega))))
      rintro e w1 ⟨rfl, hb1⟩
      have kb1 : Below w.heap.size w w1 := below_call (by repeat (first | with_reducible exact Below.refl _ _ | with_reducible assumption | with_reducible refine below_drewN ?_ _ | with_reducible refine Below.drew ?_ | with_reducible refine below_alloc ?_ _ | (with_reducible refine Below.setCell ?_ ?_ _; rotate_left; ((try simp only); omega)))) hb1
      have hs1 : w.heap.size ≤ w1.heap.size := by have h := hb1.size; (try simp at h); omega
      go_wp2_with fail
      refine (m1 _).mono ?_
      rintro e w2 ⟨rfl, hb2⟩
      have kb2 : Below w.heap.size w w2 := below_call (by repeat (first | with_reducible exact Below.refl _ _ | with_reducible assumption | with_reducible refine below_drewN ?_ _ | with_reducible refine Below.drew ?_ | with_reducible refine below_alloc ?_ _ | (with_reducible refine Below.setCell ?_ ?_ _; rotate_left; ((try simp only); omega)))) hb2
      have hs2 : w.heap.size ≤ w2.heap.size := by have h := hb2.size; (try simp at h); omega
      go_wp2_with fail
      refine (m2 _).mono ?_
      rintro e w3 ⟨rfl, hb3⟩
      have kb3 : Below w.heap.size w w3 := below_call (by repeat (first | with_reducible exact Below.refl _ _ | with_reducible assumption | with_reducible refine below_drewN ?_ _ | with_reducible refine Below.drew ?_ | with_reducible refine below_alloc ?_ _ | (with_reducible refine Below.setCell ?_ ?_ _; rotate_left; ((try simp only); omega)))) hb3
      have hs3 : w.heap.size ≤ w3.heap.size := by have h := hb3.size; (try simp at h); omega
      go_wp2_with fail
      refine Calls.mono (n1 _ ?_) ?_
      · exact ht.kept (by repeat (first | with_reducible exact Below.refl _ _ | with_reducible assumption | with_reducible refine below_drewN ?_ _ | with_reducible refine Below.drew ?_ | with_reducible refine below_alloc ?_ _ | (with_reducible refine Below.setCell ?_ ?_ _; rotate_left; ((try simp only); omega))))
      rintro e w4 ⟨rfl, hb4⟩
      have kb4 : Below w.heap.size w w4 := below_call (by repeat (first | with_reducible exact Below.refl _ _ | with_reducible assumption | with_reducible refine below_drewN ?_ _ | with_reducible refine Below.drew ?_ | with_reducible refine below_alloc ?_ _ | (with_reducible refine Below.setCell ?_ ?_ _; rotate_left; ((try simp only); omega)))) hb4
      have hs4 : w.heap.size ≤ w4.heap.size := by have h := hb4.size; (try simp at h); omega
      go_wp2_with fail
      refine (m3 _).mono ?_
      rintro e w5 ⟨rfl, hb5⟩
      have kb5 : Below w.heap.size w w5 := below_call (by repeat (first | with_reducible exact Below.refl _ _ | with_reducible assumption | with_reducible refine below_drewN ?_ _ | with_reducible refine Below.drew ?_ | with_reducible refine below_alloc ?_ _ | (with_reducible refine Below.setCell ?_ ?_ _; rotate_left; ((try simp only); omega)))) hb5
      have hs5 : w.heap.size ≤ w5.heap.size := by have h := hb5.size; (try simp at h); omega
      go_wp2_with fail
      refine (m4 _).mono ?_
      rintro e w6 ⟨rfl, hb6⟩
      have kb6 : Below w.heap.size w w6 := below_call (by repeat (first | with_reducible exact Below.refl _ _ | with_reducible assumption | with_reducible refine below_drewN ?_ _ | with_reducible refine Below.drew ?_ | with_reducible refine below_alloc ?_ _ | (with_reducible refine Below.setCell ?_ ?_ _; rotate_left; ((try simp only); omega)))) hb6
      have hs6 : w.heap.size ≤ w6.heap.size := by have h := hb6.size; (try simp at h); omega
      go_wp2_with fail
      refine Calls.mono (n2 _ ?_) ?_
      · exact ht.kept (by repeat (first | with_reducible exact Below.refl _ _ | with_reducible assumption | with_reducible refine below_drewN ?_ _ | with_reducible refine Below.drew ?_ | with_reducible refine below_alloc ?_ _ | (with_reducible refine Below.setCell ?_ ?_ _; rotate_left; ((try simp only); omega))))
      rintro e w7 ⟨rfl, hb7⟩
      have kb7 : Below w.heap.size w w7 := below_call (by repeat (first | with_reducible exact Below.refl _ _ | with_reducible assumption | with_reducible refine below_drewN ?_ _ | with_reducible refine Below.drew ?_ | with_reducible refine below_alloc ?_ _ | (with_reducible refine Below.setCell ?_ ?_ _; rotate_left; ((try simp only); omega)))) hb7
      have hs7 : w.heap.size ≤ w7.heap.size := by have h := hb7.size; (try simp at h); omega
      go_wp2
      go_ret
      exact ⟨rfl, by repeat (first | with_reducible exact Below.refl _ _ | with_reducible assumption | with_reducible refine below_drewN ?_ _ | with_reducible refine Below.drew ?_ | with_reducible refine below_alloc ?_ _ | (with_reducible refine Below.setCell ?_ ?_ _; rotate_left; ((try simp only); omega)))⟩
  · rw [if_neg hx] at n1
    by_cases hy : nameX y = ⟨#[]⟩
    · rw [if_pos hy] at n2
      obtain ⟨tx, htx⟩ : ∃ t, t = nameX x := ⟨_, rfl⟩
      rw [← htx] at n1
      clear hx hy htx qu bx bY
      go_enter Tryd.func7, Tryd.ntmps7
      go_wp2_with fail
      refine Calls.mono (qk _ ?_) ?_
      · exact ht.kept (by repeat (first | with_reducible exact Below.refl _ _ | with_reducible assumption | with_reducible refine below_drewN ?_ _ | with_reducible refine Below.drew ?_ | with_reducible refine below_alloc ?_ _ | (with_reducible refine Below.setCell ?_ ?_ _; rotate_left; ((try simp only); omega))))
      rintro e w1 ⟨rfl, hb1⟩
      have kb1 : Below w.heap.size w w1 := below_call (by repeat (first | with_reducible exact Below.refl _ _ | with_reducible assumption | with_reducible refine below_drewN ?_ _ | with_reducible refine Below.drew ?_ | with_reducible refine below_alloc ?_ _ | (with_reducible refine Below.setCell ?_ ?_ _; rotate_left; ((try simp only); omega)))) hb1
      have hs1 : w.heap.size ≤ w1.heap.size := by have h := hb1.size; (try simp at h); omega
      go_wp2_with fail
      refine (m1 _).mono ?_
      rintro e w2 ⟨rfl, hb2⟩
      have kb2 : Below w.heap.size w w2 := below_call (by repeat (first | with_reducible exact Below.refl _ _ | with_reducible assumption | with_reducible refine below_drewN ?_ _ | with_reducible refine Below.drew ?_ | with_reducible refine below_alloc ?_ _ | (with_reducible refine Below.setCell ?_ ?_ _; rotate_left; ((try simp only); omega)))) hb2
      have hs2 : w.heap.size ≤ w2.heap.size := by have h := hb2.size; (try simp at h); omega
      go_wp2_with fail
      refine (m2 _).mono ?_
      rintro e w3 ⟨rfl, hb3⟩
      have kb3 : Below w.heap.size w w3 := below_call (by repeat (first | with_reducible exact Below.refl _ _ | with_reducible assumption | with_reducible refine below_drewN ?_ _ | with_reducible refine Below.drew ?_ | with_reducible refine below_alloc ?_ _ | (with_reducible refine Below.setCell ?_ ?_ _; rotate_left; ((try simp only); omega)))) hb3
      have hs3 : w.heap.size ≤ w3.heap.size := by have h := hb3.size; (try simp at h); omega
      go_wp2_with fail
      refine Calls.mono (n1 _ ?_) ?_
      · exact ht.kept (by repeat (first | with_reducible exact Below.refl _ _ | with_reducible assumption | with_reducible refine below_drewN ?_ _ | with_reducible refine Below.drew ?_ | with_reducible refine below_alloc ?_ _ | (with_reducible refine Below.setCell ?_ ?_ _; rotate_left; ((try simp only); omega))))
      rintro e w4 ⟨rfl, hb4⟩
      have kb4 : Below w.heap.size w w4 := below_call (by repeat (first | with_reducible exact Below.refl _ _ | with_reducible assumption | with_reducible refine below_drewN ?_ _ | with_reducible refine Below.drew ?_ | with_reducible refine below_alloc ?_ _ | (with_reducible refine Below.setCell ?_ ?_ _; rotate_left; ((try simp only); omega)))) hb4
      have hs4 : w.heap.size ≤ w4.heap.size := by have h := hb4.size; (try simp at h); omega
      go_wp2_with fail
      refine (m3 _).mono ?_
      rintro e w5 ⟨rfl, hb5⟩
      have kb5 : Below w.heap.size w w5 := below_call (by repeat (first | with_reducible exact Below.refl _ _ | with_reducible assumption | with_reducible refine below_drewN ?_ _ | with_reducible refine Below.drew ?_ | with_reducible refine below_alloc ?_ _ | (with_reducible refine Below.setCell ?_ ?_ _; rotate_left; ((try simp only); omega)))) hb5
      have hs5 : w.heap.size ≤ w5.heap.size := by have h := hb5.size; (try simp at h); omega
      go_wp2_with fail
      refine (m4 _).mono ?_
      rintro e w6 ⟨rfl, hb6⟩
      have kb6 : Below w.heap.size w w6 := below_call (by repeat (first | with_reducible exact Below.refl _ _ | with_reducible assumption | with_reducible refine below_drewN ?_ _ | with_reducible refine Below.drew ?_ | with_reducible refine below_alloc ?_ _ | (with_reducible refine Below.setCell ?_ ?_ _; rotate_left; ((try simp only); omega)))) hb6
      have hs6 : w.heap.size ≤ w6.heap.size := by have h := hb6.size; (try simp at h); omega
      go_wp2_with fail
      refine Calls.mono (n2 _ ?_) ?_
      · exact ht.kept (by repeat (first | with_reducible exact Below.refl _ _ | with_reducible assumption | with_reducible refine below_drewN ?_ _ | with_reducible refine Below.drew ?_ | with_reducible refine below_alloc ?_ _ | (with_reducible refine Below.setCell ?_ ?_ _; rotate_left; ((try simp only); omega))))
      rintro e w7 ⟨rfl, hb7⟩
      have kb7 : Below w.heap.size w w7 := below_call (by repeat (first | with_reducible exact Below.refl _ _ | with_reducible assumption | with_reducible refine below_drewN ?_ _ | with_reducible refine Below.drew ?_ | with_reducible refine below_alloc ?_ _ | (with_reducible refine Below.setCell ?_ ?_ _; rotate_left; ((try simp only); omega)))) hb7
      have hs7 : w.heap.size ≤ w7.heap.size := by have h := hb7.size; (try simp at h); omega
      go_wp2
      go_ret
      exact ⟨rfl, by repeat (first | with_reducible exact Below.refl _ _ | with_reducible assumption | with_reducible refine below_drewN ?_ _ | with_reducible refine Below.drew ?_ | with_reducible refine below_alloc ?_ _ | (with_reducible refine Below.setCell ?_ ?_ _; rotate_left; ((try simp only); omega)))⟩
    · rw [if_neg hy] at n2
      have ps1 := fun W (hW : Tabs2 W) => Parse_yes x W hW bx.1 bx.2.1 hx (name_size bx.1 bx.2.1 hx)
      have ps2 := fun W (hW : Tabs2 W) => Parse_yes y W hW bY.1 bY.2.1 hy (name_size bY.1 bY.2.1 hy)
      by_cases hxy : x = y
      · subst hxy
        obtain ⟨tx, htx⟩ : ∃ t, t = nameX x := ⟨_, rfl⟩
        rw [← htx] at n1 n2 ps1 ps2
        clear hx hy htx bx bY
        obtain ⟨x0, x1⟩ := x
        go_enter Tryd.func7, Tryd.ntmps7
        go_wp2_with fail
        refine Calls.mono (qk _ ?_) ?_
        · exact ht.kept (by repeat (first | with_reducible exact Below.refl _ _ | with_reducible assumption | with_reducible refine below_drewN ?_ _ | with_reducible refine Below.drew ?_ | with_reducible refine below_alloc ?_ _ | (with_reducible refine Below.setCell ?_ ?_ _; rotate_left; ((try simp only); omega))))
        rintro e w1 ⟨rfl, hb1⟩
        have kb1 : Below w.heap.size w w1 := below_call (by repeat (first | with_reducible exact Below.refl _ _ | with_reducible assumption | with_reducible refine below_drewN ?_ _ | with_reducible refine Below.drew ?_ | with_reducible refine below_alloc ?_ _ | (with_reducible refine Below.setCell ?_ ?_ _; rotate_left; ((try simp only); omega)))) hb1
        have hs1 : w.heap.size ≤ w1.heap.size := by have h := hb1.size; (try simp at h); omega
        go_wp2_with fail
        refine (m1 _).mono ?_
        rintro e w2 ⟨rfl, hb2⟩
        have kb2 : Below w.heap.size w w2 := below_call (by repeat (first | with_reducible exact Below.refl _ _ | with_reducible assumption | with_reducible refine below_drewN ?_ _ | with_reducible refine Below.drew ?_ | with_reducible refine below_alloc ?_ _ | (with_reducible refine Below.setCell ?_ ?_ _; rotate_left; ((try simp only); omega)))) hb2
        have hs2 : w.heap.size ≤ w2.heap.size := by have h := hb2.size; (try simp at h); omega
        go_wp2_with fail
        refine (m2 _).mono ?_
        rintro e w3 ⟨rfl, hb3⟩
        have kb3 : Below w.heap.size w w3 := below_call (by repeat (first | with_reducible exact Below.refl _ _ | with_reducible assumption | with_reducible refine below_drewN ?_ _ | with_reducible refine Below.drew ?_ | with_reducible refine below_alloc ?_ _ | (with_reducible refine Below.setCell ?_ ?_ _; rotate_left; ((try simp only); omega)))) hb3
        have hs3 : w.heap.size ≤ w3.heap.size := by have h := hb3.size; (try simp at h); omega
        go_wp2_with fail
        refine Calls.mono (n1 _ ?_) ?_
        · exact ht.kept (by repeat (first | with_reducible exact Below.refl _ _ | with_reducible assumption | with_reducible refine below_drewN ?_ _ | with_reducible refine Below.drew ?_ | with_reducible refine below_alloc ?_ _ | (with_reducible refine Below.setCell ?_ ?_ _; rotate_left; ((try simp only); omega))))
        rintro e w4 ⟨rfl, hb4⟩
        have kb4 : Below w.heap.size w w4 := below_call (by repeat (first | with_reducible exact Below.refl _ _ | with_reducible assumption | with_reducible refine below_drewN ?_ _ | with_reducible refine Below.drew ?_ | with_reducible refine below_alloc ?_ _ | (with_reducible refine Below.setCell ?_ ?_ _; rotate_left; ((try simp only); omega)))) hb4
        have hs4 : w.heap.size ≤ w4.heap.size := by have h := hb4.size; (try simp at h); omega
        go_wp2_with fail
        refine (m3 _).mono ?_
        rintro e w5 ⟨rfl, hb5⟩
        have kb5 : Below w.heap.size w w5 := below_call (by repeat (first | with_reducible exact Below.refl _ _ | with_reducible assumption | with_reducible refine below_drewN ?_ _ | with_reducible refine Below.drew ?_ | with_reducible refine below_alloc ?_ _ | (with_reducible refine Below.setCell ?_ ?_ _; rotate_left; ((try simp only); omega)))) hb5
        have hs5 : w.heap.size ≤ w5.heap.size := by have h := hb5.size; (try simp at h); omega
        go_wp2_with fail
        refine (m4 _).mono ?_
        rintro e w6 ⟨rfl, hb6⟩
        have kb6 : Below w.heap.size w w6 := below_call (by repeat (first | with_reducible exact Below.refl _ _ | with_reducible assumption | with_reducible refine below_drewN ?_ _ | with_reducible refine Below.drew ?_ | with_reducible refine below_alloc ?_ _ | (with_reducible refine Below.setCell ?_ ?_ _; rotate_left; ((try simp only); omega)))) hb6
        have hs6 : w.heap.size ≤ w6.heap.size := by have h := hb6.size; (try simp at h); omega
        go_wp2_with fail
        refine Calls.mono (n2 _ ?_) ?_
        · exact ht.kept (by repeat (first | with_reducible exact Below.refl _ _ | with_reducible assumption | with_reducible refine below_drewN ?_ _ | with_reducible refine Below.drew ?_ | with_reducible refine below_alloc ?_ _ | (with_reducible refine Below.setCell ?_ ?_ _; rotate_left; ((try simp only); omega))))
        rintro e w7 ⟨rfl, hb7⟩
        have kb7 : Below w.heap.size w w7 := below_call (by repeat (first | with_reducible exact Below.refl _ _ | with_reducible assumption | with_reducible refine below_drewN ?_ _ | with_reducible refine Below.drew ?_ | with_reducible refine below_alloc ?_ _ | (with_reducible refine Below.setCell ?_ ?_ _; rotate_left; ((try simp only); omega)))) hb7
        have hs7 : w.heap.size ≤ w7.heap.size := by have h := hb7.size; (try simp at h); omega
        go_wp2_with fail
        refine Calls.mono (ps1 _ ?_) ?_
        · exact ht.kept (by repeat (first | with_reducible exact Below.refl _ _ | with_reducible assumption | with_reducible refine below_drewN ?_ _ | with_reducible refine Below.drew ?_ | with_reducible refine below_alloc ?_ _ | (with_reducible refine Below.setCell ?_ ?_ _; rotate_left; ((try simp only); omega))))
        rintro e w8 ⟨rfl, hb8⟩
        have kb8 : Below w.heap.size w w8 := below_call (by repeat (first | with_reducible exact Below.refl _ _ | with_reducible assumption | with_reducible refine below_drewN ?_ _ | with_reducible refine Below.drew ?_ | with_reducible refine below_alloc ?_ _ | (with_reducible refine Below.setCell ?_ ?_ _; rotate_left; ((try simp only); omega)))) hb8
        have hs8 : w.heap.size ≤ w8.heap.size := by have h := hb8.size; (try simp at h); omega
        go_wp2_with fail
        refine Calls.mono (ps2 _ ?_) ?_
        · exact ht.kept (by repeat (first | with_reducible exact Below.refl _ _ | with_reducible assumption | with_reducible refine below_drewN ?_ _ | with_reducible refine Below.drew ?_ | with_reducible refine below_alloc ?_ _ | (with_reducible refine Below.setCell ?_ ?_ _; rotate_left; ((try simp only); omega))))
        rintro e w9 ⟨rfl, hb9⟩
        have kb9 : Below w.heap.size w w9 := below_call (by repeat (first | with_reducible exact Below.refl _ _ | with_reducible assumption | with_reducible refine below_drewN ?_ _ | with_reducible refine Below.drew ?_ | with_reducible refine below_alloc ?_ _ | (with_reducible refine Below.setCell ?_ ?_ _; rotate_left; ((try simp only); omega)))) hb9
        have BX9 : Blk w9 (w8.heap.size) 38 #[.int .i64 x0, .int .i64 x1] := by
          refine Blk.kept ?_ hb9
          repeat (first | with_reducible exact Blk.new _ _ _ | (with_reducible refine Blk.newAt _ _ _ _ ?_; first | rfl | (simp; done)) | with_reducible apply Blk.alloc | with_reducible apply Blk.drewN | with_reducible apply Blk.drew | with_reducible apply Blk.set_to | (with_reducible apply Blk.far_; (simp only [ne_eq]; omega)) | rfl)
        have cX0_9 : w9.cell? ⟨w8.heap.size, 0, none⟩ = some (.int .i64 x0) := BX9.cell 0
        have cX1_9 : w9.cell? ⟨w8.heap.size, 1, none⟩ = some (.int .i64 x1) := BX9.cell 1
        have lX9 : w8.heap.size < w9.heap.size := BX9.lt
        have mX9 : w8.heap.size < w9.heap.size + 1 := by omega
        have nX9 : w8.heap.size < w9.heap.size + 1 + 1 := by omega
        have hs9 : w.heap.size ≤ w9.heap.size := by have h := hb9.size; (try simp at h); omega
        go_wp2_with fail
        refine (m1 _).mono ?_
        rintro e w10 ⟨rfl, hb10⟩
        have kb10 : Below w.heap.size w w10 := below_call (by repeat (first | with_reducible exact Below.refl _ _ | with_reducible assumption | with_reducible refine below_drewN ?_ _ | with_reducible refine Below.drew ?_ | with_reducible refine below_alloc ?_ _ | (with_reducible refine Below.setCell ?_ ?_ _; rotate_left; ((try simp only); omega)))) hb10
        have BX10 : Blk w10 (w8.heap.size) 38 #[.int .i64 x0, .int .i64 x1] := by
          refine Blk.kept ?_ hb10
          repeat (first | with_reducible exact BX9 | with_reducible exact Blk.new _ _ _ | (with_reducible refine Blk.newAt _ _ _ _ ?_; first | rfl | (simp; done)) | with_reducible apply Blk.alloc | with_reducible apply Blk.drewN | with_reducible apply Blk.drew | with_reducible apply Blk.set_to | (with_reducible apply Blk.far_; (simp only [ne_eq]; omega)) | rfl)
        have cX0_10 : w10.cell? ⟨w8.heap.size, 0, none⟩ = some (.int .i64 x0) := BX10.cell 0
        have cX1_10 : w10.cell? ⟨w8.heap.size, 1, none⟩ = some (.int .i64 x1) := BX10.cell 1
        have lX10 : w8.heap.size < w10.heap.size := BX10.lt
        have mX10 : w8.heap.size < w10.heap.size + 1 := by omega
        have nX10 : w8.heap.size < w10.heap.size + 1 + 1 := by omega
        have BY10 : Blk w10 (w9.heap.size) 38 #[.int .i64 x0, .int .i64 x1] := by
          refine Blk.kept ?_ hb10
          repeat (first | with_reducible exact Blk.new _ _ _ | (with_reducible refine Blk.newAt _ _ _ _ ?_; first | rfl | (simp; done)) | with_reducible apply Blk.alloc | with_reducible apply Blk.drewN | with_reducible apply Blk.drew | with_reducible apply Blk.set_to | (with_reducible apply Blk.far_; (simp only [ne_eq]; omega)) | rfl)
        have cY0_10 : w10.cell? ⟨w9.heap.size, 0, none⟩ = some (.int .i64 x0) := BY10.cell 0
        have cY1_10 : w10.cell? ⟨w9.heap.size, 1, none⟩ = some (.int .i64 x1) := BY10.cell 1
        have lY10 : w9.heap.size < w10.heap.size := BY10.lt
        have mY10 : w9.heap.size < w10.heap.size + 1 := by omega
        have nY10 : w9.heap.size < w10.heap.size + 1 + 1 := by omega
        clear BX9 lX9 mX9 nX9 cX0_9 cX1_9
        have hs10 : w.heap.size ≤ w10.heap.size := by have h := hb10.size; (try simp at h); omega
        go_wp2_with fail
        refine (m2 _).mono ?_
        rintro e w11 ⟨rfl, hb11⟩
        have kb11 : Below w.heap.size w w11 := below_call (by repeat (first | with_reducible exact Below.refl _ _ | with_reducible assumption | with_reducible refine below_drewN ?_ _ | with_reducible refine Below.drew ?_ | with_reducible refine below_alloc ?_ _ | (with_reducible refine Below.setCell ?_ ?_ _; rotate_left; ((try simp only); omega)))) hb11
        have BX11 : Blk w11 (w8.heap.size) 38 #[.int .i64 x0, .int .i64 x1] := by
          refine Blk.kept ?_ hb11
          repeat (first | with_reducible exact BX10 | with_reducible exact Blk.new _ _ _ | (with_reducible refine Blk.newAt _ _ _ _ ?_; first | rfl | (simp; done)) | with_reducible apply Blk.alloc | with_reducible apply Blk.drewN | with_reducible apply Blk.drew | with_reducible apply Blk.set_to | (with_reducible apply Blk.far_; (simp only [ne_eq]; omega)) | rfl)
        have cX0_11 : w11.cell? ⟨w8.heap.size, 0, none⟩ = some (.int .i64 x0) := BX11.cell 0
        have cX1_11 : w11.cell? ⟨w8.heap.size, 1, none⟩ = some (.int .i64 x1) := BX11.cell 1
        have lX11 : w8.heap.size < w11.heap.size := BX11.lt
        have mX11 : w8.heap.size < w11.heap.size + 1 := by omega
        have nX11 : w8.heap.size < w11.heap.size + 1 + 1 := by omega
        have BY11 : Blk w11 (w9.heap.size) 38 #[.int .i64 x0, .int .i64 x1] := by
          refine Blk.kept ?_ hb11
          repeat (first | with_reducible exact BY10 | with_reducible exact Blk.new _ _ _ | (with_reducible refine Blk.newAt _ _ _ _ ?_; first | rfl | (simp; done)) | with_reducible apply Blk.alloc | with_reducible apply Blk.drewN | with_reducible apply Blk.drew | with_reducible apply Blk.set_to | (with_reducible apply Blk.far_; (simp only [ne_eq]; omega)) | rfl)
        have cY0_11 : w11.cell? ⟨w9.heap.size, 0, none⟩ = some (.int .i64 x0) := BY11.cell 0
        have cY1_11 : w11.cell? ⟨w9.heap.size, 1, none⟩ = some (.int .i64 x1) := BY11.cell 1
        have lY11 : w9.heap.size < w11.heap.size := BY11.lt
        have mY11 : w9.heap.size < w11.heap.size + 1 := by omega
        have nY11 : w9.heap.size < w11.heap.size + 1 + 1 := by omega
        clear BX10 lX10 mX10 nX10 cX0_10 cX1_10 BY10 lY10 mY10 nY10 cY0_10 cY1_10
        have hs11 : w.heap.size ≤ w11.heap.size := by have h := hb11.size; (try simp at h); omega
        go_wp2_with fail
        refine (qu _).mono ?_
        rintro e w12 ⟨rfl, hb12⟩
        have kb12 : Below w.heap.size w w12 := below_call (by repeat (first | with_reducible exact Below.refl _ _ | with_reducible assumption | with_reducible refine below_drewN ?_ _ | with_reducible refine Below.drew ?_ | with_reducible refine below_alloc ?_ _ | (with_reducible refine Below.setCell ?_ ?_ _; rotate_left; ((try simp only); omega)))) hb12
        have BX12 : Blk w12 (w8.heap.size) 38 #[.int .i64 x0, .int .i64 x1] := by
          refine Blk.kept ?_ hb12
          repeat (first | with_reducible exact BX11 | with_reducible exact Blk.new _ _ _ | (with_reducible refine Blk.newAt _ _ _ _ ?_; first | rfl | (simp; done)) | with_reducible apply Blk.alloc | with_reducible apply Blk.drewN | with_reducible apply Blk.drew | with_reducible apply Blk.set_to | (with_reducible apply Blk.far_; (simp only [ne_eq]; omega)) | rfl)
        have cX0_12 : w12.cell? ⟨w8.heap.size, 0, none⟩ = some (.int .i64 x0) := BX12.cell 0
        have cX1_12 : w12.cell? ⟨w8.heap.size, 1, none⟩ = some (.int .i64 x1) := BX12.cell 1
        have lX12 : w8.heap.size < w12.heap.size := BX12.lt
        have mX12 : w8.heap.size < w12.heap.size + 1 := by omega
        have nX12 : w8.heap.size < w12.heap.size + 1 + 1 := by omega
        have BY12 : Blk w12 (w9.heap.size) 38 #[.int .i64 x0, .int .i64 x1] := by
          refine Blk.kept ?_ hb12
          repeat (first | with_reducible exact BY11 | with_reducible exact Blk.new _ _ _ | (with_reducible refine Blk.newAt _ _ _ _ ?_; first | rfl | (simp; done)) | with_reducible apply Blk.alloc | with_reducible apply Blk.drewN | with_reducible apply Blk.drew | with_reducible apply Blk.set_to | (with_reducible apply Blk.far_; (simp only [ne_eq]; omega)) | rfl)
        have cY0_12 : w12.cell? ⟨w9.heap.size, 0, none⟩ = some (.int .i64 x0) := BY12.cell 0
        have cY1_12 : w12.cell? ⟨w9.heap.size, 1, none⟩ = some (.int .i64 x1) := BY12.cell 1
        have lY12 : w9.heap.size < w12.heap.size := BY12.lt
        have mY12 : w9.heap.size < w12.heap.size + 1 := by omega
        have nY12 : w9.heap.size < w12.heap.size + 1 + 1 := by omega
        clear BX11 lX11 mX11 nX11 cX0_11 cX1_11 BY11 lY11 mY11 nY11 cY0_11 cY1_11
        have hs12 : w.heap.size ≤ w12.heap.size := by have h := hb12.size; (try simp at h); omega
        go_wp2
        go_ret
        exact ⟨rfl, by repeat (first | with_reducible exact Below.refl _ _ | with_reducible assumption | with_reducible refine below_drewN ?_ _ | with_reducible refine Below.drew ?_ | with_reducible refine below_alloc ?_ _ | (with_reducible refine Below.setCell ?_ ?_ _; rotate_left; ((try simp only); omega)))⟩
      · have hne : ¬ nameX x = nameX y := fun h => hxy (nameX_inj bx.1 bx.2.1 bY.1 bY.2.1 h hx)
        have en := str_ne hne
        obtain ⟨tx, htx⟩ : ∃ t, t = nameX x := ⟨_, rfl⟩
        obtain ⟨ty, hty⟩ : ∃ t, t = nameX y := ⟨_, rfl⟩
        rw [← htx] at n1 ps1 en
        rw [← hty] at n2 ps2 en
        clear hx hy htx hty bx bY hne
        obtain ⟨x0, x1⟩ := x
        obtain ⟨y0, y1⟩ := y
        have hd : (x0 == y0) = false ∨ ((x0 == y0) = true ∧ (x1 == y1) = false) := by
          by_cases h0 : x0 = y0
          · by_cases h1 : x1 = y1
            · exact absurd (by rw [h0, h1]) hxy
            · exact .inr ⟨by simpa using h0, by simpa using h1⟩
          · exact .inl (by simpa using h0)
        clear hxy
        rcases hd with g0 | ⟨g0, g1⟩
        all_goals
          go_enter Tryd.func7, Tryd.ntmps7
          go_wp2_with fail
          refine Calls.mono (qk _ ?_) ?_
          · exact ht.kept (by repeat (first | with_reducible exact Below.refl _ _ | with_reducible assumption | with_reducible refine below_drewN ?_ _ | with_reducible refine Below.drew ?_ | with_reducible refine below_alloc ?_ _ | (with_reducible refine Below.setCell ?_ ?_ _; rotate_left; ((try simp only); omega))))
          rintro e w1 ⟨rfl, hb1⟩
          have kb1 : Below w.heap.size w w1 := below_call (by repeat (first | with_reducible exact Below.refl _ _ | with_reducible assumption | with_reducible refine below_drewN ?_ _ | with_reducible refine Below.drew ?_ | with_reducible refine below_alloc ?_ _ | (with_reducible refine Below.setCell ?_ ?_ _; rotate_left; ((try simp only); omega)))) hb1
          have hs1 : w.heap.size ≤ w1.heap.size := by have h := hb1.size; (try simp at h); omega
          go_wp2_with fail
          refine (m1 _).mono ?_
          rintro e w2 ⟨rfl, hb2⟩
          have kb2 : Below w.heap.size w w2 := below_call (by repeat (first | with_reducible exact Below.refl _ _ | with_reducible assumption | with_reducible refine below_drewN ?_ _ | with_reducible refine Below.drew ?_ | with_reducible refine below_alloc ?_ _ | (with_reducible refine Below.setCell ?_ ?_ _; rotate_left; ((try simp only); omega)))) hb2
          have hs2 : w.heap.size ≤ w2.heap.size := by have h := hb2.size; (try simp at h); omega
          go_wp2_with fail
          refine (m2 _).mono ?_
          rintro e w3 ⟨rfl, hb3⟩
          have kb3 : Below w.heap.size w w3 := below_call (by repeat (first | with_reducible exact Below.refl _ _ | with_reducible assumption | with_reducible refine below_drewN ?_ _ | with_reducible refine Below.drew ?_ | with_reducible refine below_alloc ?_ _ | (with_reducible refine Below.setCell ?_ ?_ _; rotate_left; ((try simp only); omega)))) hb3
          have hs3 : w.heap.size ≤ w3.heap.size := by have h := hb3.size; (try simp at h); omega
          go_wp2_with fail
          refine Calls.mono (n1 _ ?_) ?_
          · exact ht.kept (by repeat (first | with_reducible exact Below.refl _ _ | with_reducible assumption | with_reducible refine below_drewN ?_ _ | with_reducible refine Below.drew ?_ | with_reducible refine below_alloc ?_ _ | (with_reducible refine Below.setCell ?_ ?_ _; rotate_left; ((try simp only); omega))))
          rintro e w4 ⟨rfl, hb4⟩
          have kb4 : Below w.heap.size w w4 := below_call (by repeat (first | with_reducible exact Below.refl _ _ | with_reducible assumption | with_reducible refine below_drewN ?_ _ | with_reducible refine Below.drew ?_ | with_reducible refine below_alloc ?_ _ | (with_reducible refine Below.setCell ?_ ?_ _; rotate_left; ((try simp only); omega)))) hb4
          have hs4 : w.heap.size ≤ w4.heap.size := by have h := hb4.size; (try simp at h); omega
          go_wp2_with fail
          refine (m3 _).mono ?_
          rintro e w5 ⟨rfl, hb5⟩
          have kb5 : Below w.heap.size w w5 := below_call (by repeat (first | with_reducible exact Below.refl _ _ | with_reducible assumption | with_reducible refine below_drewN ?_ _ | with_reducible refine Below.drew ?_ | with_reducible refine below_alloc ?_ _ | (with_reducible refine Below.setCell ?_ ?_ _; rotate_left; ((try simp only); omega)))) hb5
          have hs5 : w.heap.size ≤ w5.heap.size := by have h := hb5.size; (try simp at h); omega
          go_wp2_with fail
          refine (m4 _).mono ?_
          rintro e w6 ⟨rfl, hb6⟩
          have kb6 : Below w.heap.size w w6 := below_call (by repeat (first | with_reducible exact Below.refl _ _ | with_reducible assumption | with_reducible refine below_drewN ?_ _ | with_reducible refine Below.drew ?_ | with_reducible refine below_alloc ?_ _ | (with_reducible refine Below.setCell ?_ ?_ _; rotate_left; ((try simp only); omega)))) hb6
          have hs6 : w.heap.size ≤ w6.heap.size := by have h := hb6.size; (try simp at h); omega
          go_wp2_with fail
          refine Calls.mono (n2 _ ?_) ?_
          · exact ht.kept (by repeat (first | with_reducible exact Below.refl _ _ | with_reducible assumption | with_reducible refine below_drewN ?_ _ | with_reducible refine Below.drew ?_ | with_reducible refine below_alloc ?_ _ | (with_reducible refine Below.setCell ?_ ?_ _; rotate_left; ((try simp only); omega))))
          rintro e w7 ⟨rfl, hb7⟩
          have kb7 : Below w.heap.size w w7 := below_call (by repeat (first | with_reducible exact Below.refl _ _ | with_reducible assumption | with_reducible refine below_drewN ?_ _ | with_reducible refine Below.drew ?_ | with_reducible refine below_alloc ?_ _ | (with_reducible refine Below.setCell ?_ ?_ _; rotate_left; ((try simp only); omega)))) hb7
          have hs7 : w.heap.size ≤ w7.heap.size := by have h := hb7.size; (try simp at h); omega
          go_wp2_with fail
          refine Calls.mono (ps1 _ ?_) ?_
          · exact ht.kept (by repeat (first | with_reducible exact Below.refl _ _ | with_reducible assumption | with_reducible refine below_drewN ?_ _ | with_reducible refine Below.drew ?_ | with_reducible refine below_alloc ?_ _ | (with_reducible refine Below.setCell ?_ ?_ _; rotate_left; ((try simp only); omega))))
          rintro e w8 ⟨rfl, hb8⟩
          have kb8 : Below w.heap.size w w8 := below_call (by repeat (first | with_reducible exact Below.refl _ _ | with_reducible assumption | with_reducible refine below_drewN ?_ _ | with_reducible refine Below.drew ?_ | with_reducible refine below_alloc ?_ _ | (with_reducible refine Below.setCell ?_ ?_ _; rotate_left; ((try simp only); omega)))) hb8
          have hs8 : w.heap.size ≤ w8.heap.size := by have h := hb8.size; (try simp at h); omega
          go_wp2_with fail
          refine Calls.mono (ps2 _ ?_) ?_
          · exact ht.kept (by repeat (first | with_reducible exact Below.refl _ _ | with_reducible assumption | with_reducible refine below_drewN ?_ _ | with_reducible refine Below.drew ?_ | with_reducible refine below_alloc ?_ _ | (with_reducible refine Below.setCell ?_ ?_ _; rotate_left; ((try simp only); omega))))
          rintro e w9 ⟨rfl, hb9⟩
          have kb9 : Below w.heap.size w w9 := below_call (by repeat (first | with_reducible exact Below.refl _ _ | with_reducible assumption | with_reducible refine below_drewN ?_ _ | with_reducible refine Below.drew ?_ | with_reducible refine below_alloc ?_ _ | (with_reducible refine Below.setCell ?_ ?_ _; rotate_left; ((try simp only); omega)))) hb9
          have BX9 : Blk w9 (w8.heap.size) 38 #[.int .i64 x0, .int .i64 x1] := by
            refine Blk.kept ?_ hb9
            repeat (first | with_reducible exact Blk.new _ _ _ | (with_reducible refine Blk.newAt _ _ _ _ ?_; first | rfl | (simp; done)) | with_reducible apply Blk.alloc | with_reducible apply Blk.drewN | with_reducible apply Blk.drew | with_reducible apply Blk.set_to | (with_reducible apply Blk.far_; (simp only [ne_eq]; omega)) | rfl)
          have cX0_9 : w9.cell? ⟨w8.heap.size, 0, none⟩ = some (.int .i64 x0) := BX9.cell 0
          have cX1_9 : w9.cell? ⟨w8.heap.size, 1, none⟩ = some (.int .i64 x1) := BX9.cell 1
          have lX9 : w8.heap.size < w9.heap.size := BX9.lt
          have mX9 : w8.heap.size < w9.heap.size + 1 := by omega
          have nX9 : w8.heap.size < w9.heap.size + 1 + 1 := by omega
          have hs9 : w.heap.size ≤ w9.heap.size := by have h := hb9.size; (try simp at h); omega
          go_wp2_with fail
          refine (m1 _).mono ?_
          rintro e w10 ⟨rfl, hb10⟩
          have kb10 : Below w.heap.size w w10 := below_call (by repeat (first | with_reducible exact Below.refl _ _ | with_reducible assumption | with_reducible refine below_drewN ?_ _ | with_reducible refine Below.drew ?_ | with_reducible refine below_alloc ?_ _ | (with_reducible refine Below.setCell ?_ ?_ _; rotate_left; ((try simp only); omega)))) hb10
          have BX10 : Blk w10 (w8.heap.size) 38 #[.int .i64 x0, .int .i64 x1] := by
            refine Blk.kept ?_ hb10
            repeat (first | with_reducible exact BX9 | with_reducible exact Blk.new _ _ _ | (with_reducible refine Blk.newAt _ _ _ _ ?_; first | rfl | (simp; done)) | with_reducible apply Blk.alloc | with_reducible apply Blk.drewN | with_reducible apply Blk.drew | with_reducible apply Blk.set_to | (with_reducible apply Blk.far_; (simp only [ne_eq]; omega)) | rfl)
          have cX0_10 : w10.cell? ⟨w8.heap.size, 0, none⟩ = some (.int .i64 x0) := BX10.cell 0
          have cX1_10 : w10.cell? ⟨w8.heap.size, 1, none⟩ = some (.int .i64 x1) := BX10.cell 1
          have lX10 : w8.heap.size < w10.heap.size := BX10.lt
          have mX10 : w8.heap.size < w10.heap.size + 1 := by omega
          have nX10 : w8.heap.size < w10.heap.size + 1 + 1 := by omega
          have BY10 : Blk w10 (w9.heap.size) 38 #[.int .i64 y0, .int .i64 y1] := by
            refine Blk.kept ?_ hb10
            repeat (first | with_reducible exact Blk.new _ _ _ | (with_reducible refine Blk.newAt _ _ _ _ ?_; first | rfl | (simp; done)) | with_reducible apply Blk.alloc | with_reducible apply Blk.drewN | with_reducible apply Blk.drew | with_reducible apply Blk.set_to | (with_reducible apply Blk.far_; (simp only [ne_eq]; omega)) | rfl)
          have cY0_10 : w10.cell? ⟨w9.heap.size, 0, none⟩ = some (.int .i64 y0) := BY10.cell 0
          have cY1_10 : w10.cell? ⟨w9.heap.size, 1, none⟩ = some (.int .i64 y1) := BY10.cell 1
          have lY10 : w9.heap.size < w10.heap.size := BY10.lt
          have mY10 : w9.heap.size < w10.heap.size + 1 := by omega
          have nY10 : w9.heap.size < w10.heap.size + 1 + 1 := by omega
          clear BX9 lX9 mX9 nX9 cX0_9 cX1_9
          have hs10 : w.heap.size ≤ w10.heap.size := by have h := hb10.size; (try simp at h); omega
          go_wp2_with fail
          refine (m2 _).mono ?_
          rintro e w11 ⟨rfl, hb11⟩
          have kb11 : Below w.heap.size w w11 := below_call (by repeat (first | with_reducible exact Below.refl _ _ | with_reducible assumption | with_reducible refine below_drewN ?_ _ | with_reducible refine Below.drew ?_ | with_reducible refine below_alloc ?_ _ | (with_reducible refine Below.setCell ?_ ?_ _; rotate_left; ((try simp only); omega)))) hb11
          have BX11 : Blk w11 (w8.heap.size) 38 #[.int .i64 x0, .int .i64 x1] := by
            refine Blk.kept ?_ hb11
            repeat (first | with_reducible exact BX10 | with_reducible exact Blk.new _ _ _ | (with_reducible refine Blk.newAt _ _ _ _ ?_; first | rfl | (simp; done)) | with_reducible apply Blk.alloc | with_reducible apply Blk.drewN | with_reducible apply Blk.drew | with_reducible apply Blk.set_to | (with_reducible apply Blk.far_; (simp only [ne_eq]; omega)) | rfl)
          have cX0_11 : w11.cell? ⟨w8.heap.size, 0, none⟩ = some (.int .i64 x0) := BX11.cell 0
          have cX1_11 : w11.cell? ⟨w8.heap.size, 1, none⟩ = some (.int .i64 x1) := BX11.cell 1
          have lX11 : w8.heap.size < w11.heap.size := BX11.lt
          have mX11 : w8.heap.size < w11.heap.size + 1 := by omega
          have nX11 : w8.heap.size < w11.heap.size + 1 + 1 := by omega
          have BY11 : Blk w11 (w9.heap.size) 38 #[.int .i64 y0, .int .i64 y1] := by
            refine Blk.kept ?_ hb11
            repeat (first | with_reducible exact BY10 | with_reducible exact Blk.new _ _ _ | (with_reducible refine Blk.newAt _ _ _ _ ?_; first | rfl | (simp; done)) | with_reducible apply Blk.alloc | with_reducible apply Blk.drewN | with_reducible apply Blk.drew | with_reducible apply Blk.set_to | (with_reducible apply Blk.far_; (simp only [ne_eq]; omega)) | rfl)
          have cY0_11 : w11.cell? ⟨w9.heap.size, 0, none⟩ = some (.int .i64 y0) := BY11.cell 0
          have cY1_11 : w11.cell? ⟨w9.heap.size, 1, none⟩ = some (.int .i64 y1) := BY11.cell 1
          have lY11 : w9.heap.size < w11.heap.size := BY11.lt
          have mY11 : w9.heap.size < w11.heap.size + 1 := by omega
          have nY11 : w9.heap.size < w11.heap.size + 1 + 1 := by omega
          clear BX10 lX10 mX10 nX10 cX0_10 cX1_10 BY10 lY10 mY10 nY10 cY0_10 cY1_10
          have hs11 : w.heap.size ≤ w11.heap.size := by have h := hb11.size; (try simp at h); omega
          go_wp2_with fail
          refine (qu _).mono ?_
          rintro e w12 ⟨rfl, hb12⟩
          have kb12 : Below w.heap.size w w12 := below_call (by repeat (first | with_reducible exact Below.refl _ _ | with_reducible assumption | with_reducible refine below_drewN ?_ _ | with_reducible refine Below.drew ?_ | with_reducible refine below_alloc ?_ _ | (with_reducible refine Below.setCell ?_ ?_ _; rotate_left; ((try simp only); omega)))) hb12
          have BX12 : Blk w12 (w8.heap.size) 38 #[.int .i64 x0, .int .i64 x1] := by
            refine Blk.kept ?_ hb12
            repeat (first | with_reducible exact BX11 | with_reducible exact Blk.new _ _ _ | (with_reducible refine Blk.newAt _ _ _ _ ?_; first | rfl | (simp; done)) | with_reducible apply Blk.alloc | with_reducible apply Blk.drewN | with_reducible apply Blk.drew | with_reducible apply Blk.set_to | (with_reducible apply Blk.far_; (simp only [ne_eq]; omega)) | rfl)
          have cX0_12 : w12.cell? ⟨w8.heap.size, 0, none⟩ = some (.int .i64 x0) := BX12.cell 0
          have cX1_12 : w12.cell? ⟨w8.heap.size, 1, none⟩ = some (.int .i64 x1) := BX12.cell 1
          have lX12 : w8.heap.size < w12.heap.size := BX12.lt
          have mX12 : w8.heap.size < w12.heap.size + 1 := by omega
          have nX12 : w8.heap.size < w12.heap.size + 1 + 1 := by omega
          have BY12 : Blk w12 (w9.heap.size) 38 #[.int .i64 y0, .int .i64 y1] := by
            refine Blk.kept ?_ hb12
            repeat (first | with_reducible exact BY11 | with_reducible exact Blk.new _ _ _ | (with_reducible refine Blk.newAt _ _ _ _ ?_; first | rfl | (simp; done)) | with_reducible apply Blk.alloc | with_reducible apply Blk.drewN | with_reducible apply Blk.drew | with_reducible apply Blk.set_to | (with_reducible apply Blk.far_; (simp only [ne_eq]; omega)) | rfl)
          have cY0_12 : w12.cell? ⟨w9.heap.size, 0, none⟩ = some (.int .i64 y0) := BY12.cell 0
          have cY1_12 : w12.cell? ⟨w9.heap.size, 1, none⟩ = some (.int .i64 y1) := BY12.cell 1
          have lY12 : w9.heap.size < w12.heap.size := BY12.lt
          have mY12 : w9.heap.size < w12.heap.size + 1 := by omega
          have nY12 : w9.heap.size < w12.heap.size + 1 + 1 := by omega
          clear BX11 lX11 mX11 nX11 cX0_11 cX1_11 BY11 lY11 mY11 nY11 cY0_11 cY1_11
          have hs12 : w.heap.size ≤ w12.heap.size := by have h := hb12.size; (try simp at h); omega
          go_wp2
          go_ret
          exact ⟨rfl, by repeat (first | with_reducible exact Below.refl _ _ | with_reducible assumption | with_reducible refine below_drewN ?_ _ | with_reducible refine Below.drew ?_ | with_reducible refine below_alloc ?_ _ | (with_reducible refine Below.setCell ?_ ?_ _; rotate_left; ((try simp only); omega)))⟩
def laids : List (String × DataW Unit) := Rows.intervalNamesRow.laid
theorem door_met (os : Os) (args : Array Value) : laidMetH Tryd.prog laids ((World.doorLaid Tryd.prog 80 os).forCall (fun _ _ => 0) ⟨#[], args, []⟩).memory :=
  laidMetH_of_parts3 (fuel := 8) (laidMet_of_run' 8 (by kernel_rfl) (by kernel_rfl)) (by kernel_rfl) (by kernel_rfl)
theorem tabs_of {W : World} (h : laidMetH Tryd.prog laids W) : Tabs2 W := by
  rw [MakeChecks.laidMetH_plain _ _ _ (by kernel_rfl)] at h
  exact ⟨tabs_of_list h (by kernel_rfl) (by kernel_rfl) (by kernel_rfl), sent_of_list h (by kernel_rfl)⟩
set_option maxRecDepth 100000 in
theorem lifted (os : Os) (started : os.Started) (H : Type) (enc : TypeId × Value → H) :
    ReturnsInHanded {} Tryd.checked os 7 .any (fun w args => (Rows.intervalNamesSpec.pre enc Tryd.prog Tryd.f7 [] false w args ∧ laidMetH Tryd.prog laids w) ∧ sizedMet enc Tryd.prog Tryd.f7 (OpenSpec.ofChange Rows.intervalNamesSpec) false w args) (Rows.intervalNamesSpec.post enc Tryd.prog Tryd.f7 false true false false) := by
  refine returnsInHanded_of_change_and (C := Tryd.checked) (X := fun w _ => laidMetH Tryd.prog laids w) (fun _ _ _ hh h => h.of_heap hh) own started (by kernel_rfl) Tryd.func7
    (ChangeSpec.witness_shaped (enc := enc) (C := Tryd.checked) (os := os) (X := fun w _ => laidMetH Tryd.prog laids w) false (World.doorLaid Tryd.prog 80 os) #[.int .i64 0, .int .i64 0, .int .i64 0, .int .i64 0] 8 rfl (World.shaped_of_RefB (by kernel_rfl) (by kernel_rfl)) (by kernel_rfl) (by kernel_rfl) (by kernel_rfl) (door_met os _)) ?_
  intro W base args ds gs before hval0 hW _ _ hL _
  have hval : ∀ (j : Nat) t v, Tryd.f7.params[j]? = some t → args[j]? = some v → Value.okWide Tryd.prog W .any base t v := hval0
  have hW' := hW
  obtain ⟨p, q, hA0, hV, rfl, hfz, hnd⟩ := hW
  have hA : DataW.TrodAll enc Tryd.prog W 0 (fun _ => true) true Tryd.f7.params.toList args.toList ds p := hA0
  rw [Tryd.params7] at hA hval
  obtain ⟨v0, vs0, d0, ds0, p0, q0, hargs, rfl, rfl, h0, r0⟩ := trodAll_cons hA
  obtain ⟨v1, vs1, d1, ds1, p1, q1, rfl, rfl, rfl, h1, r1⟩ := trodAll_cons r0
  obtain ⟨v2, vs2, d2, ds2, p2, q2, rfl, rfl, rfl, h2, r2⟩ := trodAll_cons r1
  obtain ⟨v3, vs3, d3, ds3, p3, q3, rfl, rfl, rfl, h3, r3⟩ := trodAll_cons r2
  obtain ⟨rfl, rfl, rfl⟩ := trodAll_nil r3
  obtain rfl : args = #[v0, v1, v2, v3] := by cases args; simp_all
  obtain ⟨rfl, rfl⟩ := trodVars_none hV
  have k0 := h0
  have lt0 : ∀ x ∈ p0, x.block < W.heap.size := by obtain ⟨m, hm⟩ := k0; exact DataW.trod_lt m _ _ _ hm
  obtain ⟨a0, rfl, w0⟩ := arg_int (hval 0 3 v0 rfl rfl) h0
  have k1 := h1
  have lt1 : ∀ x ∈ p1, x.block < W.heap.size := by obtain ⟨m, hm⟩ := k1; exact DataW.trod_lt m _ _ _ hm
  obtain ⟨a1, rfl, w1⟩ := arg_int (hval 1 3 v1 rfl rfl) h1
  have k2 := h2
  have lt2 : ∀ x ∈ p2, x.block < W.heap.size := by obtain ⟨m, hm⟩ := k2; exact DataW.trod_lt m _ _ _ hm
  obtain ⟨a2, rfl, w2⟩ := arg_int (hval 2 3 v2 rfl rfl) h2
  have k3 := h3
  have lt3 : ∀ x ∈ p3, x.block < W.heap.size := by obtain ⟨m, hm⟩ := k3; exact DataW.trod_lt m _ _ _ hm
  obtain ⟨a3, rfl, w3⟩ := arg_int (hval 3 3 v3 rfl rfl) h3
  clear hA0 hval0
  refine (walk a0 a1 a2 a3 W w0 w1 w2 w3 (tabs_of hL)).mono fun e W' ⟨he, bel⟩ => ?_
  subst he
  exact ⟨_, rfl, _, _, _, [], _, [], hW', trodAll_mk1 (shut_bool Tryd.underlying4 _), (trodAll_cons_mk (Below.trod laidOut (by kernel_rfl) (of_decide_eq_true (by kernel_rfl)) k0 bel lt0) (trodAll_cons_mk (Below.trod laidOut (by kernel_rfl) (of_decide_eq_true (by kernel_rfl)) k1 bel lt1) (trodAll_cons_mk (Below.trod laidOut (by kernel_rfl) (of_decide_eq_true (by kernel_rfl)) k2 bel lt2) (trodAll_cons_mk (Below.trod laidOut (by kernel_rfl) (of_decide_eq_true (by kernel_rfl)) k3 bel lt3) trodAll_mk0)))), rfl, bel.frame _, fun h => by cases h⟩

theorem over : Rows.IntervalNamesSaid :=
  OpenClaim.holds_of_wide 7 Tryd.f7 rfl rfl rfl rfl rfl rfl rfl ⟨rfl, rfl, rfl, rfl, rfl⟩ rfl rfl rfl rfl rfl (by kernel_rfl) Tryd.func7 (by kernel_rfl)
    (of_decide_eq_true (by kernel_rfl)) (by unfold Func.isWrapper; first | (rw [if_pos (by decide +kernel)]; kernel_rfl) | (rw [if_neg (by decide +kernel)]; exact ⟨rfl, rfl⟩))
    (fun os started H enc _ => lifted os started H enc)

/-- The card: the row, its variables tied to the program's text. -/
theorem proved : Rows.IntervalNamesCardSaid :=
  Claim7.holds_tied_plain_at .later [] [.data, .data, .data, .sentinel, .sentinel, .data, .data, .data] true Rows.intervalNamesCard.stood.harness Rows.intervalNamesCard.stood.looks
    over (fun _ h => by cases h) (by kernel_rfl) (fun _ h => by cases h) intervalNames_row_tie rfl ⟨rfl, rfl⟩ (by kernel_rfl) rfl
    (fun f fn hf hfn => by
      obtain rfl : f = 7 := Option.some.inj ((show Tryd.prog.funcNamed Tryd.f7.name = some 7 by kernel_rfl).symm.trans hf) |>.symm
      obtain rfl : fn = Tryd.f7 := (Option.some.inj (Tryd.func7.symm.trans hfn)).symm
      exact ⟨by kernel_rfl, fun j t ht => by
        rw [Tryd.params7] at ht
        have hm : t ∈ Tryd.f7.params.toList := by rw [Tryd.params7]; simpa using Array.mem_of_getElem? ht
        have hall : (Tryd.f7.params.toList.all fun u => !Tryd.prog.wantsStandIn u) = true := by kernel_rfl
        exact (show Tryd.prog.wantsStandIn t = false by simpa using List.all_eq_true.1 hall t hm)⟩)
    (by kernel_rfl)

end Go.Proofs.YtmbnpblejhlefaaDoor.intervalNames
