/- One slice of a setting. -/
import Derived.Test.YtbljfaocmeeljaaAlEnd
import Derived.Test.YtbljfaocmeeljaaAlBin
namespace Go.Proofs.Ytbljfaocmeeljaa
open Go.RowKit
def zeroSl : Sl := ⟨(0, 0), (0, 0), []⟩
def sliceE (l : List (List Ev)) (n : Int) : Sl × Int :=
  if (slicesE l).2 ≠ 0 then (zeroSl, (slicesE l).2) else if n < 0 ∨ ((slicesE l).1.length : Int) ≤ n then (zeroSl, 2) else (slOf l (momS l) n.toNat, 0)
theorem OwnS.el {w : World} {base n c : Nat} {A : Option Addr} {l : List Sl} (h : OwnS w base (.slice A n c) l) {k : Nat} {s : Sl} (hk : k < n) (hs : l[k]? = some s) :
    ∃ b off p q c', A = some ⟨b, off, none⟩ ∧ b < w.heap.size ∧ s.evs.length = q ∧ w.ownsRow base 3 1 (.slice p q c') q (csN s.evs) ∧ w.cell? ⟨b, off + k * 5, none⟩ = some (.int .i64 s.at_.1) ∧ w.cell? ⟨b, off + k * 5 + 1, none⟩ = some (.int .i64 s.at_.2) ∧
      w.cell? ⟨b, off + k * 5 + 2, none⟩ = some (.int .i64 s.dur.1) ∧ w.cell? ⟨b, off + k * 5 + 3, none⟩ = some (.int .i64 s.dur.2) ∧ w.cell? ⟨b, off + k * 5 + 4, none⟩ = some (.slice p q c') := by
  obtain ⟨ps, h1, h2, h3⟩ := h
  obtain ⟨A', c1, e, hr, _, _⟩ := own_reads h2
  cases e
  have hp : ∃ x, ps[k]? = some x ∧ x.1 = s := by
    rw [← h1, List.getElem?_map] at hs
    cases hx : ps[k]? with
    | none => rw [hx] at hs; cases hs
    | some x => rw [hx] at hs; exact ⟨x, rfl, by simpa using hs⟩
  obtain ⟨⟨s', p, q, c'⟩, hx, rfl⟩ := hp
  obtain ⟨b, off, hA, hbB, hc⟩ := Reads.elem (f := cS) (fun _ => rfl) hr hk hx
  obtain ⟨e1, e2⟩ := h3 _ (List.mem_of_getElem? hx)
  have hall : ∀ j u, (cS (s', p, q, c'))[j]? = some u → w.cell? ⟨b, off + k * 5 + j, none⟩ = some u := fun j u hj => by
    rw [Nat.add_assoc]
    exact hc j u hj
  exact ⟨b, off, p, q, c', hA, hbB, e1, e2, hall 0 _ rfl, hall 1 _ rfl, hall 2 _ rfl, hall 3 _ rfl, hall 4 _ rfl⟩
/-- What the program's slice hands back. -/
def SliceRet (l : List (List Ev)) (j : Int) (w : World) (e : Ending) (w' : World) : Prop := ∃ s p q k, e = .returned (.tuple #[.agg #[.int .i64 s.at_.1, .int .i64 s.at_.2, .int .i64 s.dur.1, .int .i64 s.dur.2, .slice p q k], .int .i64 (sliceE l j).2]) ∧
      s = (sliceE l j).1 ∧ s.evs.length = q ∧ Reads w' w'.heap.size 1 p q (csN s.evs) ∧ Below w.heap.size w w'
theorem sliceRet_zero {l : List (List Ev)} {j r : Int} {w w' : World} (h : sliceE l j = (zeroSl, r)) (hb : Below w.heap.size w w') : SliceRet l j w (.returned (.tuple #[.agg #[.int .i64 0, .int .i64 0, .int .i64 0, .int .i64 0, .slice none 0 0], .int .i64 r])) w' :=
  ⟨zeroSl, none, 0, 0, by rw [h]; rfl, by rw [h], rfl, Reads.none_, hb⟩
theorem sliceRet_some {l : List (List Ev)} {j : Int} {s : Sl} {p : Option Addr} {q k : Nat} {w w' : World} (h : sliceE l j = (s, 0)) (hq : s.evs.length = q) (hr : Reads w' w'.heap.size 1 p q (csN s.evs)) (hb : Below w.heap.size w w') :
    SliceRet l j w (.returned (.tuple #[.agg #[.int .i64 s.at_.1, .int .i64 s.at_.2, .int .i64 s.dur.1, .int .i64 s.dur.2, .slice p q k], .int .i64 0])) w' :=
  ⟨s, p, q, k, by rw [h], by rw [h], hq, hr, hb⟩
set_option maxRecDepth 100000 in
set_option maxHeartbeats 8000000 in
theorem slice_any (A : Option Addr) (n c : Nat) (l : List (List Ev)) (j : Int) (B : Nat) (w : World) (h : ReadsV w B A n l) (hB : B ≤ w.heap.size) (hn : n ≤ 9223372036854775807) :
    Calls Try.prog 51 #[.slice A n c, .int .i64 j] w fun e w' => SliceRet l j w e w' := by
  have r0 : Blk (w.alloc (.cells #[.int .i64 0, .int .i64 0, .int .i64 0, .int .i64 0, .slice none 0 0] 59)) w.heap.size 59 #[.int .i64 0, .int .i64 0, .int .i64 0, .int .i64 0, .slice none 0 0] := Blk.new _ _ _
  have k0 : Below w.heap.size w (w.alloc (.cells #[.int .i64 0, .int .i64 0, .int .i64 0, .int .i64 0, .slice none 0 0] 59)) := by repeat (first | with_reducible exact Below.refl _ _ | with_reducible assumption | with_reducible refine below_drewN ?_ _ | with_reducible refine Below.drew ?_ | with_reducible refine below_alloc ?_ _ | (with_reducible refine Below.setCell ?_ ?_ _; rotate_left; ((try simp only); omega)))
  have q1 := slices_any A n c l B _ (h.below hB k0) (Nat.le_trans hB k0.size) hn
  go_enter Try.func51, Try.ntmps51
  go_wp2_with fail
  refine q1.mono ?_
  rintro e w1 ⟨v1, rfl, ho1, hb1⟩
  have r1 := r0.kept hb1
  have k1 := below_call k0 hb1
  obtain ⟨e0, e1, e2, e3, e4⟩ : w1.cell? ⟨w.heap.size, 0, none⟩ = some (.int .i64 0) ∧ w1.cell? ⟨w.heap.size, 1, none⟩ = some (.int .i64 0) ∧ w1.cell? ⟨w.heap.size, 2, none⟩ = some (.int .i64 0) ∧ w1.cell? ⟨w.heap.size, 3, none⟩ = some (.int .i64 0) ∧ w1.cell? ⟨w.heap.size, 4, none⟩ = some (.slice none 0 0) := ⟨r1.cell 0, r1.cell 1, r1.cell 2, r1.cell 3, r1.cell 4⟩
  have f0 := r1.frozen 0
  have f1 := r1.frozen 1
  have f2 := r1.frozen 2
  have f3 := r1.frozen 3
  have f4 := r1.frozen 4
  have z1 := r1.lt
  clear q1 hb1 r0 k0
  by_cases he : (slicesE l).2 = 0
  · obtain ⟨hz, hsl⟩ := slicesE_ok he
    obtain ⟨As, cs, rfl, rs⟩ := ho1.reads
    have HLS := Lib.hid (show (slicesE l).1 = (List.range ((momS l).length - 1)).map (slOf l (momS l)) by rw [hsl])
    rw [HLS.out] at rs
    have e9 : (slicesE l).1.length = (momS l).length - 1 := by rw [HLS.out]; simp
    rw [e9]
    simp only [List.length_map, List.length_range] at rs
    clear e9
    have HMB := Lib.hid (mom_big hz)
    obtain ⟨K, hK⟩ : ∃ K, K = (momS l).length - 1 := ⟨_, rfl⟩
    have HK := Lib.hid hK
    have HKL := Lib.hid (show (slicesE l).1.length = K by rw [HLS.out, hK]; simp)
    rw [← hK] at rs ⊢
    have HE := Lib.hid he
    rw [he]
    rw [HLS.out, List.length_map, List.length_range, ← hK] at ho1
    have HO1 := Lib.hid ho1
    clear hz hsl hK he ho1
    by_cases hj0 : j < 0
    · have E := Lib.hid (show sliceE l j = (zeroSl, 2) by unfold sliceE; rw [if_neg (fun h0 => h0 HE.out), if_pos (.inl hj0)])
      have d0 : decide (j < 0) = true := decide_eq_true hj0
      go_wp2
      refine ret_of (by simp [results, Try.results51, go_sem, *]; repeat' (first | rfl | apply And.intro)) rfl (sliceRet_zero E.out (by repeat (first | with_reducible exact Below.refl _ _ | with_reducible assumption | with_reducible refine below_drewN ?_ _ | with_reducible refine Below.drew ?_ | with_reducible refine below_alloc ?_ _ | (with_reducible refine Below.setCell ?_ ?_ _; rotate_left; ((try simp only); omega)))))
    · have d0 : decide (j < 0) = false := decide_eq_false hj0
      by_cases hj1 : (K : Int) ≤ j
      · have E := Lib.hid (show sliceE l j = (zeroSl, 2) by unfold sliceE; rw [if_neg (fun h0 => h0 HE.out), HKL.out, if_pos (.inr hj1)])
        go_wp2
        refine ret_of (by simp [results, Try.results51, go_sem, *]; repeat' (first | rfl | apply And.intro)) rfl (sliceRet_zero E.out (by repeat (first | with_reducible exact Below.refl _ _ | with_reducible assumption | with_reducible refine below_drewN ?_ _ | with_reducible refine Below.drew ?_ | with_reducible refine below_alloc ?_ _ | (with_reducible refine Below.setCell ?_ ?_ _; rotate_left; ((try simp only); omega)))))
      · obtain ⟨i, rfl⟩ : ∃ i : Nat, j = (i : Int) := ⟨j.toNat, by omega⟩
        have E := Lib.hid (show sliceE l i = (slOf l (momS l) i, 0) by unfold sliceE; rw [if_neg (fun h0 => h0 HE.out), HKL.out, if_neg (by omega), Int.toNat_natCast])
        have hik : i < K := by omega
        have hik' : (i : Int) < (K : Int) := by omega
        have hg : ((List.range K).map (slOf l (momS l)))[i]? = some (slOf l (momS l) i) := by rw [List.getElem?_map, List.getElem?_range hik]; rfl
        obtain ⟨s, hs⟩ : ∃ s, s = slOf l (momS l) i := ⟨_, rfl⟩
        rw [← hs] at hg E
        obtain ⟨b, off, p, q, k, rfl, hab, hq, hr, c0, c1, c2, c3, c4⟩ := HO1.out.el hik hg
        clear hg hs
        obtain ⟨⟨a0, a1⟩, ⟨d0, d1⟩, ev⟩ := s
        have HR := Lib.hid hr
        clear hr
        simp only at c0 c1 c2 c3 c4 hq
        go_wp2
        refine ret_of (by simp [results, Try.results51, go_sem, *]; repeat' (first | rfl | apply And.intro)) rfl (sliceRet_some E.out hq ?_ (by repeat (first | with_reducible exact Below.refl _ _ | with_reducible assumption | with_reducible refine below_drewN ?_ _ | with_reducible refine Below.drew ?_ | with_reducible refine below_alloc ?_ _ | (with_reducible refine Below.setCell ?_ ?_ _; rotate_left; ((try simp only); omega)))))
        obtain ⟨A9, c9, e9, r9, _, _⟩ := own_reads (own_set (own_set (own_set (own_set (own_set HR.out (p := ⟨w.heap.size, 0, none⟩) (u := .int .i64 a0) (by simp)) (p := ⟨w.heap.size, 1, none⟩) (u := .int .i64 a1) (by simp)) (p := ⟨w.heap.size, 2, none⟩) (u := .int .i64 d0) (by simp)) (p := ⟨w.heap.size, 3, none⟩) (u := .int .i64 d1) (by simp)) (p := ⟨w.heap.size, 4, none⟩) (u := .slice p q k) (by simp))
        cases e9
        exact r9
  · have hne : ((slicesE l).2 != 0) = true := by simpa using he
    have hne2 : ((slicesE l).2 == 0) = false := by simpa using he
    have E := Lib.hid (show sliceE l j = (zeroSl, (slicesE l).2) by unfold sliceE; rw [if_pos he])
    clear he ho1
    go_wp2
    refine ret_of (by simp [results, Try.results51, go_sem, *]; repeat' (first | rfl | apply And.intro)) rfl (sliceRet_zero E.out (by repeat (first | with_reducible exact Below.refl _ _ | with_reducible assumption | with_reducible refine below_drewN ?_ _ | with_reducible refine Below.drew ?_ | with_reducible refine below_alloc ?_ _ | (with_reducible refine Below.setCell ?_ ?_ _; rotate_left; ((try simp only); omega)))))
end Go.Proofs.Ytbljfaocmeeljaa
