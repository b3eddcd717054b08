/- How the program compares two sounding voices. -/
import Derived.Test.YtbljfaocmeeljaaAlStarts
import Derived.Test.YtbljfaocmeeljaaEvents
import Derived.Deep.RegionHeld3
import Derived.Deep.LoopGhost
namespace Go.Proofs.Ytbljfaocmeeljaa
open Go.RowKit
set_option maxHeartbeats 1000000 in
theorem number_ok (p : Int × Int × Int) (h : pchk p = 0) (w : World) :
    Calls Try.prog 82 #[.agg #[.int .i64 p.1, .int .i64 p.2.1, .int .i64 p.2.2]] w fun e w' => e = .returned (.tuple #[.int .i64 (numP p), .int .i64 0]) ∧ Below w.heap.size w w' := by
  have r0 : Blk (w.alloc (.cells #[.int .i64 p.1, .int .i64 p.2.1, .int .i64 p.2.2] 65)) w.heap.size 65 #[.int .i64 p.1, .int .i64 p.2.1, .int .i64 p.2.2] := Blk.new _ _ _
  have k0 : Below w.heap.size w (w.alloc (.cells #[.int .i64 p.1, .int .i64 p.2.1, .int .i64 p.2.2] 65)) := by repeat (first | exact Below.refl _ _ | refine below_drewN ?_ _ | refine Below.drew ?_ | refine below_alloc ?_ _ | (refine below_call ?_ (by assumption)) | (refine Below.setCell ?_ ?_ _; rotate_left; (simp; try omega)))
  obtain ⟨h0, h1, h2, h3, _, _⟩ := pchk_ok h
  have hb : (pchk p != 0) = false := by simpa using h
  have E := Lib.hid (show numP p = 7 * p.2.1 + p.1 by rfl)
  obtain ⟨a, b, c⟩ := p
  simp only at h0 h1 h2 h3 E hb
  clear h
  have hfd : ∀ (w : World) (x y : Value), (Instr.field 127 (.agg #[x, y]) 0).run Try.prog w = .ok x w := fun _ _ _ => by kernel_rfl
  go_enter Try.func82, Try.ntmps82
  go_wp2_with (first | (go_at_call 90; refine (pcheck_any (_, _, _) _).mono ?_; rintro e wn ⟨rfl, hbn⟩; replace rn := Blk.kept (by with_reducible first | exact rn | exact r0 | exact rn.alloc _ | exact r0.alloc _ | exact (rn.alloc _).alloc _ | exact (r0.alloc _).alloc _) hbn; replace en := rn.cell; replace gn := rn.frozen; replace zn := rn.lt; replace kn := below_call (by with_reducible first | exact kn | exact k0 | exact below_alloc kn _ | exact below_alloc k0 _ | exact below_alloc (below_alloc kn _) _ | exact below_alloc (below_alloc k0 _) _) hbn; clear hbn) | (go_at_call 102; refine (of_any' _ _ _ _ h0 h1 h2 h3).mono ?_; rintro e wn ⟨rfl, hbn⟩; replace rn := Blk.kept (by with_reducible first | exact rn | exact r0 | exact rn.alloc _ | exact r0.alloc _ | exact (rn.alloc _).alloc _ | exact (r0.alloc _).alloc _) hbn; replace en := rn.cell; replace gn := rn.frozen; replace zn := rn.lt; replace kn := below_call (by with_reducible first | exact kn | exact k0 | exact below_alloc kn _ | exact below_alloc k0 _ | exact below_alloc (below_alloc kn _) _ | exact below_alloc (below_alloc k0 _) _) hbn; clear hbn))
  go_ret2
  rw [E.out]
  exact ⟨rfl, by repeat (first | with_reducible exact Below.refl _ _ | with_reducible assumption | with_reducible refine below_drewN ?_ _ | with_reducible refine Below.drew ?_ | with_reducible refine below_alloc ?_ _ | (with_reducible refine Below.setCell ?_ ?_ _; rotate_left; ((try simp only); omega)))⟩
def cmp3 (a b : Int) : Int := if a < b then -1 else if b < a then 1 else 0
set_option maxHeartbeats 400000 in
theorem isNaN_any (a : Int) (w : World) : Calls Try.prog 103 #[.int .i64 a] w fun e w' => e = .returned (.bool false) ∧ Below w.heap.size w w' := by
  go_enter Try.func103, Try.ntmps103
  go_wp2
  go_ret
  exact ⟨by simp, by repeat (first | with_reducible exact Below.refl _ _ | with_reducible assumption | with_reducible refine below_drewN ?_ _ | with_reducible refine Below.drew ?_ | with_reducible refine below_alloc ?_ _ | (with_reducible refine Below.setCell ?_ ?_ _; rotate_left; ((try simp only); omega)))⟩
set_option maxHeartbeats 400000 in
theorem cmpI_any (a b : Int) (w : World) : Calls Try.prog 84 #[.int .i64 a, .int .i64 b] w fun e w' => e = .returned (.int .i64 (cmp3 a b)) ∧ Below w.heap.size w w' := by
  go_enter Try.func84, Try.ntmps84
  go_wp2_with fail
  refine (isNaN_any a _).mono ?_
  rintro e w1 ⟨rfl, h1⟩
  go_wp2_with fail
  refine (isNaN_any b _).mono ?_
  rintro e w2 ⟨rfl, h2⟩
  have h3 := below_call h1 h2
  by_cases c1 : a < b
  · have E := Lib.hid (show cmp3 a b = -1 by unfold cmp3; rw [if_pos c1])
    go_wp2
    go_ret
    rw [E.out]
    exact ⟨rfl, h3⟩
  · by_cases c2 : b < a
    · have E := Lib.hid (show cmp3 a b = 1 by unfold cmp3; rw [if_neg c1, if_pos c2])
      go_wp2
      go_ret
      rw [E.out]
      exact ⟨rfl, h3⟩
    · have E := Lib.hid (show cmp3 a b = 0 by unfold cmp3; rw [if_neg c1, if_neg c2])
      go_wp2
      go_ret
      rw [E.out]
      exact ⟨rfl, h3⟩
def orS : List Int → Int
  | [] => 0
  | x :: l => if x ≠ 0 then x else orS l
set_option maxRecDepth 100000 in
set_option maxHeartbeats 1000000 in
theorem or_any (A : Option Addr) (n c : Nat) (l : List Int) (B : Nat) (w : World) (h : Reads w B 1 A n (csN l)) (hB : B ≤ w.heap.size) (hn : n ≤ 1000) :
    Calls Try.prog 83 #[.slice A n c] w fun e w' => e = .returned (.int .i64 (orS l)) ∧ Below w.heap.size w w' := by
  have HL := Lib.hid (show l.length = n from h.len (size := 1) (l := l) (f := cI) (fun _ => rfl) (by decide))
  go_enter Try.func83, Try.ntmps83
  go_wp2
  go_loopg [5, 8] n (fun g _ i wr => ∃ k : Nat, k + g = n ∧ i = .int .i64 k ∧ Below w.heap.size w wr ∧ Hid (orS (l.drop k) = orS l))
  case atStart => exact ⟨0, by omega, by simp, Below.refl _ _, Lib.hid rfl⟩
  case round =>
    obtain ⟨k, hkg, rfl, kr, hE⟩ := hrel
    cases gk with
    | zero =>
      obtain rfl : k = n := by omega
      have d0 : ¬ ((k : Int) < (k : Int)) := by omega
      have E := Lib.hid (show orS l = 0 by rw [← hE.out, List.drop_of_length_le (by have := HL.out; omega)]; rfl)
      go_wp2
      go_ret
      rw [E.out]
      exact ⟨rfl, kr⟩
    | succ g =>
      have hk : k < n := by omega
      have hk' : (k : Int) < (n : Int) := by omega
      obtain ⟨x, hx⟩ := get_some (l := l) (k := k) (by have := HL.out; omega)
      obtain ⟨b, off, hA, hb, hc⟩ := Reads.elem (f := cI) (fun _ => rfl) (h.below hB kr) hk hx
      have hD : l.drop k = x :: l.drop (k + 1) := by
        have := List.drop_eq_getElem_cons (i := k) (l := l) (by have := HL.out; omega)
        rw [this, (List.getElem?_eq_some_iff.1 hx).2]
      have HD := Lib.hid (show (if x ≠ 0 then x else orS (l.drop (k + 1))) = orS l by rw [← hE.out, hD]; rfl)
      have c0 : wr.cell? ⟨b, off + k, none⟩ = some (.int .i64 x) := by have := hc 0 _ rfl; simpa using this
      have hbw : b < wr.heap.size := by have := kr.size; omega
      subst hA
      clear hc hD hx hE
      by_cases hz : x = 0
      · have HN := Lib.hid (show orS (l.drop (k + 1)) = orS l by rw [← HD.out, if_neg (fun h => h hz)])
        have f0 : (x != 0) = false := by simp [hz]
        go_wp2
        go_roundg g
        case measure => omega
        case rel => exact ⟨k + 1, by omega, by go_num, kr, HN⟩
      · have HN := Lib.hid (show orS l = x by rw [← HD.out, if_pos hz])
        have f0 : (x != 0) = true := by simp [hz]
        go_wp2
        go_ret
        rw [HN.out]
        exact ⟨rfl, kr⟩
/-- The comparison as the sign of the keys' order. -/
def ordS (a b : Ev) (i j : Nat) : Int := orS [cmp3 (numP a.pit) (numP b.pit), cmp3 a.pit.2.2 b.pit.2.2, cmp3 i j]
theorem eventAt_on {v : List Ev} {t : Tm} {x : Ev} (h : eventAt v t = some x) : ∃ k : Nat, onS v t = (k : Int) ∧ v[k]? = some x := by
  unfold eventAt at h
  split at h
  · rename_i k hk; exact ⟨k, hk, h⟩
  · cases h
theorem ord_lt {l : List (List Ev)} {t : Tm} {i j : Nat} {a b : Ev} (ha : eventAt (l.getD i []) t = some a) (hb : eventAt (l.getD j []) t = some b) : decide (ordS a b i j < 0) = ltV l t i j := by
  have e1 : keyOf l t i = (numP a.pit, a.pit.2.2, (i : Int)) := by unfold keyOf; rw [ha]
  have e2 : keyOf l t j = (numP b.pit, b.pit.2.2, (j : Int)) := by unfold keyOf; rw [hb]
  unfold ltV ltK ordS
  rw [e1, e2]
  simp only [orS, cmp3]
  apply decide_eq_decide.2
  constructor
  · intro h
    repeat' split at h
    all_goals omega
  · intro h
    repeat' split
    all_goals omega
set_option maxRecDepth 100000 in
set_option maxHeartbeats 8000000 in
theorem order_any (A : Option Addr) (n c : Nat) (l : List (List Ev)) (y0 y1 d0 d1 : Int) (p : Option Addr) (q k : Nat) (B : Nat) (i j : Nat) (a b : Ev) (w : World) (h : ReadsV w B A n l) (hr : Reads w B 1 p q (csN (l.map fun v => onS v (y0, y1)))) (hB : B ≤ w.heap.size)
    (hi : i < n) (hj : j < n) (ha : eventAt (l.getD i []) (y0, y1) = some a) (hb : eventAt (l.getD j []) (y0, y1) = some b) (pa : pchk a.pit = 0) (pb : pchk b.pit = 0) :
    Calls Try.prog 53 #[.agg #[.slice A n c, .int .i64 y0, .int .i64 y1, .int .i64 d0, .int .i64 d1, .slice p q k], .int .i64 i, .int .i64 j] w fun e w' => e = .returned (.int .i64 (ordS a b i j)) ∧ Below w.heap.size w w' := by
  have HL := Lib.hid h.len
  have hqn : q = n := by rw [← h.len]; have := hr.len (size := 1) (l := l.map fun v => onS v (y0, y1)) (f := cI) (fun _ => rfl) (by decide); rw [List.length_map] at this; exact this.symm
  subst hqn
  obtain ⟨ka, hka, hxa⟩ := eventAt_on ha
  obtain ⟨kb, hkb, hxb⟩ := eventAt_on hb
  obtain ⟨va, hva⟩ := get_some (l := l) (k := i) (by have := HL.out; omega)
  obtain ⟨vb, hvb⟩ := get_some (l := l) (k := j) (by have := HL.out; omega)
  have ga : l.getD i [] = va := by simp [List.getD, hva]
  have gb : l.getD j [] = vb := by simp [List.getD, hvb]
  rw [ga] at hka hxa
  rw [gb] at hkb hxb
  obtain ⟨bv, ov, Aa, na, ca, rfl, hbv, cva, rva, _, hna⟩ := h.voice hB (Below.refl _ w) hi hva
  obtain ⟨bv2, ov2, Ab, nb, cb, e2, _, cvb, rvb, _, hnb⟩ := h.voice hB (Below.refl _ w) hj hvb
  cases e2
  obtain ⟨be, oe, rfl, hbe, ca1⟩ := Reads.elem (f := cI) (l := l.map fun v => onS v (y0, y1)) (fun _ => rfl) hr hi (by rw [List.getElem?_map, hva]; rfl)
  obtain ⟨be2, oe2, e3, _, cb1⟩ := Reads.elem (f := cI) (l := l.map fun v => onS v (y0, y1)) (fun _ => rfl) hr hj (by rw [List.getElem?_map, hvb]; rfl)
  cases e3
  have ea : w.cell? ⟨be, oe + i, none⟩ = some (.int .i64 (ka : Int)) := by have h0 : w.cell? ⟨be, oe + (i * 1 + 0), none⟩ = some (.int .i64 (onS va (y0, y1))) := ca1 0 _ rfl; rw [hka] at h0; simpa using h0
  have eb : w.cell? ⟨be, oe + j, none⟩ = some (.int .i64 (kb : Int)) := by have h0 : w.cell? ⟨be, oe + (j * 1 + 0), none⟩ = some (.int .i64 (onS vb (y0, y1))) := cb1 0 _ rfl; rw [hkb] at h0; simpa using h0
  obtain ⟨b1, o1, rfl, hb1, xa⟩ := rva.ev hB (Below.refl _ w) (k := ka) (by have := (List.getElem?_eq_some_iff.1 hxa).1; omega) hxa
  obtain ⟨b2, o2, rfl, hb2, xb⟩ := rvb.ev hB (Below.refl _ w) (k := kb) (by have := (List.getElem?_eq_some_iff.1 hxb).1; omega) hxb
  obtain ⟨_, _, _, _, a4, a5, a6, _⟩ := ten xa
  obtain ⟨_, _, _, _, b4, b5, b6, _⟩ := ten xb
  have lka : (ka : Int) < (na : Int) := by have := (List.getElem?_eq_some_iff.1 hxa).1; omega
  have lkb : (kb : Int) < (nb : Int) := by have := (List.getElem?_eq_some_iff.1 hxb).1; omega
  have li : (i : Int) < (q : Int) := by omega
  have lj : (j : Int) < (q : Int) := by omega
  have hbe' : be < w.heap.size := by omega
  have q1 := number_ok a.pit pa
  have q2 := number_ok b.pit pb
  have E := Lib.hid (show ordS a b i j = orS [cmp3 (numP a.pit) (numP b.pit), cmp3 a.pit.2.2 b.pit.2.2, cmp3 i j] from rfl)
  obtain ⟨⟨pa0, pa1, pa2⟩, hpa⟩ : ∃ y, y = a.pit := ⟨_, rfl⟩
  obtain ⟨⟨pb0, pb1, pb2⟩, hpb⟩ : ∃ y, y = b.pit := ⟨_, rfl⟩
  rw [← hpa] at a4 a5 a6 q1 E
  rw [← hpb] at b4 b5 b6 q2 E
  simp only at a4 a5 a6 b4 b5 b6 q1 q2 E
  obtain ⟨na0, hna0⟩ : ∃ y, y = numP (pa0, pa1, pa2) := ⟨_, rfl⟩
  obtain ⟨nb0, hnb0⟩ : ∃ y, y = numP (pb0, pb1, pb2) := ⟨_, rfl⟩
  rw [← hna0] at q1 E
  rw [← hnb0] at q2 E
  have k0 : Below w.heap.size w (w.alloc (.cells #[.slice (some ⟨bv, ov, none⟩) q c, .int .i64 y0, .int .i64 y1, .int .i64 d0, .int .i64 d1, .slice (some ⟨be, oe, none⟩) q k] 84)) := by repeat (first | with_reducible exact Below.refl _ _ | with_reducible assumption | with_reducible refine below_drewN ?_ _ | with_reducible refine Below.drew ?_ | with_reducible refine below_alloc ?_ _ | (with_reducible refine Below.setCell ?_ ?_ _; rotate_left; ((try simp only); omega)))
  have C0 : Blk (w.alloc (.cells #[.slice (some ⟨bv, ov, none⟩) q c, .int .i64 y0, .int .i64 y1, .int .i64 d0, .int .i64 d1, .slice (some ⟨be, oe, none⟩) q k] 84)) w.heap.size 84 #[.slice (some ⟨bv, ov, none⟩) q c, .int .i64 y0, .int .i64 y1, .int .i64 d0, .int .i64 d1, .slice (some ⟨be, oe, none⟩) q k] := Blk.new _ _ _
  clear hpa hpb hna0 hnb0 xa xb hxa hxb ca1 cb1 hka hkb hva hvb ga gb pa pb ha hb rva rvb hna hnb hr h
  go_enter Try.func53, Try.ntmps53
  go_wp2_with fail
  obtain ⟨wq, hwq⟩ : ∃ wq, wq = w.alloc (.cells #[.slice (some ⟨bv, ov, none⟩) q c, .int .i64 y0, .int .i64 y1, .int .i64 d0, .int .i64 d1, .slice (some ⟨be, oe, none⟩) q k] 84) := ⟨_, rfl⟩
  rw [← hwq] at k0 C0 ⊢
  have lwq : w.heap.size < wq.heap.size := C0.lt
  clear hwq
  rw [← k0.cell (p := ⟨_, _, none⟩) hbv] at cva cvb
  rw [← k0.cell (p := ⟨_, _, none⟩) hbe'] at ea eb
  rw [← k0.cell (p := ⟨_, _, none⟩) hb1] at a4 a5 a6
  rw [← k0.cell (p := ⟨_, _, none⟩) hb2] at b4 b5 b6
  have z0 : wq.cell? ⟨w.heap.size, 0, none⟩ = some (.slice (some ⟨bv, ov, none⟩) q c) := C0.cell 0
  have z5 : wq.cell? ⟨w.heap.size, 5, none⟩ = some (.slice (some ⟨be, oe, none⟩) q k) := C0.cell 5
  have l0 := k0.size
  have l1 : bv < wq.heap.size := by omega
  have l2 : be < wq.heap.size := by omega
  have l3 : b1 < wq.heap.size := by omega
  have l4 : b2 < wq.heap.size := by omega
  go_region_held3 (fun w' => w'.cell? ⟨w.heap.size, 0, none⟩ = some (.slice (some ⟨bv, ov, none⟩) q c) ∧ w'.cell? ⟨w.heap.size, 5, none⟩ = some (.slice (some ⟨be, oe, none⟩) q k) ∧ w'.cell? ⟨bv, ov + i, none⟩ = some (.slice (some ⟨b1, o1, none⟩) na ca) ∧ w'.cell? ⟨bv, ov + j, none⟩ = some (.slice (some ⟨b2, o2, none⟩) nb cb) ∧ w'.cell? ⟨be, oe + i, none⟩ = some (.int .i64 (ka : Int)) ∧ w'.cell? ⟨be, oe + j, none⟩ = some (.int .i64 (kb : Int)) ∧ w'.cell? ⟨b1, o1 + ka * 10 + 4, none⟩ = some (.int .i64 pa0) ∧ w'.cell? ⟨b1, o1 + ka * 10 + 5, none⟩ = some (.int .i64 pa1) ∧ w'.cell? ⟨b1, o1 + ka * 10 + 6, none⟩ = some (.int .i64 pa2) ∧ w'.cell? ⟨b2, o2 + kb * 10 + 4, none⟩ = some (.int .i64 pb0) ∧ w'.cell? ⟨b2, o2 + kb * 10 + 5, none⟩ = some (.int .i64 pb1) ∧ w'.cell? ⟨b2, o2 + kb * 10 + 6, none⟩ = some (.int .i64 pb2) ∧ Below wq.heap.size wq w') ((refine (fun hb => ⟨(hb.cell (p := ⟨_, _, none⟩) lwq).trans z0, (hb.cell (p := ⟨_, _, none⟩) lwq).trans z5, (hb.cell (p := ⟨_, _, none⟩) l1).trans cva, (hb.cell (p := ⟨_, _, none⟩) l1).trans cvb, (hb.cell (p := ⟨_, _, none⟩) l2).trans ea, (hb.cell (p := ⟨_, _, none⟩) l2).trans eb, (hb.cell (p := ⟨_, _, none⟩) l3).trans a4, (hb.cell (p := ⟨_, _, none⟩) l3).trans a5, (hb.cell (p := ⟨_, _, none⟩) l3).trans a6, (hb.cell (p := ⟨_, _, none⟩) l4).trans b4, (hb.cell (p := ⟨_, _, none⟩) l4).trans b5, (hb.cell (p := ⟨_, _, none⟩) l4).trans b6, hb⟩) ?_; repeat (first | with_reducible exact Below.refl _ _ | with_reducible exact (show _ ∧ _ ∧ _ ∧ _ ∧ _ ∧ _ ∧ _ ∧ _ ∧ _ ∧ _ ∧ _ ∧ _ ∧ Below wq.heap.size wq _ by assumption).2.2.2.2.2.2.2.2.2.2.2.2 | with_reducible refine Below.drew ?_ | with_reducible refine below_alloc ?_ _ | (with_reducible refine Below.setCell ?_ ?_ _; rotate_left; (first | (show wq.heap.size ≤ wq.heap.size; omega) | (show wq.heap.size ≤ wq.heap.size + 1; omega) | (simp; omega)))))) (fail)
  all_goals
    have hB5 := (show _ ∧ _ ∧ _ ∧ _ ∧ _ ∧ _ ∧ _ ∧ _ ∧ _ ∧ _ ∧ _ ∧ _ ∧ Below wq.heap.size wq _ by assumption).2.2.2.2.2.2.2.2.2.2.2.2
    obtain ⟨wv, hwv⟩ := name_world hB5
    first
      | (refine pick_block (wv := wv) (lo := wq.heap.size) (t := 65) (wq.heap.size + 1) #[.int .i64 pa0, .int .i64 pa1, .int .i64 pa2] ?_ ?_ ?_; (focus omega); (focus (rw [hwv]; repeat (first | with_reducible exact Blk.new _ _ _ | (with_reducible refine Blk.newAt _ _ _ _ ?_; first | rfl | (simp; done)) | with_reducible apply Blk.alloc | with_reducible apply Blk.drewN | with_reducible apply Blk.drew))); intro g7 hg7 l7 B7; refine pick_block (wv := wv) (lo := wq.heap.size) (t := 65) (wq.heap.size) #[.int .i64 pb0, .int .i64 pb1, .int .i64 pb2] ?_ ?_ ?_; (focus omega); (focus (rw [hwv]; repeat (first | with_reducible exact Blk.new _ _ _ | (with_reducible refine Blk.newAt _ _ _ _ ?_; first | rfl | (simp; done)) | with_reducible apply Blk.alloc | with_reducible apply Blk.drewN | with_reducible apply Blk.drew))); intro g8 hg8 l8 B8; rw [← hwv] at hB5 ⊢; rw [← hg7, ← hg8])
      | (refine pick_block (wv := wv) (lo := wq.heap.size) (t := 65) (wq.heap.size) #[.int .i64 pa0, .int .i64 pa1, .int .i64 pa2] ?_ ?_ ?_; (focus omega); (focus (rw [hwv]; repeat (first | with_reducible exact Blk.new _ _ _ | (with_reducible refine Blk.newAt _ _ _ _ ?_; first | rfl | (simp; done)) | with_reducible apply Blk.alloc | with_reducible apply Blk.drewN | with_reducible apply Blk.drew))); intro g7 hg7 l7 B7; refine pick_block (wv := wv) (lo := wq.heap.size) (t := 65) (wq.heap.size + 1) #[.int .i64 pb0, .int .i64 pb1, .int .i64 pb2] ?_ ?_ ?_; (focus omega); (focus (rw [hwv]; repeat (first | with_reducible exact Blk.new _ _ _ | (with_reducible refine Blk.newAt _ _ _ _ ?_; first | rfl | (simp; done)) | with_reducible apply Blk.alloc | with_reducible apply Blk.drewN | with_reducible apply Blk.drew))); intro g8 hg8 l8 B8; rw [← hwv] at hB5 ⊢; rw [← hg8, ← hg7])
    clear hwv hg7 hg8
    have k1 := k0.trans (hB5.mono (by omega))
    obtain ⟨e0, e1, e2⟩ : wv.cell? ⟨g7, 0, none⟩ = some (.int .i64 pa0) ∧ wv.cell? ⟨g7, 1, none⟩ = some (.int .i64 pa1) ∧ wv.cell? ⟨g7, 2, none⟩ = some (.int .i64 pa2) := ⟨B7.cell 0, B7.cell 1, B7.cell 2⟩
    go_wp2_with fail
    refine (q1 _).mono ?_
    rintro e w5 ⟨rfl, hb5⟩
    have k5 := below_call k1 hb5
    have B75 := B7.kept hb5
    have B85 := B8.kept hb5
    obtain ⟨e0, e1, e2⟩ : w5.cell? ⟨g8, 0, none⟩ = some (.int .i64 pb0) ∧ w5.cell? ⟨g8, 1, none⟩ = some (.int .i64 pb1) ∧ w5.cell? ⟨g8, 2, none⟩ = some (.int .i64 pb2) := ⟨B85.cell 0, B85.cell 1, B85.cell 2⟩
    go_wp2_with fail
    refine (q2 _).mono ?_
    rintro e w6 ⟨rfl, hb6⟩
    have k6 := below_call k5 hb6
    have B76 := B75.kept hb6
    have B86 := B85.kept hb6
    have e3 : w6.cell? ⟨g7, 2, none⟩ = some (.int .i64 pa2) := B76.cell 2
    have e4 : w6.cell? ⟨g8, 2, none⟩ = some (.int .i64 pb2) := B86.cell 2
    have l76 := B76.lt
    have l86 := B86.lt
    clear hb5 hb6 k1 k5 B7 B8 B75 B85 q1 q2
    go_wp2_with fail
    refine wp_region_calm_tail 11 (by kernel_rfl) (by kernel_rfl) ?_
    simp only [List.take_succ_cons, List.take_zero, List.drop_succ_cons, List.drop_zero]
    repeat (go_big_quiet_step ((go_at_call 84; with_reducible exact calm_call (cmpI_any _ _ _))))
    refine wpQuiet_nil ?_
    intro w7 hb7
    have k7 := below_call k6 hb7
    go_wp2_with fail
    refine Calls.mono (or_any (some ⟨w7.heap.size, 0, none⟩) 3 3 [cmp3 na0 nb0, cmp3 pa2 pb2, cmp3 i j] (w7.heap.size + 1) _ (Reads.newAt _ _ _ 3 1 _ rfl rfl) (by simp) (by omega)) ?_
    rintro e w8 ⟨rfl, hb8⟩
    have k8 := below_call (below_alloc k7 (.cells #[.int .i64 (cmp3 na0 nb0), .int .i64 (cmp3 pa2 pb2), .int .i64 (cmp3 i j)] 3)) hb8
    go_wp2
    go_ret
    rw [E.out]
    exact ⟨rfl, k8⟩
end Go.Proofs.Ytbljfaocmeeljaa
