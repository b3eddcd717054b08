
/- Slices of slices of events, as lists; the small walks of layer align: compare, before, end, Check. -/
import Derived.Test.YtmlcnmnpkemdpaaDoorEvents
import Derived.Test.YtmlcnmnpkemdpaaDoorPlain
namespace Go.Proofs.YtmlcnmnpkemdpaaDoor
open Go.RowKit
/-- A voice's place: address, length, capacity. -/
abbrev Pl := Option Addr × Nat × Nat
def slV (d : Pl) : List Value := [.slice d.1 d.2.1 d.2.2]
def csV (l : List Pl) : List Value := l.flatMap slV
/-- The slice value with address A and n elements reads as the voices l, all below block B. -/
def ReadsV (w : World) (B : Nat) (A : Option Addr) (n : Nat) (l : List (List Ev)) : Prop :=
  ∃ ds : List Pl, ds.length = l.length ∧ Reads w B 1 A n (csV ds) ∧ ∀ (k : Nat) d v, ds[k]? = some d → l[k]? = some v → Reads w B 10 d.1 d.2.1 (csE v) ∧ d.2.1 ≤ 9223372036854775807
theorem ReadsV.len {w : World} {B n : Nat} {A : Option Addr} {l : List (List Ev)} (h : ReadsV w B A n l) : l.length = n := by
  obtain ⟨ds, h1, h2, _⟩ := h
  rw [← h1]
  exact h2.len (size := 1) (l := ds) (f := slV) (fun _ => rfl) (by decide)
theorem ReadsV.below {w W : World} {B n : Nat} {A : Option Addr} {l : List (List Ev)} (h : ReadsV w B A n l) (hB : B ≤ w.heap.size) (hb : Below w.heap.size w W) : ReadsV W B A n l := by
  obtain ⟨ds, h1, h2, h3⟩ := h
  exact ⟨ds, h1, h2.below hB hb, fun k d v hd hv => ⟨(h3 k d v hd hv).1.below hB hb, (h3 k d v hd hv).2⟩⟩
/-- Voice k of a setting. -/
theorem ReadsV.voice {w W : World} {B n : Nat} {A : Option Addr} {l : List (List Ev)} (h : ReadsV w B A n l) (hB : B ≤ w.heap.size) (hb : Below w.heap.size w W) {k : Nat} {v : List Ev} (hk : k < n) (hv : l[k]? = some v) :
    ∃ b off A' n' c', A = some ⟨b, off, none⟩ ∧ b < W.heap.size ∧ W.cell? ⟨b, off + k, none⟩ = some (.slice A' n' c') ∧ Reads W B 10 A' n' (csE v) ∧ n' ≤ 9223372036854775807 ∧ v.length = n' := by
  have hl := h.len
  obtain ⟨ds, h1, h2, h3⟩ := h
  obtain ⟨d, hd⟩ := get_some (l := ds) (k := k) (by omega)
  obtain ⟨b, off, hA, hbB, hc⟩ := h2.elem (f := slV) (fun _ => rfl) hk hd
  obtain ⟨r, rn⟩ := h3 k d v hd hv
  have r' := r.below hB hb
  refine ⟨b, off, d.1, d.2.1, d.2.2, hA, by have := hb.size; omega, ?_, r', rn, r'.evlen⟩
  have := hc 0 _ rfl
  rw [hb.cell (by simp; omega)]
  simpa using this
set_option maxHeartbeats 400000 in
theorem compare_any (a b : Int × Int) (w : World) :
    Calls Tryd.prog 59 #[.agg #[.int .i64 a.1, .int .i64 a.2], .agg #[.int .i64 b.1, .int .i64 b.2]] w fun e w' => e = .returned (.int .i64 (cmpS a b).1) ∧ Below w.heap.size w w' := by
  have q1 := cmp_any a b
  obtain ⟨⟨x, r⟩, hx⟩ : ∃ t, t = cmpS a b := ⟨_, rfl⟩
  rw [← hx] at q1 ⊢
  clear hx
  obtain ⟨a, a'⟩ := a
  obtain ⟨b, b'⟩ := b
  go_enter Tryd.func59, Tryd.ntmps59
  go_wp2_with fail
  refine (q1 _).mono ?_
  rintro e w1 ⟨rfl, hb1⟩
  have BP1 : Blk w1 (w.heap.size) 52 #[.int .i64 a, .int .i64 a'] := by
    refine Blk.kept ?_ hb1
    repeat (first | with_reducible exact Blk.new _ _ _ | (with_reducible refine Blk.newAt _ _ _ _ ?_; first | rfl | (simp; done)) | with_reducible apply Blk.alloc | with_reducible apply Blk.drewN | with_reducible apply Blk.drew | with_reducible apply Blk.set_to | (with_reducible apply Blk.far_; (simp only [ne_eq]; omega)) | rfl)
  have cP0_1 : w1.cell? ⟨w.heap.size, 0, none⟩ = some (.int .i64 a) := BP1.cell 0
  have cP1_1 : w1.cell? ⟨w.heap.size, 1, none⟩ = some (.int .i64 a') := BP1.cell 1
  have lP1 : w.heap.size < w1.heap.size := BP1.lt
  have mP1 : w.heap.size < w1.heap.size + 1 := by omega
  have nP1 : w.heap.size < w1.heap.size + 1 + 1 := by omega
  have BQ1 : Blk w1 (w.heap.size + 1) 52 #[.int .i64 b, .int .i64 b'] := by
    refine Blk.kept ?_ hb1
    repeat (first | with_reducible exact Blk.new _ _ _ | (with_reducible refine Blk.newAt _ _ _ _ ?_; first | rfl | (simp; done)) | with_reducible apply Blk.alloc | with_reducible apply Blk.drewN | with_reducible apply Blk.drew | with_reducible apply Blk.set_to | (with_reducible apply Blk.far_; (simp only [ne_eq]; omega)) | rfl)
  have cQ0_1 : w1.cell? ⟨w.heap.size + 1, 0, none⟩ = some (.int .i64 b) := BQ1.cell 0
  have cQ1_1 : w1.cell? ⟨w.heap.size + 1, 1, none⟩ = some (.int .i64 b') := BQ1.cell 1
  have lQ1 : w.heap.size + 1 < w1.heap.size := BQ1.lt
  have mQ1 : w.heap.size + 1 < w1.heap.size + 1 := by omega
  have nQ1 : w.heap.size + 1 < w1.heap.size + 1 + 1 := by omega
  have hs1 : w.heap.size ≤ w1.heap.size := by have h := hb1.size; (try simp at h); omega
  have kb : Below w.heap.size w w1 := by repeat (first | exact Below.refl _ _ | refine below_drewN ?_ _ | refine Below.drew ?_ | refine below_alloc ?_ _ | (refine below_call ?_ (by assumption)) | (refine Below.setCell ?_ ?_ _; rotate_left; (simp; try omega)))
  go_wp2
  go_ret
  exact ⟨rfl, by repeat (first | with_reducible exact Below.refl _ _ | with_reducible assumption | with_reducible refine below_drewN ?_ _ | with_reducible refine Below.drew ?_ | with_reducible refine below_alloc ?_ _ | (with_reducible refine Below.setCell ?_ ?_ _; rotate_left; ((try simp only); omega)))⟩
set_option maxHeartbeats 400000 in
theorem before_any (a b : Int × Int) (w : World) :
    Calls Tryd.prog 72 #[.agg #[.int .i64 a.1, .int .i64 a.2], .agg #[.int .i64 b.1, .int .i64 b.2]] w fun e w' => e = .returned (.bool (lessB a b)) ∧ Below w.heap.size w w' := by
  have q1 := refCmp_any a b
  have E := Lib.hid (show lessB a b = decide ((cmpS a b).1 < 0) from rfl)
  obtain ⟨⟨x, r⟩, hx⟩ : ∃ t, t = cmpS a b := ⟨_, rfl⟩
  rw [← hx] at q1 E
  clear hx
  obtain ⟨a, a'⟩ := a
  obtain ⟨b, b'⟩ := b
  go_enter Tryd.func72, Tryd.ntmps72
  go_wp2_with fail
  refine (q1 _).mono ?_
  rintro e w1 ⟨rfl, hb1⟩
  have BP1 : Blk w1 (w.heap.size) 52 #[.int .i64 a, .int .i64 a'] := by
    refine Blk.kept ?_ hb1
    repeat (first | with_reducible exact Blk.new _ _ _ | (with_reducible refine Blk.newAt _ _ _ _ ?_; first | rfl | (simp; done)) | with_reducible apply Blk.alloc | with_reducible apply Blk.drewN | with_reducible apply Blk.drew | with_reducible apply Blk.set_to | (with_reducible apply Blk.far_; (simp only [ne_eq]; omega)) | rfl)
  have cP0_1 : w1.cell? ⟨w.heap.size, 0, none⟩ = some (.int .i64 a) := BP1.cell 0
  have cP1_1 : w1.cell? ⟨w.heap.size, 1, none⟩ = some (.int .i64 a') := BP1.cell 1
  have lP1 : w.heap.size < w1.heap.size := BP1.lt
  have mP1 : w.heap.size < w1.heap.size + 1 := by omega
  have nP1 : w.heap.size < w1.heap.size + 1 + 1 := by omega
  have BQ1 : Blk w1 (w.heap.size + 1) 52 #[.int .i64 b, .int .i64 b'] := by
    refine Blk.kept ?_ hb1
    repeat (first | with_reducible exact Blk.new _ _ _ | (with_reducible refine Blk.newAt _ _ _ _ ?_; first | rfl | (simp; done)) | with_reducible apply Blk.alloc | with_reducible apply Blk.drewN | with_reducible apply Blk.drew | with_reducible apply Blk.set_to | (with_reducible apply Blk.far_; (simp only [ne_eq]; omega)) | rfl)
  have cQ0_1 : w1.cell? ⟨w.heap.size + 1, 0, none⟩ = some (.int .i64 b) := BQ1.cell 0
  have cQ1_1 : w1.cell? ⟨w.heap.size + 1, 1, none⟩ = some (.int .i64 b') := BQ1.cell 1
  have lQ1 : w.heap.size + 1 < w1.heap.size := BQ1.lt
  have mQ1 : w.heap.size + 1 < w1.heap.size + 1 := by omega
  have nQ1 : w.heap.size + 1 < w1.heap.size + 1 + 1 := by omega
  have hs1 : w.heap.size ≤ w1.heap.size := by have h := hb1.size; (try simp at h); omega
  have kb : Below w.heap.size w w1 := by repeat (first | exact Below.refl _ _ | refine below_drewN ?_ _ | refine Below.drew ?_ | refine below_alloc ?_ _ | (refine below_call ?_ (by assumption)) | (refine Below.setCell ?_ ?_ _; rotate_left; (simp; try omega)))
  go_wp2
  go_ret
  rw [E.out]
  exact ⟨rfl, by repeat (first | with_reducible exact Below.refl _ _ | with_reducible assumption | with_reducible refine below_drewN ?_ _ | with_reducible refine Below.drew ?_ | with_reducible refine below_alloc ?_ _ | (with_reducible refine Below.setCell ?_ ?_ _; rotate_left; ((try simp only); omega)))⟩
set_option maxRecDepth 100000 in
set_option maxHeartbeats 1000000 in
theorem refEndOf_any (x : Ev) (w : World) :
    Calls Tryd.prog 69 #[.agg (cE x).toArray] w fun e w' => e = .returned (.agg #[.int .i64 (nextS x).1, .int .i64 (nextS x).2]) ∧ Below w.heap.size w w' := by
  have q1 := refAdd_any x.at_ x.dur
  have E := Lib.hid (show nextS x = ((addS x.at_ x.dur).1, (addS x.at_ x.dur).2.1) from rfl)
  obtain ⟨⟨s, s', r⟩, hs⟩ : ∃ t, t = addS x.at_ x.dur := ⟨_, rfl⟩
  rw [← hs] at q1 E
  clear hs
  obtain ⟨⟨a, a'⟩, ⟨d, d'⟩, ⟨p, q, u⟩, rst, sg, ps⟩ := x
  unfold cE
  simp only [List.toArray]
  go_enter Tryd.func69, Tryd.ntmps69
  go_wp2_with fail
  refine (q1 _).mono ?_
  rintro e w1 ⟨rfl, hb1⟩
  have BP1 : Blk w1 (w.heap.size) 54 #[.int .i64 a, .int .i64 a', .int .i64 d, .int .i64 d', .int .i64 p, .int .i64 q, .int .i64 u, .bool rst, .int .i64 sg, .int .i64 ps] := by
    refine Blk.kept ?_ hb1
    repeat (first | with_reducible exact Blk.new _ _ _ | (with_reducible refine Blk.newAt _ _ _ _ ?_; first | rfl | (simp; done)) | with_reducible apply Blk.alloc | with_reducible apply Blk.drewN | with_reducible apply Blk.drew | with_reducible apply Blk.set_to | (with_reducible apply Blk.far_; (simp only [ne_eq]; omega)) | rfl)
  have cP0_1 : w1.cell? ⟨w.heap.size, 0, none⟩ = some (.int .i64 a) := BP1.cell 0
  have cP1_1 : w1.cell? ⟨w.heap.size, 1, none⟩ = some (.int .i64 a') := BP1.cell 1
  have cP2_1 : w1.cell? ⟨w.heap.size, 2, none⟩ = some (.int .i64 d) := BP1.cell 2
  have cP3_1 : w1.cell? ⟨w.heap.size, 3, none⟩ = some (.int .i64 d') := BP1.cell 3
  have cP4_1 : w1.cell? ⟨w.heap.size, 4, none⟩ = some (.int .i64 p) := BP1.cell 4
  have cP5_1 : w1.cell? ⟨w.heap.size, 5, none⟩ = some (.int .i64 q) := BP1.cell 5
  have cP6_1 : w1.cell? ⟨w.heap.size, 6, none⟩ = some (.int .i64 u) := BP1.cell 6
  have cP7_1 : w1.cell? ⟨w.heap.size, 7, none⟩ = some (.bool rst) := BP1.cell 7
  have cP8_1 : w1.cell? ⟨w.heap.size, 8, none⟩ = some (.int .i64 sg) := BP1.cell 8
  have cP9_1 : w1.cell? ⟨w.heap.size, 9, none⟩ = some (.int .i64 ps) := BP1.cell 9
  have lP1 : w.heap.size < w1.heap.size := BP1.lt
  have mP1 : w.heap.size < w1.heap.size + 1 := by omega
  have nP1 : w.heap.size < w1.heap.size + 1 + 1 := by omega
  have BR1 : Blk w1 (w.heap.size + 1) 52 #[.int .i64 0, .int .i64 0] := by
    refine Blk.kept ?_ hb1
    repeat (first | with_reducible exact Blk.new _ _ _ | (with_reducible refine Blk.newAt _ _ _ _ ?_; first | rfl | (simp; done)) | with_reducible apply Blk.alloc | with_reducible apply Blk.drewN | with_reducible apply Blk.drew | with_reducible apply Blk.set_to | (with_reducible apply Blk.far_; (simp only [ne_eq]; omega)) | rfl)
  have cR0_1 : w1.cell? ⟨w.heap.size + 1, 0, none⟩ = some (.int .i64 0) := BR1.cell 0
  have cR1_1 : w1.cell? ⟨w.heap.size + 1, 1, none⟩ = some (.int .i64 0) := BR1.cell 1
  have lR1 : w.heap.size + 1 < w1.heap.size := BR1.lt
  have mR1 : w.heap.size + 1 < w1.heap.size + 1 := by omega
  have nR1 : w.heap.size + 1 < w1.heap.size + 1 + 1 := by omega
  have fR0_1 := BR1.frozen 0
  have fR1_1 := BR1.frozen 1
  have eRP1 : w.heap.size + 1 ≠ w.heap.size := by omega
  have ePR1 : w.heap.size ≠ w.heap.size + 1 := by omega
  have hs1 : w.heap.size ≤ w1.heap.size := by have h := hb1.size; (try simp at h); omega
  have kb : Below w.heap.size w w1 := by repeat (first | exact Below.refl _ _ | refine below_drewN ?_ _ | refine Below.drew ?_ | refine below_alloc ?_ _ | (refine below_call ?_ (by assumption)) | (refine Below.setCell ?_ ?_ _; rotate_left; (simp; try omega)))
  go_wp2
  refine ret_of (by simp [results, Tryd.results69, go_sem, *]; repeat' (first | rfl | apply And.intro)) rfl ⟨?_, by repeat (first | with_reducible exact Below.refl _ _ | with_reducible assumption | with_reducible refine below_drewN ?_ _ | with_reducible refine Below.drew ?_ | with_reducible refine below_alloc ?_ _ | (with_reducible refine Below.setCell ?_ ?_ _; rotate_left; ((try simp only); omega)))⟩
  rw [E.out]
set_option maxRecDepth 100000 in
set_option maxHeartbeats 1000000 in
theorem alCheck_any (A : Option Addr) (n c : Nat) (l : List (List Ev)) (B : Nat) (w : World) (h : ReadsV w B A n l) (hB : B ≤ w.heap.size) (hn : n ≤ 9223372036854775807) :
    Calls Tryd.prog 43 #[.slice A n c] w fun e w' => e = .returned (.tuple #[.int .i64 (checkA l).1, .int .i64 (checkA l).2]) ∧ Below w.heap.size w w' := by
  have hl := h.len
  by_cases hbig : 8 < n
  · have hbig' : (8 : Int) < (n : Int) := by omega
    have E := Lib.hid (show checkA l = (11, 0) by unfold checkA; rw [if_pos (by omega)])
    clear hl
    go_enter Tryd.func43, Tryd.ntmps43
    go_wp2
    go_ret2
    rw [E.out]
    exact ⟨rfl, Below.refl _ _⟩
  · have hbig' : ¬ ((8 : Int) < (n : Int)) := by omega
    have E := Lib.hid (show checkA l = chkV 0 l by unfold checkA; rw [if_neg (by omega)])
    have HL := Lib.hid hl; clear hl hbig
    go_enter Tryd.func43, Tryd.ntmps43
    go_wp2
    go_loopw [4, 5, 6, 7, 13] (fun _ _ _ _ i wr => ∃ k : Nat, k ≤ n ∧ i = .int .i64 k ∧ Hid (chkV k (l.drop k) = chkV 0 l) ∧ Below w.heap.size w wr) (fun _ _ _ _ i _ => n - (intOf i).toNat)
    case atStart => exact ⟨0, by omega, rfl, Lib.hid rfl, Below.refl _ _⟩
    case round =>
      obtain ⟨k, hk, rfl, hs, k0⟩ := hrel
      by_cases hlt : k < n
      · have hlt' : (k : Int) < (n : Int) := by omega
        obtain ⟨v, hv⟩ := get_some (l := l) (k := k) (by have := HL.out; omega)
        have HD := Lib.hid (drop_get hv)
        obtain ⟨b, off, A', n', c', rfl, hab, c0, hr, hn', _⟩ := h.voice hB k0 hlt hv
        have q1 := evCheck_any A' n' c' v B wr hr (Nat.le_trans hB k0.size) hn'
        obtain ⟨⟨x, y⟩, hx⟩ : ∃ t, t = checkS v := ⟨_, rfl⟩
        rw [← hx] at q1
        by_cases h0 : x = 0
        · subst h0
          have HN := Lib.hid (show chkV ((k + 1 : Nat) : Int) (l.drop (k + 1)) = chkV 0 l by have := hs.out; rw [HD.out, chkV_next (by rw [← hx])] at this; exact this)
          clear hx hv hs
          go_wp2_with fail
          refine q1.mono ?_
          rintro e w1 ⟨rfl, hb1⟩
          go_wp2
          go_roundw
          case rel => exact ⟨k + 1, by omega, by go_num, HN, below_call k0 hb1⟩
          case measure => simp [intOf]; omega
        · have hbad : (x != 0) = true := by simpa using h0
          have HE := Lib.hid (show checkA l = (x, (k : Int)) by rw [E.out, ← hs.out, HD.out, chkV_bad (by rw [← hx]; exact h0), ← hx])
          clear hx hv hs h0
          go_wp2_with fail
          refine q1.mono ?_
          rintro e w1 ⟨rfl, hb1⟩
          go_wp2
          go_ret2
          rw [HE.out]
          exact ⟨rfl, below_call k0 hb1⟩
      · have hkn : k = n := by omega
        subst hkn
        have HE := Lib.hid (show checkA l = (0, 0) by rw [E.out, ← hs.out, List.drop_of_length_le (by have := HL.out; omega)]; rfl)
        go_wp2
        go_ret2
        rw [HE.out]
        exact ⟨rfl, k0⟩
set_option maxRecDepth 100000 in
set_option maxHeartbeats 1000000 in
theorem refAlCheck_any (A : Option Addr) (n c : Nat) (l : List (List Ev)) (B : Nat) (w : World) (h : ReadsV w B A n l) (hB : B ≤ w.heap.size) (hn : n ≤ 9223372036854775807) :
    Calls Tryd.prog 47 #[.slice A n c] w fun e w' => e = .returned (.tuple #[.int .i64 (checkA l).1, .int .i64 (checkA l).2]) ∧ Below w.heap.size w w' := by
  have hl := h.len
  by_cases hbig : 8 < n
  · have hbig' : (8 : Int) < (n : Int) := by omega
    have E := Lib.hid (show checkA l = (11, 0) by unfold checkA; rw [if_pos (by omega)])
    clear hl
    go_enter Tryd.func47, Tryd.ntmps47
    go_wp2
    go_ret2
    rw [E.out]
    exact ⟨rfl, Below.refl _ _⟩
  · have hbig' : ¬ ((8 : Int) < (n : Int)) := by omega
    have E := Lib.hid (show checkA l = chkV 0 l by unfold checkA; rw [if_neg (by omega)])
    have HL := Lib.hid hl; clear hl hbig
    go_enter Tryd.func47, Tryd.ntmps47
    go_wp2
    go_loopw [4, 5, 6] (fun i _ _ wr => ∃ k : Nat, k ≤ n ∧ i = .int .i64 k ∧ Hid (chkV k (l.drop k) = chkV 0 l) ∧ Below w.heap.size w wr) (fun i _ _ _ => n - (intOf i).toNat)
    case atStart => exact ⟨0, by omega, rfl, Lib.hid rfl, Below.refl _ _⟩
    case round =>
      obtain ⟨k, hk, rfl, hs, k0⟩ := hrel
      by_cases hlt : k < n
      · have hlt' : (k : Int) < (n : Int) := by omega
        obtain ⟨v, hv⟩ := get_some (l := l) (k := k) (by have := HL.out; omega)
        have HD := Lib.hid (drop_get hv)
        obtain ⟨b, off, A', n', c', rfl, hab, c0, hr, hn', _⟩ := h.voice hB k0 hlt hv
        have q1 := refEvCheck_any A' n' c' v B wr hr (Nat.le_trans hB k0.size) hn'
        obtain ⟨⟨x, y⟩, hx⟩ : ∃ t, t = checkS v := ⟨_, rfl⟩
        rw [← hx] at q1
        by_cases h0 : x = 0
        · subst h0
          have HN := Lib.hid (show chkV ((k + 1 : Nat) : Int) (l.drop (k + 1)) = chkV 0 l by have := hs.out; rw [HD.out, chkV_next (by rw [← hx])] at this; exact this)
          clear hx hv hs
          go_wp2_with fail
          refine q1.mono ?_
          rintro e w1 ⟨rfl, hb1⟩
          go_wp2
          go_roundw
          case rel => exact ⟨k + 1, by omega, by go_num, HN, below_call k0 hb1⟩
          case measure => simp [intOf]; omega
        · have hbad : (x != 0) = true := by simpa using h0
          have HE := Lib.hid (show checkA l = (x, (k : Int)) by rw [E.out, ← hs.out, HD.out, chkV_bad (by rw [← hx]; exact h0), ← hx])
          clear hx hv hs h0
          go_wp2_with fail
          refine q1.mono ?_
          rintro e w1 ⟨rfl, hb1⟩
          go_wp2
          go_ret2
          rw [HE.out]
          exact ⟨rfl, below_call k0 hb1⟩
      · have hkn : k = n := by omega
        subst hkn
        have HE := Lib.hid (show checkA l = (0, 0) by rw [E.out, ← hs.out, List.drop_of_length_le (by have := HL.out; omega)]; rfl)
        go_wp2
        go_ret2
        rw [HE.out]
        exact ⟨rfl, k0⟩
end Go.Proofs.YtmlcnmnpkemdpaaDoor
