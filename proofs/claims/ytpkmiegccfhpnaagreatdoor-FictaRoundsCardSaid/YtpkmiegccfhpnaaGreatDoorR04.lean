/- Parts of the proof of LawRounds31: AlMem, Voices, Opened, ChMath, ChPitch, TabDoor, DsPlain, CaMath. -/
import Derived.Test.YtpkmiegccfhpnaaGreatDoorR03
set_option maxRecDepth 100000
set_option maxHeartbeats 16000000
namespace Go.Proofs.YtpkmiegccfhpnaaGreatDoor
open Go.RowKit
abbrev Pl := Option Addr × Nat × Nat
def slV (d : Pl) : List Value := [.slice d.1 d.2.1 d.2.2]
def csV (l : List Pl) : List Value := l.flatMap slV
def ReadsV (w : World) (B : Nat) (A : Option Addr) (n : Nat) (l : List (List Ev)) : Prop :=
 ∃ ds : List Pl, ds.length = l.length ∧ Reads w B 1 A n (csV ds) ∧ ∀ (k : Nat) d v, ds[k]? = some d → l[k]? = some v → Reads w B 10 d.1 d.2.1 (csE v) ∧ d.2.1 ≤ 9223372036854775807
theorem ReadsV.len {w : World} {B n : Nat} {A : Option Addr} {l : List (List Ev)} (h : ReadsV w B A n l) : l.length = n := by
 obtain ⟨ds, h1, h2, _⟩ := h
 rw [← h1]
 exact h2.len (size := 1) (l := ds) (f := slV) (fun _ => rfl) (by decide)
theorem ReadsV.below {w W : World} {B n : Nat} {A : Option Addr} {l : List (List Ev)} (h : ReadsV w B A n l) (hB : B ≤ w.heap.size) (hb : Below w.heap.size w W) : ReadsV W B A n l := by
 obtain ⟨ds, h1, h2, h3⟩ := h
 exact ⟨ds, h1, h2.below hB hb, fun k d v hd hv => ⟨(h3 k d v hd hv).1.below hB hb, (h3 k d v hd hv).2⟩⟩
theorem ReadsV.voice {w W : World} {B n : Nat} {A : Option Addr} {l : List (List Ev)} (h : ReadsV w B A n l) (hB : B ≤ w.heap.size) (hb : Below w.heap.size w W) {k : Nat} {v : List Ev} (hk : k < n) (hv : l[k]? = some v) :
  ∃ b off A' n' c', A = some ⟨b, off, none⟩ ∧ b < W.heap.size ∧ W.cell? ⟨b, off + k, none⟩ = some (.slice A' n' c') ∧ Reads W B 10 A' n' (csE v) ∧ n' ≤ 9223372036854775807 ∧ v.length = n' := by
 have hl := h.len
 obtain ⟨ds, h1, h2, h3⟩ := h
 obtain ⟨d, hd⟩ := get_some (l := ds) (k := k) (by omega)
 obtain ⟨b, off, hA, hbB, hc⟩ := h2.elem (f := slV) (fun _ => rfl) hk hd
 obtain ⟨r, rn⟩ := h3 k d v hd hv
 have r' := r.below hB hb
 refine ⟨b, off, d.1, d.2.1, d.2.2, hA, by have := hb.size; omega, ?_, r', rn, r'.evlen⟩
 have := hc 0 _ rfl
 rw [hb.cell (by simp; omega)]
 simpa using this
theorem compare_any (a b : Int × Int) (w : World) :
  Calls Tryz.prog 74 #[.agg #[.int .i64 a.1, .int .i64 a.2], .agg #[.int .i64 b.1, .int .i64 b.2]] w fun e w' => e = .returned (.int .i64 (cmpS a b).1) ∧ Below w.heap.size w w' := by
 have q1 := cmp_any a b
 obtain ⟨⟨x, r⟩, hx⟩ : ∃ t, t = cmpS a b := ⟨_, rfl⟩
 rw [← hx] at q1 ⊢
 clear hx
 obtain ⟨a, a'⟩ := a
 obtain ⟨b, b'⟩ := b
 go_enter Tryz.func74, Tryz.ntmps74
 go_wp2_with fail
 refine (q1 _).mono ?_
 rintro e w1 ⟨rfl, hb1⟩
 have BP1 : Blk w1 (w.heap.size) 45 #[.int .i64 a, .int .i64 a'] := by
  refine Blk.kept ?_ hb1
  repeat (first | with_reducible exact Blk.new _ _ _ | (with_reducible refine Blk.newAt _ _ _ _ ?_; first | rfl | (simp; done)) | with_reducible (first | apply Blk.alloc | apply Blk.drewN | apply Blk.drew | apply Blk.set_to) | (with_reducible apply Blk.far_; (simp only [ne_eq]; omega)) | rfl)
 have cP0_1 : w1.cell? ⟨w.heap.size, 0, none⟩ = some (.int .i64 a) := BP1.cell 0
 have cP1_1 : w1.cell? ⟨w.heap.size, 1, none⟩ = some (.int .i64 a') := BP1.cell 1
 have lP1 : w.heap.size < w1.heap.size := BP1.lt
 have mP1 : w.heap.size < w1.heap.size + 1 := by omega
 have nP1 : w.heap.size < w1.heap.size + 1 + 1 := by omega
 have BQ1 : Blk w1 (w.heap.size + 1) 45 #[.int .i64 b, .int .i64 b'] := by
  refine Blk.kept ?_ hb1
  repeat (first | with_reducible exact Blk.new _ _ _ | (with_reducible refine Blk.newAt _ _ _ _ ?_; first | rfl | (simp; done)) | with_reducible (first | apply Blk.alloc | apply Blk.drewN | apply Blk.drew | apply Blk.set_to) | (with_reducible apply Blk.far_; (simp only [ne_eq]; omega)) | rfl)
 have cQ0_1 : w1.cell? ⟨w.heap.size + 1, 0, none⟩ = some (.int .i64 b) := BQ1.cell 0
 have cQ1_1 : w1.cell? ⟨w.heap.size + 1, 1, none⟩ = some (.int .i64 b') := BQ1.cell 1
 have lQ1 : w.heap.size + 1 < w1.heap.size := BQ1.lt
 have mQ1 : w.heap.size + 1 < w1.heap.size + 1 := by omega
 have nQ1 : w.heap.size + 1 < w1.heap.size + 1 + 1 := by omega
 have hs1 : w.heap.size ≤ w1.heap.size := by have h := hb1.size; (try simp at h); omega
 have kb : Below w.heap.size w w1 := by repeat (first | exact Below.refl _ _ | refine below_drewN ?_ _ | refine Below.drew ?_ | refine below_alloc ?_ _ | (refine below_call ?_ (by assumption)) | (refine Below.setCell ?_ ?_ _; rotate_left; (simp; try omega)))
 go_wp2
 go_ret
 exact ⟨rfl, by repeat (first | with_reducible (first | exact Below.refl _ _ | assumption | refine below_drewN ?_ _ | refine Below.drew ?_ | refine below_alloc ?_ _) | (with_reducible refine Below.setCell ?_ ?_ _; rotate_left; ((try simp only); omega)))⟩
theorem before_any (a b : Int × Int) (w : World) :
  Calls Tryz.prog 81 #[.agg #[.int .i64 a.1, .int .i64 a.2], .agg #[.int .i64 b.1, .int .i64 b.2]] w fun e w' => e = .returned (.bool (lessB a b)) ∧ Below w.heap.size w w' := by
 have q1 := refCmp_any a b
 have E := Lib.hid (show lessB a b = decide ((cmpS a b).1 < 0) from rfl)
 obtain ⟨⟨x, r⟩, hx⟩ : ∃ t, t = cmpS a b := ⟨_, rfl⟩
 rw [← hx] at q1 E
 clear hx
 obtain ⟨a, a'⟩ := a
 obtain ⟨b, b'⟩ := b
 go_enter Tryz.func81, Tryz.ntmps81
 go_wp2_with fail
 refine (q1 _).mono ?_
 rintro e w1 ⟨rfl, hb1⟩
 have BP1 : Blk w1 (w.heap.size) 45 #[.int .i64 a, .int .i64 a'] := by
  refine Blk.kept ?_ hb1
  repeat (first | with_reducible exact Blk.new _ _ _ | (with_reducible refine Blk.newAt _ _ _ _ ?_; first | rfl | (simp; done)) | with_reducible (first | apply Blk.alloc | apply Blk.drewN | apply Blk.drew | apply Blk.set_to) | (with_reducible apply Blk.far_; (simp only [ne_eq]; omega)) | rfl)
 have cP0_1 : w1.cell? ⟨w.heap.size, 0, none⟩ = some (.int .i64 a) := BP1.cell 0
 have cP1_1 : w1.cell? ⟨w.heap.size, 1, none⟩ = some (.int .i64 a') := BP1.cell 1
 have lP1 : w.heap.size < w1.heap.size := BP1.lt
 have mP1 : w.heap.size < w1.heap.size + 1 := by omega
 have nP1 : w.heap.size < w1.heap.size + 1 + 1 := by omega
 have BQ1 : Blk w1 (w.heap.size + 1) 45 #[.int .i64 b, .int .i64 b'] := by
  refine Blk.kept ?_ hb1
  repeat (first | with_reducible exact Blk.new _ _ _ | (with_reducible refine Blk.newAt _ _ _ _ ?_; first | rfl | (simp; done)) | with_reducible (first | apply Blk.alloc | apply Blk.drewN | apply Blk.drew | apply Blk.set_to) | (with_reducible apply Blk.far_; (simp only [ne_eq]; omega)) | rfl)
 have cQ0_1 : w1.cell? ⟨w.heap.size + 1, 0, none⟩ = some (.int .i64 b) := BQ1.cell 0
 have cQ1_1 : w1.cell? ⟨w.heap.size + 1, 1, none⟩ = some (.int .i64 b') := BQ1.cell 1
 have lQ1 : w.heap.size + 1 < w1.heap.size := BQ1.lt
 have mQ1 : w.heap.size + 1 < w1.heap.size + 1 := by omega
 have nQ1 : w.heap.size + 1 < w1.heap.size + 1 + 1 := by omega
 have hs1 : w.heap.size ≤ w1.heap.size := by have h := hb1.size; (try simp at h); omega
 have kb : Below w.heap.size w w1 := by repeat (first | exact Below.refl _ _ | refine below_drewN ?_ _ | refine Below.drew ?_ | refine below_alloc ?_ _ | (refine below_call ?_ (by assumption)) | (refine Below.setCell ?_ ?_ _; rotate_left; (simp; try omega)))
 go_wp2
 go_ret
 rw [E.out]
 exact ⟨rfl, by repeat (first | with_reducible (first | exact Below.refl _ _ | assumption | refine below_drewN ?_ _ | refine Below.drew ?_ | refine below_alloc ?_ _) | (with_reducible refine Below.setCell ?_ ?_ _; rotate_left; ((try simp only); omega)))⟩
theorem refEndOf_any (x : Ev) (w : World) :
  Calls Tryz.prog 78 #[.agg (cE x).toArray] w fun e w' => e = .returned (.agg #[.int .i64 (nextS x).1, .int .i64 (nextS x).2]) ∧ Below w.heap.size w w' := by
 have q1 := refAdd_any x.at_ x.dur
 have E := Lib.hid (show nextS x = ((addS x.at_ x.dur).1, (addS x.at_ x.dur).2.1) from rfl)
 obtain ⟨⟨s, s', r⟩, hs⟩ : ∃ t, t = addS x.at_ x.dur := ⟨_, rfl⟩
 rw [← hs] at q1 E
 clear hs
 obtain ⟨⟨a, a'⟩, ⟨d, d'⟩, ⟨p, q, u⟩, rst, sg, ps⟩ := x
 unfold cE
 simp only [List.toArray]
 go_enter Tryz.func78, Tryz.ntmps78
 go_wp2_with fail
 refine (q1 _).mono ?_
 rintro e w1 ⟨rfl, hb1⟩
 have BP1 : Blk w1 (w.heap.size) 49 #[.int .i64 a, .int .i64 a', .int .i64 d, .int .i64 d', .int .i64 p, .int .i64 q, .int .i64 u, .bool rst, .int .i64 sg, .int .i64 ps] := by
  refine Blk.kept ?_ hb1
  repeat (first | with_reducible exact Blk.new _ _ _ | (with_reducible refine Blk.newAt _ _ _ _ ?_; first | rfl | (simp; done)) | with_reducible (first | apply Blk.alloc | apply Blk.drewN | apply Blk.drew | apply Blk.set_to) | (with_reducible apply Blk.far_; (simp only [ne_eq]; omega)) | rfl)
 have cP0_1 : w1.cell? ⟨w.heap.size, 0, none⟩ = some (.int .i64 a) := BP1.cell 0
 have cP1_1 : w1.cell? ⟨w.heap.size, 1, none⟩ = some (.int .i64 a') := BP1.cell 1
 have cP2_1 : w1.cell? ⟨w.heap.size, 2, none⟩ = some (.int .i64 d) := BP1.cell 2
 have cP3_1 : w1.cell? ⟨w.heap.size, 3, none⟩ = some (.int .i64 d') := BP1.cell 3
 have cP4_1 : w1.cell? ⟨w.heap.size, 4, none⟩ = some (.int .i64 p) := BP1.cell 4
 have cP5_1 : w1.cell? ⟨w.heap.size, 5, none⟩ = some (.int .i64 q) := BP1.cell 5
 have cP6_1 : w1.cell? ⟨w.heap.size, 6, none⟩ = some (.int .i64 u) := BP1.cell 6
 have cP7_1 : w1.cell? ⟨w.heap.size, 7, none⟩ = some (.bool rst) := BP1.cell 7
 have cP8_1 : w1.cell? ⟨w.heap.size, 8, none⟩ = some (.int .i64 sg) := BP1.cell 8
 have cP9_1 : w1.cell? ⟨w.heap.size, 9, none⟩ = some (.int .i64 ps) := BP1.cell 9
 have lP1 : w.heap.size < w1.heap.size := BP1.lt
 have mP1 : w.heap.size < w1.heap.size + 1 := by omega
 have nP1 : w.heap.size < w1.heap.size + 1 + 1 := by omega
 have BR1 : Blk w1 (w.heap.size + 1) 45 #[.int .i64 0, .int .i64 0] := by
  refine Blk.kept ?_ hb1
  repeat (first | with_reducible exact Blk.new _ _ _ | (with_reducible refine Blk.newAt _ _ _ _ ?_; first | rfl | (simp; done)) | with_reducible (first | apply Blk.alloc | apply Blk.drewN | apply Blk.drew | apply Blk.set_to) | (with_reducible apply Blk.far_; (simp only [ne_eq]; omega)) | rfl)
 have cR0_1 : w1.cell? ⟨w.heap.size + 1, 0, none⟩ = some (.int .i64 0) := BR1.cell 0
 have cR1_1 : w1.cell? ⟨w.heap.size + 1, 1, none⟩ = some (.int .i64 0) := BR1.cell 1
 have lR1 : w.heap.size + 1 < w1.heap.size := BR1.lt
 have mR1 : w.heap.size + 1 < w1.heap.size + 1 := by omega
 have nR1 : w.heap.size + 1 < w1.heap.size + 1 + 1 := by omega
 have fR0_1 := BR1.frozen 0
 have fR1_1 := BR1.frozen 1
 have eRP1 : w.heap.size + 1 ≠ w.heap.size := by omega
 have ePR1 : w.heap.size ≠ w.heap.size + 1 := by omega
 have hs1 : w.heap.size ≤ w1.heap.size := by have h := hb1.size; (try simp at h); omega
 have kb : Below w.heap.size w w1 := by repeat (first | exact Below.refl _ _ | refine below_drewN ?_ _ | refine Below.drew ?_ | refine below_alloc ?_ _ | (refine below_call ?_ (by assumption)) | (refine Below.setCell ?_ ?_ _; rotate_left; (simp; try omega)))
 go_wp2
 refine ret_of (by simp [results, Tryz.results78, go_sem, *]; repeat' (first | rfl | apply And.intro)) rfl ⟨?_, by repeat (first | with_reducible (first | exact Below.refl _ _ | assumption | refine below_drewN ?_ _ | refine Below.drew ?_ | refine below_alloc ?_ _) | (with_reducible refine Below.setCell ?_ ?_ _; rotate_left; ((try simp only); omega)))⟩
 rw [E.out]
theorem alCheck_any (A : Option Addr) (n c : Nat) (l : List (List Ev)) (B : Nat) (w : World) (h : ReadsV w B A n l) (hB : B ≤ w.heap.size) (hn : n ≤ 9223372036854775807) :
  Calls Tryz.prog 47 #[.slice A n c] w fun e w' => e = .returned (.tuple #[.int .i64 (checkA l).1, .int .i64 (checkA l).2]) ∧ Below w.heap.size w w' := by
 have hl := h.len
 by_cases hbig : 8 < n
 ·have hbig' : (8 : Int) < (n : Int) := by omega
  have E := Lib.hid (show checkA l = (11, 0) by unfold checkA; rw [if_pos (by omega)])
  clear hl
  go_enter Tryz.func47, Tryz.ntmps47
  go_wp2
  go_ret2
  rw [E.out]
  exact ⟨rfl, Below.refl _ _⟩
 ·have hbig' : ¬ ((8 : Int) < (n : Int)) := by omega
  have E := Lib.hid (show checkA l = chkV 0 l by unfold checkA; rw [if_neg (by omega)])
  have HL := Lib.hid hl; clear hl hbig
  go_enter Tryz.func47, Tryz.ntmps47
  go_wp2
  go_loopw [4, 5, 6, 7, 13] (fun _ _ _ _ i wr => ∃ k : Nat, k ≤ n ∧ i = .int .i64 k ∧ Hid (chkV k (l.drop k) = chkV 0 l) ∧ Below w.heap.size w wr) (fun _ _ _ _ i _ => n - (intOf i).toNat)
  case atStart => exact ⟨0, by omega, rfl, Lib.hid rfl, Below.refl _ _⟩
  case round =>
   obtain ⟨k, hk, rfl, hs, k0⟩ := hrel
   by_cases hlt : k < n
   ·have hlt' : (k : Int) < (n : Int) := by omega
    obtain ⟨v, hv⟩ := get_some (l := l) (k := k) (by have := HL.out; omega)
    have HD := Lib.hid (drop_get hv)
    obtain ⟨b, off, A', n', c', rfl, hab, c0, hr, hn', _⟩ := h.voice hB k0 hlt hv
    have q1 := evCheck_any A' n' c' v B wr hr (Nat.le_trans hB k0.size) hn'
    obtain ⟨⟨x, y⟩, hx⟩ : ∃ t, t = checkS v := ⟨_, rfl⟩
    rw [← hx] at q1
    by_cases h0 : x = 0
    ·subst h0
     have HN := Lib.hid (show chkV ((k + 1 : Nat) : Int) (l.drop (k + 1)) = chkV 0 l by have := hs.out; rw [HD.out, chkV_next (by rw [← hx])] at this; exact this)
     clear hx hv hs
     go_wp2_with fail
     refine q1.mono ?_
     rintro e w1 ⟨rfl, hb1⟩
     go_wp2
     go_roundw
     case rel => exact ⟨k + 1, by omega, by go_num, HN, below_call k0 hb1⟩
     case measure => simp [intOf]; omega
    ·have hbad : (x != 0) = true := by simpa using h0
     have HE := Lib.hid (show checkA l = (x, (k : Int)) by rw [E.out, ← hs.out, HD.out, chkV_bad (by rw [← hx]; exact h0), ← hx])
     clear hx hv hs h0
     go_wp2_with fail
     refine q1.mono ?_
     rintro e w1 ⟨rfl, hb1⟩
     go_wp2
     go_ret2
     rw [HE.out]
     exact ⟨rfl, below_call k0 hb1⟩
   ·have hkn : k = n := by omega
    subst hkn
    have HE := Lib.hid (show checkA l = (0, 0) by rw [E.out, ← hs.out, List.drop_of_length_le (by have := HL.out; omega)]; rfl)
    go_wp2
    go_ret2
    rw [HE.out]
    exact ⟨rfl, k0⟩
theorem refAlCheck_any (A : Option Addr) (n c : Nat) (l : List (List Ev)) (B : Nat) (w : World) (h : ReadsV w B A n l) (hB : B ≤ w.heap.size) (hn : n ≤ 9223372036854775807) :
  Calls Tryz.prog 51 #[.slice A n c] w fun e w' => e = .returned (.tuple #[.int .i64 (checkA l).1, .int .i64 (checkA l).2]) ∧ Below w.heap.size w w' := by
 have hl := h.len
 by_cases hbig : 8 < n
 ·have hbig' : (8 : Int) < (n : Int) := by omega
  have E := Lib.hid (show checkA l = (11, 0) by unfold checkA; rw [if_pos (by omega)])
  clear hl
  go_enter Tryz.func51, Tryz.ntmps51
  go_wp2
  go_ret2
  rw [E.out]
  exact ⟨rfl, Below.refl _ _⟩
 ·have hbig' : ¬ ((8 : Int) < (n : Int)) := by omega
  have E := Lib.hid (show checkA l = chkV 0 l by unfold checkA; rw [if_neg (by omega)])
  have HL := Lib.hid hl; clear hl hbig
  go_enter Tryz.func51, Tryz.ntmps51
  go_wp2
  go_loopw [4, 5, 6] (fun i _ _ wr => ∃ k : Nat, k ≤ n ∧ i = .int .i64 k ∧ Hid (chkV k (l.drop k) = chkV 0 l) ∧ Below w.heap.size w wr) (fun i _ _ _ => n - (intOf i).toNat)
  case atStart => exact ⟨0, by omega, rfl, Lib.hid rfl, Below.refl _ _⟩
  case round =>
   obtain ⟨k, hk, rfl, hs, k0⟩ := hrel
   by_cases hlt : k < n
   ·have hlt' : (k : Int) < (n : Int) := by omega
    obtain ⟨v, hv⟩ := get_some (l := l) (k := k) (by have := HL.out; omega)
    have HD := Lib.hid (drop_get hv)
    obtain ⟨b, off, A', n', c', rfl, hab, c0, hr, hn', _⟩ := h.voice hB k0 hlt hv
    have q1 := refEvCheck_any A' n' c' v B wr hr (Nat.le_trans hB k0.size) hn'
    obtain ⟨⟨x, y⟩, hx⟩ : ∃ t, t = checkS v := ⟨_, rfl⟩
    rw [← hx] at q1
    by_cases h0 : x = 0
    ·subst h0
     have HN := Lib.hid (show chkV ((k + 1 : Nat) : Int) (l.drop (k + 1)) = chkV 0 l by have := hs.out; rw [HD.out, chkV_next (by rw [← hx])] at this; exact this)
     clear hx hv hs
     go_wp2_with fail
     refine q1.mono ?_
     rintro e w1 ⟨rfl, hb1⟩
     go_wp2
     go_roundw
     case rel => exact ⟨k + 1, by omega, by go_num, HN, below_call k0 hb1⟩
     case measure => simp [intOf]; omega
    ·have hbad : (x != 0) = true := by simpa using h0
     have HE := Lib.hid (show checkA l = (x, (k : Int)) by rw [E.out, ← hs.out, HD.out, chkV_bad (by rw [← hx]; exact h0), ← hx])
     clear hx hv hs h0
     go_wp2_with fail
     refine q1.mono ?_
     rintro e w1 ⟨rfl, hb1⟩
     go_wp2
     go_ret2
     rw [HE.out]
     exact ⟨rfl, below_call k0 hb1⟩
   ·have hkn : k = n := by omega
    subst hkn
    have HE := Lib.hid (show checkA l = (0, 0) by rw [E.out, ← hs.out, List.drop_of_length_le (by have := HL.out; omega)]; rfl)
    go_wp2
    go_ret2
    rw [HE.out]
    exact ⟨rfl, k0⟩
end Go.Proofs.YtpkmiegccfhpnaaGreatDoor
/- A row of events below a call. -/
namespace Go.Proofs.YtpkmiegccfhpnaaGreatDoor
open Go.RowKit
end Go.Proofs.YtpkmiegccfhpnaaGreatDoor
/- The walks through the kit's small makers: Mod, Zero, Span, Plus, EndOf. -/
namespace Go.Proofs.YtpkmiegccfhpnaaGreatDoor
open Go.RowKit
def endK (l : List Ev) : Int × Int := match l.getLast? with | none => (0, 1) | some x => plusS x.at_ x.dur
end Go.Proofs.YtpkmiegccfhpnaaGreatDoor
/- The walk through tactuskit.Voice. -/
namespace Go.Proofs.YtpkmiegccfhpnaaGreatDoor
open Go.RowKit
end Go.Proofs.YtpkmiegccfhpnaaGreatDoor
/- Arguments that are slices of structs or of numbers, opened: each reads as a list. -/
namespace Go.Proofs.YtpkmiegccfhpnaaGreatDoor
set_option maxRecDepth 100000
open Go.ChangeShapes Go.WideShapes Go.Deep Go.RowKit
theorem addr_add' (b off j : Nat) : (⟨b, off, none⟩ : Addr).add j = ⟨b, off + j, none⟩ := by
 unfold Addr.add
 split
 ·rename_i h; subst h; simp
 ·rfl
section
variable {H : Type} {enc : TypeId × Value → H} {P : Program} {w : World} {base : Nat} {spare : Nat → Bool} {held : Bool}
end
theorem list_of {α : Type} (P : Nat → α → Prop) : ∀ n : Nat, (∀ i, i < n → ∃ x, P i x) → ∃ l : List α, l.length = n ∧ ∀ i x, l[i]? = some x → P i x
 | 0, _ => ⟨[], rfl, fun i x h => by simp at h⟩
 | n + 1, h => by
  obtain ⟨l, hl, hp⟩ := list_of P n fun i hi => h i (by omega)
  obtain ⟨x, hx⟩ := h n (by omega)
  refine ⟨l ++ [x], by simp [hl], fun i y hy => ?_⟩
  rcases Nat.lt_or_ge i n with hi | hi
  ·rw [List.getElem?_append_left (by omega)] at hy; exact hp i y hy
  ·rw [List.getElem?_append_right (by omega)] at hy
   have : i = n := by
    rcases Nat.lt_or_ge (i - l.length) 1 with h1 | h1
    ·omega
    ·rw [List.getElem?_eq_none (by simpa using h1)] at hy; cases hy
   subst this
   rw [hl] at hy; simp at hy; subst hy; exact hx
theorem reads_of {α : Type} {f : α → List Value} {size : Nat} (hf : ∀ x, (f x).length = size) (hs : 0 < size) {w : World} {a : Addr} {n : Nat} {l : List α} (hl : l.length = n)
  (h : ∀ i x, l[i]? = some x → ∀ j u, (f x)[j]? = some u → w.cell? (a.add (i * size + j)) = some u) : Reads w w.heap.size size (some a) n (l.flatMap f) := by
 refine ⟨by rw [flat_len f size hf, hl], fun hn => ?_⟩
 obtain ⟨x0, hx0⟩ := get_some (l := l) (k := 0) (by omega)
 obtain ⟨u0, hu0⟩ := get_some (l := f x0) (k := 0) (by rw [hf]; exact hs)
 have h0 := h 0 x0 hx0 0 u0 hu0
 have hspot : a.spot = none := by simpa [Addr.add] using World.cell?_spot h0
 obtain ⟨b, off, spot⟩ := a
 simp only at hspot
 subst hspot
 have hb : b < w.heap.size := by
  have := World.block_lt_of_cell? w _ h0
  simpa [Addr.add] using this
 refine ⟨b, off, rfl, hb, fun j u hj => ?_⟩
 have hjl : j < n * size := by
  have h2 := (List.getElem?_eq_some_iff.1 hj).1
  rwa [flat_len f size hf, hl] at h2
 have hk : j / size < n := (Nat.div_lt_iff_lt_mul hs).2 hjl
 obtain ⟨x, hx⟩ := get_some (l := l) (k := j / size) (by omega)
 have hjm : j / size * size + j % size = j := by rw [Nat.mul_comm]; exact Nat.div_add_mod j size
 have h1 := flat_get f size hf l (j / size) (j % size) x hx (Nat.mod_lt _ hs)
 rw [hjm, hj] at h1
 have h2 := h (j / size) x hx (j % size) u h1.symm
 rwa [hjm, addr_add'] at h2
section
variable {H : Type} {enc : TypeId × Value → H} {W : World} {base b0 : Nat} {spare : Nat → Bool} {held : Bool} {r : Reach} {v : Value} {d : DataW H} {p : List MemPlace}
end
end Go.Proofs.YtpkmiegccfhpnaaGreatDoor
/- Arguments that are lists of events, opened. -/
namespace Go.Proofs.YtpkmiegccfhpnaaGreatDoor
set_option maxRecDepth 100000
open Go.ChangeShapes Go.WideShapes Go.Deep Go.RowKit
section
variable {H : Type} {enc : TypeId × Value → H} {w : World} {base : Nat} {spare : Nat → Bool} {held : Bool}
theorem trod_times {n : Nat} {u v : Value} {x : DataW H × List MemPlace} (h : DataW.trod enc Tryz.prog w base spare held n 45 [u, v] = some x) : ∃ a b : Int, u = .int .i64 a ∧ v = .int .i64 b := by
 obtain ⟨ys, m, rfl, _, _, hyl, hf⟩ := DataW.trod_struct Tryz.underlying45 h
 have h0 : DataW.trod enc Tryz.prog w base spare held m 3 ((([u, v] : List Value).drop 0).take (Tryz.prog.cellsOf 3)) = ys[0]? := hf 0 _ rfl
 have h1 : DataW.trod enc Tryz.prog w base spare held m 3 ((([u, v] : List Value).drop 1).take (Tryz.prog.cellsOf 3)) = ys[1]? := hf 1 _ rfl
 rw [show Tryz.prog.cellsOf 3 = 1 from by kernel_rfl] at h0 h1
 simp only [List.drop_zero, List.drop_succ_cons, List.take_succ_cons, List.take_zero] at h0 h1
 rw [List.getElem?_eq_getElem (by rw [hyl]; decide)] at h0 h1
 obtain ⟨a, e0, _, _⟩ := DataW.trod_int Tryz.underlying3 h0
 obtain ⟨b, e1, _, _⟩ := DataW.trod_int Tryz.underlying3 h1
 simp at e0 e1
 exact ⟨a, b, e0, e1⟩
theorem trod_pitch {n : Nat} {u v z : Value} {x : DataW H × List MemPlace} (h : DataW.trod enc Tryz.prog w base spare held n 47 [u, v, z] = some x) : ∃ a b c : Int, u = .int .i64 a ∧ v = .int .i64 b ∧ z = .int .i64 c := by
 obtain ⟨ys, m, rfl, _, _, hyl, hf⟩ := DataW.trod_struct Tryz.underlying47 h
 have h0 : DataW.trod enc Tryz.prog w base spare held m 3 ((([u, v, z] : List Value).drop 0).take (Tryz.prog.cellsOf 3)) = ys[0]? := hf 0 _ rfl
 have h1 : DataW.trod enc Tryz.prog w base spare held m 3 ((([u, v, z] : List Value).drop 1).take (Tryz.prog.cellsOf 3)) = ys[1]? := hf 1 _ rfl
 have h2 : DataW.trod enc Tryz.prog w base spare held m 3 ((([u, v, z] : List Value).drop 2).take (Tryz.prog.cellsOf 3)) = ys[2]? := hf 2 _ rfl
 rw [show Tryz.prog.cellsOf 3 = 1 from by kernel_rfl] at h0 h1 h2
 simp only [List.drop_zero, List.drop_succ_cons, List.take_succ_cons, List.take_zero] at h0 h1 h2
 rw [List.getElem?_eq_getElem (by rw [hyl]; decide)] at h0 h1 h2
 obtain ⟨a, e0, _, _⟩ := DataW.trod_int Tryz.underlying3 h0
 obtain ⟨b, e1, _, _⟩ := DataW.trod_int Tryz.underlying3 h1
 obtain ⟨c, e2, _, _⟩ := DataW.trod_int Tryz.underlying3 h2
 simp at e0 e1 e2
 exact ⟨a, b, c, e0, e1, e2⟩
theorem ten_of {cs : List Value} (h : cs.length = 10) : ∃ a b c d e f g h i j, cs = [a, b, c, d, e, f, g, h, i, j] := by
 match cs, h with
 | [a, b, c, d, e, f, g, h, i, j], _ => exact ⟨a, b, c, d, e, f, g, h, i, j, rfl⟩
theorem trod_event {n : Nat} {cs : List Value} {x : DataW H × List MemPlace} (h : DataW.trod enc Tryz.prog w base spare held n 49 cs = some x) : ∃ y : Ev, cs = cE y := by
 obtain ⟨ys, m, rfl, _, hl, hyl, hf⟩ := DataW.trod_struct Tryz.underlying49 h
 rw [show Tryz.prog.cellsOf 49 = 10 from by kernel_rfl] at hl
 obtain ⟨a, b, c, d, e, f, g, hh, i, j, rfl⟩ := ten_of hl
 have h0 : DataW.trod enc Tryz.prog w base spare held m 45 ((([a, b, c, d, e, f, g, hh, i, j] : List Value).drop 0).take (Tryz.prog.cellsOf 45)) = ys[0]? := hf 0 _ rfl
 have h1 : DataW.trod enc Tryz.prog w base spare held m 45 ((([a, b, c, d, e, f, g, hh, i, j] : List Value).drop 2).take (Tryz.prog.cellsOf 45)) = ys[1]? := hf 1 _ rfl
 have h2 : DataW.trod enc Tryz.prog w base spare held m 47 ((([a, b, c, d, e, f, g, hh, i, j] : List Value).drop 4).take (Tryz.prog.cellsOf 47)) = ys[2]? := hf 2 _ rfl
 have h3 : DataW.trod enc Tryz.prog w base spare held m 4 ((([a, b, c, d, e, f, g, hh, i, j] : List Value).drop 7).take (Tryz.prog.cellsOf 4)) = ys[3]? := hf 3 _ rfl
 have h4 : DataW.trod enc Tryz.prog w base spare held m 3 ((([a, b, c, d, e, f, g, hh, i, j] : List Value).drop 8).take (Tryz.prog.cellsOf 3)) = ys[4]? := hf 4 _ rfl
 have h5 : DataW.trod enc Tryz.prog w base spare held m 3 ((([a, b, c, d, e, f, g, hh, i, j] : List Value).drop 9).take (Tryz.prog.cellsOf 3)) = ys[5]? := hf 5 _ rfl
 rw [show Tryz.prog.cellsOf 45 = 2 from by kernel_rfl] at h0 h1
 rw [show Tryz.prog.cellsOf 47 = 3 from by kernel_rfl] at h2
 rw [show Tryz.prog.cellsOf 4 = 1 from by kernel_rfl] at h3
 rw [show Tryz.prog.cellsOf 3 = 1 from by kernel_rfl] at h4 h5
 simp only [List.drop_zero, List.drop_succ_cons, List.take_succ_cons, List.take_zero] at h0 h1 h2 h3 h4 h5
 rw [List.getElem?_eq_getElem (by rw [hyl]; decide)] at h0 h1 h2 h3 h4 h5
 obtain ⟨a1, a2, rfl, rfl⟩ := trod_times h0
 obtain ⟨b1, b2, rfl, rfl⟩ := trod_times h1
 obtain ⟨c1, c2, c3, rfl, rfl, rfl⟩ := trod_pitch h2
 obtain ⟨z, e3, _⟩ := DataW.trod_bool Tryz.underlying4 h3
 obtain ⟨sg, e4, _, _⟩ := DataW.trod_int Tryz.underlying3 h4
 obtain ⟨ps, e5, _, _⟩ := DataW.trod_int Tryz.underlying3 h5
 simp at e3 e4 e5
 subst e3 e4 e5
 exact ⟨⟨(a1, a2), (b1, b2), (c1, c2, c3), z, sg, ps⟩, rfl⟩
end
section
variable {H : Type} {enc : TypeId × Value → H} {W : World} {base b0 : Nat} {spare : Nat → Bool} {held : Bool} {r : Reach} {v : Value} {d : DataW H} {p : List MemPlace}
end
end Go.Proofs.YtpkmiegccfhpnaaGreatDoor
/- Arguments that are lists of voices, opened. -/
namespace Go.Proofs.YtpkmiegccfhpnaaGreatDoor
set_option maxRecDepth 100000
open Go.ChangeShapes Go.WideShapes Go.Deep Go.RowKit
section
variable {H : Type} {enc : TypeId × Value → H} {W : World} {base b0 : Nat} {spare : Nat → Bool} {held : Bool} {r : Reach} {v : Value} {d : DataW H} {p : List MemPlace}
theorem cells_events : Tryz.prog.cellsOf 36 = 1 := by kernel_rfl
end
end Go.Proofs.YtpkmiegccfhpnaaGreatDoor
/- Arguments that are lists of numbers, opened. -/
namespace Go.Proofs.YtpkmiegccfhpnaaGreatDoor
set_option maxRecDepth 100000
open Go.ChangeShapes Go.WideShapes Go.Deep Go.RowKit
section
variable {H : Type} {enc : TypeId × Value → H} {W : World} {base b0 : Nat} {spare : Nat → Bool} {held : Bool} {r : Reach} {v : Value} {d : DataW H} {p : List MemPlace}
end
end Go.Proofs.YtpkmiegccfhpnaaGreatDoor
/- Facts that all row proofs of this seat share (rows without a package variable). -/
namespace Go.Proofs.YtpkmiegccfhpnaaGreatDoor
open Go.ChangeShapes Go.WideShapes Go.ChangeAt Go.RowKit
theorem own : ownKnob Tryz.prog.godebug = none := by kernel_rfl
theorem laidOut : laidOutB Tryz.prog = true := by kernel_rfl
section
variable {H : Type} {enc : TypeId × Value → H} {W : World} {base b0 : Nat} {spare : Nat → Bool} {held : Bool} {r : Reach} {v : Value} {d : DataW H} {p : List MemPlace}
end
end Go.Proofs.YtpkmiegccfhpnaaGreatDoor
namespace Go.Proofs.YtpkmiegccfhpnaaGreatDoor
def halfS (s : Int) : Int := if s = 0 then 0 else if s = 1 then 2 else if s = 2 then 4 else if s = 3 then 5 else if s = 4 then 7 else if s = 5 then 9 else 11
def htP (p : Int × Int × Int) : Int := 12 * p.2.1 + halfS p.1 + p.2.2
theorem halfS_bd (s : Int) : 0 ≤ halfS s ∧ halfS s ≤ 11 := by unfold halfS; (repeat' split) <;> omega
theorem numP_bd {p : Int × Int × Int} (h : pchk p = 0) : 0 ≤ numP p ∧ numP p ≤ 62 := by have := pchk_ok h; unfold numP; omega
theorem htP_bd {p : Int × Int × Int} (h : pchk p = 0) : -1 ≤ htP p ∧ htP p ≤ 108 := by have := pchk_ok h; have := halfS_bd p.1; unfold htP; omega
/-! ### Intervals -/
def lowB (p q : Int × Int × Int) : Prop := numP q < numP p ∨ (numP q = numP p ∧ htP q < htP p)
instance (p q : Int × Int × Int) : Decidable (lowB p q) := inferInstanceAs (Decidable (_ ∨ _))
def loP (p q : Int × Int × Int) : Int × Int × Int := if lowB p q then q else p
def hiP (p q : Int × Int × Int) : Int × Int × Int := if lowB p q then p else q
def btw (p q : Int × Int × Int) : Int × Int := (numP q - numP p, htP q - htP p)
def upI (p q : Int × Int × Int) : Int × Int := btw (loP p q) (hiP p q)
def simI (x : Int × Int) : Int × Int := (x.1 % 7, x.2 - 12 * (x.1 / 7))
def bothP (p q : Int × Int × Int) : Int := if pchk p ≠ 0 then pchk p else pchk q
theorem bothP_ok {p q : Int × Int × Int} (h : bothP p q = 0) : pchk p = 0 ∧ pchk q = 0 := by
 unfold bothP at h
 split at h
 ·contradiction
 ·exact ⟨by omega, h⟩
def upE (p q : Int × Int × Int) : (Int × Int) × Int := if bothP p q ≠ 0 then ((0, 0), bothP p q) else (upI p q, 0)
def simE (p q : Int × Int × Int) : (Int × Int) × Int := if bothP p q ≠ 0 then ((0, 0), bothP p q) else (simI (upI p q), 0)
theorem loP_pchk {p q : Int × Int × Int} (h : pchk p = 0) (h' : pchk q = 0) : pchk (loP p q) = 0 := by unfold loP; split <;> assumption
theorem hiP_pchk {p q : Int × Int × Int} (h : pchk p = 0) (h' : pchk q = 0) : pchk (hiP p q) = 0 := by unfold hiP; split <;> assumption
theorem upI_bd {p q : Int × Int × Int} (h : pchk p = 0) (h' : pchk q = 0) : 0 ≤ (upI p q).1 ∧ (upI p q).1 ≤ 62 ∧ -110 ≤ (upI p q).2 ∧ (upI p q).2 ≤ 110 := by
 have a := numP_bd (loP_pchk h h'); have b := numP_bd (hiP_pchk h h'); have c := htP_bd (loP_pchk h h'); have d := htP_bd (hiP_pchk h h')
 have hge : numP (loP p q) ≤ numP (hiP p q) := by
  unfold loP hiP
  by_cases h0 : lowB p q
  ·rw [if_pos h0, if_pos h0]; unfold lowB at h0; omega
  ·rw [if_neg h0, if_neg h0]; unfold lowB at h0; omega
 unfold upI btw
 simp only
 omega
theorem simI_bd {p q : Int × Int × Int} (h : pchk p = 0) (h' : pchk q = 0) : 0 ≤ (simI (upI p q)).1 ∧ (simI (upI p q)).1 ≤ 6 ∧ -300 ≤ (simI (upI p q)).2 ∧ (simI (upI p q)).2 ≤ 300 := by
 have := upI_bd h h'
 unfold simI; simp only; omega
def kindX (x : Int × Int) : Int :=
 if (x.1 = 0 ∧ x.2 = 0) ∨ (x.1 = 4 ∧ x.2 = 7) then 1
 else if (x.1 = 2 ∧ (x.2 = 3 ∨ x.2 = 4)) ∨ (x.1 = 5 ∧ (x.2 = 8 ∨ x.2 = 9)) then 2
 else if x.1 = 3 ∧ x.2 = 5 then 3
 else if (x.1 = 3 ∧ x.2 = 6) ∨ (x.1 = 4 ∧ x.2 = 6) then 4 else 5
def kindP (p q : Int × Int × Int) : Int := kindX (simI (upI p q))
def kindE (p q : Int × Int × Int) : Int × Int := if bothP p q ≠ 0 then (0, bothP p q) else (kindP p q, 0)
def kindTab : List Int :=
 [1, 0, 0, 0, 0, 0, 0, 0, 0, 0, 0, 0, 0,
  0, 0, 0, 0, 0, 0, 0, 0, 0, 0, 0, 0, 0,
  0, 0, 0, 2, 2, 0, 0, 0, 0, 0, 0, 0, 0,
  0, 0, 0, 0, 0, 3, 4, 0, 0, 0, 0, 0, 0,
  0, 0, 0, 0, 0, 0, 4, 1, 0, 0, 0, 0, 0,
  0, 0, 0, 0, 0, 0, 0, 0, 2, 2, 0, 0, 0,
  0, 0, 0, 0, 0, 0, 0, 0, 0, 0, 0, 0, 0]
theorem kindTab_all : ∀ s : Fin 7, ∀ h : Fin 13, kindX ((s.val : Int), (h.val : Int)) = if kindTab.getD (s.val * 13 + h.val) 0 ≠ 0 then kindTab.getD (s.val * 13 + h.val) 0 else 5 := by decide
theorem kindTab_in (s h : Nat) (hs : s < 7) (hh : h < 13) : kindX ((s : Int), (h : Int)) = if kindTab.getD (s * 13 + h) 0 ≠ 0 then kindTab.getD (s * 13 + h) 0 else 5 := kindTab_all ⟨s, hs⟩ ⟨h, hh⟩
theorem kindX_out (s h : Int) (hh : h < 0 ∨ 13 ≤ h) : kindX (s, h) = 5 := by
 unfold kindX
 rw [if_neg (by simp only; omega), if_neg (by simp only; omega), if_neg (by simp only; omega), if_neg (by simp only; omega)]
/-! ### Chords -/
def pAt (l : List (Int × Int × Int)) (k : Nat) : Int × Int × Int := l.getD k (0, 0, 0)
def deep (p q : Int × Int × Int) : Prop := htP p < htP q ∨ (htP p = htP q ∧ numP p < numP q)
instance (p q : Int × Int × Int) : Decidable (deep p q) := inferInstanceAs (Decidable (_ ∨ _))
def bassN (l : List (Int × Int × Int)) : Nat → Nat
 | 0 => 0
 | k + 1 => if deep (pAt l k) (pAt l (bassN l k)) then k else bassN l k
def bassL (l : List (Int × Int × Int)) : Nat := bassN l l.length
def bad (l : List (Int × Int × Int)) (a b : Nat) : Prop :=
 kindP (pAt l a) (pAt l b) = 5 ∨ ((kindP (pAt l a) (pAt l b) = 3 ∨ kindP (pAt l a) (pAt l b) = 4) ∧ loP (pAt l a) (pAt l b) = pAt l (bassL l))
instance (l : List (Int × Int × Int)) (a b : Nat) : Decidable (bad l a b) := inferInstanceAs (Decidable (_ ∨ _))
end Go.Proofs.YtpkmiegccfhpnaaGreatDoor
namespace Go.Proofs.YtpkmiegccfhpnaaGreatDoor
open Go.RowKit
def cP (x : Int × Int × Int) : List Value := [.int .i64 x.1, .int .i64 x.2.1, .int .i64 x.2.2]
theorem lt_of_cell {w : World} {g k : Nat} {v : Value} (h : w.cell? ⟨g, k, none⟩ = some v) : g < w.heap.size := by
 rcases Nat.lt_or_ge g w.heap.size with h' | h'
 ·exact h'
 ·unfold World.cell? at h
  rw [Array.getElem?_eq_none h'] at h
  simp at h
structure Tabs (w : World) : Prop where
 half : ∀ k : Nat, k < 7 → w.cell? ⟨0, k, none⟩ = some (.int .i64 (halfS k))
 kind : ∀ k : Nat, k < 91 → w.cell? ⟨1, k, none⟩ = some (.int .i64 (kindTab.getD k 0))
theorem Tabs.lt {w : World} (h : Tabs w) : 0 < w.heap.size ∧ 0 < w.heap.size ∧ 1 < w.heap.size :=
 ⟨lt_of_cell (h.half 0 (by omega)), lt_of_cell (h.half 0 (by omega)), lt_of_cell (h.kind 0 (by omega))⟩
theorem Tabs.kept {w w' : World} (h : Tabs w) (hb : Below w.heap.size w w') : Tabs w' :=
 ⟨fun k hk => (hb.cell (p := ⟨_, k, none⟩) h.lt.1).trans (h.half k hk), fun k hk => (hb.cell (p := ⟨_, k, none⟩) h.lt.2.2).trans (h.kind k hk)⟩
/-! ### Heights -/
theorem step_cases {a : Int} (h0 : 0 ≤ a) (h1 : a ≤ 6) : a = 0 ∨ a = 1 ∨ a = 2 ∨ a = 3 ∨ a = 4 ∨ a = 5 ∨ a = 6 := by omega
theorem toneHeight_any (a b c : Int) (w : World) (ht : Tabs w) (a0 : 0 ≤ a) (a1 : a ≤ 6) (b0 : 0 ≤ b) (b1 : b ≤ 8) (c0 : -1 ≤ c) (c1 : c ≤ 1) :
  Calls Tryz.prog 122 #[.agg #[.int .i64 (7 * b + a), .int .i64 c]] w fun e w' => e = .returned (.int .i64 (htP (a, b, c))) ∧ Below w.heap.size w w' := by
 obtain ⟨k, rfl⟩ := Int.eq_ofNat_of_zero_le a0
 have hk : k < 7 := by omega
 have hc := ht.half k hk
 have hg := ht.lt.1
 have hh := halfS_bd (k : Int)
 have e1 : (7 * b + (k : Int)).tmod 7 = (k : Int) := by rw [Int.tmod_eq_emod_of_nonneg (by omega)]; omega
 have e2 : (7 * b + (k : Int)).tdiv 7 = b := by rw [Int.tdiv_eq_ediv_of_nonneg (by omega)]; omega
 have e3 : (7 * b + (k : Int)) % 7 = (k : Int) := by omega
 have e4 : (7 * b + (k : Int)) / 7 = b := by omega
 have E := Lib.hid (show htP ((k : Int), b, c) = 12 * b + halfS k + c by rfl)
 go_enter Tryz.func122, Tryz.ntmps122
 go_wp2
 go_region
 go_wp2
 go_ret
 rw [E.out]
 exact ⟨rfl, by repeat (first | exact Below.refl _ _ | assumption | refine below_drewN ?_ _ | refine Below.drew ?_ | refine below_alloc ?_ _ | (refine below_call ?_ (by assumption)) | (refine Below.setCell ?_ ?_ _; rotate_left; (simp; try omega)))⟩
end Go.Proofs.YtpkmiegccfhpnaaGreatDoor
namespace Go.Proofs.YtpkmiegccfhpnaaGreatDoor
open Go.ChangeShapes Go.WideShapes Go.ChangeAt Go.RowKit Go.Deep Go.WideMaps Go.WideElems
def halfTab : List Int := [0, 2, 4, 5, 7, 9, 11]
def kindRows : List (List Int) := [[1, 0, 0, 0, 0, 0, 0, 0, 0, 0, 0, 0, 0], [0, 0, 0, 0, 0, 0, 0, 0, 0, 0, 0, 0, 0], [0, 0, 0, 2, 2, 0, 0, 0, 0, 0, 0, 0, 0], [0, 0, 0, 0, 0, 3, 4, 0, 0, 0, 0, 0, 0], [0, 0, 0, 0, 0, 0, 4, 1, 0, 0, 0, 0, 0], [0, 0, 0, 0, 0, 0, 0, 0, 2, 2, 0, 0, 0], [0, 0, 0, 0, 0, 0, 0, 0, 0, 0, 0, 0, 0]]
theorem kind_at : ∀ i : Fin 7, ∀ j : Fin 13, (kindRows.getD i.val []).getD j.val 0 = kindTab.getD (i.val * 13 + j.val) 0 ∧ (kindRows.getD i.val []).length = 13 := by decide
theorem half_at : ∀ i : Fin 7, halfTab.getD i.val 0 = halfS i.val := by decide
theorem getD_map (row : List Int) (j : Nat) (h : j < row.length) : (row.map fun z => Value.int .i64 z)[j]? = some (.int .i64 (row.getD j 0)) := by simp [List.getD, h]
theorem kinds_of {W : World} (h : laidMet Tryz.prog [("tactus/interval.kinds", .agg (kindRows.map fun z => Lib.tabData .i64 z))] W) : ∀ k : Nat, k < 91 → W.cell? ⟨1, k, none⟩ = some (.int .i64 (kindTab.getD k 0)) := by
 obtain ⟨ps, ⟨g', t', cs, fuel, p, q, hg', ht', hvar, hd, _, _⟩, _⟩ := h
 obtain rfl := Option.some.inj ((show Tryz.prog.globalNamed "tactus/interval.kinds" = some 1 by kernel_rfl).symm.trans hg')
 obtain rfl := Option.some.inj ((show (Tryz.prog.globals[1]?).map (·.type) = some 191 by kernel_rfl).symm.trans ht')
 obtain ⟨xs, m, _, hx, hl, hxl, hf⟩ := DataW.trod_array Tryz.underlying191 hd
 have hx1 : (kindRows.map fun z => (Lib.tabData .i64 z : DataW Unit)) = xs.map (·.1) := by
  have := congrArg Prod.fst hx
  simpa using this
 intro k hk
 have hi : k / 13 < 7 := by omega
 have hj : k % 13 < 13 := by omega
 have h1 := hf (k / 13) hi
 rw [show Tryz.prog.cellsOf 190 = 13 from by kernel_rfl] at h1
 obtain ⟨y, hy⟩ : ∃ y, xs[k / 13]? = some y := ⟨_, List.getElem?_eq_getElem (by omega)⟩
 obtain ⟨y1, y2⟩ := y
 have hrow : (kindRows)[k / 13]? = some (kindRows.getD (k / 13) []) := by
  have : k / 13 < kindRows.length := hi
  simp [List.getD, this]
 have hy1 : y1 = Lib.tabData .i64 (kindRows.getD (k / 13) []) := by
  have e1 : (xs.map (·.1))[k / 13]? = some y1 := by rw [List.getElem?_map, hy]; rfl
  rw [← hx1, List.getElem?_map, hrow] at e1
  exact (Option.some.inj e1).symm
 rw [hy, hy1] at h1
 have h2 := Lib.cells_of_tab Tryz.underlying190 Tryz.underlying3 (by kernel_rfl) (by kernel_rfl) h1
 obtain ⟨k1, k2⟩ := kind_at ⟨k / 13, hi⟩ ⟨k % 13, hj⟩
 simp only at k1 k2
 rw [World.var?_cell (show Tryz.prog.globalNamed "tactus/interval.kinds" = some 1 by kernel_rfl) hvar k]
 have h3 : ((cs.toList.drop (k / 13 * 13)).take 13)[k % 13]? = some (.int .i64 ((kindRows.getD (k / 13) []).getD (k % 13) 0)) := by
  rw [h2]
  exact getD_map _ _ (by rw [k2]; exact hj)
 rw [List.getElem?_take, if_pos hj, List.getElem?_drop, k1] at h3
 rw [show k / 13 * 13 + k % 13 = k by omega] at h3
 simpa using h3
theorem tabs_of_list {L : List (String × DataW Unit)} {W : World} (h : laidMet Tryz.prog L W)
  (e1 : L.filter (fun x => x.1 == "tactus/pitch.halves") = [("tactus/pitch.halves", Lib.tabData .i64 halfTab)])
  (e3 : L.filter (fun x => x.1 == "tactus/interval.kinds") = [("tactus/interval.kinds", .agg (kindRows.map fun z => Lib.tabData .i64 z))]) : Tabs W := by
 have h1 := h.filter (fun x => x.1 == "tactus/pitch.halves")
 have h3 := h.filter (fun x => x.1 == "tactus/interval.kinds")
 rw [e1] at h1
 rw [e3] at h3
 have t1 : Lib.TabIs Tryz.prog W "tactus/pitch.halves" .i64 halfTab := Lib.tabIs_of_head (rest := []) (g := 0) (t := 189) (e := 3) (n := 7) (by kernel_rfl) (by kernel_rfl) (by kernel_rfl) (by kernel_rfl) (by kernel_rfl) (by kernel_rfl) h1
 refine ⟨fun k hk => ?_, kinds_of h3⟩
 rw [t1.cell (g := 0) (by kernel_rfl) k hk, half_at ⟨k, hk⟩]
end Go.Proofs.YtpkmiegccfhpnaaGreatDoor
/- Plain mathematics of chords (the first part of ChOct and ChChordMath, by themselves): two pitches, the bass, whether two pitches clash over a bass. -/
namespace Go.Proofs.YtpkmiegccfhpnaaGreatDoor
abbrev Pit3 := Int × Int × Int
def badP (b p q : Pit3) : Prop := kindP p q = 5 ∨ ((kindP p q = 3 ∨ kindP p q = 4) ∧ loP p q = b)
instance (b p q : Pit3) : Decidable (badP b p q) := inferInstanceAs (Decidable (_ ∨ _))
/-! ### No clash -/
end Go.Proofs.YtpkmiegccfhpnaaGreatDoor
/- Plain mathematics of dissonances: chords of slices, clashes of voices, treatments, the list of all; no program in sight. -/
namespace Go.Proofs.YtpkmiegccfhpnaaGreatDoor
/-! ### What sounds in a slice -/
def sndP (v : List Ev) (t : Tm) : Option Ev := match eventAt v t with
 | some x => if x.rest = true then none else some x
 | none => none
def sndB (v : List Ev) (t : Tm) : Bool := (sndP v t).isSome
def PitsV (v : List Ev) : Prop := ∀ x ∈ v, x.rest = false → pchk x.pit = 0
/-! ### Clashes of voices -/
/-! ### Treatments -/
/-! ### All dissonances -/
end Go.Proofs.YtpkmiegccfhpnaaGreatDoor
/- Plain mathematics of dissonances: the list of all by what begins where; the treatment of a dissonance that began earlier. -/
namespace Go.Proofs.YtpkmiegccfhpnaaGreatDoor
section
variable (l : List (List Ev)) (m : List Tm)
end
end Go.Proofs.YtpkmiegccfhpnaaGreatDoor
/- Plain mathematics of dissonances: the treatment of a dissonance that began earlier, going back and by the list of all. -/
namespace Go.Proofs.YtpkmiegccfhpnaaGreatDoor
section
variable {l : List (List Ev)} (hz : (checkA l).1 = 0)
include hz
end
section
variable (l : List (List Ev)) (m : List Tm)
end
theorem one_pit {x : Ev} (h : oneS x = 0) (hr : x.rest = false) : pchk x.pit = 0 := by
 refine Decidable.byContradiction fun hp => ?_
 unfold oneS at h
 (repeat' split at h) <;> simp_all
theorem val_pits {v : List Ev} (h : (checkS v).1 = 0) : PitsV v := by
 have key : ∀ (v : List Ev) (now : Int × Int) (i : Int), 0 ≤ i → (checkFrom now i v).1 = 0 → PitsV v := by
  intro v
  induction v with
  | nil => intro _ _ _ _ x hx; cases hx
  | cons y v ih =>
   intro now i hi h
   by_cases h1 : oneS y = 0
   ·by_cases h2 : y.at_ = now
    ·by_cases h3 : (addS y.at_ y.dur).2.2 = 0
     ·rw [cf_next h1 h2 h3] at h
      intro x hx hr
      rcases List.mem_cons.1 hx with rfl | hx
      ·exact one_pit h1 hr
      ·exact ih _ _ (by omega) h x hx hr
     ·rw [cf_add h1 h2 h3] at h; exact absurd h h3
    ·rw [cf_at h1 h2] at h; simp at h
   ·rw [cf_one h1] at h; exact absurd h h1
 unfold checkS at h
 split at h
 ·simp at h
 ·exact key v _ _ (Int.le_refl 0) h
end Go.Proofs.YtpkmiegccfhpnaaGreatDoor
/- Plain mathematics of dissonances: settings that are alike; another order of three voices; a voice that rests. -/
namespace Go.Proofs.YtpkmiegccfhpnaaGreatDoor
/-! ### Settings that are alike -/
section
variable (l l' : List (List Ev)) (m m' : List Tm)
variable {l l' m m'}
end
/-! ### A voice that rests -/
section
variable {l : List (List Ev)} {r : List Ev} (hr : ∀ t, sndB r t = false)
include hr
end
/-! ### Three voices in another order -/
section
variable {l : List (List Ev)} (hl : l.length = 3) (hp : ∀ v ∈ l, PitsV v) (k : Nat)
include hl hp
end
end Go.Proofs.YtpkmiegccfhpnaaGreatDoor
/- Plain mathematics of dissonances: three voices in another order have as many of each treatment. -/
namespace Go.Proofs.YtpkmiegccfhpnaaGreatDoor
section
variable {l : List (List Ev)} (hl : l.length = 3) (hp : ∀ v ∈ l, PitsV v)
include hl
include hp
end
end Go.Proofs.YtpkmiegccfhpnaaGreatDoor
/- Plain mathematics of dissonances: an octave higher, and slower. -/
namespace Go.Proofs.YtpkmiegccfhpnaaGreatDoor
/-! ### Events that are changed one by one -/
section
variable {f : Ev → Ev}
end
/-! ### An octave higher -/
def PitsU (v : List Ev) : Prop := ∀ x ∈ v, x.rest = false → pchk x.pit = 0 ∧ x.pit.2.1 ≤ 7
section
variable {l : List (List Ev)} (hp : ∀ v ∈ l, PitsU v)
include hp
end
end Go.Proofs.YtpkmiegccfhpnaaGreatDoor
/- Plain mathematics of dissonances: doubled times. -/
namespace Go.Proofs.YtpkmiegccfhpnaaGreatDoor
def Whole1 (x : Ev) : Prop := ∃ a d : Int, 0 ≤ a ∧ 1 ≤ d ∧ a + d ≤ 1000000 ∧ x.at_ = (a, 1) ∧ x.dur = (d, 1)
def WholeV (v : List Ev) : Prop := ∀ x ∈ v, Whole1 x
section
variable {l : List (List Ev)} (hw : ∀ v ∈ l, WholeV v) (hp : ∀ v ∈ l, PitsV v)
include hw
omit hw in
theorem filt_flat {α β : Type} (p : α → Bool) (f : α → β) (P : List α) : P.flatMap (fun x => if p x = true then [f x] else []) = (P.filter p).map f := by
 induction P with
 | nil => rfl
 | cons x P ih =>
  rw [List.flatMap_cons, ih, List.filter_cons]
  cases h : p x with
  | true => simp
  | false => simp
include hp
end
end Go.Proofs.YtpkmiegccfhpnaaGreatDoor
/- Plain mathematics of dissonances: the three voices made of numbers. -/
namespace Go.Proofs.YtpkmiegccfhpnaaGreatDoor
section
variable (l : List Int)
end
/-! ### A voice that rests until the end -/
section
variable {M : Int} {l : List (List Ev)} (h : SetQ M l) (h8 : l.length ≤ 7) (h0 : 0 < (momS l).length)
include h h0
include h8
end
end Go.Proofs.YtpkmiegccfhpnaaGreatDoor
namespace Go.Proofs.YtpkmiegccfhpnaaGreatDoor
theorem getD_at {l : List (List Ev)} {i : Nat} {v : List Ev} (h : l[i]? = some v) : l.getD i [] = v := by simp [List.getD, h]
def updO {γ β : Type} [DecidableEq γ] (f : γ → Option β) (x : γ) (y : β) : γ → Option β := fun z => if z = x then some y else f z
/-! ### Clausulae -/
def ivl (v : List Ev) (i : Nat) : Int × Int := match v[i - 1]?, v[i]? with
 | some x, some y => btw x.pit y.pit
 | _, _ => (0, 0)
def noteB (v : List Ev) (i : Nat) : Bool := match v[i]? with
 | some x => !x.rest
 | none => false
def clOf (s : Int) : Int := if s = 1 then 1 else if s = -1 then 2 else if s = 3 ∨ s = -4 then 3 else 0
def clK (v : List Ev) (i : Nat) : Int := if 1 ≤ i ∧ noteB v (i - 1) = true ∧ noteB v i = true then clOf (ivl v i).1 else 0
def atOf (v : List Ev) (i : Nat) : Tm := match v[i]? with
 | some x => x.at_
 | none => (0, 0)
def pitOf (v : List Ev) (i : Nat) : Pit3 := match v[i]? with
 | some x => x.pit
 | none => (0, 0, 0)
def clausL (v : List Ev) (k : Nat) : List (Int × Int) := (List.range k).filterMap fun i => if clK v i = 0 then none else some ((i : Int), clK v i)
def clausE (v : List Ev) : List (Int × Int) := clausL v v.length
def endStep (v : List Ev) (kind : Int) (f : Tm → Option Int) (c : Int × Int) : Tm → Option Int := if c.2 = kind then updO f (atOf v c.1.toNat) c.1 else f
def endF (v : List Ev) (kind : Int) (L : List (Int × Int)) : Tm → Option Int := L.foldl (endStep v kind) (fun _ => none)
def cEnd (v : List Ev) (kind : Int) : Tm → Option Int := endF v kind (clausE v)
theorem clausL_succ (v : List Ev) (k : Nat) : clausL v (k + 1) = clausL v k ++ (if clK v k = 0 then [] else [((k : Int), clK v k)]) := by
 unfold clausL
 rw [List.range_succ, List.filterMap_append]
 congr 1
 by_cases h : clK v k = 0 <;> simp [h]
theorem clausL_one (v : List Ev) : clausL v 1 = [] := by
 rw [clausL_succ]
 have : clK v 0 = 0 := by unfold clK; rw [if_neg (by omega)]
 simp [this, clausL]
theorem clausL_mem {v : List Ev} {k : Nat} {c : Int × Int} : c ∈ clausL v k ↔ ∃ i : Nat, i < k ∧ clK v i ≠ 0 ∧ c = ((i : Int), clK v i) := by
 unfold clausL
 rw [List.mem_filterMap]
 constructor
 ·rintro ⟨i, hi, h⟩
  split at h
  ·cases h
  ·rename_i h0
   exact ⟨i, List.mem_range.1 hi, h0, (Option.some.inj h).symm⟩
 ·rintro ⟨i, hi, h0, rfl⟩
  exact ⟨i, List.mem_range.2 hi, by rw [if_neg h0]⟩
theorem clausL_len (v : List Ev) (k : Nat) : (clausL v k).length ≤ k := by
 unfold clausL
 exact Nat.le_trans (List.length_filterMap_le _ _) (by simp)
theorem clOf_bd (s : Int) : 0 ≤ clOf s ∧ clOf s ≤ 3 := by unfold clOf; (repeat' split) <;> omega
theorem clK_bd (v : List Ev) (i : Nat) : 0 ≤ clK v i ∧ clK v i ≤ 3 := by unfold clK; split; exact clOf_bd _; omega
theorem note_lt {v : List Ev} {i : Nat} (h : noteB v i = true) : i < v.length := by
 unfold noteB at h
 split at h
 ·rename_i x hx; exact (List.getElem?_eq_some_iff.1 hx).1
 ·cases h
theorem clK_ne {v : List Ev} {i : Nat} (h : clK v i ≠ 0) : 1 ≤ i ∧ noteB v (i - 1) = true ∧ noteB v i = true ∧ i < v.length ∧ clK v i = clOf (ivl v i).1 := by
 unfold clK at h ⊢
 split at h
 ·rename_i h1
  rw [if_pos h1]
  exact ⟨h1.1, h1.2.1, h1.2.2, note_lt h1.2.2, rfl⟩
 ·exact absurd rfl h
theorem atOf_inj {v : List Ev} (h : Val v) {i j : Nat} (hi : i < v.length) (hj : j < v.length) (e : atOf v i = atOf v j) : i = j := by
 obtain ⟨x, hx⟩ := get_some hi
 obtain ⟨y, hy⟩ := get_some hj
 unfold atOf at e
 rw [hx, hy] at e
 simp only at e
 rcases Nat.lt_trichotomy i j with hlt | rfl | hlt
 ·have := (at_lt h j i x y hx hy hlt).1
  rw [e] at this
  exact absurd this (ltT_irr _)
 ·rfl
 ·have := (at_lt h i j y x hy hx hlt).1
  rw [e] at this
  exact absurd this (ltT_irr _)
theorem endF_snoc (v : List Ev) (kind : Int) (L : List (Int × Int)) (c : Int × Int) : endF v kind (L ++ [c]) = endStep v kind (endF v kind L) c := by unfold endF; rw [List.foldl_append]; rfl
theorem endF_take {v : List Ev} {kind : Int} {L : List (Int × Int)} {j : Nat} {c : Int × Int} (h : L[j]? = some c) : endF v kind (L.take (j + 1)) = endStep v kind (endF v kind (L.take j)) c := by
 rw [← endF_snoc, List.take_add_one, h]; rfl
theorem endF_spec {v : List Ev} (h : Val v) {kind : Int} (hk : kind ≠ 0) : ∀ k : Nat, k ≤ v.length → ∀ (t : Tm) (i : Int), endF v kind (clausL v k) t = some i ↔ ∃ j : Nat, j < k ∧ i = (j : Int) ∧ clK v j = kind ∧ atOf v j = t := by
 intro k
 induction k with
 | zero => intro _ t i; exact ⟨fun hh => (by cases hh), fun ⟨j, hj, _⟩ => absurd hj (by omega)⟩
 | succ k ih =>
  intro hkl t i
  have ih := ih (by omega) t i
  rw [clausL_succ]
  by_cases h0 : clK v k = 0
  ·rw [if_pos h0, List.append_nil, ih]
   constructor
   ·rintro ⟨j, h1, h2⟩; exact ⟨j, by omega, h2⟩
   ·rintro ⟨j, h1, h2, h3, h4⟩
    refine ⟨j, ?_, h2, h3, h4⟩
    by_cases e : j = k
    ·subst e; omega
    ·omega
  ·rw [if_neg h0, endF_snoc]
   unfold endStep
   simp only [Int.toNat_natCast]
   by_cases hkd : clK v k = kind
   ·rw [if_pos hkd]
    unfold updO
    by_cases ht : t = atOf v k
    ·rw [if_pos ht]
     constructor
     ·intro hh; exact ⟨k, by omega, (Option.some.inj hh).symm, hkd, ht.symm⟩
     ·rintro ⟨j, h1, h2, h3, h4⟩
      have : j = k := atOf_inj h (by omega) (by omega) (by rw [h4, ht])
      rw [h2, this]
    ·rw [if_neg ht, ih]
     constructor
     ·rintro ⟨j, h1, h2⟩; exact ⟨j, by omega, h2⟩
     ·rintro ⟨j, h1, h2, h3, h4⟩
      refine ⟨j, ?_, h2, h3, h4⟩
      by_cases e : j = k
      ·subst e; exact absurd h4.symm ht
      ·omega
   ·rw [if_neg hkd, ih]
    constructor
    ·rintro ⟨j, h1, h2⟩; exact ⟨j, by omega, h2⟩
    ·rintro ⟨j, h1, h2, h3, h4⟩
     refine ⟨j, ?_, h2, h3, h4⟩
     by_cases e : j = k
     ·subst e; exact absurd h3 hkd
     ·omega
theorem cEnd_spec {v : List Ev} (h : Val v) {kind : Int} (hk : kind ≠ 0) (t : Tm) (i : Int) : cEnd v kind t = some i ↔ ∃ j : Nat, i = (j : Int) ∧ clK v j = kind ∧ atOf v j = t := by
 unfold cEnd clausE
 rw [endF_spec h hk v.length (Nat.le_refl _)]
 constructor
 ·rintro ⟨j, _, h2⟩; exact ⟨j, h2⟩
 ·rintro ⟨j, h2, h3, h4⟩; exact ⟨j, (clK_ne (by rw [h3]; exact hk)).2.2.2.1, h2, h3, h4⟩
/-! ### Cadences -/
def octB (p q : Pit3) : Bool := decide ((btw p q).1 % 7 = 0) && decide ((btw p q).2 = (btw p q).1 / 7 * 12)
def CadAt (l : List (List Ev)) (c i t k : Nat) : Bool :=
 decide (c ≠ t) && (decide (clK (l.getD c []) i = 1) && (decide (clK (l.getD t []) k = 2) && (decide (atOf (l.getD c []) i = atOf (l.getD t []) k) && octB (pitOf (l.getD c []) i) (pitOf (l.getD t []) k))))
def cadK (l : List (List Ev)) (c i t k : Nat) : Int := if (ivl (l.getD c []) i).2 = 1 then 1 else if (ivl (l.getD t []) k).2 = -1 then 2 else 3
structure Cad where
 at_ : Tm
 c : Int
 t : Int
 b : Int
 step : Int
 kind : Int
def CadOK (l : List (List Ev)) (x : Cad) : Prop := ∃ c i t k : Nat, CadAt l c i t k = true ∧ x.at_ = atOf (l.getD c []) i ∧ x.c = (c : Int) ∧ x.t = (t : Int) ∧ x.kind = cadK l c i t k
def weakB (l : List (List Ev)) (c i : Nat) : Bool := (List.range l.length).any fun t => (List.range (l.getD t []).length).any fun k => CadAt l c i t k && decide (cadK l c i t k = 3)
theorem cad_parts {l : List (List Ev)} {c i t k : Nat} (h : CadAt l c i t k = true) : c ≠ t ∧ clK (l.getD c []) i = 1 ∧ clK (l.getD t []) k = 2 ∧ atOf (l.getD c []) i = atOf (l.getD t []) k ∧ octB (pitOf (l.getD c []) i) (pitOf (l.getD t []) k) = true := by
 unfold CadAt at h
 simp only [Bool.and_eq_true, decide_eq_true_eq] at h
 exact h
theorem getD_lt {l : List (List Ev)} {c i : Nat} (h : clK (l.getD c []) i ≠ 0) : c < l.length := by
 by_cases hc : c < l.length
 ·exact hc
 ·exfalso
  have : l.getD c [] = [] := by simp [List.getD, hc]
  rw [this] at h
  have := (clK_ne h).2.2.2.1
  simp at this
theorem weak_iff {l : List (List Ev)} (hv : ∀ v ∈ l, Val v) {c i : Nat} (hi : i < (l.getD c []).length) : weakB l c i = true ↔ ∃ x, CadOK l x ∧ x.kind = 3 ∧ x.c = (c : Int) ∧ x.at_ = atOf (l.getD c []) i := by
 unfold weakB
 simp only [List.any_eq_true, List.mem_range, Bool.and_eq_true, decide_eq_true_eq]
 constructor
 ·rintro ⟨t, ht, k, hk, h1, h2⟩
  exact ⟨⟨atOf (l.getD c []) i, c, t, 0, 0, 3⟩, ⟨c, i, t, k, h1, rfl, rfl, rfl, h2.symm⟩, rfl, rfl, rfl⟩
 ·rintro ⟨x, ⟨c', i', t, k, h1, h2, h3, h4, h5⟩, h6, h7, h8⟩
  have hc : c' = c := by have := h3.symm.trans h7; omega
  subst hc
  obtain ⟨p1, p2, p3, p4, p5⟩ := cad_parts h1
  have hcl := getD_lt (l := l) (c := c') (i := i') (by omega)
  have hval : Val (l.getD c' []) := by
   obtain ⟨v, hvv⟩ := get_some hcl
   rw [getD_at hvv]
   exact hv v (List.mem_of_getElem? hvv)
  have hii : i' = i := atOf_inj hval (clK_ne (by omega)).2.2.2.1 hi (by rw [← h2, h8])
  subst hii
  exact ⟨t, getD_lt (l := l) (c := t) (i := k) (by omega), k, (clK_ne (by omega)).2.2.2.1, h1, by rw [← h5, h6]⟩
/-! ### Proposals -/
abbrev Plc := Int × Int
abbrev Fic := Int × Int × Int × Int
def evA (l : List (List Ev)) (p : Plc) : Option Ev := if p.1 < 0 ∨ p.2 < 0 then none else (l.getD p.1.toNat [])[p.2.toNat]?
def freeB (l : List (List Ev)) (p : Plc) : Bool := match evA l p with
 | some x => !x.rest && decide (x.pit.2.2 = 0)
 | none => false
def leadB (l : List (List Ev)) (p : Plc) : Bool := freeB l p && (weakB l p.1.toNat (p.2.toNat + 1) && decide ((ivl (l.getD p.1.toNat []) (p.2.toNat + 1)).2 = 2))
def flat (p : Pit3) : Pit3 := (p.1, p.2.1, -1)
def flatN (p q : Pit3) (s : Int) : Nat := if p.1 = s ∧ p.2.2 = 0 then 1 else if q.1 = s ∧ q.2.2 = 0 then 2 else 0
def triN (p q : Pit3) : Nat := if flatN p q 6 ≠ 0 then flatN p q 6 else flatN p q 2
def triQ (p q : Pit3) : Nat :=
 if kindP p q ≠ 4 then 0
 else if triN p q = 0 then 0
 else if triN p q = 1 then (if kindP (flat p) q ≠ 4 then 1 else 0)
 else if kindP p (flat q) ≠ 4 then 2 else 0
def triP (l : List (List Ev)) (t : Tm) (a b : Nat) : List Plc :=
 match evA l ((a : Int), onS (l.getD a []) t), evA l ((b : Int), onS (l.getD b []) t) with
 | some x, some y => if x.rest = true ∨ y.rest = true then [] else
   if triQ x.pit y.pit = 1 then [((a : Int), onS (l.getD a []) t)] else if triQ x.pit y.pit = 2 then [((b : Int), onS (l.getD b []) t)] else []
 | _, _ => []
def triR (l : List (List Ev)) (t : Tm) (a k : Nat) : List Plc := (List.range k).flatMap fun b => if a < b then triP l t a b else []
def triV (l : List (List Ev)) (t : Tm) (k : Nat) : List Plc := (List.range k).flatMap fun a => triR l t a l.length
def triS (l : List (List Ev)) (k : Nat) : List Plc := (List.range k).flatMap fun i => triV l (mAt (momS l) i) l.length
def triL (l : List (List Ev)) : List Plc := triS l ((momS l).length - 1)
def supP (l : List (List Ev)) (v e : Nat) : List Plc :=
 match (l.getD v [])[e - 1]?, (l.getD v [])[e]?, (l.getD v [])[e + 1]? with
 | some a, some b, some c => if 1 ≤ e ∧ (a.rest = false ∧ b.rest = false ∧ c.rest = false) ∧ a.pit = c.pit ∧ a.pit.1 = 5 ∧ b.pit.2.2 = 0 ∧ numP b.pit = numP a.pit + 1 then [((v : Int), (e : Int))] else []
 | _, _, _ => []
def supV (l : List (List Ev)) (v k : Nat) : List Plc := (List.range k).flatMap fun e => supP l v e
def supS (l : List (List Ev)) (k : Nat) : List Plc := (List.range k).flatMap fun v => supV l v (l.getD v []).length
def supL (l : List (List Ev)) : List Plc := supS l l.length
theorem flat_succ {α : Type} (f : Nat → List α) (k : Nat) : (List.range (k + 1)).flatMap f = (List.range k).flatMap f ++ f k := by rw [List.range_succ, List.flatMap_append]; simp
def yld (dn : Plc → Option Fic) (r a : Int) (f : Plc → Option Fic) (p : Plc) : Plc → Option Fic := if (dn p).isSome = false ∧ (f p).isSome = false then updO f p (p.1, p.2, a, r) else f
def ylds (dn : Plc → Option Fic) (r a : Int) (f : Plc → Option Fic) (L : List Plc) : Plc → Option Fic := L.foldl (yld dn r a) f
theorem ylds_append (dn : Plc → Option Fic) (r a : Int) (f : Plc → Option Fic) (L M : List Plc) : ylds dn r a f (L ++ M) = ylds dn r a (ylds dn r a f L) M := by unfold ylds; rw [List.foldl_append]
theorem ylds_at (dn : Plc → Option Fic) (r a : Int) : ∀ (L : List Plc) (f : Plc → Option Fic) (p : Plc), ylds dn r a f L p = match f p with
  | some x => some x
  | none => if p ∈ L ∧ (dn p).isSome = false then some (p.1, p.2, a, r) else none := by
 intro L
 induction L with
 | nil => intro f p; show f p = _; cases f p <;> simp
 | cons q L ih =>
  intro f p
  show ylds dn r a (yld dn r a f q) L p = _
  rw [ih]
  unfold yld
  by_cases hq : (dn q).isSome = false ∧ (f q).isSome = false
  ·rw [if_pos hq]
   unfold updO
   by_cases e : p = q
   ·subst e
    rw [if_pos rfl]
    have : f p = none := by cases hf : f p with
     | none => rfl
     | some y => rw [hf] at hq; simp at hq
    rw [this]
    simp only
    rw [if_pos ⟨List.mem_cons_self, hq.1⟩]
   ·rw [if_neg e]
    cases f p with
    | some x => rfl
    | none =>
     simp only
     have : (p ∈ q :: L) ↔ (p ∈ L) := by rw [List.mem_cons]; exact ⟨fun h => h.resolve_left e, Or.inr⟩
     simp only [this]
  ·rw [if_neg hq]
   cases hf : f p with
   | some x => rfl
   | none =>
    simp only
    by_cases e : p = q
    ·subst e
     have hd : ¬ (dn p).isSome = false := fun h => hq ⟨h, by rw [hf]; rfl⟩
     rw [if_neg (fun h => hd h.2), if_neg (fun h => hd h.2)]
    ·have : (p ∈ q :: L) ↔ (p ∈ L) := by rw [List.mem_cons]; exact ⟨fun h => h.resolve_left e, Or.inr⟩
     simp only [this]
def rnd (l : List (List Ev)) (dn : Plc → Option Fic) (p : Plc) : Option Fic :=
 if (dn p).isSome = true then none
 else if leadB l p = true then some (p.1, p.2, 1, 1)
 else if p ∈ triL l then some (p.1, p.2, -1, 2)
 else if p ∈ supL l then some (p.1, p.2, -1, 3)
 else none
theorem rnd_eq {l : List (List Ev)} {dn : Plc → Option Fic} {L : List Plc} (hL : ∀ p, p ∈ L ↔ leadB l p = true) : ylds dn 3 (-1) (ylds dn 2 (-1) (ylds dn 1 1 (fun _ => none) L) (triL l)) (supL l) = rnd l dn := by
 funext p
 rw [ylds_at, ylds_at, ylds_at]
 unfold rnd
 simp only
 by_cases hd : (dn p).isSome = true
 ·rw [if_pos hd]
  have hd' : ¬ (dn p).isSome = false := by rw [hd]; simp
  rw [if_neg (fun h => hd' h.2)]
  simp only
  rw [if_neg (fun h => hd' h.2)]
  simp only
  rw [if_neg (fun h => hd' h.2)]
 ·have hd' : (dn p).isSome = false := by simpa using hd
  rw [if_neg hd]
  simp only [hd', and_true, hL]
  by_cases h1 : leadB l p = true
  ·simp [h1]
  ·by_cases h2 : p ∈ triL l
   ·simp [h1, h2]
   ·simp [h1, h2]
def plcL (l : List (List Ev)) : List Plc := (List.range l.length).flatMap fun (v : Nat) => (List.range (l.getD v []).length).map fun (e : Nat) => ((v : Int), (e : Int))
def listF (l : List (List Ev)) (f : Plc → Option Fic) : List Fic := (plcL l).filterMap f
def altE (a : Int) (x : Ev) : Ev := { x with pit := (x.pit.1, x.pit.2.1, a) }
def setA (l : List (List Ev)) (x : Fic) : List (List Ev) := l.modify x.1.toNat fun v => v.modify x.2.1.toNat (altE x.2.2.1)
def withL (l : List (List Ev)) (L : List Fic) : List (List Ev) := L.foldl setA l
def mergeF (dn now : Plc → Option Fic) : Plc → Option Fic := fun p => match now p with
 | some x => some x
 | none => dn p
def allR : Nat → List (List Ev) → (Plc → Option Fic) → (Plc → Option Fic) × Nat
 | 0, _, dn => (dn, 0)
 | n + 1, l, dn => if listF l (rnd l dn) = [] then (dn, 0) else ((allR n (withL l (listF l (rnd l dn))) (mergeF dn (rnd l dn))).1, (allR n (withL l (listF l (rnd l dn))) (mergeF dn (rnd l dn))).2 + 1)
def roundS (l : List (List Ev)) : List Fic := listF l (rnd l fun _ => none)
def allF (l : List (List Ev)) : (Plc → Option Fic) × Nat := allR (plcL l).length l fun _ => none
def allFi (l : List (List Ev)) : List Fic := listF l (allF l).1
def roundE (l : List (List Ev)) : List Fic × Int := if (slicesE l).2 ≠ 0 then ([], (slicesE l).2) else (roundS l, 0)
def allE (l : List (List Ev)) : List Fic × Int := if (slicesE l).2 ≠ 0 then ([], (slicesE l).2) else (allFi l, 0)
def roundsE (l : List (List Ev)) : Int × Int := if (slicesE l).2 ≠ 0 then (0, (slicesE l).2) else ((allF l).2, 0)
def lessF (a b : Fic) : Prop := a.1 < b.1 ∨ (a.1 = b.1 ∧ a.2.1 < b.2.1)
instance (a b : Fic) : Decidable (lessF a b) := inferInstanceAs (Decidable (_ ∨ _))
def inF (l : List (List Ev)) (x : Fic) : Bool := decide (0 ≤ x.1 ∧ x.1 < l.length ∧ 0 ≤ x.2.1 ∧ x.2.1 < (l.getD x.1.toNat []).length)
def oneF (l : List (List Ev)) (prev : Option Fic) (x : Fic) : Int :=
 if inF l x = false then 2
 else if freeB l (x.1, x.2.1) = false ∨ (x.2.2.1 ≠ -1 ∧ x.2.2.1 ≠ 1) then 3
 else if x.2.2.2 < 1 ∨ 3 < x.2.2.2 then 8
 else match prev with
  | some y => if lessF y x then 0 else 6
  | none => 0
def chkF (l : List (List Ev)) (prev : Option Fic) (i : Int) : List Fic → Int × Int
 | [] => (0, 0)
 | x :: L => if oneF l prev x ≠ 0 then (oneF l prev x, i) else chkF l (some x) (i + 1) L
def checkF (l : List (List Ev)) (L : List Fic) : Int × Int := if (slicesE l).2 ≠ 0 then ((slicesE l).2, 0) else chkF l none 0 L
def applyE (l : List (List Ev)) (L : List Fic) : List (List Ev) × Int := if (checkF l L).1 ≠ 0 then ([], (checkF l L).1) else (withL l L, 0)
end Go.Proofs.YtpkmiegccfhpnaaGreatDoor
