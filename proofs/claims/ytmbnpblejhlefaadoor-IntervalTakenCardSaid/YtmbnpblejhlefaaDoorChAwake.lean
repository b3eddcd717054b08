/- The chapter's examples that every statement checks: tactuslaw28.pitch, chord, kind, clash, awake. -/
import Derived.Test.YtmbnpblejhlefaaDoorChNamed
import Derived.Test.YtmbnpblejhlefaaDoorChWhole
namespace Go.Proofs.YtmbnpblejhlefaaDoor
open Go.RowKit
set_option maxHeartbeats 400000 in
theorem lpitch_any (n a : Int) (w : World) (h0 : 0 ≤ n) (h1 : n ≤ 1000000) :
    Calls Tryd.prog 27 #[.int .i64 n, .int .i64 a] w fun e w' => e = .returned (vP (n % 7, n / 7, a)) ∧ Below w.heap.size w w' := by
  go_enter Tryd.func27, Tryd.ntmps27
  go_wp2
  refine ret_of (by simp [results, Tryd.results27, go_sem, *]; repeat' (first | rfl | apply And.intro)) rfl ⟨rfl, by repeat (first | with_reducible exact Below.refl _ _ | with_reducible assumption | with_reducible refine below_drewN ?_ _ | with_reducible refine Below.drew ?_ | with_reducible refine below_alloc ?_ _ | (with_reducible refine Below.setCell ?_ ?_ _; rotate_left; ((try simp only); omega)))⟩
set_option maxRecDepth 100000 in
set_option maxHeartbeats 1000000 in
theorem kind_named (p q : Int × Int × Int) (K : Int) (s : ByteArray) (w : World) (ht : Tabs w) (k1 : kindE p q = (K, 0)) (k2 : kindE q p = (K, 0)) (n1 : nameE p q = (s, 0)) (n2 : nameE q p = (s, 0)) (hs : s.toList.isEmpty = false) :
    Calls Tryd.prog 28 #[vP p, vP q, .int .i64 K, .string s] w fun e w' => e = .returned (.bool true) ∧ Below w.heap.size w w' := by
  have q1 := fun W hW => Kind_any p q W hW
  have q2 := fun W hW => Kind_any q p W hW
  have q3 := fun W hW => Name_any p q W hW
  have q4 := fun W hW => Name_any q p W hW
  rw [k1] at q1
  rw [k2] at q2
  rw [n1] at q3
  rw [n2] at q4
  clear k1 k2 n1 n2
  obtain ⟨a, b, c⟩ := p
  obtain ⟨a', b', c'⟩ := q
  go_enter Tryd.func28, Tryd.ntmps28
  go_wp2_with fail
  refine Calls.mono (q1 _ ?_) ?_
  · exact ht.kept (by repeat (first | exact Below.refl _ _ | refine below_drewN ?_ _ | refine Below.drew ?_ | refine below_alloc ?_ _ | (refine below_call ?_ (by assumption)) | (refine Below.setCell ?_ ?_ _; rotate_left; (simp; try omega))))
  rintro e w1 ⟨rfl, hb1⟩
  have BP1 : Blk w1 (w.heap.size) 36 #[.int .i64 a, .int .i64 b, .int .i64 c] := by
    refine Blk.kept ?_ hb1
    repeat (first | with_reducible exact Blk.new _ _ _ | (with_reducible refine Blk.newAt _ _ _ _ ?_; first | rfl | (simp; done)) | with_reducible apply Blk.alloc | with_reducible apply Blk.drewN | with_reducible apply Blk.drew | with_reducible apply Blk.set_to | (with_reducible apply Blk.far_; (simp only [ne_eq]; omega)) | rfl)
  have cP0_1 : w1.cell? ⟨w.heap.size, 0, none⟩ = some (.int .i64 a) := BP1.cell 0
  have cP1_1 : w1.cell? ⟨w.heap.size, 1, none⟩ = some (.int .i64 b) := BP1.cell 1
  have cP2_1 : w1.cell? ⟨w.heap.size, 2, none⟩ = some (.int .i64 c) := BP1.cell 2
  have lP1 : w.heap.size < w1.heap.size := BP1.lt
  have mP1 : w.heap.size < w1.heap.size + 1 := by omega
  have nP1 : w.heap.size < w1.heap.size + 1 + 1 := by omega
  have BQ1 : Blk w1 (w.heap.size + 1) 36 #[.int .i64 a', .int .i64 b', .int .i64 c'] := by
    refine Blk.kept ?_ hb1
    repeat (first | with_reducible exact Blk.new _ _ _ | (with_reducible refine Blk.newAt _ _ _ _ ?_; first | rfl | (simp; done)) | with_reducible apply Blk.alloc | with_reducible apply Blk.drewN | with_reducible apply Blk.drew | with_reducible apply Blk.set_to | (with_reducible apply Blk.far_; (simp only [ne_eq]; omega)) | rfl)
  have cQ0_1 : w1.cell? ⟨w.heap.size + 1, 0, none⟩ = some (.int .i64 a') := BQ1.cell 0
  have cQ1_1 : w1.cell? ⟨w.heap.size + 1, 1, none⟩ = some (.int .i64 b') := BQ1.cell 1
  have cQ2_1 : w1.cell? ⟨w.heap.size + 1, 2, none⟩ = some (.int .i64 c') := BQ1.cell 2
  have lQ1 : w.heap.size + 1 < w1.heap.size := BQ1.lt
  have mQ1 : w.heap.size + 1 < w1.heap.size + 1 := by omega
  have nQ1 : w.heap.size + 1 < w1.heap.size + 1 + 1 := by omega
  have hs1 : w.heap.size ≤ w1.heap.size := by have h := hb1.size; (try simp at h); omega
  go_wp2_with fail
  refine Calls.mono (q2 _ ?_) ?_
  · exact ht.kept (by repeat (first | exact Below.refl _ _ | refine below_drewN ?_ _ | refine Below.drew ?_ | refine below_alloc ?_ _ | (refine below_call ?_ (by assumption)) | (refine Below.setCell ?_ ?_ _; rotate_left; (simp; try omega))))
  rintro e w2 ⟨rfl, hb2⟩
  have BP2 : Blk w2 (w.heap.size) 36 #[.int .i64 a, .int .i64 b, .int .i64 c] := by
    refine Blk.kept ?_ hb2
    repeat (first | with_reducible exact BP1 | with_reducible exact Blk.new _ _ _ | (with_reducible refine Blk.newAt _ _ _ _ ?_; first | rfl | (simp; done)) | with_reducible apply Blk.alloc | with_reducible apply Blk.drewN | with_reducible apply Blk.drew | with_reducible apply Blk.set_to | (with_reducible apply Blk.far_; (simp only [ne_eq]; omega)) | rfl)
  have cP0_2 : w2.cell? ⟨w.heap.size, 0, none⟩ = some (.int .i64 a) := BP2.cell 0
  have cP1_2 : w2.cell? ⟨w.heap.size, 1, none⟩ = some (.int .i64 b) := BP2.cell 1
  have cP2_2 : w2.cell? ⟨w.heap.size, 2, none⟩ = some (.int .i64 c) := BP2.cell 2
  have lP2 : w.heap.size < w2.heap.size := BP2.lt
  have mP2 : w.heap.size < w2.heap.size + 1 := by omega
  have nP2 : w.heap.size < w2.heap.size + 1 + 1 := by omega
  have BQ2 : Blk w2 (w.heap.size + 1) 36 #[.int .i64 a', .int .i64 b', .int .i64 c'] := by
    refine Blk.kept ?_ hb2
    repeat (first | with_reducible exact BQ1 | with_reducible exact Blk.new _ _ _ | (with_reducible refine Blk.newAt _ _ _ _ ?_; first | rfl | (simp; done)) | with_reducible apply Blk.alloc | with_reducible apply Blk.drewN | with_reducible apply Blk.drew | with_reducible apply Blk.set_to | (with_reducible apply Blk.far_; (simp only [ne_eq]; omega)) | rfl)
  have cQ0_2 : w2.cell? ⟨w.heap.size + 1, 0, none⟩ = some (.int .i64 a') := BQ2.cell 0
  have cQ1_2 : w2.cell? ⟨w.heap.size + 1, 1, none⟩ = some (.int .i64 b') := BQ2.cell 1
  have cQ2_2 : w2.cell? ⟨w.heap.size + 1, 2, none⟩ = some (.int .i64 c') := BQ2.cell 2
  have lQ2 : w.heap.size + 1 < w2.heap.size := BQ2.lt
  have mQ2 : w.heap.size + 1 < w2.heap.size + 1 := by omega
  have nQ2 : w.heap.size + 1 < w2.heap.size + 1 + 1 := by omega
  clear BP1 lP1 mP1 nP1 cP0_1 cP1_1 cP2_1 BQ1 lQ1 mQ1 nQ1 cQ0_1 cQ1_1 cQ2_1
  have hs2 : w.heap.size ≤ w2.heap.size := by have h := hb2.size; (try simp at h); omega
  go_wp2_with fail
  refine Calls.mono (q3 _ ?_) ?_
  · exact ht.kept (by repeat (first | exact Below.refl _ _ | refine below_drewN ?_ _ | refine Below.drew ?_ | refine below_alloc ?_ _ | (refine below_call ?_ (by assumption)) | (refine Below.setCell ?_ ?_ _; rotate_left; (simp; try omega))))
  rintro e w3 ⟨rfl, hb3⟩
  have BP3 : Blk w3 (w.heap.size) 36 #[.int .i64 a, .int .i64 b, .int .i64 c] := by
    refine Blk.kept ?_ hb3
    repeat (first | with_reducible exact BP2 | with_reducible exact Blk.new _ _ _ | (with_reducible refine Blk.newAt _ _ _ _ ?_; first | rfl | (simp; done)) | with_reducible apply Blk.alloc | with_reducible apply Blk.drewN | with_reducible apply Blk.drew | with_reducible apply Blk.set_to | (with_reducible apply Blk.far_; (simp only [ne_eq]; omega)) | rfl)
  have cP0_3 : w3.cell? ⟨w.heap.size, 0, none⟩ = some (.int .i64 a) := BP3.cell 0
  have cP1_3 : w3.cell? ⟨w.heap.size, 1, none⟩ = some (.int .i64 b) := BP3.cell 1
  have cP2_3 : w3.cell? ⟨w.heap.size, 2, none⟩ = some (.int .i64 c) := BP3.cell 2
  have lP3 : w.heap.size < w3.heap.size := BP3.lt
  have mP3 : w.heap.size < w3.heap.size + 1 := by omega
  have nP3 : w.heap.size < w3.heap.size + 1 + 1 := by omega
  have BQ3 : Blk w3 (w.heap.size + 1) 36 #[.int .i64 a', .int .i64 b', .int .i64 c'] := by
    refine Blk.kept ?_ hb3
    repeat (first | with_reducible exact BQ2 | with_reducible exact Blk.new _ _ _ | (with_reducible refine Blk.newAt _ _ _ _ ?_; first | rfl | (simp; done)) | with_reducible apply Blk.alloc | with_reducible apply Blk.drewN | with_reducible apply Blk.drew | with_reducible apply Blk.set_to | (with_reducible apply Blk.far_; (simp only [ne_eq]; omega)) | rfl)
  have cQ0_3 : w3.cell? ⟨w.heap.size + 1, 0, none⟩ = some (.int .i64 a') := BQ3.cell 0
  have cQ1_3 : w3.cell? ⟨w.heap.size + 1, 1, none⟩ = some (.int .i64 b') := BQ3.cell 1
  have cQ2_3 : w3.cell? ⟨w.heap.size + 1, 2, none⟩ = some (.int .i64 c') := BQ3.cell 2
  have lQ3 : w.heap.size + 1 < w3.heap.size := BQ3.lt
  have mQ3 : w.heap.size + 1 < w3.heap.size + 1 := by omega
  have nQ3 : w.heap.size + 1 < w3.heap.size + 1 + 1 := by omega
  clear BP2 lP2 mP2 nP2 cP0_2 cP1_2 cP2_2 BQ2 lQ2 mQ2 nQ2 cQ0_2 cQ1_2 cQ2_2
  have hs3 : w.heap.size ≤ w3.heap.size := by have h := hb3.size; (try simp at h); omega
  go_wp2_with fail
  refine Calls.mono (q4 _ ?_) ?_
  · exact ht.kept (by repeat (first | exact Below.refl _ _ | refine below_drewN ?_ _ | refine Below.drew ?_ | refine below_alloc ?_ _ | (refine below_call ?_ (by assumption)) | (refine Below.setCell ?_ ?_ _; rotate_left; (simp; try omega))))
  rintro e w4 ⟨rfl, hb4⟩
  have BP4 : Blk w4 (w.heap.size) 36 #[.int .i64 a, .int .i64 b, .int .i64 c] := by
    refine Blk.kept ?_ hb4
    repeat (first | with_reducible exact BP3 | with_reducible exact Blk.new _ _ _ | (with_reducible refine Blk.newAt _ _ _ _ ?_; first | rfl | (simp; done)) | with_reducible apply Blk.alloc | with_reducible apply Blk.drewN | with_reducible apply Blk.drew | with_reducible apply Blk.set_to | (with_reducible apply Blk.far_; (simp only [ne_eq]; omega)) | rfl)
  have cP0_4 : w4.cell? ⟨w.heap.size, 0, none⟩ = some (.int .i64 a) := BP4.cell 0
  have cP1_4 : w4.cell? ⟨w.heap.size, 1, none⟩ = some (.int .i64 b) := BP4.cell 1
  have cP2_4 : w4.cell? ⟨w.heap.size, 2, none⟩ = some (.int .i64 c) := BP4.cell 2
  have lP4 : w.heap.size < w4.heap.size := BP4.lt
  have mP4 : w.heap.size < w4.heap.size + 1 := by omega
  have nP4 : w.heap.size < w4.heap.size + 1 + 1 := by omega
  have BQ4 : Blk w4 (w.heap.size + 1) 36 #[.int .i64 a', .int .i64 b', .int .i64 c'] := by
    refine Blk.kept ?_ hb4
    repeat (first | with_reducible exact BQ3 | with_reducible exact Blk.new _ _ _ | (with_reducible refine Blk.newAt _ _ _ _ ?_; first | rfl | (simp; done)) | with_reducible apply Blk.alloc | with_reducible apply Blk.drewN | with_reducible apply Blk.drew | with_reducible apply Blk.set_to | (with_reducible apply Blk.far_; (simp only [ne_eq]; omega)) | rfl)
  have cQ0_4 : w4.cell? ⟨w.heap.size + 1, 0, none⟩ = some (.int .i64 a') := BQ4.cell 0
  have cQ1_4 : w4.cell? ⟨w.heap.size + 1, 1, none⟩ = some (.int .i64 b') := BQ4.cell 1
  have cQ2_4 : w4.cell? ⟨w.heap.size + 1, 2, none⟩ = some (.int .i64 c') := BQ4.cell 2
  have lQ4 : w.heap.size + 1 < w4.heap.size := BQ4.lt
  have mQ4 : w.heap.size + 1 < w4.heap.size + 1 := by omega
  have nQ4 : w.heap.size + 1 < w4.heap.size + 1 + 1 := by omega
  clear BP3 lP3 mP3 nP3 cP0_3 cP1_3 cP2_3 BQ3 lQ3 mQ3 nQ3 cQ0_3 cQ1_3 cQ2_3
  have hs4 : w.heap.size ≤ w4.heap.size := by have h := hb4.size; (try simp at h); omega
  have kb : Below w.heap.size w w4 := by repeat (first | exact Below.refl _ _ | refine below_drewN ?_ _ | refine Below.drew ?_ | refine below_alloc ?_ _ | (refine below_call ?_ (by assumption)) | (refine Below.setCell ?_ ?_ _; rotate_left; (simp; try omega)))
  go_wp2
  go_ret
  exact ⟨rfl, by repeat (first | with_reducible exact Below.refl _ _ | with_reducible assumption | with_reducible refine below_drewN ?_ _ | with_reducible refine Below.drew ?_ | with_reducible refine below_alloc ?_ _ | (with_reducible refine Below.setCell ?_ ?_ _; rotate_left; ((try simp only); omega)))⟩
def chordOf (l : List Int) : List (Int × Int × Int) := l.map fun n => (n % 7, n / 7, 0)
set_option maxRecDepth 100000 in
set_option maxHeartbeats 1000000 in
theorem lchord_any (A : Option Addr) (n c : Nat) (l : List Int) (B : Nat) (w : World) (h : Reads w B 1 A n (csI l)) (hB : B ≤ w.heap.size) (hn : n ≤ 100) (hv : ∀ x ∈ l, 0 ≤ x ∧ x ≤ 1000) :
    Calls Tryd.prog 32 #[.slice A n c] w fun e w' => ∃ A' c', e = .returned (.slice A' n c') ∧ Own3 36 w' w.heap.size n A' c' (chordOf l) ∧ Below w.heap.size w w' := by
  have HL : Hid (l.length = n) := Lib.hid (h.len (size := 1) (l := l) (f := fun n => [Value.int .i64 n]) (fun _ => rfl) (by decide))
  obtain ⟨i0, hi0, hz0, hz1, hz2⟩ := info_parts pitch_info
  go_enter Tryd.func32, Tryd.ntmps32
  go_wp2
  go_loopw [3, 4] (fun v i wr => ∃ k : Nat, k ≤ n ∧ i = .int .i64 k ∧ wr.ownsRow w.heap.size 36 3 v k (csP (chordOf (l.take k))) ∧ Below w.heap.size w wr) (fun _ i _ => n - (intOf i).toNat)
  case atStart => exact ⟨0, by omega, rfl, ⟨rfl, .inl ⟨rfl, rfl⟩⟩, Below.refl _ _⟩
  case round =>
    obtain ⟨k, hk, rfl, hown, k0⟩ := hrel
    by_cases hlt : k < n
    · have hlt' : (k : Int) < (n : Int) := by omega
      obtain ⟨x, hx⟩ := get_some (l := l) (k := k) (by have := HL.out; omega)
      have px := hv x (List.mem_of_getElem? hx)
      obtain ⟨b, off, hA, hbB, hc⟩ := h.elem (f := fun n => [Value.int .i64 n]) (fun _ => rfl) hlt hx
      subst hA
      have hab : b < wr.heap.size := by have := k0.size; omega
      have c0 : wr.cell? ⟨b, off + k, none⟩ = some (.int .i64 x) := by
        rw [k0.cell (by simp; omega)]
        have := hc 0 _ rfl
        simpa using this
      have HT := Lib.hid (show chordOf (l.take (k + 1)) = chordOf (l.take k) ++ [(x % 7, x / 7, 0)] by unfold chordOf; rw [take_get hx, List.map_append]; rfl)
      have q1 := fun W => lpitch_any x 0 W px.1 (by omega)
      clear hc hx
      go_wp2_with fail
      refine (q1 _).mono ?_
      rintro e w1 ⟨rfl, hb1⟩
      have own1 := own_call hown hb1
      have k1 := below_call k0 hb1
      go_wp2_with (at_builtin; (refine wpList_append_any _ rfl (.tmp 11) (.tmp 17) 22 rfl w.heap.size 36 i0 _ 3 24 Tryd.underlying22 hi0 hz0 hz1 hz2 rfl (by omega) _ k (csP (chordOf (l.take k))) rfl (own_call own1 (below_alloc (Below.refl _ _) _)) (w1.heap.size + 1) (some ⟨w1.heap.size, 0, none⟩) 1 1 (csP [(x % 7, x / 7, 0)]) rfl (Reads.newAt _ _ _ 1 3 _ rfl rfl) (one_csP _) (by simp only [maxLen]; omega) (by omega) (by have := k1.size; simp; omega) ?_); intro v1 w3 hown3 hg3 hat3)
      go_roundw
      case rel => exact ⟨k + 1, by omega, by go_num, by rw [HT.out, csP_append]; exact hown3, Below.grown (B := w.heap.size) (a := w) (below_alloc k1 _) hg3 (by have := k1.size; simp; omega) (fun q hq => (own1.lt q hq).1)⟩
      case measure => simp [intOf]; omega
    · have hkn : k = n := by omega
      subst hkn
      have HT := Lib.hid (show l.take k = l by rw [List.take_of_length_le (by have := HL.out; omega)])
      rw [HT.out] at hown
      go_wp2
      go_ret
      obtain ⟨A', c', rfl, ho⟩ := own3_form hown
      exact ⟨A', c', rfl, ho, k0⟩
set_option maxRecDepth 100000 in
set_option maxHeartbeats 1000000 in
theorem clash_is (A A' : Option Addr) (n c n' c' : Nat) (l r : List (Int × Int × Int)) (B B' : Nat) (w : World) (h : Reads w B 3 A n (csP l)) (hB : B ≤ w.heap.size) (h' : Reads w B' 3 A' n' (csP r)) (hB' : B' ≤ w.heap.size) (hn : n ≤ 100) (ht : Tabs w) (hc : clashE l = (r, 0)) :
    Calls Tryd.prog 31 #[.slice A n c, .slice A' n' c'] w fun e w' => e = .returned (.bool true) ∧ Below w.heap.size w w' := by
  have q1 := Clashes_any A n c l B w h hB (by omega) ht
  rw [hc] at q1
  have hl' := h'.ptlen
  subst hl'
  go_enter Tryd.func31, Tryd.ntmps31
  go_wp2_with fail
  refine q1.mono ?_
  rintro e w1 ⟨A1, c1, rfl, h1, hb1⟩
  have q2 := same_any A1 A' r.length c1 c' r w1.heap.size B' w1 h1 (Nat.le_refl _) (h'.below hB' hb1) (Nat.le_trans hB' hb1.size)
  by_cases hlen : r.length ≤ 9223372036854775807
  · go_wp2_with fail
    refine (q2 hlen).mono ?_
    rintro e w2 ⟨rfl, hb2⟩
    go_wp2
    go_ret
    exact ⟨rfl, below_call hb1 hb2⟩
  · exfalso
    have hr : clashE l = (r, 0) := hc
    have hok : chordE l = 0 := by
      by_cases hz : chordE l = 0
      · exact hz
      · unfold clashE at hr
        rw [if_pos hz] at hr
        exact congrArg Prod.snd hr
    have : r = fullC l := by
      unfold clashE at hr
      rw [hok, if_neg (fun h => h rfl)] at hr
      exact (congrArg Prod.fst hr).symm
    have a1 := allC_len l l.length
    have a2 := (chordE_ok hok).1
    have a3 : l.length * l.length ≤ 8 * 8 := Nat.mul_le_mul a2 a2
    rw [this] at hlen
    unfold fullC at hlen
    omega
def strOf (l : List UInt8) : ByteArray := ⟨l.toArray⟩
theorem ex_p4 : kindE (0, 4, 0) (3, 4, 0) = (3, 0) ∧ kindE (3, 4, 0) (0, 4, 0) = (3, 0) := by decide +kernel
theorem ex_d5 : kindE (6, 3, 0) (3, 4, 0) = (4, 0) ∧ kindE (3, 4, 0) (6, 3, 0) = (4, 0) := by decide +kernel
theorem ex_up4 : upE (0, 4, 0) (3, 4, 0) = ((3, 5), 0) ∧ upE (3, 4, 0) (0, 4, 0) = ((3, 5), 0) := by decide +kernel
theorem ex_up5 : upE (6, 3, 0) (3, 4, 0) = ((4, 6), 0) ∧ upE (3, 4, 0) (6, 3, 0) = ((4, 6), 0) := by decide +kernel
theorem itoa_digit (v : Nat) (h : v < 10) : Lib.itoa (v : Int) = [UInt8.ofNat (48 + v)] := by rw [Lib.itoa_nonneg, Lib.decDigits, dif_pos h]
theorem nameE_of {p q : Int × Int × Int} {x : Int × Int} {c v : Nat} (hu : upE p q = (x, 0)) (hn : noneX x = false) (hl : letterX (simI x) = c) (hc : c ≠ 0) (hv : x.1 + 1 = (v : Int)) (h10 : v < 10) : nameE p q = (⟨#[UInt8.ofNat c, UInt8.ofNat (48 + v)]⟩, 0) := by
  have hx : nameX x = ⟨#[UInt8.ofNat c, UInt8.ofNat (48 + v)]⟩ := by
    unfold nameX
    rw [hn, hl, if_neg (by simp [hc]), hv, itoa_digit v h10]
    rfl
  unfold nameE
  rw [hu]
  simp only
  rw [hx, if_neg (fun h => h rfl), if_neg (fun h => by have := congrArg (fun b : ByteArray => b.data.size) h; simp at this)]
theorem ex_n4 : nameE (0, 4, 0) (3, 4, 0) = (⟨#[80, 52]⟩, 0) ∧ nameE (3, 4, 0) (0, 4, 0) = (⟨#[80, 52]⟩, 0) :=
  ⟨nameE_of (v := 4) ex_up4.1 (by decide +kernel) (show letterX (simI (3, 5)) = 80 by decide +kernel) (by decide) rfl (by decide), nameE_of (v := 4) ex_up4.2 (by decide +kernel) (show letterX (simI (3, 5)) = 80 by decide +kernel) (by decide) rfl (by decide)⟩
theorem ex_n5 : nameE (6, 3, 0) (3, 4, 0) = (⟨#[100, 53]⟩, 0) ∧ nameE (3, 4, 0) (6, 3, 0) = (⟨#[100, 53]⟩, 0) :=
  ⟨nameE_of (v := 5) ex_up5.1 (by decide +kernel) (show letterX (simI (4, 6)) = 100 by decide +kernel) (by decide) rfl (by decide), nameE_of (v := 5) ex_up5.2 (by decide +kernel) (show letterX (simI (4, 6)) = 100 by decide +kernel) (by decide) rfl (by decide)⟩
theorem ex_c1 : clashE (chordOf [25, 28, 30]) = ([(0, 1, 3)], 0) := by decide +kernel
theorem ex_c2 : clashE (chordOf [28, 30, 32, 35]) = ([], 0) := by decide +kernel
set_option maxRecDepth 100000 in
set_option maxHeartbeats 1000000 in
theorem awake_any (w : World) (ht : Tabs w) : Calls Tryd.prog 10 #[] w fun e w' => e = .returned (.bool true) ∧ Below w.heap.size w w' := by
  have p28 := fun W => lpitch_any 28 0 W (by omega) (by omega)
  have p31 := fun W => lpitch_any 31 0 W (by omega) (by omega)
  have p27 := fun W => lpitch_any 27 0 W (by omega) (by omega)
  have k4 := fun W hW => kind_named (0, 4, 0) (3, 4, 0) 3 ⟨#[80, 52]⟩ W hW ex_p4.1 ex_p4.2 ex_n4.1 ex_n4.2 (by decide +kernel)
  have k5 := fun W hW => kind_named (6, 3, 0) (3, 4, 0) 4 ⟨#[100, 53]⟩ W hW ex_d5.1 ex_d5.2 ex_n5.1 ex_n5.2 (by decide +kernel)
  go_enter Tryd.func10, Tryd.ntmps10
  go_wp2_with fail
  refine (p28 _).mono ?_
  rintro e w1 ⟨rfl, hb1⟩
  have hs1 : w.heap.size ≤ w1.heap.size := by have h := hb1.size; (try simp at h); omega
  go_wp2_with fail
  refine (p31 _).mono ?_
  rintro e w2 ⟨rfl, hb2⟩
  have hs2 : w.heap.size ≤ w2.heap.size := by have h := hb2.size; (try simp at h); omega
  go_wp2_with fail
  refine Calls.mono (k4 _ ?_) ?_
  · exact ht.kept (by repeat (first | exact Below.refl _ _ | refine below_drewN ?_ _ | refine Below.drew ?_ | refine below_alloc ?_ _ | (refine below_call ?_ (by assumption)) | (refine Below.setCell ?_ ?_ _; rotate_left; (simp; try omega))))
  rintro e w3 ⟨rfl, hb3⟩
  have hs3 : w.heap.size ≤ w3.heap.size := by have h := hb3.size; (try simp at h); omega
  go_wp2_with fail
  refine (p27 _).mono ?_
  rintro e w4 ⟨rfl, hb4⟩
  have hs4 : w.heap.size ≤ w4.heap.size := by have h := hb4.size; (try simp at h); omega
  go_wp2_with fail
  refine (p31 _).mono ?_
  rintro e w5 ⟨rfl, hb5⟩
  have hs5 : w.heap.size ≤ w5.heap.size := by have h := hb5.size; (try simp at h); omega
  go_wp2_with fail
  refine Calls.mono (k5 _ ?_) ?_
  · exact ht.kept (by repeat (first | exact Below.refl _ _ | refine below_drewN ?_ _ | refine Below.drew ?_ | refine below_alloc ?_ _ | (refine below_call ?_ (by assumption)) | (refine Below.setCell ?_ ?_ _; rotate_left; (simp; try omega))))
  rintro e w6 ⟨rfl, hb6⟩
  have hs6 : w.heap.size ≤ w6.heap.size := by have h := hb6.size; (try simp at h); omega
  have kb : Below w.heap.size w w6 := by repeat (first | exact Below.refl _ _ | refine below_drewN ?_ _ | refine Below.drew ?_ | refine below_alloc ?_ _ | (refine below_call ?_ (by assumption)) | (refine Below.setCell ?_ ?_ _; rotate_left; (simp; try omega)))
  go_wp2_with fail
  refine (lchord_any _ 3 3 [25, 28, 30] (w6.heap.size + 1) _ (Reads.new _ _ _ 3 1 rfl) (by simp) (by omega) (by decide)).mono ?_
  rintro e w7 ⟨A1, c1, rfl, ho, hb⟩
  have k7 := below_call (below_alloc kb _) hb
  go_wp2_with fail
  refine (clash_is A1 _ 3 c1 1 1 _ [(0, 1, 3)] w7.heap.size (w7.heap.size + 1) _ (ho.2.1.below (Nat.le_refl _) (below_alloc (Below.refl _ _) _)) (by simp) (Reads.new _ _ _ 1 3 rfl) (by simp) (by omega) (ht.kept (below_alloc k7 _)) ex_c1).mono ?_
  rintro e w8 ⟨rfl, hb8⟩
  have k8 := below_call (below_alloc k7 _) hb8
  go_wp2_with fail
  refine (lchord_any _ 4 4 [28, 30, 32, 35] (w8.heap.size + 1) _ (Reads.new _ _ _ 4 1 rfl) (by simp) (by omega) (by decide)).mono ?_
  rintro e w9 ⟨A2, c2, rfl, ho2, hb9⟩
  have k9 := below_call (below_alloc k8 _) hb9
  go_wp2_with fail
  refine (clash_is A2 none 4 c2 0 0 _ [] w9.heap.size w9.heap.size _ ho2.2.1 (Nat.le_refl _) Reads.none_ (Nat.le_refl _) (by omega) (ht.kept k9) ex_c2).mono ?_
  rintro e w10 ⟨rfl, hb10⟩
  have k10 := below_call k9 hb10
  go_wp2
  go_ret
  exact ⟨rfl, k10⟩
end Go.Proofs.YtmbnpblejhlefaaDoor
