/- The retrograde, the reference's walk; the copy of a list of events. -/
import Derived.Test.YtiphacmmglohaaaChain
namespace Go.Proofs.Ytiphacmmglohaaa
open Go.RowKit
@[go_sem] theorem eql_nilE (w : World) (A : Option Addr) (n c : Nat) : (binOp .eql 22 (.slice A n c) (.slice none 0 0)).run Try.prog w = .ok (.bool A.isNone) w := by
  unfold binOp
  simp [run_equal_slice_nil w _ _ A n c Try.underlying22]
set_option maxRecDepth 100000 in
set_option maxHeartbeats 1000000 in
theorem cloneE_any (A : Option Addr) (n c : Nat) (l : List Ev) (B : Nat) (w : World) (h : Reads w B 10 A n (csE l)) (hB : B ≤ w.heap.size) (hn : n ≤ 5000) :
    Calls Try.prog 56 #[.slice A n c] w fun e w' => ∃ A' c', e = .returned (.slice A' n c') ∧ OwnE w' w.heap.size n A' c' l ∧ Below w.heap.size w w' := by
  obtain ⟨i0, hi0, hz0, hz1, hz2⟩ := info_parts event_info
  cases A with
  | none =>
    have h0 := h.none_len rfl
    subst h0
    have hl : l = [] := List.eq_nil_of_length_eq_zero h.evlen
    subst hl
    go_enter Try.func56, Try.ntmps56
    go_wp2
    go_ret
    exact ⟨none, 0, rfl, OwnE.nil_ _ _, Below.refl _ _⟩
  | some ad =>
    go_enter Try.func56, Try.ntmps56
    go_wp2_with (at_builtin; (refine wpList_append_any _ rfl (.tmp 5) (.tmp 6) _ rfl w.heap.size 59 i0 _ 10 80 Try.underlying22 hi0 hz0 hz1 hz2 rfl (by omega) (.slice (some ⟨w.heap.size, 0, none⟩) 0 0) 0 [] rfl (World.ownsRow_lit w #[] 0 (Nat.le_refl _) (by simp [maxLen]) rfl) B (some ad) n c (csE l) rfl (h.below hB (below_alloc (Below.refl _ _) _)) (one_csE l) (by simp only [maxLen]; omega) (by omega) (by simp) ?_); intro v1 w1 hown1 hg1 hat1)
    go_ret
    simp only [Nat.zero_add, List.nil_append] at hown1
    obtain ⟨A', c', e, ho⟩ := ownE_form hown1
    subst e
    exact ⟨A', c', rfl, ho, (below_alloc (Below.refl _ _) _).grown hg1 (by simp) (fun k hk => by simp [Value.ownBlock] at hk; omega)⟩
set_option maxRecDepth 100000 in
set_option maxHeartbeats 1000000 in
theorem refRetro_any (A : Option Addr) (n c : Nat) (l : List Ev) (B : Nat) (w : World) (h : Reads w B 10 A n (csE l)) (hB : B ≤ w.heap.size) (hn : n ≤ 5000) :
    Calls Try.prog 22 #[.slice A n c] w fun e w' => ∃ A' c', e = .returned (.tuple #[.slice A' (retroS l).1.length c', .int .i64 (retroS l).2]) ∧ OwnE w' w.heap.size (retroS l).1.length A' c' (retroS l).1 ∧ Below w.heap.size w w' := by
  have HL := Lib.hid h.evlen
  have hc := refEvCheck_any A n c l B w h hB (by omega)
  obtain ⟨i0, hi0, hz0, hz1, hz2⟩ := info_parts event_info
  obtain ⟨⟨y, z⟩, hy⟩ : ∃ y, y = checkS l := ⟨_, rfl⟩
  rw [← hy] at hc
  by_cases hz : y = 0
  · subst hz
    have E := Lib.hid (show retroS l = chainS l.reverse by unfold retroS; rw [← hy, if_neg (fun h => h rfl)])
    clear hy
    go_enter Try.func22, Try.ntmps22
    go_wp2_with (go_at_call 57; refine hc.mono ?_; rintro e w1 ⟨rfl, hb1⟩)
    go_loopw [6, 7] (fun v i wr => ∃ m : Nat, m ≤ n ∧ i = .int .i64 ((m : Int) - 1) ∧ wr.ownsRow w.heap.size 59 10 v (n - m) (csE (l.drop m).reverse) ∧ Below w.heap.size w wr) (fun _ i _ => (intOf i + 1).toNat)
    case atStart => exact ⟨n, Nat.le_refl _, rfl, by rw [List.drop_eq_nil_of_le (by have := HL.out; omega), Nat.sub_self]; exact ⟨rfl, .inl ⟨rfl, rfl⟩⟩, by repeat (first | exact Below.refl _ _ | assumption | refine below_drewN ?_ _ | refine Below.drew ?_ | refine below_alloc ?_ _ | (refine below_call ?_ (by assumption)) | (refine Below.setCell ?_ ?_ _; rotate_left; (simp; try omega)))⟩
    case round =>
      obtain ⟨m, hm, rfl, hown, k0⟩ := hrel
      obtain ⟨A', c', rfl, ho⟩ := ownE_form hown
      cases m with
      | zero =>
        rw [show ((0 : Nat) : Int) - 1 = -1 by omega]
        simp only [List.drop_zero, Nat.sub_zero] at hown ho
        go_wp2_with (go_at_call 44; refine (chain_any A' n c' l.reverse wr.heap.size wr ho.2.1 (Nat.le_refl _) hn).mono ?_; rintro e w2 ⟨A2, c2, rfl, ho2, hb2⟩)
        go_ret2
        rw [E.out]
        exact ⟨A2, c2, rfl, ho2.lower k0.size, below_call k0 hb2⟩
      | succ k =>
        rw [show ((k + 1 : Nat) : Int) - 1 = (k : Int) by omega]
        obtain ⟨x, hx⟩ := get_some (l := l) (k := k) (by have := HL.out; omega)
        have HD := Lib.hid (drop_get hx)
        obtain ⟨b, off, rfl, hab, hcl⟩ := h.ev hB k0 (by omega) hx
        obtain ⟨⟨a, a'⟩, ⟨d, d'⟩, ⟨p, q, r⟩, rst, sg, ps⟩ := x
        obtain ⟨c0, c1, c2, c3, c4, c5, c6, c7, c8, c9⟩ := ten hcl
        clear hcl hx
        simp only at c0 c1 c2 c3 c4 c5 c6 c7 c8 c9
        have hkn : (k : Int) < (n : Int) := by omega
        go_wp2_with (at_builtin; (refine wpList_append_any _ rfl (.tmp 23) (.tmp 28) 22 rfl w.heap.size 59 i0 _ 10 80 Try.underlying22 hi0 hz0 hz1 hz2 rfl (by omega) (.slice A' (n - (k + 1)) c') (n - (k + 1)) (csE (l.drop (k + 1)).reverse) rfl (own_call hown (by repeat (first | exact Below.refl _ _ | refine below_drewN ?_ _ | refine Below.drew ?_ | refine below_alloc ?_ _ | (refine below_call ?_ (by assumption)) | (refine Below.setCell ?_ ?_ _; rotate_left; (simp; try omega))))) (wr.heap.size + 1) (some ⟨wr.heap.size, 0, none⟩) 1 1 (csE [⟨(a, a'), (d, d'), (p, q, r), rst, sg, ps⟩]) rfl (Reads.newAt _ _ _ 1 10 _ rfl rfl) (one_csE _) (by simp only [maxLen]; omega) (by omega) (by have := k0.size; simp; omega) ?_); intro v1 w1 hown1 hg1 hat1)
        go_roundw
        case rel =>
          refine ⟨k, by omega, rfl, ?_, Below.grown (B := w.heap.size) (a := w) (by repeat (first | exact Below.refl _ _ | assumption | refine below_drewN ?_ _ | refine Below.drew ?_ | refine below_alloc ?_ _ | (refine below_call ?_ (by assumption)) | (refine Below.setCell ?_ ?_ _; rotate_left; (simp; try omega)))) hg1 (by have := k0.size; simp; omega) (fun j hj => (hown.lt j hj).1)⟩
          rw [HD.out, List.reverse_cons, csE_append, show n - k = n - (k + 1) + 1 by omega]
          exact hown1
        case measure => simp [intOf]
  · have hz' : (y != 0) = true := by simpa using hz
    have E := Lib.hid (show retroS l = ([], y) by unfold retroS; rw [← hy, if_pos hz])
    clear hy
    go_enter Try.func22, Try.ntmps22
    go_wp2_with (go_at_call 57; refine hc.mono ?_; rintro e w1 ⟨rfl, hb1⟩)
    go_ret2
    rw [E.out]
    exact ⟨none, 0, rfl, OwnE.nil_ _ _, by repeat (first | exact Below.refl _ _ | assumption | refine below_drewN ?_ _ | refine Below.drew ?_ | refine below_alloc ?_ _ | (refine below_call ?_ (by assumption)) | (refine Below.setCell ?_ ?_ _; rotate_left; (simp; try omega)))⟩
end Go.Proofs.Ytiphacmmglohaaa
