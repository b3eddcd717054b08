/- The walks through the readers of texts: span.number, span.Parse, and the reference's. -/
import Derived.Test.YtfafjdbdpbjklaaDoorSpanC
import Derived.Test.YtfafjdbdpbjklaaDoorReadMath
import Derived.Laws.RangeAny
import Derived.Laws.RangeString
import Derived.Laws.Strings
import Derived.Laws.Runes
namespace Go.Proofs.YtfafjdbdpbjklaaDoor
open Go.RowKit

theorem below_iter {w W : World} (h : Below w.heap.size w W) (s : ByteArray) (pos : Nat) : Below w.heap.size w (W.iter s pos) := h.alloc h.size _

theorem empty_of (s : ByteArray) (h : s.toList.isEmpty = true) : s.data.toList = [] := by
  rw [ByteArray.toList_eq] at h; simpa using h
theorem nonempty_of (s : ByteArray) (h : s.toList.isEmpty = false) : s.data.toList ≠ [] := by
  rw [ByteArray.toList_eq] at h; intro e; rw [e] at h; exact absurd h (by simp)

set_option maxHeartbeats 1000000 in
theorem number_any (s : ByteArray) (w : World) (hs : (s.size : Int) ≤ 9223372036854775807) :
    Calls Tryd.prog 54 #[.string s] w fun e w' => e = .returned (.tuple #[.int .i64 (numS s.data.toList).1, .bool (numS s.data.toList).2]) ∧ Below w.heap.size w w' := by
  have hlen : s.data.toList.length = s.size := by rw [Array.length_toList]; rfl
  by_cases hE : s.toList.isEmpty = true
  · go_enter Tryd.func54, Tryd.ntmps54
    go_wp2_with fail
    go_ret2
    have hv : numS s.data.toList = (0, false) := by unfold numS; rw [if_pos (Or.inl (empty_of s hE))]
    rw [hv]
    exact ⟨rfl, Below.refl _ _⟩
  · have hE : s.toList.isEmpty = false := by simpa using hE
    have hne := nonempty_of s hE
    have h1 : 0 < s.size := by
      rw [← hlen]; exact List.length_pos_iff.2 hne
    have hd : s.data.toList.head? = some (s[0]'h1) := by
      have := drop_cons s 0 h1
      rw [List.drop_zero] at this; rw [this]; rfl
    have hloop : ¬ (((s[0]'h1).toNat : Int) = 48 ∧ 1 < s.size) → Hid (numS s.data.toList = numR (s.data.toList.drop 0) 0) := by
      intro hh
      refine Lib.hid ?_
      unfold numS
      rw [if_neg, List.drop_zero]
      rintro (hx | ⟨hx, hy⟩)
      · exact hne hx
      · rw [hd] at hx
        refine hh ⟨?_, by omega⟩
        have := Option.some.inj hx
        rw [this]; rfl
    have hzero : ((s[0]'h1).toNat : Int) = 48 → 1 < s.size → numS s.data.toList = (0, false) := by
      intro hh hy
      unfold numS
      rw [if_pos]
      refine Or.inr ⟨?_, by omega⟩
      rw [hd]
      congr 1
      apply UInt8.toNat_inj.1
      rw [show (s[0]'h1).toNat = 48 by omega]; rfl
    have hne := Lib.hid hne
    have hd := Lib.hid hd
    have hlen := Lib.hid hlen
    by_cases hh : ((s[0]'h1).toNat : Int) = 48 ∧ 1 < s.size
    · obtain ⟨hh, hk⟩ := hh
      have hz := Lib.hid (hzero hh hk)
      go_enter Tryd.func54, Tryd.ntmps54
      go_wp2
      go_ret2
      rw [hz.out]
      exact ⟨rfl, Below.refl _ _⟩
    · have hz := hloop hh
      clear hzero hloop hne hd
      go_enter Tryd.func54, Tryd.ntmps54
      go_wp2
      all_goals
        go_loopw [4] (fun n w' => ∃ (pos : Nat) (acc : Int), w' = w.iter s pos ∧ n = .int .i64 acc ∧ 0 ≤ acc ∧ acc ≤ 288230376151711744 ∧ Hid (numS s.data.toList = numR (s.data.toList.drop pos) acc)) (fun _ w' => s.size - w'.iterPos w.heap.size)
        case atStart => exact ⟨0, 0, rfl, rfl, by omega, by omega, hz⟩
        case round =>
          obtain ⟨pos, acc, rfl, rfl, c1, c2, hg⟩ := hrel
          by_cases hp : pos < s.size
          · have hdr := drop_cons s pos hp
            by_cases ha : (s[pos]'hp).toNat < 128
            · have hnx : ∀ ty, (Instr.next (.pointer (some ⟨w.heap.size, 0, none⟩)) true ty).run Tryd.prog (w.iter s pos) = _ := fun ty => run_next_ascii w s pos ty hp ha
              rw [hdr] at hg
              clear hdr
              by_cases hv : ((s[pos]'hp).toNat : Int) < 48 ∨ 57 < ((s[pos]'hp).toNat : Int)
              · have hn := Lib.hid (hg.out.trans (numR_bad _ _ _ hv))
                clear hg
                go_wp2
                all_goals
                  go_ret2
                  rw [hn.out]
                  exact ⟨rfl, below_iter (Below.refl _ _) _ _⟩
              · have hn := Lib.hid (hg.out.trans (numR_dig _ _ _ hv))
                clear hg
                have hw1 : IntKind.i64.wrap (10 * acc) = 10 * acc := Go.wrap_small _ (by omega) (by omega)
                have hw2 : IntKind.i64.wrap (10 * acc + (((s[pos]'hp).toNat : Int) - 48)) = 10 * acc + (((s[pos]'hp).toNat : Int) - 48) := Go.wrap_small _ (by omega) (by omega)
                go_wp2
                all_goals
                  refine ⟨⟨pos + 1, _, rfl, rfl, by omega, by omega, ?_⟩, by simp; omega⟩
                  refine Lib.hid (hn.out.trans ?_)
                  first | rw [if_pos (by omega)] | rw [if_neg (by omega)]
            · have hhi := decode_high s pos hp (by omega)
              have hnx : ∀ ty, (Instr.next (.pointer (some ⟨w.heap.size, 0, none⟩)) true ty).run Tryd.prog (w.iter s pos) = _ := fun ty => run_next_any w s pos ty hp
              obtain ⟨hi1, hi2⟩ := hhi
              rw [hdr] at hg
              have hn := Lib.hid (hg.out.trans (numR_bad _ _ _ (by omega)))
              clear hg hdr
              go_wp2
              all_goals
                go_ret2
                rw [hn.out]
                exact ⟨rfl, below_iter (Below.refl _ _) _ _⟩
          · have hnx : ∀ ty, (Instr.next (.pointer (some ⟨w.heap.size, 0, none⟩)) true ty).run Tryd.prog (w.iter s pos) = _ := fun ty => run_next_end w s pos ty hp
            rw [drop_end s pos hp] at hg
            go_wp2
            all_goals
              go_ret2
              rw [hg.out]
              exact ⟨rfl, below_iter (Below.refl _ _) _ _⟩

theorem list_extract (s : ByteArray) (a b : Nat) : (s.extract a b).data.toList = (s.data.toList.take b).drop a := by
  rw [ByteArray.data_extract, Array.toList_extract, List.extract_eq_take_drop, List.drop_take]
theorem plain_bad (s : ByteArray) (h : s.data.toList.all (fun b => decide (dig b)) = false) : plainS s.data.toList = false := by
  unfold plainS; rw [h]; rfl
theorem plain_end1 (s : ByteArray) (h : s.toList = [48]) : plainS s.data.toList = true := by
  rw [ByteArray.toList_eq] at h; rw [h]; decide +kernel
theorem plain_end2 (s : ByteArray) (h : s.data.toList.all (fun b => decide (dig b)) = true) (hn : ¬ s.toList = [48]) (h1 : 0 < s.size) : plainS s.data.toList = (((s[0]'h1).toNat : Int) != 48) := by
  rw [ByteArray.toList_eq] at hn
  have hd := drop_cons s 0 h1
  rw [List.drop_zero] at hd
  unfold plainS
  rw [h]
  generalize (s[0]'h1) = b at hd ⊢
  rw [hd] at hn ⊢
  have e1 : ((b :: List.drop (0 + 1) s.data.toList) == [48]) = false := by simpa using hn
  rw [e1]
  by_cases hb : b = 48
  · subst hb; simp
  · have : ¬ ((b.toNat : Int) = 48) := by
      intro hc
      apply hb
      apply UInt8.toNat_inj.1
      rw [show b.toNat = 48 by omega]; rfl
    have e2 : (b == 48) = false := by simpa using hb
    have e3 : ((b.toNat : Int) != 48) = true := by simpa using this
    rw [e3]; simp [e2]
theorem plain_end3 (s : ByteArray) (h1 : ¬ 0 < s.size) : plainS s.data.toList = false := by
  have := drop_end s 0 h1
  rw [List.drop_zero] at this
  rw [this]; rfl

set_option maxHeartbeats 1000000 in
theorem plain_any (s : ByteArray) (w : World) (hs : (s.size : Int) ≤ 9223372036854775806) :
    Calls Tryd.prog 55 #[.string s] w fun e w' => e = .returned (.bool (plainS s.data.toList)) ∧ Below w.heap.size w w' := by
  go_enter Tryd.func55, Tryd.ntmps55
  go_wp2
  go_loopw [3] (fun n w' => ∃ (pos : Nat), w' = w ∧ n = .int .i64 pos ∧ pos ≤ s.size ∧ Hid (s.data.toList.all (fun b => decide (dig b)) = (s.data.toList.drop pos).all (fun b => decide (dig b)))) (fun n _ => s.size - (intOf n).toNat)
  case atStart => exact ⟨0, rfl, rfl, by omega, Lib.hid (by rw [List.drop_zero])⟩
  case round =>
    obtain ⟨pos, rfl, rfl, hle, hg⟩ := hrel
    by_cases hp : pos < s.size
    · have hdr := drop_cons s pos hp
      rw [hdr] at hg
      clear hdr
      by_cases hv : dig (s[pos]'hp)
      · have hn := Lib.hid (show s.data.toList.all (fun b => decide (dig b)) = (s.data.toList.drop (pos + 1)).all (fun b => decide (dig b)) by rw [hg.out, List.all_cons, decide_eq_true hv, Bool.true_and])
        unfold dig at hv
        clear hg
        go_wp2
        refine ⟨⟨pos + 1, trivial, by simp, by omega, hn⟩, by simp [intOf]; omega⟩
      · have hn := Lib.hid (show s.data.toList.all (fun b => decide (dig b)) = false by rw [hg.out, List.all_cons, decide_eq_false hv, Bool.false_and])
        unfold dig at hv
        clear hg
        go_wp2
        all_goals first
          | (go_ret; exact ⟨ret_bool (plain_bad s hn.out).symm, Below.refl _ _⟩)
          | (exfalso; omega)
    · have hn := Lib.hid (show s.data.toList.all (fun b => decide (dig b)) = true by rw [hg.out, drop_end s pos hp]; rfl)
      clear hg
      go_wp2
      · go_ret
        exact ⟨ret_bool (plain_end1 s (by assumption)).symm, Below.refl _ _⟩
      · go_ret
        exact ⟨ret_bool (plain_end2 s hn.out (by assumption) (by assumption)).symm, Below.refl _ _⟩
      · go_ret
        exact ⟨ret_bool (plain_end3 s (by omega)).symm, Below.refl _ _⟩

theorem wrap_u8 (n : Int) (h0 : 0 ≤ n) (h1 : n < 256) : IntKind.u8.wrap n = n := by
  simp [IntKind.wrap, IntKind.bits, IntKind.signed]; omega
set_option maxHeartbeats 1000000 in
theorem refNumber_any (s : ByteArray) (most : Int) (w : World) (hs : (s.size : Int) ≤ 9223372036854775806) (hm0 : 0 ≤ most) (hm : most ≤ 1099511627776) (hd : ∀ b ∈ s.data.toList, dig b) :
    Calls Tryd.prog 56 #[.string s, .int .i64 most] w fun e w' => e = .returned (.tuple #[.int .i64 (numT most s.data.toList 0).1, .bool (numT most s.data.toList 0).2]) ∧ Below w.heap.size w w' := by
  go_enter Tryd.func56, Tryd.ntmps56
  go_wp2
  go_loopw [6, 7] (fun a n w' => ∃ (pos : Nat) (acc : Int), w' = w ∧ n = .int .i64 pos ∧ a = .int .i64 acc ∧ 0 ≤ acc ∧ acc ≤ most ∧ pos ≤ s.size ∧ Hid (numT most s.data.toList 0 = numT most (s.data.toList.drop pos) acc)) (fun _ n _ => s.size - (intOf n).toNat)
  case atStart => exact ⟨0, 0, rfl, rfl, rfl, by omega, by omega, by omega, Lib.hid (by rw [List.drop_zero])⟩
  case round =>
    obtain ⟨pos, acc, rfl, rfl, rfl, h1, h2, hle, hg⟩ := hrel
    by_cases hp : pos < s.size
    · have hdr := drop_cons s pos hp
      have hb : dig (s[pos]'hp) := hd _ (List.mem_of_mem_drop (by rw [hdr]; simp))
      rw [hdr] at hg
      clear hdr
      unfold dig at hb
      have hw0 : IntKind.u8.wrap (((s[pos]'hp).toNat : Int) - 48) = ((s[pos]'hp).toNat : Int) - 48 := wrap_u8 _ (by omega) (by omega)
      have hw1 : IntKind.i64.wrap (10 * acc) = 10 * acc := Go.wrap_small _ (by omega) (by omega)
      have hw2 : IntKind.i64.wrap (10 * acc + (((s[pos]'hp).toNat : Int) - 48)) = 10 * acc + (((s[pos]'hp).toNat : Int) - 48) := Go.wrap_small _ (by omega) (by omega)
      have hn := Lib.hid (hg.out.trans (by rw [numT] : _ = if most < 10 * acc + (((s[pos]'hp).toNat : Int) - 48) then (0, false) else numT most (s.data.toList.drop (pos + 1)) (10 * acc + (((s[pos]'hp).toNat : Int) - 48))))
      clear hg
      go_wp2
      · go_ret2
        rw [hn.out, if_pos (by omega)]
        exact ⟨rfl, Below.refl _ _⟩
      · refine ⟨⟨pos + 1, _, trivial, by simp, rfl, by omega, by omega, by omega, Lib.hid (hn.out.trans ?_)⟩, by simp [intOf]; omega⟩
        rw [if_neg (by omega)]
    · have hn := Lib.hid (hg.out.trans (by rw [drop_end s pos hp]; rfl : _ = (acc, true)))
      clear hg
      go_wp2
      go_ret2
      rw [hn.out]
      exact ⟨rfl, Below.refl _ _⟩
end Go.Proofs.YtfafjdbdpbjklaaDoor
