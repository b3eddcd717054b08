/- The walk through many: how many clashes have a kind. -/
import Derived.Test.YtmbnpblejhlefaaDoorChChordMath
namespace Go.Proofs.YtmbnpblejhlefaaDoor
open Go.RowKit
set_option maxRecDepth 100000 in
set_option maxHeartbeats 1000000 in
theorem many_any (A : Option Addr) (n c : Nat) (l : List (Int × Int × Int)) (K : Int) (B : Nat) (w : World) (h : Reads w B 3 A n (csP l)) (hB : B ≤ w.heap.size) (hn : n ≤ 1000000) :
    Calls Tryd.prog 37 #[.slice A n c, .int .i64 K] w fun e w' => e = .returned (.int .i64 (l.countP (fun c => c.2.2 == K) : Nat)) ∧ Below w.heap.size w w' := by
  have HL : Hid (l.length = n) := Lib.hid h.ptlen
  go_enter Tryd.func37, Tryd.ntmps37
  go_wp2
  go_loopw [5, 6] (fun m i wr => ∃ k c : Nat, k ≤ n ∧ i = .int .i64 k ∧ m = .int .i64 c ∧ c ≤ k ∧ Hid ((l.take k).countP (fun c => c.2.2 == K) = c) ∧ Below w.heap.size w wr) (fun _ i _ => n - (intOf i).toNat)
  case atStart => exact ⟨0, 0, by omega, rfl, rfl, by omega, Lib.hid rfl, Below.refl _ _⟩
  case round =>
    obtain ⟨k, m, hk, rfl, rfl, hmk, hm, k0⟩ := hrel
    by_cases hlt : k < n
    · have hlt' : (k : Int) < (n : Int) := by omega
      obtain ⟨x, hx⟩ := get_some (l := l) (k := k) (by have := HL.out; omega)
      have HT : Hid ((l.take (k + 1)).countP (fun c => c.2.2 == K) = m + if x.2.2 == K then 1 else 0) := Lib.hid (by rw [take_get hx, List.countP_append, hm.out, List.countP_singleton])
      obtain ⟨b, off, rfl, hab, c0, c1, c2⟩ := h.pt hB k0 hlt hx
      obtain ⟨x0, x1, x2⟩ := x
      simp only at c0 c1 c2
      clear hx hm
      by_cases hxK : x2 = K
      · subst hxK
        have HT : Hid ((l.take (k + 1)).countP (fun c => c.2.2 == x2) = m + 1) := Lib.hid (by have := HT.out; simp only [beq_self_eq_true] at this; exact this)
        go_wp2
        go_roundw
        case rel => exact ⟨k + 1, m + 1, by omega, by go_num, by go_num, by omega, HT, k0⟩
        case measure => simp [intOf]; omega
      · have dk : (x2 == K) = false := by simpa using hxK
        have HT : Hid ((l.take (k + 1)).countP (fun c => c.2.2 == K) = m) := Lib.hid (by have := HT.out; simp only [dk] at this; exact this)
        go_wp2
        go_roundw
        case rel => exact ⟨k + 1, m, by omega, by go_num, rfl, by omega, HT, k0⟩
        case measure => simp [intOf]; omega
    · have hkn : k = n := by omega
      subst hkn
      have HT := Lib.hid (show l.countP (fun c => c.2.2 == K) = m by have := hm.out; rwa [List.take_of_length_le (by have := HL.out; omega)] at this)
      clear hm
      go_wp2
      go_ret
      rw [HT.out]
      exact ⟨rfl, k0⟩
end Go.Proofs.YtmbnpblejhlefaaDoor
