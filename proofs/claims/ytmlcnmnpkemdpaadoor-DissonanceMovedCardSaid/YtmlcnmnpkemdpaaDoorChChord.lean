
/- The walks through the check of a chord and its bass, the program's and the reference's. -/
import Derived.Test.YtmlcnmnpkemdpaaDoorChLists
import Derived.Test.YtmlcnmnpkemdpaaDoorChMadeKind
namespace Go.Proofs.YtmlcnmnpkemdpaaDoor
open Go.RowKit
theorem firstE_drop {l : List (Int × Int × Int)} {k : Nat} {x : Int × Int × Int} (h : l[k]? = some x) (hx : pchk x = 0) : firstE (l.drop k) = firstE (l.drop (k + 1)) := by
  rw [drop_get h]
  conv => lhs; unfold firstE
  rw [if_neg (by rw [hx]; exact fun h => h rfl)]
theorem firstE_bad {l : List (Int × Int × Int)} {k : Nat} {x : Int × Int × Int} (h : l[k]? = some x) (hx : pchk x ≠ 0) : firstE (l.drop k) = pchk x := by
  rw [drop_get h]
  unfold firstE
  rw [if_pos hx]
set_option maxRecDepth 100000 in
set_option maxHeartbeats 1000000 in
theorem chCheck_any (A : Option Addr) (n c : Nat) (l : List (Int × Int × Int)) (B : Nat) (w : World) (h : Reads w B 3 A n (csP l)) (hB : B ≤ w.heap.size) (hn : n ≤ 9223372036854775807) :
    Calls Tryd.prog 45 #[.slice A n c] w fun e w' => e = .returned (.int .i64 (chordE l)) ∧ Below w.heap.size w w' := by
  have HL : Hid (l.length = n) := Lib.hid h.ptlen
  by_cases h8 : 8 < n
  · have E := Lib.hid (show chordE l = 11 by unfold chordE; rw [if_pos (by rw [HL.out]; exact h8)])
    have d1 : decide ((8 : Int) < (n : Int)) = true := by simp; omega
    go_enter Tryd.func45, Tryd.ntmps45
    go_wp2
    go_ret
    rw [E.out]
    exact ⟨rfl, Below.refl _ _⟩
  · have E := Lib.hid (show chordE l = firstE l by unfold chordE; rw [if_neg (by rw [HL.out]; exact h8)])
    have d1 : decide ((8 : Int) < (n : Int)) = false := by simp; omega
    go_enter Tryd.func45, Tryd.ntmps45
    go_wp2
    go_loopw [4, 5, 11] (fun _ _ i wr => ∃ k : Nat, k ≤ n ∧ i = .int .i64 k ∧ Hid (firstE l = firstE (l.drop k)) ∧ Below w.heap.size w wr) (fun _ _ i _ => n - (intOf i).toNat)
    case atStart => exact ⟨0, by omega, rfl, Lib.hid rfl, Below.refl _ _⟩
    case round =>
      obtain ⟨k, hk, rfl, hf, k0⟩ := hrel
      by_cases hlt : k < n
      · have hlt' : (k : Int) < (n : Int) := by omega
        obtain ⟨x, hx⟩ := get_some (l := l) (k := k) (by have := HL.out; omega)
        obtain ⟨b, off, rfl, hab, c0, c1, c2⟩ := h.pt hB k0 hlt hx
        by_cases hz : pchk x = 0
        · have HF := Lib.hid (hf.out.trans (firstE_drop hx hz))
          have hb : (pchk x != 0) = false := by simpa using hz
          obtain ⟨p, q, r⟩ := x
          clear hx hz
          simp only at c0 c1 c2
          go_wp2_with (go_at_call 63; refine (pcheck_any (_, _, _) _).mono ?_; rintro e w1 ⟨rfl, hb1⟩; have k2 := below_call (below_alloc k0 _) hb1)
          go_roundw
          case rel => exact ⟨k + 1, by omega, by go_num, HF, k2⟩
          case measure => simp [intOf]; omega
        · have HF := Lib.hid (hf.out.trans (firstE_bad hx hz))
          have hb : (pchk x != 0) = true := by simpa using hz
          obtain ⟨p, q, r⟩ := x
          clear hx hz
          simp only at c0 c1 c2
          go_wp2_with (go_at_call 63; refine (pcheck_any (_, _, _) _).mono ?_; rintro e w1 ⟨rfl, hb1⟩; have k2 := below_call (below_alloc k0 _) hb1)
          go_ret
          rw [E.out, HF.out]
          exact ⟨rfl, k2⟩
      · have hd : firstE l = 0 := by rw [hf.out, List.drop_eq_nil_of_le (by have := HL.out; omega)]; rfl
        have HD := Lib.hid hd; clear hd
        go_wp2
        go_ret
        rw [E.out, HD.out]
        exact ⟨rfl, k0⟩
end Go.Proofs.YtmlcnmnpkemdpaaDoor
