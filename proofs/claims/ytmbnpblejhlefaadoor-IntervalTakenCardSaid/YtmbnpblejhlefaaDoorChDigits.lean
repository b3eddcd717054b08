/- The walk through the reference's digits. -/
import Derived.Test.YtmbnpblejhlefaaDoorChName
import Derived.Laws.BytesArg
namespace Go.Proofs.YtmbnpblejhlefaaDoor
open Go.RowKit
theorem itoa_one (v : Nat) (h : v < 10) : Lib.itoa (v : Int) = [UInt8.ofNat (48 + v)] := by rw [Lib.itoa_nonneg, Lib.decDigits, dif_pos h]
theorem itoa_two (v : Nat) (h : 10 ≤ v) (h2 : v < 100) : Lib.itoa (v : Int) = [UInt8.ofNat (48 + v / 10), UInt8.ofNat (48 + v % 10)] := by
  rw [Lib.itoa_nonneg, Lib.decDigits, dif_neg (by omega), Lib.decDigits, dif_pos (by omega)]; rfl
theorem str_one (W : World) (v : Nat) :
    (convert 100 9 (.slice (some ⟨W.heap.size, 0, none⟩) 1 1)).run Tryd.prog (W.alloc (.cells #[.int .u8 (48 + (v : Int))] 5)) = .ok (.string ⟨[UInt8.ofNat (48 + v)].toArray⟩) (W.alloc (.cells #[.int .u8 (48 + (v : Int))] 5)) := by
  have hst : strOfNums [48 + (v : Int)] = ⟨[UInt8.ofNat (48 + v)].toArray⟩ := by
    unfold strOfNums
    simp only [List.map_cons, List.map_nil]
    rw [show (48 + (v : Int)).toNat = 48 + v by omega]
  rw [← hst]
  refine run_convert_bytes_arg (P := Tryd.prog) (W.alloc (.cells #[.int .u8 (48 + (v : Int))] 5)) 100 5 Tryd.underlying100 Tryd.underlying5 W.heap.size 0 1 1 [48 + (v : Int)] rfl (fun i hi => ?_) 9 Tryd.underlying9
  obtain rfl : i = 0 := by omega
  exact (Blk.new W _ _).cell 0
theorem str_two (W : World) (v : Nat) :
    (convert 100 9 (.slice (some ⟨W.heap.size, 0, none⟩) 2 2)).run Tryd.prog (W.alloc (.cells #[.int .u8 (48 + (v : Int) / 10), .int .u8 (48 + (v : Int) % 10)] 5)) = .ok (.string ⟨[UInt8.ofNat (48 + v / 10), UInt8.ofNat (48 + v % 10)].toArray⟩) (W.alloc (.cells #[.int .u8 (48 + (v : Int) / 10), .int .u8 (48 + (v : Int) % 10)] 5)) := by
  have hst : strOfNums [48 + (v : Int) / 10, 48 + (v : Int) % 10] = ⟨[UInt8.ofNat (48 + v / 10), UInt8.ofNat (48 + v % 10)].toArray⟩ := by
    unfold strOfNums
    simp only [List.map_cons, List.map_nil]
    rw [show (48 + (v : Int) / 10).toNat = 48 + v / 10 by omega, show (48 + (v : Int) % 10).toNat = 48 + v % 10 by omega]
  rw [← hst]
  refine run_convert_bytes_arg (P := Tryd.prog) (W.alloc (.cells #[.int .u8 (48 + (v : Int) / 10), .int .u8 (48 + (v : Int) % 10)] 5)) 100 5 Tryd.underlying100 Tryd.underlying5 W.heap.size 0 2 2 [48 + (v : Int) / 10, 48 + (v : Int) % 10] rfl (fun i hi => ?_) 9 Tryd.underlying9
  obtain rfl | rfl : i = 0 ∨ i = 1 := by omega
  · exact (Blk.new W _ _).cell 0
  · exact (Blk.new W _ _).cell 1
set_option maxRecDepth 100000 in
set_option maxHeartbeats 400000 in
theorem rdigits_any (m : Nat) (w : World) (h0 : 1 ≤ m) (h1 : m ≤ 63) :
    Calls Tryd.prog 65 #[.int .i64 (m : Int)] w fun e w' => e = .returned (.string ⟨(Lib.itoa m).toArray⟩) ∧ Below w.heap.size w w' := by
  by_cases h10 : m < 10
  · have d : decide ((m : Int) < 10) = true := by simp; omega
    have kc := str_one w m
    have E0 := itoa_one m h10
    obtain ⟨tx, htx⟩ : ∃ t : ByteArray, t = ⟨(Lib.itoa (m : Int)).toArray⟩ := ⟨_, rfl⟩
    rw [← E0, ← htx] at kc
    have E := Lib.hid htx.symm
    clear htx E0
    go_enter Tryd.func65, Tryd.ntmps65
    go_wp2
    go_ret
    rw [E.out]
    exact ⟨rfl, by repeat (first | with_reducible exact Below.refl _ _ | with_reducible assumption | with_reducible refine below_drewN ?_ _ | with_reducible refine Below.drew ?_ | with_reducible refine below_alloc ?_ _ | (with_reducible refine Below.setCell ?_ ?_ _; rotate_left; ((try simp only); omega)))⟩
  · have d : decide ((m : Int) < 10) = false := by simp; omega
    have kc := str_two w m
    have E0 := itoa_two m (by omega) (by omega)
    obtain ⟨tx, htx⟩ : ∃ t : ByteArray, t = ⟨(Lib.itoa (m : Int)).toArray⟩ := ⟨_, rfl⟩
    rw [← E0, ← htx] at kc
    have E := Lib.hid htx.symm
    clear htx E0
    go_enter Tryd.func65, Tryd.ntmps65
    go_wp2
    go_ret
    rw [E.out]
    exact ⟨rfl, by repeat (first | with_reducible exact Below.refl _ _ | with_reducible assumption | with_reducible refine below_drewN ?_ _ | with_reducible refine Below.drew ?_ | with_reducible refine below_alloc ?_ _ | (with_reducible refine Below.setCell ?_ ?_ _; rotate_left; ((try simp only); omega)))⟩
end Go.Proofs.YtmbnpblejhlefaaDoor
