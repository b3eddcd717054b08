
/- The walks through Bass and Clashes, the program's and the reference's, and through the tests of equal lists. -/
import Derived.Test.YtmlcnmnpkemdpaaDoorChClash
namespace Go.Proofs.YtmlcnmnpkemdpaaDoor
open Go.RowKit
set_option maxRecDepth 100000 in
set_option maxHeartbeats 1000000 in
theorem Clashes_any (A : Option Addr) (n c : Nat) (l : List (Int × Int × Int)) (B : Nat) (w : World) (h : Reads w B 3 A n (csP l)) (hB : B ≤ w.heap.size) (hn : n ≤ 9223372036854775807) (ht : Tabs w) :
    Calls Tryd.prog 31 #[.slice A n c] w fun e w' => ∃ A' c', e = .returned (.tuple #[.slice A' (clashE l).1.length c', .int .i64 (clashE l).2]) ∧ Reads w' w'.heap.size 3 A' (clashE l).1.length (csP (clashE l).1) ∧ Below w.heap.size w w' := by
  have HL : Hid (l.length = n) := Lib.hid h.ptlen
  have q1 := chCheck_any A n c l B w h hB hn
  by_cases hz : chordE l = 0
  · rw [hz] at q1
    have hok := chordE_ok hz
    have E := Lib.hid (show clashE l = (fullC l, 0) by unfold clashE; rw [hz, if_neg (fun h => h rfl)])
    have q2 := fun W (hW : Below w.heap.size w W) => clashes_ok A n c l (-1) B W (h.below hB hW) (Nat.le_trans hB hW.size) (by have := HL.out; omega) hok.2 (ht.kept hW) (Or.inl rfl)
    clear hz
    go_enter Tryd.func31, Tryd.ntmps31
    go_wp2_with fail
    refine q1.mono ?_
    rintro e w1 ⟨rfl, hb1⟩
    go_wp2_with fail
    refine Calls.mono (q2 _ hb1) ?_
    rintro e w2 ⟨r, A', c', rfl, ho, hb2, hf⟩
    go_wp2
    go_ret2
    obtain rfl := hf.1 rfl
    rw [E.out]
    exact ⟨A', c', rfl, ho.2.1, below_call hb1 hb2⟩
  · have E := Lib.hid (show clashE l = ([], chordE l) by unfold clashE; rw [if_pos hz])
    have hb : (chordE l != 0) = true := by simpa using hz
    clear hz
    go_enter Tryd.func31, Tryd.ntmps31
    go_wp2_with fail
    refine (q1).mono ?_
    rintro e w1 ⟨rfl, hb1⟩
    have hs1 : w.heap.size ≤ w1.heap.size := by have h := hb1.size; (try simp at h); omega
    go_wp2
    go_ret2
    rw [E.out]
    exact ⟨none, 0, rfl, Reads.none_, by repeat (first | exact Below.refl _ _ | refine below_drewN ?_ _ | refine Below.drew ?_ | refine below_alloc ?_ _ | (refine below_call ?_ (by assumption)) | (refine Below.setCell ?_ ?_ _; rotate_left; (simp; try omega)))⟩
end Go.Proofs.YtmlcnmnpkemdpaaDoor
