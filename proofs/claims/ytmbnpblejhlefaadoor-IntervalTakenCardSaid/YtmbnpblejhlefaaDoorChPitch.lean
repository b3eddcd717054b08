/- The walks through the functions on pitches, the program's and the reference's: checks, numbers, heights, intervals; the tables' cells. -/
import Derived.Test.YtmbnpblejhlefaaDoorSlices
import Derived.Test.YtmbnpblejhlefaaDoorChMath
import Derived.Test.YtmbnpblejhlefaaDoorTail
namespace Go.Proofs.YtmbnpblejhlefaaDoor
open Go.RowKit
@[reducible] def vP (p : Int × Int × Int) : Value := .agg #[.int .i64 p.1, .int .i64 p.2.1, .int .i64 p.2.2]
@[reducible] def vPE (x : (Int × Int × Int) × Int) : Value := .tuple #[.agg #[.int .i64 x.1.1, .int .i64 x.1.2.1, .int .i64 x.1.2.2], .int .i64 x.2]
theorem vPE_ret {x : (Int × Int × Int) × Int} {a b c e : Int} (h : ((a, b, c), e) = x) : Ending.returned (.tuple #[.agg #[.int .i64 a, .int .i64 b, .int .i64 c], .int .i64 e]) = .returned (vPE x) := by subst h; rfl
/-- The cells of a pitch (of any struct of three numbers), and of a list of such. -/
def cP (x : Int × Int × Int) : List Value := [.int .i64 x.1, .int .i64 x.2.1, .int .i64 x.2.2]
def csP (l : List (Int × Int × Int)) : List Value := l.flatMap cP
def csI (l : List Int) : List Value := l.flatMap fun n => [.int .i64 n]
theorem Reads.pt {w W : World} {B n : Nat} {A : Option Addr} {l : List (Int × Int × Int)} (h : Reads w B 3 A n (csP l)) (hB : B ≤ w.heap.size) (hb : Below w.heap.size w W) {k : Nat} {x : Int × Int × Int} (hk : k < n) (hx : l[k]? = some x) :
    ∃ b off, A = some ⟨b, off, none⟩ ∧ b < W.heap.size ∧ W.cell? ⟨b, off + k * 3, none⟩ = some (.int .i64 x.1) ∧ W.cell? ⟨b, off + k * 3 + 1, none⟩ = some (.int .i64 x.2.1) ∧ W.cell? ⟨b, off + k * 3 + 2, none⟩ = some (.int .i64 x.2.2) := by
  obtain ⟨b, off, hA, hbB, hc⟩ := h.elem (f := cP) (fun _ => rfl) hk hx
  have hall : ∀ j u, (cP x)[j]? = some u → W.cell? ⟨b, off + k * 3 + j, none⟩ = some u := fun j u hj => by
    rw [hb.cell (by simp; omega), Nat.add_assoc]
    exact hc j u hj
  exact ⟨b, off, hA, by have := hb.size; omega, hall 0 _ rfl, hall 1 _ rfl, hall 2 _ rfl⟩
theorem Reads.ptlen {w : World} {B n : Nat} {A : Option Addr} {l : List (Int × Int × Int)} (h : Reads w B 3 A n (csP l)) : l.length = n := h.len (size := 3) (l := l) (f := cP) (fun _ => rfl) (by decide)
theorem rdp {w w' : World} {A : Option Addr} {n : Nat} {xs : List Value} (h : Reads w w.heap.size 3 A n xs) (hb : Below w.heap.size w w') : Reads w' w'.heap.size 3 A n xs := (h.below (Nat.le_refl _) hb).more hb.size
/-- The package's tables of numbers hold what the text lays in them. -/
structure Tabs (w : World) : Prop where
  half : ∀ k : Nat, k < 7 → w.cell? ⟨2, k, none⟩ = some (.int .i64 (halfS k))
  size : ∀ k : Nat, k < 7 → w.cell? ⟨1, k, none⟩ = some (.int .i64 (halfS k))
  kind : ∀ k : Nat, k < 91 → w.cell? ⟨0, k, none⟩ = some (.int .i64 (kindTab.getD k 0))
theorem lt_of_cell {w : World} {g k : Nat} {v : Value} (h : w.cell? ⟨g, k, none⟩ = some v) : g < w.heap.size := by
  rcases Nat.lt_or_ge g w.heap.size with h' | h'
  · exact h'
  · unfold World.cell? at h
    rw [Array.getElem?_eq_none h'] at h
    simp at h
theorem Tabs.lt {w : World} (h : Tabs w) : 2 < w.heap.size ∧ 1 < w.heap.size ∧ 0 < w.heap.size :=
  ⟨lt_of_cell (h.half 0 (by omega)), lt_of_cell (h.size 0 (by omega)), lt_of_cell (h.kind 0 (by omega))⟩
theorem Tabs.kept {w w' : World} (h : Tabs w) (hb : Below w.heap.size w w') : Tabs w' :=
  ⟨fun k hk => (hb.cell (p := ⟨_, k, none⟩) h.lt.1).trans (h.half k hk), fun k hk => (hb.cell (p := ⟨_, k, none⟩) h.lt.2.1).trans (h.size k hk), fun k hk => (hb.cell (p := ⟨_, k, none⟩) h.lt.2.2).trans (h.kind k hk)⟩
set_option maxHeartbeats 400000 in
theorem pcheck_any (p : Int × Int × Int) (w : World) :
    Calls Tryd.prog 57 #[vP p] w fun e w' => e = .returned (.int .i64 (pchk p)) ∧ Below w.heap.size w w' := by
  obtain ⟨a, b, c⟩ := p
  go_enter Tryd.func57, Tryd.ntmps57
  go_wp2
  all_goals
    go_ret
    refine ⟨ret_int ?_, ?_⟩
    · unfold pchk; first | rw [if_pos (by simp only; omega)] | rw [if_neg (by simp only; omega)]
    · repeat (first | exact Below.refl _ _ | refine below_drewN ?_ _ | refine Below.drew ?_ | refine below_alloc ?_ _ | (refine below_call ?_ (by assumption)) | (refine Below.setCell ?_ ?_ _; rotate_left; (simp; try omega)))
set_option maxHeartbeats 400000 in
theorem refPcheck_any (p : Int × Int × Int) (w : World) :
    Calls Tryd.prog 60 #[vP p] w fun e w' => e = .returned (.int .i64 (pchk p)) ∧ Below w.heap.size w w' := by
  obtain ⟨a, b, c⟩ := p
  go_enter Tryd.func60, Tryd.ntmps60
  go_wp2
  all_goals
    go_ret
    refine ⟨ret_int ?_, ?_⟩
    · unfold pchk; first | rw [if_pos (by simp only; omega)] | rw [if_neg (by simp only; omega)]
    · repeat (first | exact Below.refl _ _ | refine below_drewN ?_ _ | refine Below.drew ?_ | refine below_alloc ?_ _ | (refine below_call ?_ (by assumption)) | (refine Below.setCell ?_ ?_ _; rotate_left; (simp; try omega)))
set_option maxHeartbeats 400000 in
theorem of_any' (a b c : Int) (w : World) (a0 : 0 ≤ a) (a1 : a ≤ 6) (b0 : 0 ≤ b) (b1 : b ≤ 8) :
    Calls Tryd.prog 72 #[.agg #[.int .i64 a, .int .i64 b, .int .i64 c]] w fun e w' => e = .returned (.agg #[.int .i64 (7 * b + a), .int .i64 c]) ∧ Below w.heap.size w w' := by
  go_enter Tryd.func72, Tryd.ntmps72
  go_wp2
  refine ret_of (by simp [results, Tryd.results72, go_sem, *]; repeat' (first | rfl | apply And.intro)) rfl ⟨rfl, ?_⟩
  repeat (first | exact Below.refl _ _ | refine below_drewN ?_ _ | refine Below.drew ?_ | refine below_alloc ?_ _ | (refine below_call ?_ (by assumption)) | (refine Below.setCell ?_ ?_ _; rotate_left; (simp; try omega)))
set_option maxHeartbeats 400000 in
theorem tone_any (n a : Int) (w : World) :
    Calls Tryd.prog 63 #[.agg #[.int .i64 n, .int .i64 a]] w fun e w' => e = .returned (vPE (ofP n a)) ∧ Below w.heap.size w w' := by
  go_enter Tryd.func63, Tryd.ntmps63
  go_wp2
  all_goals
    refine ret_of (by simp [results, Tryd.results63, go_sem, *]; repeat' (first | rfl | apply And.intro)) rfl ⟨?_, ?_⟩
    · unfold ofP; first | rw [if_pos (by omega)] | rw [if_neg (by omega)]
    · repeat (first | exact Below.refl _ _ | refine below_drewN ?_ _ | refine Below.drew ?_ | refine below_alloc ?_ _ | (refine below_call ?_ (by assumption)) | (refine Below.setCell ?_ ?_ _; rotate_left; (simp; try omega)))
set_option maxHeartbeats 400000 in
theorem refNumber_any (p : Int × Int × Int) (w : World) :
    Calls Tryd.prog 70 #[vP p] w fun e w' => e = .returned (.tuple #[.int .i64 (numE p).1, .int .i64 (numE p).2]) ∧ Below w.heap.size w w' := by
  have r0 : Blk (w.alloc (.cells #[.int .i64 p.1, .int .i64 p.2.1, .int .i64 p.2.2] 36)) w.heap.size 36 #[.int .i64 p.1, .int .i64 p.2.1, .int .i64 p.2.2] := Blk.new _ _ _
  have k0 : Below w.heap.size w (w.alloc (.cells #[.int .i64 p.1, .int .i64 p.2.1, .int .i64 p.2.2] 36)) := by repeat (first | exact Below.refl _ _ | refine below_drewN ?_ _ | refine Below.drew ?_ | refine below_alloc ?_ _ | (refine below_call ?_ (by assumption)) | (refine Below.setCell ?_ ?_ _; rotate_left; (simp; try omega)))
  by_cases h : pchk p = 0
  · obtain ⟨h0, h1, h2, h3, _, _⟩ := pchk_ok h
    have hb : (pchk p != 0) = false := by simpa using h
    have E := Lib.hid (show numE p = (7 * p.2.1 + p.1, 0) by unfold numE numP; rw [if_neg (by rw [h]; exact fun h => h rfl)])
    obtain ⟨a, b, c⟩ := p
    simp only at h0 h1 h2 h3 E hb
    clear h
    go_enter Tryd.func70, Tryd.ntmps70
    go_wp2_with (first | (go_at_call 60; refine (refPcheck_any (_, _, _) _).mono ?_; rintro e wn ⟨rfl, hbn⟩; replace rn := Blk.kept (by with_reducible first | exact rn | exact r0 | exact rn.alloc _ | exact r0.alloc _ | exact (rn.alloc _).alloc _ | exact (r0.alloc _).alloc _) hbn; replace en := rn.cell; replace gn := rn.frozen; replace zn := rn.lt; replace kn := below_call (by with_reducible first | exact kn | exact k0 | exact below_alloc kn _ | exact below_alloc k0 _ | exact below_alloc (below_alloc kn _) _ | exact below_alloc (below_alloc k0 _) _) hbn; clear hbn))
    go_ret2
    rw [E.out]
    exact ⟨rfl, by repeat (first | exact Below.refl _ _ | assumption | refine below_drewN ?_ _ | refine Below.drew ?_ | refine below_alloc ?_ _ | (refine below_call ?_ (by assumption)) | (refine Below.setCell ?_ ?_ _; rotate_left; (simp; try omega)))⟩
  · have hb : (pchk p != 0) = true := by simpa using h
    have E := Lib.hid (show numE p = (0, pchk p) by unfold numE; rw [if_pos h])
    obtain ⟨a, b, c⟩ := p
    clear h
    go_enter Tryd.func70, Tryd.ntmps70
    go_wp2_with (first | (go_at_call 60; refine (refPcheck_any (_, _, _) _).mono ?_; rintro e wn ⟨rfl, hbn⟩; replace rn := Blk.kept (by with_reducible first | exact rn | exact r0 | exact rn.alloc _ | exact r0.alloc _ | exact (rn.alloc _).alloc _ | exact (r0.alloc _).alloc _) hbn; replace en := rn.cell; replace gn := rn.frozen; replace zn := rn.lt; replace kn := below_call (by with_reducible first | exact kn | exact k0 | exact below_alloc kn _ | exact below_alloc k0 _ | exact below_alloc (below_alloc kn _) _ | exact below_alloc (below_alloc k0 _) _) hbn; clear hbn))
    go_ret2
    rw [E.out]
    exact ⟨rfl, by repeat (first | exact Below.refl _ _ | assumption | refine below_drewN ?_ _ | refine Below.drew ?_ | refine below_alloc ?_ _ | (refine below_call ?_ (by assumption)) | (refine Below.setCell ?_ ?_ _; rotate_left; (simp; try omega)))⟩
/-! ### Heights -/
theorem step_cases {a : Int} (h0 : 0 ≤ a) (h1 : a ≤ 6) : a = 0 ∨ a = 1 ∨ a = 2 ∨ a = 3 ∨ a = 4 ∨ a = 5 ∨ a = 6 := by omega
set_option maxHeartbeats 400000 in
theorem of_exact (a b c : Int) (w : World) (a0 : 0 ≤ a) (a1 : a ≤ 6) (b0 : 0 ≤ b) (b1 : b ≤ 8) :
    Calls Tryd.prog 72 #[.agg #[.int .i64 a, .int .i64 b, .int .i64 c]] w fun e w' => e = .returned (.agg #[.int .i64 (7 * b + a), .int .i64 c]) ∧ w' = (w.alloc (.cells #[.int .i64 a, .int .i64 b, .int .i64 c] 36)).alloc (.cells #[.int .i64 (7 * b + a), .int .i64 c] 92) := by
  go_enter Tryd.func72, Tryd.ntmps72
  go_wp2
  refine ret_of (by simp [results, Tryd.results72, go_sem, *]; repeat' (first | rfl | apply And.intro)) rfl ⟨rfl, ?_⟩
  rfl
set_option maxRecDepth 100000 in
set_option maxHeartbeats 1000000 in
theorem toneHeight_any (a b c : Int) (w : World) (ht : Tabs w) (a0 : 0 ≤ a) (a1 : a ≤ 6) (b0 : 0 ≤ b) (b1 : b ≤ 8) (c0 : -1 ≤ c) (c1 : c ≤ 1) :
    Calls Tryd.prog 73 #[.agg #[.int .i64 (7 * b + a), .int .i64 c]] w fun e w' => e = .returned (.int .i64 (htP (a, b, c))) ∧ Below w.heap.size w w' := by
  obtain ⟨k, rfl⟩ := Int.eq_ofNat_of_zero_le a0
  have hk : k < 7 := by omega
  have hc := ht.half k hk
  have hg := ht.lt.1
  have hh := halfS_bd (k : Int)
  have e1 : (7 * b + (k : Int)).tmod 7 = (k : Int) := by rw [Int.tmod_eq_emod_of_nonneg (by omega)]; omega
  have e2 : (7 * b + (k : Int)).tdiv 7 = b := by rw [Int.tdiv_eq_ediv_of_nonneg (by omega)]; omega
  have e3 : (7 * b + (k : Int)) % 7 = (k : Int) := by omega
  have e4 : (7 * b + (k : Int)) / 7 = b := by omega
  have E := Lib.hid (show htP ((k : Int), b, c) = 12 * b + halfS k + c by rfl)
  go_enter Tryd.func73, Tryd.ntmps73
  go_wp2
  go_region
  go_wp2
  go_ret
  rw [E.out]
  exact ⟨rfl, by repeat (first | exact Below.refl _ _ | assumption | refine below_drewN ?_ _ | refine Below.drew ?_ | refine below_alloc ?_ _ | (refine below_call ?_ (by assumption)) | (refine Below.setCell ?_ ?_ _; rotate_left; (simp; try omega)))⟩
end Go.Proofs.YtmbnpblejhlefaaDoor
