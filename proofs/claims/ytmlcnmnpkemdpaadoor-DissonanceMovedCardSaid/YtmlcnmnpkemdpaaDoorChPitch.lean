
/- The walks through the functions on pitches, the program's and the reference's: checks, numbers, heights, intervals; the tables' cells. -/
import Derived.Test.YtmlcnmnpkemdpaaDoorEvents
import Derived.Test.YtmlcnmnpkemdpaaDoorGround
import Derived.Test.YtmlcnmnpkemdpaaDoorChMath
namespace Go.Proofs.YtmlcnmnpkemdpaaDoor
open Go.RowKit
/-- The cells of a pitch (of any struct of three numbers), and of a list of such. -/
def cP (x : Int × Int × Int) : List Value := [.int .i64 x.1, .int .i64 x.2.1, .int .i64 x.2.2]
def csP (l : List (Int × Int × Int)) : List Value := l.flatMap cP
def csI (l : List Int) : List Value := l.flatMap fun n => [.int .i64 n]
theorem Reads.pt {w W : World} {B n : Nat} {A : Option Addr} {l : List (Int × Int × Int)} (h : Reads w B 3 A n (csP l)) (hB : B ≤ w.heap.size) (hb : Below w.heap.size w W) {k : Nat} {x : Int × Int × Int} (hk : k < n) (hx : l[k]? = some x) :
    ∃ b off, A = some ⟨b, off, none⟩ ∧ b < W.heap.size ∧ W.cell? ⟨b, off + k * 3, none⟩ = some (.int .i64 x.1) ∧ W.cell? ⟨b, off + k * 3 + 1, none⟩ = some (.int .i64 x.2.1) ∧ W.cell? ⟨b, off + k * 3 + 2, none⟩ = some (.int .i64 x.2.2) := by
  obtain ⟨b, off, hA, hbB, hc⟩ := h.elem (f := cP) (fun _ => rfl) hk hx
  have hall : ∀ j u, (cP x)[j]? = some u → W.cell? ⟨b, off + k * 3 + j, none⟩ = some u := fun j u hj => by
    rw [hb.cell (by simp; omega), Nat.add_assoc]
    exact hc j u hj
  exact ⟨b, off, hA, by have := hb.size; omega, hall 0 _ rfl, hall 1 _ rfl, hall 2 _ rfl⟩
theorem Reads.ptlen {w : World} {B n : Nat} {A : Option Addr} {l : List (Int × Int × Int)} (h : Reads w B 3 A n (csP l)) : l.length = n := h.len (size := 3) (l := l) (f := cP) (fun _ => rfl) (by decide)
theorem rdp {w w' : World} {A : Option Addr} {n : Nat} {xs : List Value} (h : Reads w w.heap.size 3 A n xs) (hb : Below w.heap.size w w') : Reads w' w'.heap.size 3 A n xs := (h.below (Nat.le_refl _) hb).more hb.size
theorem lt_of_cell {w : World} {g k : Nat} {v : Value} (h : w.cell? ⟨g, k, none⟩ = some v) : g < w.heap.size := by
  rcases Nat.lt_or_ge g w.heap.size with h' | h'
  · exact h'
  · unfold World.cell? at h
    rw [Array.getElem?_eq_none h'] at h
    simp at h
/-- The package's tables of numbers hold what the text lays in them. -/
structure Tabs (w : World) : Prop where
  half : ∀ k : Nat, k < 7 → w.cell? ⟨1, k, none⟩ = some (.int .i64 (halfS k))
  kind : ∀ k : Nat, k < 91 → w.cell? ⟨0, k, none⟩ = some (.int .i64 (kindTab.getD k 0))
theorem Tabs.lt {w : World} (h : Tabs w) : 1 < w.heap.size ∧ 1 < w.heap.size ∧ 0 < w.heap.size :=
  ⟨lt_of_cell (h.half 0 (by omega)), lt_of_cell (h.half 0 (by omega)), lt_of_cell (h.kind 0 (by omega))⟩
theorem Tabs.kept {w w' : World} (h : Tabs w) (hb : Below w.heap.size w w') : Tabs w' :=
  ⟨fun k hk => (hb.cell (p := ⟨_, k, none⟩) h.lt.1).trans (h.half k hk), fun k hk => (hb.cell (p := ⟨_, k, none⟩) h.lt.2.2).trans (h.kind k hk)⟩
/-! ### Heights -/
theorem step_cases {a : Int} (h0 : 0 ≤ a) (h1 : a ≤ 6) : a = 0 ∨ a = 1 ∨ a = 2 ∨ a = 3 ∨ a = 4 ∨ a = 5 ∨ a = 6 := by omega
set_option maxHeartbeats 400000 in
theorem of_exact (a b c : Int) (w : World) (a0 : 0 ≤ a) (a1 : a ≤ 6) (b0 : 0 ≤ b) (b1 : b ≤ 8) :
    Calls Tryd.prog 105 #[.agg #[.int .i64 a, .int .i64 b, .int .i64 c]] w fun e w' => e = .returned (.agg #[.int .i64 (7 * b + a), .int .i64 c]) ∧ w' = (w.alloc (.cells #[.int .i64 a, .int .i64 b, .int .i64 c] 32)).alloc (.cells #[.int .i64 (7 * b + a), .int .i64 c] 148) := by
  go_enter Tryd.func105, Tryd.ntmps105
  go_wp2
  refine ret_of (by simp [results, Tryd.results105, go_sem, *]; repeat' (first | rfl | apply And.intro)) rfl ⟨rfl, ?_⟩
  rfl
set_option maxRecDepth 100000 in
set_option maxHeartbeats 1000000 in
theorem toneHeight_any (a b c : Int) (w : World) (ht : Tabs w) (a0 : 0 ≤ a) (a1 : a ≤ 6) (b0 : 0 ≤ b) (b1 : b ≤ 8) (c0 : -1 ≤ c) (c1 : c ≤ 1) :
    Calls Tryd.prog 106 #[.agg #[.int .i64 (7 * b + a), .int .i64 c]] w fun e w' => e = .returned (.int .i64 (htP (a, b, c))) ∧ Below w.heap.size w w' := by
  obtain ⟨k, rfl⟩ := Int.eq_ofNat_of_zero_le a0
  have hk : k < 7 := by omega
  have hc := ht.half k hk
  have hg := ht.lt.1
  have hh := halfS_bd (k : Int)
  have e1 : (7 * b + (k : Int)).tmod 7 = (k : Int) := by rw [Int.tmod_eq_emod_of_nonneg (by omega)]; omega
  have e2 : (7 * b + (k : Int)).tdiv 7 = b := by rw [Int.tdiv_eq_ediv_of_nonneg (by omega)]; omega
  have e3 : (7 * b + (k : Int)) % 7 = (k : Int) := by omega
  have e4 : (7 * b + (k : Int)) / 7 = b := by omega
  have E := Lib.hid (show htP ((k : Int), b, c) = 12 * b + halfS k + c by rfl)
  go_enter Tryd.func106, Tryd.ntmps106
  go_wp2
  go_region
  go_wp2
  go_ret
  rw [E.out]
  exact ⟨rfl, by repeat (first | exact Below.refl _ _ | assumption | refine below_drewN ?_ _ | refine Below.drew ?_ | refine below_alloc ?_ _ | (refine below_call ?_ (by assumption)) | (refine Below.setCell ?_ ?_ _; rotate_left; (simp; try omega)))⟩
end Go.Proofs.YtmlcnmnpkemdpaaDoor
