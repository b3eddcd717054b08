/- Parts of the proofs of layer 31: ChMath, ChPitch, TabDoor, DsPlain, CaMath. -/
import Derived.Test.YtpkmiegccfhpnaaGreatDoorK03
import Derived.Test.YtpkmiegccfhpnaaGreatDoorK02
import Derived.BigRegion
import Derived.Laws.OwnMore
import Derived.Deep.AppendLies
import Derived.ArgAppend
import Derived.Test.YtpkmiegccfhpnaaGreatDoorK01
import Derived.Test.YtpkmiegccfhpnaaGreatDoorRows
import Derived.Test.YtpkmiegccfhpnaaGreatDoorTie
import Derived.Test.YtpkmiegccfhpnaaGreatDoorCards
import Derived.ProofKit
import Derived.LaidMore
import Derived.OpenShut
import Derived.SevenTiedAt
import Derived.Lib.SmallJoins
import Derived.Lib.LaidTab
import Derived.MakeChecks
import Derived.LaidSub
namespace Go.Proofs.YtpkmiegccfhpnaaGreatDoor

/-- The half-tones of a step. -/
def halfS (s : Int) : Int := if s = 0 then 0 else if s = 1 then 2 else if s = 2 then 4 else if s = 3 then 5 else if s = 4 then 7 else if s = 5 then 9 else 11
def htP (p : Int × Int × Int) : Int := 12 * p.2.1 + halfS p.1 + p.2.2
theorem halfS_bd (s : Int) : 0 ≤ halfS s ∧ halfS s ≤ 11 := by unfold halfS; (repeat' split) <;> omega
theorem numP_bd {p : Int × Int × Int} (h : pchk p = 0) : 0 ≤ numP p ∧ numP p ≤ 62 := by have := pchk_ok h; unfold numP; omega
theorem htP_bd {p : Int × Int × Int} (h : pchk p = 0) : -1 ≤ htP p ∧ htP p ≤ 108 := by have := pchk_ok h; have := halfS_bd p.1; unfold htP; omega
/-! ### Intervals -/
/-- The second pitch is the lower one. -/
def lowB (p q : Int × Int × Int) : Prop := numP q < numP p ∨ (numP q = numP p ∧ htP q < htP p)
instance (p q : Int × Int × Int) : Decidable (lowB p q) := inferInstanceAs (Decidable (_ ∨ _))
def loP (p q : Int × Int × Int) : Int × Int × Int := if lowB p q then q else p
def hiP (p q : Int × Int × Int) : Int × Int × Int := if lowB p q then p else q
/-- The interval from p to q. -/
def btw (p q : Int × Int × Int) : Int × Int := (numP q - numP p, htP q - htP p)
def upI (p q : Int × Int × Int) : Int × Int := btw (loP p q) (hiP p q)
def simI (x : Int × Int) : Int × Int := (x.1 % 7, x.2 - 12 * (x.1 / 7))
def bothP (p q : Int × Int × Int) : Int := if pchk p ≠ 0 then pchk p else pchk q
theorem bothP_ok {p q : Int × Int × Int} (h : bothP p q = 0) : pchk p = 0 ∧ pchk q = 0 := by
  unfold bothP at h
  split at h
  · contradiction
  · exact ⟨by omega, h⟩
def upE (p q : Int × Int × Int) : (Int × Int) × Int := if bothP p q ≠ 0 then ((0, 0), bothP p q) else (upI p q, 0)
def simE (p q : Int × Int × Int) : (Int × Int) × Int := if bothP p q ≠ 0 then ((0, 0), bothP p q) else (simI (upI p q), 0)
theorem loP_pchk {p q : Int × Int × Int} (h : pchk p = 0) (h' : pchk q = 0) : pchk (loP p q) = 0 := by unfold loP; split <;> assumption
theorem hiP_pchk {p q : Int × Int × Int} (h : pchk p = 0) (h' : pchk q = 0) : pchk (hiP p q) = 0 := by unfold hiP; split <;> assumption
theorem upI_bd {p q : Int × Int × Int} (h : pchk p = 0) (h' : pchk q = 0) : 0 ≤ (upI p q).1 ∧ (upI p q).1 ≤ 62 ∧ -110 ≤ (upI p q).2 ∧ (upI p q).2 ≤ 110 := by
  have a := numP_bd (loP_pchk h h'); have b := numP_bd (hiP_pchk h h'); have c := htP_bd (loP_pchk h h'); have d := htP_bd (hiP_pchk h h')
  have hge : numP (loP p q) ≤ numP (hiP p q) := by
    unfold loP hiP
    by_cases h0 : lowB p q
    · rw [if_pos h0, if_pos h0]; unfold lowB at h0; omega
    · rw [if_neg h0, if_neg h0]; unfold lowB at h0; omega
  unfold upI btw
  simp only
  omega
theorem simI_bd {p q : Int × Int × Int} (h : pchk p = 0) (h' : pchk q = 0) : 0 ≤ (simI (upI p q)).1 ∧ (simI (upI p q)).1 ≤ 6 ∧ -300 ≤ (simI (upI p q)).2 ∧ (simI (upI p q)).2 ≤ 300 := by
  have := upI_bd h h'
  unfold simI; simp only; omega
/-- The kind of a simple interval. -/
def kindX (x : Int × Int) : Int :=
  if (x.1 = 0 ∧ x.2 = 0) ∨ (x.1 = 4 ∧ x.2 = 7) then 1
  else if (x.1 = 2 ∧ (x.2 = 3 ∨ x.2 = 4)) ∨ (x.1 = 5 ∧ (x.2 = 8 ∨ x.2 = 9)) then 2
  else if x.1 = 3 ∧ x.2 = 5 then 3
  else if (x.1 = 3 ∧ x.2 = 6) ∨ (x.1 = 4 ∧ x.2 = 6) then 4 else 5
def kindP (p q : Int × Int × Int) : Int := kindX (simI (upI p q))
def kindE (p q : Int × Int × Int) : Int × Int := if bothP p q ≠ 0 then (0, bothP p q) else (kindP p q, 0)
/-- The program's table of kinds, row by row. -/
def kindTab : List Int :=
  [1, 0, 0, 0, 0, 0, 0, 0, 0, 0, 0, 0, 0,
   0, 0, 0, 0, 0, 0, 0, 0, 0, 0, 0, 0, 0,
   0, 0, 0, 2, 2, 0, 0, 0, 0, 0, 0, 0, 0,
   0, 0, 0, 0, 0, 3, 4, 0, 0, 0, 0, 0, 0,
   0, 0, 0, 0, 0, 0, 4, 1, 0, 0, 0, 0, 0,
   0, 0, 0, 0, 0, 0, 0, 0, 2, 2, 0, 0, 0,
   0, 0, 0, 0, 0, 0, 0, 0, 0, 0, 0, 0, 0]
theorem kindTab_all : ∀ s : Fin 7, ∀ h : Fin 13, kindX ((s.val : Int), (h.val : Int)) = if kindTab.getD (s.val * 13 + h.val) 0 ≠ 0 then kindTab.getD (s.val * 13 + h.val) 0 else 5 := by decide
theorem kindTab_in (s h : Nat) (hs : s < 7) (hh : h < 13) : kindX ((s : Int), (h : Int)) = if kindTab.getD (s * 13 + h) 0 ≠ 0 then kindTab.getD (s * 13 + h) 0 else 5 := kindTab_all ⟨s, hs⟩ ⟨h, hh⟩
theorem kindX_out (s h : Int) (hh : h < 0 ∨ 13 ≤ h) : kindX (s, h) = 5 := by
  unfold kindX
  rw [if_neg (by simp only; omega), if_neg (by simp only; omega), if_neg (by simp only; omega), if_neg (by simp only; omega)]

/-! ### Chords -/
def pAt (l : List (Int × Int × Int)) (k : Nat) : Int × Int × Int := l.getD k (0, 0, 0)
/-- The first pitch is deeper than the second one. -/
def deep (p q : Int × Int × Int) : Prop := htP p < htP q ∨ (htP p = htP q ∧ numP p < numP q)
instance (p q : Int × Int × Int) : Decidable (deep p q) := inferInstanceAs (Decidable (_ ∨ _))
/-- The index of the bass among the first k pitches. -/
def bassN (l : List (Int × Int × Int)) : Nat → Nat
  | 0 => 0
  | k + 1 => if deep (pAt l k) (pAt l (bassN l k)) then k else bassN l k
def bassL (l : List (Int × Int × Int)) : Nat := bassN l l.length
/-- Whether two pitches of a chord clash. -/
def bad (l : List (Int × Int × Int)) (a b : Nat) : Prop :=
  kindP (pAt l a) (pAt l b) = 5 ∨ ((kindP (pAt l a) (pAt l b) = 3 ∨ kindP (pAt l a) (pAt l b) = 4) ∧ loP (pAt l a) (pAt l b) = pAt l (bassL l))
instance (l : List (Int × Int × Int)) (a b : Nat) : Decidable (bad l a b) := inferInstanceAs (Decidable (_ ∨ _))
end Go.Proofs.YtpkmiegccfhpnaaGreatDoor
namespace Go.Proofs.YtpkmiegccfhpnaaGreatDoor
open Go.RowKit
/-- The cells of a pitch (of any struct of three numbers), and of a list of such. -/
def cP (x : Int × Int × Int) : List Value := [.int .i64 x.1, .int .i64 x.2.1, .int .i64 x.2.2]
theorem lt_of_cell {w : World} {g k : Nat} {v : Value} (h : w.cell? ⟨g, k, none⟩ = some v) : g < w.heap.size := by
  rcases Nat.lt_or_ge g w.heap.size with h' | h'
  · exact h'
  · unfold World.cell? at h
    rw [Array.getElem?_eq_none h'] at h
    simp at h
/-- The package's tables of numbers hold what the text lays in them. -/
structure Tabs (w : World) : Prop where
  half : ∀ k : Nat, k < 7 → w.cell? ⟨0, k, none⟩ = some (.int .i64 (halfS k))
  kind : ∀ k : Nat, k < 91 → w.cell? ⟨1, k, none⟩ = some (.int .i64 (kindTab.getD k 0))
theorem Tabs.lt {w : World} (h : Tabs w) : 0 < w.heap.size ∧ 0 < w.heap.size ∧ 1 < w.heap.size :=
  ⟨lt_of_cell (h.half 0 (by omega)), lt_of_cell (h.half 0 (by omega)), lt_of_cell (h.kind 0 (by omega))⟩
theorem Tabs.kept {w w' : World} (h : Tabs w) (hb : Below w.heap.size w w') : Tabs w' :=
  ⟨fun k hk => (hb.cell (p := ⟨_, k, none⟩) h.lt.1).trans (h.half k hk), fun k hk => (hb.cell (p := ⟨_, k, none⟩) h.lt.2.2).trans (h.kind k hk)⟩
/-! ### Heights -/
set_option maxRecDepth 100000 in
set_option maxHeartbeats 1000000 in
theorem toneHeight_any (a b c : Int) (w : World) (ht : Tabs w) (a0 : 0 ≤ a) (a1 : a ≤ 6) (b0 : 0 ≤ b) (b1 : b ≤ 8) (c0 : -1 ≤ c) (c1 : c ≤ 1) :
    Calls Tryz.prog 122 #[.agg #[.int .i64 (7 * b + a), .int .i64 c]] w fun e w' => e = .returned (.int .i64 (htP (a, b, c))) ∧ Below w.heap.size w w' := by
  obtain ⟨k, rfl⟩ := Int.eq_ofNat_of_zero_le a0
  have hk : k < 7 := by omega
  have hc := ht.half k hk
  have hg := ht.lt.1
  have hh := halfS_bd (k : Int)
  have e1 : (7 * b + (k : Int)).tmod 7 = (k : Int) := by rw [Int.tmod_eq_emod_of_nonneg (by omega)]; omega
  have e2 : (7 * b + (k : Int)).tdiv 7 = b := by rw [Int.tdiv_eq_ediv_of_nonneg (by omega)]; omega
  have e3 : (7 * b + (k : Int)) % 7 = (k : Int) := by omega
  have e4 : (7 * b + (k : Int)) / 7 = b := by omega
  have E := Lib.hid (show htP ((k : Int), b, c) = 12 * b + halfS k + c by rfl)
  go_enter Tryz.func122, Tryz.ntmps122
  go_wp2
  go_region
  go_wp2
  go_ret
  rw [E.out]
  exact ⟨rfl, by repeat (first | exact Below.refl _ _ | assumption | refine below_drewN ?_ _ | refine Below.drew ?_ | refine below_alloc ?_ _ | (refine below_call ?_ (by assumption)) | (refine Below.setCell ?_ ?_ _; rotate_left; (simp; try omega)))⟩
end Go.Proofs.YtpkmiegccfhpnaaGreatDoor
namespace Go.Proofs.YtpkmiegccfhpnaaGreatDoor
open Go.ChangeShapes Go.WideShapes Go.ChangeAt Go.RowKit Go.Deep Go.WideMaps Go.WideElems
def halfTab : List Int := [0, 2, 4, 5, 7, 9, 11]
def kindRows : List (List Int) := [[1, 0, 0, 0, 0, 0, 0, 0, 0, 0, 0, 0, 0], [0, 0, 0, 0, 0, 0, 0, 0, 0, 0, 0, 0, 0], [0, 0, 0, 2, 2, 0, 0, 0, 0, 0, 0, 0, 0], [0, 0, 0, 0, 0, 3, 4, 0, 0, 0, 0, 0, 0], [0, 0, 0, 0, 0, 0, 4, 1, 0, 0, 0, 0, 0], [0, 0, 0, 0, 0, 0, 0, 0, 2, 2, 0, 0, 0], [0, 0, 0, 0, 0, 0, 0, 0, 0, 0, 0, 0, 0]]
set_option maxRecDepth 100000 in
theorem kind_at : ∀ i : Fin 7, ∀ j : Fin 13, (kindRows.getD i.val []).getD j.val 0 = kindTab.getD (i.val * 13 + j.val) 0 ∧ (kindRows.getD i.val []).length = 13 := by decide
set_option maxRecDepth 100000 in
theorem half_at : ∀ i : Fin 7, halfTab.getD i.val 0 = halfS i.val := by decide
theorem getD_map (row : List Int) (j : Nat) (h : j < row.length) : (row.map fun z => Value.int .i64 z)[j]? = some (.int .i64 (row.getD j 0)) := by simp [List.getD, h]
set_option maxRecDepth 100000 in
theorem kinds_of {W : World} (h : laidMet Tryz.prog [("tactus/interval.kinds", .agg (kindRows.map fun z => Lib.tabData .i64 z))] W) : ∀ k : Nat, k < 91 → W.cell? ⟨1, k, none⟩ = some (.int .i64 (kindTab.getD k 0)) := by
  obtain ⟨ps, ⟨g', t', cs, fuel, p, q, hg', ht', hvar, hd, _, _⟩, _⟩ := h
  obtain rfl := Option.some.inj ((show Tryz.prog.globalNamed "tactus/interval.kinds" = some 1 by kernel_rfl).symm.trans hg')
  obtain rfl := Option.some.inj ((show (Tryz.prog.globals[1]?).map (·.type) = some 191 by kernel_rfl).symm.trans ht')
  obtain ⟨xs, m, _, hx, hl, hxl, hf⟩ := DataW.trod_array Tryz.underlying191 hd
  have hx1 : (kindRows.map fun z => (Lib.tabData .i64 z : DataW Unit)) = xs.map (·.1) := by
    have := congrArg Prod.fst hx
    simpa using this
  intro k hk
  have hi : k / 13 < 7 := by omega
  have hj : k % 13 < 13 := by omega
  have h1 := hf (k / 13) hi
  rw [show Tryz.prog.cellsOf 190 = 13 from by kernel_rfl] at h1
  obtain ⟨y, hy⟩ : ∃ y, xs[k / 13]? = some y := ⟨_, List.getElem?_eq_getElem (by omega)⟩
  obtain ⟨y1, y2⟩ := y
  have hrow : (kindRows)[k / 13]? = some (kindRows.getD (k / 13) []) := by
    have : k / 13 < kindRows.length := hi
    simp [List.getD, this]
  have hy1 : y1 = Lib.tabData .i64 (kindRows.getD (k / 13) []) := by
    have e1 : (xs.map (·.1))[k / 13]? = some y1 := by rw [List.getElem?_map, hy]; rfl
    rw [← hx1, List.getElem?_map, hrow] at e1
    exact (Option.some.inj e1).symm
  rw [hy, hy1] at h1
  have h2 := Lib.cells_of_tab Tryz.underlying190 Tryz.underlying3 (by kernel_rfl) (by kernel_rfl) h1
  obtain ⟨k1, k2⟩ := kind_at ⟨k / 13, hi⟩ ⟨k % 13, hj⟩
  simp only at k1 k2
  rw [World.var?_cell (show Tryz.prog.globalNamed "tactus/interval.kinds" = some 1 by kernel_rfl) hvar k]
  have h3 : ((cs.toList.drop (k / 13 * 13)).take 13)[k % 13]? = some (.int .i64 ((kindRows.getD (k / 13) []).getD (k % 13) 0)) := by
    rw [h2]
    exact getD_map _ _ (by rw [k2]; exact hj)
  rw [List.getElem?_take, if_pos hj, List.getElem?_drop, k1] at h3
  rw [show k / 13 * 13 + k % 13 = k by omega] at h3
  simpa using h3
set_option maxRecDepth 100000 in
/-- The two tables, out of a row's list. -/
theorem tabs_of_list {L : List (String × DataW Unit)} {W : World} (h : laidMet Tryz.prog L W)
    (e1 : L.filter (fun x => x.1 == "tactus/pitch.halves") = [("tactus/pitch.halves", Lib.tabData .i64 halfTab)])
    (e3 : L.filter (fun x => x.1 == "tactus/interval.kinds") = [("tactus/interval.kinds", .agg (kindRows.map fun z => Lib.tabData .i64 z))]) : Tabs W := by
  have h1 := h.filter (fun x => x.1 == "tactus/pitch.halves")
  have h3 := h.filter (fun x => x.1 == "tactus/interval.kinds")
  rw [e1] at h1
  rw [e3] at h3
  have t1 : Lib.TabIs Tryz.prog W "tactus/pitch.halves" .i64 halfTab := Lib.tabIs_of_head (rest := []) (g := 0) (t := 189) (e := 3) (n := 7) (by kernel_rfl) (by kernel_rfl) (by kernel_rfl) (by kernel_rfl) (by kernel_rfl) (by kernel_rfl) h1
  refine ⟨fun k hk => ?_, kinds_of h3⟩
  rw [t1.cell (g := 0) (by kernel_rfl) k hk, half_at ⟨k, hk⟩]
end Go.Proofs.YtpkmiegccfhpnaaGreatDoor
/- Plain mathematics of chords (the first part of ChOct and ChChordMath, by themselves): two pitches, the bass, whether two pitches clash over a bass. -/

namespace Go.Proofs.YtpkmiegccfhpnaaGreatDoor
abbrev Pit3 := Int × Int × Int
/-- Two pitches clash over a bass. -/
def badP (b p q : Pit3) : Prop := kindP p q = 5 ∨ ((kindP p q = 3 ∨ kindP p q = 4) ∧ loP p q = b)
instance (b p q : Pit3) : Decidable (badP b p q) := inferInstanceAs (Decidable (_ ∨ _))
def bassP (l : List Pit3) : Pit3 := pAt l (bassL l)
/-! ### No clash -/
end Go.Proofs.YtpkmiegccfhpnaaGreatDoor

/- Plain mathematics of dissonances: chords of slices, clashes of voices, treatments, the list of all; no program in sight. -/

namespace Go.Proofs.YtpkmiegccfhpnaaGreatDoor
/-! ### What sounds in a slice -/
def sndP (v : List Ev) (t : Tm) : Option Ev := match eventAt v t with
  | some x => if x.rest = true then none else some x
  | none => none
def sndB (v : List Ev) (t : Tm) : Bool := (sndP v t).isSome
def pitA (v : List Ev) (t : Tm) : Pit3 := match sndP v t with
  | some x => x.pit
  | none => (0, 0, 0)
theorem event_at {v : List Ev} {t : Tm} {k : Nat} (h : onS v t = (k : Int)) : eventAt v t = v[k]? := by unfold eventAt; rw [h]
theorem snd_note {v : List Ev} {t : Tm} {k : Nat} {x : Ev} (h : onS v t = (k : Int)) (hx : v[k]? = some x) (hr : x.rest = false) : sndB v t = true ∧ pitA v t = x.pit := by
  unfold sndB pitA sndP; rw [event_at h, hx]; simp [hr]
theorem snd_val {v : List Ev} {t : Tm} (h : sndB v t = true) : ∃ (k : Nat) (x : Ev), onS v t = (k : Int) ∧ v[k]? = some x ∧ x.rest = false ∧ pitA v t = x.pit := by
  unfold sndB at h
  cases ho : onS v t with
  | negSucc k =>
    have e : eventAt v t = none := by unfold eventAt; rw [ho]
    unfold sndP at h; rw [e] at h; simp at h
  | ofNat k =>
    have e : eventAt v t = v[k]? := by unfold eventAt; rw [ho]
    unfold sndP at h
    rw [e] at h
    cases hx : v[k]? with
    | none => rw [hx] at h; simp at h
    | some x =>
      rw [hx] at h
      cases hr : x.rest with
      | true => simp [hr] at h
      | false => exact ⟨k, x, rfl, hx, hr, (snd_note (k := k) (by rw [ho]; rfl) hx hr).2⟩
/-- The voices that sound, and their pitches. -/
def whoC (l : List (List Ev)) (t : Tm) : List Nat := (List.range l.length).filter fun v => sndB (l.getD v []) t
def whatC (l : List (List Ev)) (t : Tm) : List Pit3 := (whoC l t).map fun v => pitA (l.getD v []) t
/-- The pitches of a voice are valid. -/
def PitsV (v : List Ev) : Prop := ∀ x ∈ v, x.rest = false → pchk x.pit = 0
theorem PitsV.at_ {v : List Ev} (h : PitsV v) {t : Tm} (hs : sndB v t = true) : pchk (pitA v t) = 0 := by
  obtain ⟨k, x, _, hx, hr, e⟩ := snd_val hs
  rw [e]; exact h x (List.mem_of_getElem? hx) hr
/-! ### Clashes of voices -/
/-- The kind of the clash of two voices at a time; 0 if there is none. -/
def clE (l : List (List Ev)) (t : Tm) (a b : Nat) : Int :=
  if sndB (l.getD a []) t = true ∧ sndB (l.getD b []) t = true ∧ badP (bassP (whatC l t)) (pitA (l.getD a []) t) (pitA (l.getD b []) t) then kindP (pitA (l.getD a []) t) (pitA (l.getD b []) t) else 0
/-! ### Treatments -/
def evI (l : List (List Ev)) (m : List Tm) (n v : Nat) : Int := onS (l.getD v []) (mAt m n)
/-- The difference of two notes that follow one another, 0 if there are none. -/
def stepD (v : List Ev) (i : Int) : Int :=
  if i < 0 then 0 else match v[i.toNat]?, v[i.toNat + 1]? with
  | some x, some y => if x.rest = true ∨ y.rest = true then 0 else numP y.pit - numP x.pit
  | _, _ => 0
def oneD (d : Int) : Int := if d = 1 ∨ d = -1 then d else 0
def sameB (v : List Ev) (i : Int) : Bool := match v[i.toNat + 1]?, v[(i - 1).toNat]? with
  | some y, some z => !y.rest && decide (y.pit = z.pit)
  | _, _ => false
/-! ### All dissonances -/
end Go.Proofs.YtpkmiegccfhpnaaGreatDoor

/- Plain mathematics of dissonances: the list of all by what begins where; the treatment of a dissonance that began earlier. -/
namespace Go.Proofs.YtpkmiegccfhpnaaGreatDoor
section
variable (l : List (List Ev)) (m : List Tm)
/-- A dissonance begins in slice n. -/
def newB (n a b : Nat) : Bool := decide (clE l (mAt m n) a b ≠ 0) && (List.range n).all fun n' => decide (evI l m n' a = evI l m n a → evI l m n' b = evI l m n b → clE l (mAt m n') a b = 0)
theorem newB_iff {n a b : Nat} : newB l m n a b = true ↔ clE l (mAt m n) a b ≠ 0 ∧ ∀ n', n' < n → evI l m n' a = evI l m n a → evI l m n' b = evI l m n b → clE l (mAt m n') a b = 0 := by
  unfold newB
  rw [Bool.and_eq_true, decide_eq_true_eq, List.all_eq_true]
  constructor
  · rintro ⟨h1, h2⟩
    exact ⟨h1, fun n' hn => by have := h2 n' (List.mem_range.2 hn); rwa [decide_eq_true_eq] at this⟩
  · rintro ⟨h1, h2⟩
    exact ⟨h1, fun n' hn => by rw [decide_eq_true_eq]; exact h2 n' (List.mem_range.1 hn)⟩
end
end Go.Proofs.YtpkmiegccfhpnaaGreatDoor

/- Plain mathematics of dissonances: the treatment of a dissonance that began earlier, going back and by the list of all. -/
namespace Go.Proofs.YtpkmiegccfhpnaaGreatDoor
section
variable {l : List (List Ev)} (hz : (checkA l).1 = 0)
include hz
end
section
variable (l : List (List Ev)) (m : List Tm)
end
theorem one_pit {x : Ev} (h : oneS x = 0) (hr : x.rest = false) : pchk x.pit = 0 := by
  refine Decidable.byContradiction fun hp => ?_
  unfold oneS at h
  (repeat' split at h) <;> simp_all
theorem val_pits {v : List Ev} (h : (checkS v).1 = 0) : PitsV v := by
  have key : ∀ (v : List Ev) (now : Int × Int) (i : Int), 0 ≤ i → (checkFrom now i v).1 = 0 → PitsV v := by
    intro v
    induction v with
    | nil => intro _ _ _ _ x hx; cases hx
    | cons y v ih =>
      intro now i hi h
      by_cases h1 : oneS y = 0
      · by_cases h2 : y.at_ = now
        · by_cases h3 : (addS y.at_ y.dur).2.2 = 0
          · rw [cf_next h1 h2 h3] at h
            intro x hx hr
            rcases List.mem_cons.1 hx with rfl | hx
            · exact one_pit h1 hr
            · exact ih _ _ (by omega) h x hx hr
          · rw [cf_add h1 h2 h3] at h; exact absurd h h3
        · rw [cf_at h1 h2] at h; simp at h
      · rw [cf_one h1] at h; exact absurd h h1
  unfold checkS at h
  split at h
  · simp at h
  · exact key v _ _ (Int.le_refl 0) h
end Go.Proofs.YtpkmiegccfhpnaaGreatDoor

/- Plain mathematics of dissonances: settings that are alike; another order of three voices; a voice that rests. -/
namespace Go.Proofs.YtpkmiegccfhpnaaGreatDoor
/-! ### Settings that are alike -/
section
variable (l l' : List (List Ev)) (m m' : List Tm)
/-- Voice a of the one setting and voice a' of the other one have the same events in all slices. -/
structure VoiceEq (N a a' : Nat) : Prop where
  ev : ∀ n, n < N → evI l' m' n a' = evI l m n a
  st : ∀ n, n < N → startB (l'.getD a' []) (mAt m' n) = startB (l.getD a []) (mAt m n)
  step : ∀ i, stepD (l'.getD a' []) i = stepD (l.getD a []) i
  same : ∀ i, oneD (stepD (l.getD a []) (i - 1)) ≠ 0 → sameB (l'.getD a' []) i = sameB (l.getD a []) i
structure PairEq (N a b a' b' : Nat) : Prop where
  va : VoiceEq l l' m m' N a a'
  vb : VoiceEq l l' m m' N b b'
  cl : ∀ n, n < N → clE l' (mAt m' n) a' b' = clE l (mAt m n) a b
variable {l l' m m'}
theorem PairEq.new {N a b a' b' : Nat} (h : PairEq l l' m m' N a b a' b') {n : Nat} (hn : n < N) : newB l' m' n a' b' = newB l m n a b := by
  rw [Bool.eq_iff_iff, newB_iff, newB_iff, h.cl n hn]
  refine and_congr Iff.rfl ⟨fun hh n' h1 h2 h3 => ?_, fun hh n' h1 h2 h3 => ?_⟩
  · rw [← h.cl n' (by omega)]
    exact hh n' h1 (by rw [h.va.ev n' (by omega), h.va.ev n hn, h2]) (by rw [h.vb.ev n' (by omega), h.vb.ev n hn, h3])
  · rw [h.cl n' (by omega)]
    exact hh n' h1 (by rw [← h.va.ev n' (by omega), ← h.va.ev n hn, h2]) (by rw [← h.vb.ev n' (by omega), ← h.vb.ev n hn, h3])
end
/-! ### A voice that rests -/
section
variable {l : List (List Ev)} {r : List Ev} (hr : ∀ t, sndB r t = false)
include hr
end
/-! ### Three voices in another order -/
section
variable {l : List (List Ev)} (hl : l.length = 3) (hp : ∀ v ∈ l, PitsV v) (k : Nat)
include hl hp
end
end Go.Proofs.YtpkmiegccfhpnaaGreatDoor

/- Plain mathematics of dissonances: three voices in another order have as many of each treatment. -/
namespace Go.Proofs.YtpkmiegccfhpnaaGreatDoor
section
variable {l : List (List Ev)} (hl : l.length = 3) (hp : ∀ v ∈ l, PitsV v)
include hl
include hp
end
end Go.Proofs.YtpkmiegccfhpnaaGreatDoor

/- Plain mathematics of dissonances: an octave higher, and slower. -/
namespace Go.Proofs.YtpkmiegccfhpnaaGreatDoor
/-! ### Events that are changed one by one -/
section
variable {f : Ev → Ev}
end
/-! ### An octave higher -/
/-- The pitches of a voice are valid, also an octave higher. -/
def PitsU (v : List Ev) : Prop := ∀ x ∈ v, x.rest = false → pchk x.pit = 0 ∧ x.pit.2.1 ≤ 7
theorem PitsU.pits {v : List Ev} (h : PitsU v) : PitsV v := fun x hx hr => (h x hx hr).1
section
variable {l : List (List Ev)} (hp : ∀ v ∈ l, PitsU v)
include hp
end
end Go.Proofs.YtpkmiegccfhpnaaGreatDoor

/- Plain mathematics of dissonances: doubled times. -/
namespace Go.Proofs.YtpkmiegccfhpnaaGreatDoor
def dbl (t : Tm) : Tm := (2 * t.1, t.2)
def dblE (x : Ev) : Ev := { x with at_ := dbl x.at_, dur := dbl x.dur }
theorem ok_whole {k : Int} (h : 0 ≤ k) (h' : k ≤ 1099511627776) : ok (k, 1) := ⟨h, h', by simp, by simp, by unfold gg; simp⟩
theorem cq_one {k : Int} (h : 0 ≤ k) (h' : k ≤ 1099511627776) : cq 1 k = (k, 1) := cq_of (by omega) h (ok_whole h h') (by simp)
/-- Events at whole times. -/
def Whole1 (x : Ev) : Prop := ∃ a d : Int, 0 ≤ a ∧ 1 ≤ d ∧ a + d ≤ 1000000 ∧ x.at_ = (a, 1) ∧ x.dur = (d, 1)
theorem whole_next {a d : Int} (h : 0 ≤ a) (h1 : 1 ≤ d) (h2 : a + d ≤ 10000000) : addS (a, 1) (d, 1) = (a + d, 1, 0) := by
  have q1 : okq 1 := ⟨by omega, by omega⟩
  have e := cq_add (q := 1) (m := a) (n := d) (inq_of q1 h (by omega)) (inq_of q1 (by omega) (by omega)) (inq_of q1 (by omega) (by omega))
  rwa [cq_one h (by omega), cq_one (by omega) (by omega), cq_one (by omega) (by omega)] at e
theorem Whole1.next {x : Ev} (h : Whole1 x) : nextS (dblE x) = dbl (nextS x) := by
  obtain ⟨a, d, h1, h2, h3, e1, e2⟩ := h
  unfold nextS dblE dbl
  simp only [e1, e2]
  rw [whole_next h1 h2 (by omega), whole_next (by omega) (by omega) (by omega)]
  simp only [Prod.mk.injEq, and_true]
  omega
def WholeV (v : List Ev) : Prop := ∀ x ∈ v, Whole1 x
section
variable {l : List (List Ev)} (hw : ∀ v ∈ l, WholeV v) (hp : ∀ v ∈ l, PitsV v)
include hw
omit hw in
/-- All dissonances as a list of places. -/
theorem filt_flat {α β : Type} (p : α → Bool) (f : α → β) (P : List α) : P.flatMap (fun x => if p x = true then [f x] else []) = (P.filter p).map f := by
  induction P with
  | nil => rfl
  | cons x P ih =>
    rw [List.flatMap_cons, ih, List.filter_cons]
    cases h : p x with
    | true => simp
    | false => simp
include hp
end
end Go.Proofs.YtpkmiegccfhpnaaGreatDoor

/- Plain mathematics of dissonances: the three voices made of numbers. -/
namespace Go.Proofs.YtpkmiegccfhpnaaGreatDoor
section
variable (l : List Int)
end
/-! ### A voice that rests until the end -/
section
variable {M : Int} {l : List (List Ev)} (h : SetQ M l) (h8 : l.length ≤ 7) (h0 : 0 < (momS l).length)
include h h0
include h8
end
end Go.Proofs.YtpkmiegccfhpnaaGreatDoor
namespace Go.Proofs.YtpkmiegccfhpnaaGreatDoor
theorem getD_at {l : List (List Ev)} {i : Nat} {v : List Ev} (h : l[i]? = some v) : l.getD i [] = v := by simp [List.getD, h]
/-- A function with one value laid in. -/
def updO {γ β : Type} [DecidableEq γ] (f : γ → Option β) (x : γ) (y : β) : γ → Option β := fun z => if z = x then some y else f z
/-! ### Clausulae -/
/-- The interval into event i of a voice. -/
def ivl (v : List Ev) (i : Nat) : Int × Int := match v[i - 1]?, v[i]? with
  | some x, some y => btw x.pit y.pit
  | _, _ => (0, 0)
def noteB (v : List Ev) (i : Nat) : Bool := match v[i]? with
  | some x => !x.rest
  | none => false
def clOf (s : Int) : Int := if s = 1 then 1 else if s = -1 then 2 else if s = 3 ∨ s = -4 then 3 else 0
/-- The kind of the clausula that ends on event i, 0 if there is none. -/
def clK (v : List Ev) (i : Nat) : Int := if 1 ≤ i ∧ noteB v (i - 1) = true ∧ noteB v i = true then clOf (ivl v i).1 else 0
def atOf (v : List Ev) (i : Nat) : Tm := match v[i]? with
  | some x => x.at_
  | none => (0, 0)
def pitOf (v : List Ev) (i : Nat) : Pit3 := match v[i]? with
  | some x => x.pit
  | none => (0, 0, 0)
def clausL (v : List Ev) (k : Nat) : List (Int × Int) := (List.range k).filterMap fun i => if clK v i = 0 then none else some ((i : Int), clK v i)
def clausE (v : List Ev) : List (Int × Int) := clausL v v.length
def endStep (v : List Ev) (kind : Int) (f : Tm → Option Int) (c : Int × Int) : Tm → Option Int := if c.2 = kind then updO f (atOf v c.1.toNat) c.1 else f
def endF (v : List Ev) (kind : Int) (L : List (Int × Int)) : Tm → Option Int := L.foldl (endStep v kind) (fun _ => none)
def cEnd (v : List Ev) (kind : Int) : Tm → Option Int := endF v kind (clausE v)
theorem clausL_succ (v : List Ev) (k : Nat) : clausL v (k + 1) = clausL v k ++ (if clK v k = 0 then [] else [((k : Int), clK v k)]) := by
  unfold clausL
  rw [List.range_succ, List.filterMap_append]
  congr 1
  by_cases h : clK v k = 0 <;> simp [h]
theorem clausL_one (v : List Ev) : clausL v 1 = [] := by
  rw [clausL_succ]
  have : clK v 0 = 0 := by unfold clK; rw [if_neg (by omega)]
  simp [this, clausL]
theorem clausL_mem {v : List Ev} {k : Nat} {c : Int × Int} : c ∈ clausL v k ↔ ∃ i : Nat, i < k ∧ clK v i ≠ 0 ∧ c = ((i : Int), clK v i) := by
  unfold clausL
  rw [List.mem_filterMap]
  constructor
  · rintro ⟨i, hi, h⟩
    split at h
    · cases h
    · rename_i h0
      exact ⟨i, List.mem_range.1 hi, h0, (Option.some.inj h).symm⟩
  · rintro ⟨i, hi, h0, rfl⟩
    exact ⟨i, List.mem_range.2 hi, by rw [if_neg h0]⟩
theorem clausL_len (v : List Ev) (k : Nat) : (clausL v k).length ≤ k := by
  unfold clausL
  exact Nat.le_trans (List.length_filterMap_le _ _) (by simp)
theorem clOf_bd (s : Int) : 0 ≤ clOf s ∧ clOf s ≤ 3 := by unfold clOf; (repeat' split) <;> omega
theorem clK_bd (v : List Ev) (i : Nat) : 0 ≤ clK v i ∧ clK v i ≤ 3 := by unfold clK; split; exact clOf_bd _; omega
theorem note_lt {v : List Ev} {i : Nat} (h : noteB v i = true) : i < v.length := by
  unfold noteB at h
  split at h
  · rename_i x hx; exact (List.getElem?_eq_some_iff.1 hx).1
  · cases h
theorem clK_ne {v : List Ev} {i : Nat} (h : clK v i ≠ 0) : 1 ≤ i ∧ noteB v (i - 1) = true ∧ noteB v i = true ∧ i < v.length ∧ clK v i = clOf (ivl v i).1 := by
  unfold clK at h ⊢
  split at h
  · rename_i h1
    rw [if_pos h1]
    exact ⟨h1.1, h1.2.1, h1.2.2, note_lt h1.2.2, rfl⟩
  · exact absurd rfl h
theorem atOf_inj {v : List Ev} (h : Val v) {i j : Nat} (hi : i < v.length) (hj : j < v.length) (e : atOf v i = atOf v j) : i = j := by
  obtain ⟨x, hx⟩ := get_some hi
  obtain ⟨y, hy⟩ := get_some hj
  unfold atOf at e
  rw [hx, hy] at e
  simp only at e
  rcases Nat.lt_trichotomy i j with hlt | rfl | hlt
  · have := (at_lt h j i x y hx hy hlt).1
    rw [e] at this
    exact absurd this (ltT_irr _)
  · rfl
  · have := (at_lt h i j y x hy hx hlt).1
    rw [e] at this
    exact absurd this (ltT_irr _)
theorem endF_snoc (v : List Ev) (kind : Int) (L : List (Int × Int)) (c : Int × Int) : endF v kind (L ++ [c]) = endStep v kind (endF v kind L) c := by unfold endF; rw [List.foldl_append]; rfl
theorem endF_take {v : List Ev} {kind : Int} {L : List (Int × Int)} {j : Nat} {c : Int × Int} (h : L[j]? = some c) : endF v kind (L.take (j + 1)) = endStep v kind (endF v kind (L.take j)) c := by
  rw [← endF_snoc, List.take_add_one, h]; rfl
theorem endF_spec {v : List Ev} (h : Val v) {kind : Int} (hk : kind ≠ 0) : ∀ k : Nat, k ≤ v.length → ∀ (t : Tm) (i : Int), endF v kind (clausL v k) t = some i ↔ ∃ j : Nat, j < k ∧ i = (j : Int) ∧ clK v j = kind ∧ atOf v j = t := by
  intro k
  induction k with
  | zero => intro _ t i; exact ⟨fun hh => (by cases hh), fun ⟨j, hj, _⟩ => absurd hj (by omega)⟩
  | succ k ih =>
    intro hkl t i
    have ih := ih (by omega) t i
    rw [clausL_succ]
    by_cases h0 : clK v k = 0
    · rw [if_pos h0, List.append_nil, ih]
      constructor
      · rintro ⟨j, h1, h2⟩; exact ⟨j, by omega, h2⟩
      · rintro ⟨j, h1, h2, h3, h4⟩
        refine ⟨j, ?_, h2, h3, h4⟩
        by_cases e : j = k
        · subst e; omega
        · omega
    · rw [if_neg h0, endF_snoc]
      unfold endStep
      simp only [Int.toNat_natCast]
      by_cases hkd : clK v k = kind
      · rw [if_pos hkd]
        unfold updO
        by_cases ht : t = atOf v k
        · rw [if_pos ht]
          constructor
          · intro hh; exact ⟨k, by omega, (Option.some.inj hh).symm, hkd, ht.symm⟩
          · rintro ⟨j, h1, h2, h3, h4⟩
            have : j = k := atOf_inj h (by omega) (by omega) (by rw [h4, ht])
            rw [h2, this]
        · rw [if_neg ht, ih]
          constructor
          · rintro ⟨j, h1, h2⟩; exact ⟨j, by omega, h2⟩
          · rintro ⟨j, h1, h2, h3, h4⟩
            refine ⟨j, ?_, h2, h3, h4⟩
            by_cases e : j = k
            · subst e; exact absurd h4.symm ht
            · omega
      · rw [if_neg hkd, ih]
        constructor
        · rintro ⟨j, h1, h2⟩; exact ⟨j, by omega, h2⟩
        · rintro ⟨j, h1, h2, h3, h4⟩
          refine ⟨j, ?_, h2, h3, h4⟩
          by_cases e : j = k
          · subst e; exact absurd h3 hkd
          · omega
theorem cEnd_spec {v : List Ev} (h : Val v) {kind : Int} (hk : kind ≠ 0) (t : Tm) (i : Int) : cEnd v kind t = some i ↔ ∃ j : Nat, i = (j : Int) ∧ clK v j = kind ∧ atOf v j = t := by
  unfold cEnd clausE
  rw [endF_spec h hk v.length (Nat.le_refl _)]
  constructor
  · rintro ⟨j, _, h2⟩; exact ⟨j, h2⟩
  · rintro ⟨j, h2, h3, h4⟩; exact ⟨j, (clK_ne (by rw [h3]; exact hk)).2.2.2.1, h2, h3, h4⟩
/-! ### Cadences -/
def octB (p q : Pit3) : Bool := decide ((btw p q).1 % 7 = 0) && decide ((btw p q).2 = (btw p q).1 / 7 * 12)
/-- A cantizans to event i of voice c and a tenorizans to event k of voice t make a cadence. -/
def CadAt (l : List (List Ev)) (c i t k : Nat) : Bool :=
  decide (c ≠ t) && (decide (clK (l.getD c []) i = 1) && (decide (clK (l.getD t []) k = 2) && (decide (atOf (l.getD c []) i = atOf (l.getD t []) k) && octB (pitOf (l.getD c []) i) (pitOf (l.getD t []) k))))
def cadK (l : List (List Ev)) (c i t k : Nat) : Int := if (ivl (l.getD c []) i).2 = 1 then 1 else if (ivl (l.getD t []) k).2 = -1 then 2 else 3
structure Cad where
  at_ : Tm
  c : Int
  t : Int
  b : Int
  step : Int
  kind : Int
/-- What cadence.Find says of a cadence. -/
def CadOK (l : List (List Ev)) (x : Cad) : Prop := ∃ c i t k : Nat, CadAt l c i t k = true ∧ x.at_ = atOf (l.getD c []) i ∧ x.c = (c : Int) ∧ x.t = (t : Int) ∧ x.kind = cadK l c i t k
def weakB (l : List (List Ev)) (c i : Nat) : Bool := (List.range l.length).any fun t => (List.range (l.getD t []).length).any fun k => CadAt l c i t k && decide (cadK l c i t k = 3)
theorem cad_parts {l : List (List Ev)} {c i t k : Nat} (h : CadAt l c i t k = true) : c ≠ t ∧ clK (l.getD c []) i = 1 ∧ clK (l.getD t []) k = 2 ∧ atOf (l.getD c []) i = atOf (l.getD t []) k ∧ octB (pitOf (l.getD c []) i) (pitOf (l.getD t []) k) = true := by
  unfold CadAt at h
  simp only [Bool.and_eq_true, decide_eq_true_eq] at h
  exact h
theorem getD_lt {l : List (List Ev)} {c i : Nat} (h : clK (l.getD c []) i ≠ 0) : c < l.length := by
  by_cases hc : c < l.length
  · exact hc
  · exfalso
    have : l.getD c [] = [] := by simp [List.getD, hc]
    rw [this] at h
    have := (clK_ne h).2.2.2.1
    simp at this
theorem weak_iff {l : List (List Ev)} (hv : ∀ v ∈ l, Val v) {c i : Nat} (hi : i < (l.getD c []).length) : weakB l c i = true ↔ ∃ x, CadOK l x ∧ x.kind = 3 ∧ x.c = (c : Int) ∧ x.at_ = atOf (l.getD c []) i := by
  unfold weakB
  simp only [List.any_eq_true, List.mem_range, Bool.and_eq_true, decide_eq_true_eq]
  constructor
  · rintro ⟨t, ht, k, hk, h1, h2⟩
    exact ⟨⟨atOf (l.getD c []) i, c, t, 0, 0, 3⟩, ⟨c, i, t, k, h1, rfl, rfl, rfl, h2.symm⟩, rfl, rfl, rfl⟩
  · rintro ⟨x, ⟨c', i', t, k, h1, h2, h3, h4, h5⟩, h6, h7, h8⟩
    have hc : c' = c := by have := h3.symm.trans h7; omega
    subst hc
    obtain ⟨p1, p2, p3, p4, p5⟩ := cad_parts h1
    have hcl := getD_lt (l := l) (c := c') (i := i') (by omega)
    have hval : Val (l.getD c' []) := by
      obtain ⟨v, hvv⟩ := get_some hcl
      rw [getD_at hvv]
      exact hv v (List.mem_of_getElem? hvv)
    have hii : i' = i := atOf_inj hval (clK_ne (by omega)).2.2.2.1 hi (by rw [← h2, h8])
    subst hii
    exact ⟨t, getD_lt (l := l) (c := t) (i := k) (by omega), k, (clK_ne (by omega)).2.2.2.1, h1, by rw [← h5, h6]⟩
/-! ### Proposals -/
abbrev Plc := Int × Int
abbrev Fic := Int × Int × Int × Int
def evA (l : List (List Ev)) (p : Plc) : Option Ev := if p.1 < 0 ∨ p.2 < 0 then none else (l.getD p.1.toNat [])[p.2.toNat]?
def freeB (l : List (List Ev)) (p : Plc) : Bool := match evA l p with
  | some x => !x.rest && decide (x.pit.2.2 = 0)
  | none => false
def leadB (l : List (List Ev)) (p : Plc) : Bool := freeB l p && (weakB l p.1.toNat (p.2.toNat + 1) && decide ((ivl (l.getD p.1.toNat []) (p.2.toNat + 1)).2 = 2))
def flat (p : Pit3) : Pit3 := (p.1, p.2.1, -1)
/-- Two pitches with a step and no alteration: the first, the second or neither. -/
def flatN (p q : Pit3) (s : Int) : Nat := if p.1 = s ∧ p.2.2 = 0 then 1 else if q.1 = s ∧ q.2.2 = 0 then 2 else 0
def triN (p q : Pit3) : Nat := if flatN p q 6 ≠ 0 then flatN p q 6 else flatN p q 2
def triQ (p q : Pit3) : Nat :=
  if kindP p q ≠ 4 then 0
  else if triN p q = 0 then 0
  else if triN p q = 1 then (if kindP (flat p) q ≠ 4 then 1 else 0)
  else if kindP p (flat q) ≠ 4 then 2 else 0
def triP (l : List (List Ev)) (t : Tm) (a b : Nat) : List Plc :=
  match evA l ((a : Int), onS (l.getD a []) t), evA l ((b : Int), onS (l.getD b []) t) with
  | some x, some y => if x.rest = true ∨ y.rest = true then [] else
      if triQ x.pit y.pit = 1 then [((a : Int), onS (l.getD a []) t)] else if triQ x.pit y.pit = 2 then [((b : Int), onS (l.getD b []) t)] else []
  | _, _ => []
def triR (l : List (List Ev)) (t : Tm) (a k : Nat) : List Plc := (List.range k).flatMap fun b => if a < b then triP l t a b else []
def triV (l : List (List Ev)) (t : Tm) (k : Nat) : List Plc := (List.range k).flatMap fun a => triR l t a l.length
def triS (l : List (List Ev)) (k : Nat) : List Plc := (List.range k).flatMap fun i => triV l (mAt (momS l) i) l.length
def triL (l : List (List Ev)) : List Plc := triS l ((momS l).length - 1)
def supP (l : List (List Ev)) (v e : Nat) : List Plc :=
  match (l.getD v [])[e - 1]?, (l.getD v [])[e]?, (l.getD v [])[e + 1]? with
  | some a, some b, some c => if 1 ≤ e ∧ (a.rest = false ∧ b.rest = false ∧ c.rest = false) ∧ a.pit = c.pit ∧ a.pit.1 = 5 ∧ b.pit.2.2 = 0 ∧ numP b.pit = numP a.pit + 1 then [((v : Int), (e : Int))] else []
  | _, _, _ => []
def supV (l : List (List Ev)) (v k : Nat) : List Plc := (List.range k).flatMap fun e => supP l v e
def supS (l : List (List Ev)) (k : Nat) : List Plc := (List.range k).flatMap fun v => supV l v (l.getD v []).length
def supL (l : List (List Ev)) : List Plc := supS l l.length
theorem flat_succ {α : Type} (f : Nat → List α) (k : Nat) : (List.range (k + 1)).flatMap f = (List.range k).flatMap f ++ f k := by rw [List.range_succ, List.flatMap_append]; simp
/-- One call of yield. -/
def yld (dn : Plc → Option Fic) (r a : Int) (f : Plc → Option Fic) (p : Plc) : Plc → Option Fic := if (dn p).isSome = false ∧ (f p).isSome = false then updO f p (p.1, p.2, a, r) else f
def ylds (dn : Plc → Option Fic) (r a : Int) (f : Plc → Option Fic) (L : List Plc) : Plc → Option Fic := L.foldl (yld dn r a) f
theorem ylds_append (dn : Plc → Option Fic) (r a : Int) (f : Plc → Option Fic) (L M : List Plc) : ylds dn r a f (L ++ M) = ylds dn r a (ylds dn r a f L) M := by unfold ylds; rw [List.foldl_append]
theorem ylds_at (dn : Plc → Option Fic) (r a : Int) : ∀ (L : List Plc) (f : Plc → Option Fic) (p : Plc), ylds dn r a f L p = match f p with
    | some x => some x
    | none => if p ∈ L ∧ (dn p).isSome = false then some (p.1, p.2, a, r) else none := by
  intro L
  induction L with
  | nil => intro f p; show f p = _; cases f p <;> simp
  | cons q L ih =>
    intro f p
    show ylds dn r a (yld dn r a f q) L p = _
    rw [ih]
    unfold yld
    by_cases hq : (dn q).isSome = false ∧ (f q).isSome = false
    · rw [if_pos hq]
      unfold updO
      by_cases e : p = q
      · subst e
        rw [if_pos rfl]
        have : f p = none := by cases hf : f p with
          | none => rfl
          | some y => rw [hf] at hq; simp at hq
        rw [this]
        simp only
        rw [if_pos ⟨List.mem_cons_self, hq.1⟩]
      · rw [if_neg e]
        cases f p with
        | some x => rfl
        | none =>
          simp only
          have : (p ∈ q :: L) ↔ (p ∈ L) := by rw [List.mem_cons]; exact ⟨fun h => h.resolve_left e, Or.inr⟩
          simp only [this]
    · rw [if_neg hq]
      cases hf : f p with
      | some x => rfl
      | none =>
        simp only
        by_cases e : p = q
        · subst e
          have hd : ¬ (dn p).isSome = false := fun h => hq ⟨h, by rw [hf]; rfl⟩
          rw [if_neg (fun h => hd h.2), if_neg (fun h => hd h.2)]
        · have : (p ∈ q :: L) ↔ (p ∈ L) := by rw [List.mem_cons]; exact ⟨fun h => h.resolve_left e, Or.inr⟩
          simp only [this]
/-- The proposals of a round, by their places. -/
def rnd (l : List (List Ev)) (dn : Plc → Option Fic) (p : Plc) : Option Fic :=
  if (dn p).isSome = true then none
  else if leadB l p = true then some (p.1, p.2, 1, 1)
  else if p ∈ triL l then some (p.1, p.2, -1, 2)
  else if p ∈ supL l then some (p.1, p.2, -1, 3)
  else none
theorem rnd_eq {l : List (List Ev)} {dn : Plc → Option Fic} {L : List Plc} (hL : ∀ p, p ∈ L ↔ leadB l p = true) : ylds dn 3 (-1) (ylds dn 2 (-1) (ylds dn 1 1 (fun _ => none) L) (triL l)) (supL l) = rnd l dn := by
  funext p
  rw [ylds_at, ylds_at, ylds_at]
  unfold rnd
  simp only
  by_cases hd : (dn p).isSome = true
  · rw [if_pos hd]
    have hd' : ¬ (dn p).isSome = false := by rw [hd]; simp
    rw [if_neg (fun h => hd' h.2)]
    simp only
    rw [if_neg (fun h => hd' h.2)]
    simp only
    rw [if_neg (fun h => hd' h.2)]
  · have hd' : (dn p).isSome = false := by simpa using hd
    rw [if_neg hd]
    simp only [hd', and_true, hL]
    by_cases h1 : leadB l p = true
    · simp [h1]
    · by_cases h2 : p ∈ triL l
      · simp [h1, h2]
      · simp [h1, h2]
/-- All places of a setting, in their order. -/
def plcL (l : List (List Ev)) : List Plc := (List.range l.length).flatMap fun (v : Nat) => (List.range (l.getD v []).length).map fun (e : Nat) => ((v : Int), (e : Int))
def listF (l : List (List Ev)) (f : Plc → Option Fic) : List Fic := (plcL l).filterMap f
def altE (a : Int) (x : Ev) : Ev := { x with pit := (x.pit.1, x.pit.2.1, a) }
def setA (l : List (List Ev)) (x : Fic) : List (List Ev) := l.modify x.1.toNat fun v => v.modify x.2.1.toNat (altE x.2.2.1)
def withL (l : List (List Ev)) (L : List Fic) : List (List Ev) := L.foldl setA l
def mergeF (dn now : Plc → Option Fic) : Plc → Option Fic := fun p => match now p with
  | some x => some x
  | none => dn p
/-- All rounds: what has been proposed, and how many rounds had proposals. -/
def allR : Nat → List (List Ev) → (Plc → Option Fic) → (Plc → Option Fic) × Nat
  | 0, _, dn => (dn, 0)
  | n + 1, l, dn => if listF l (rnd l dn) = [] then (dn, 0) else ((allR n (withL l (listF l (rnd l dn))) (mergeF dn (rnd l dn))).1, (allR n (withL l (listF l (rnd l dn))) (mergeF dn (rnd l dn))).2 + 1)
def allF (l : List (List Ev)) : (Plc → Option Fic) × Nat := allR (plcL l).length l fun _ => none
def allFi (l : List (List Ev)) : List Fic := listF l (allF l).1
def allE (l : List (List Ev)) : List Fic × Int := if (slicesE l).2 ≠ 0 then ([], (slicesE l).2) else (allFi l, 0)
def roundsE (l : List (List Ev)) : Int × Int := if (slicesE l).2 ≠ 0 then (0, (slicesE l).2) else ((allF l).2, 0)
def lessF (a b : Fic) : Prop := a.1 < b.1 ∨ (a.1 = b.1 ∧ a.2.1 < b.2.1)
instance (a b : Fic) : Decidable (lessF a b) := inferInstanceAs (Decidable (_ ∨ _))
def inF (l : List (List Ev)) (x : Fic) : Bool := decide (0 ≤ x.1 ∧ x.1 < l.length ∧ 0 ≤ x.2.1 ∧ x.2.1 < (l.getD x.1.toNat []).length)
def oneF (l : List (List Ev)) (prev : Option Fic) (x : Fic) : Int :=
  if inF l x = false then 2
  else if freeB l (x.1, x.2.1) = false ∨ (x.2.2.1 ≠ -1 ∧ x.2.2.1 ≠ 1) then 3
  else if x.2.2.2 < 1 ∨ 3 < x.2.2.2 then 8
  else match prev with
    | some y => if lessF y x then 0 else 6
    | none => 0
def chkF (l : List (List Ev)) (prev : Option Fic) (i : Int) : List Fic → Int × Int
  | [] => (0, 0)
  | x :: L => if oneF l prev x ≠ 0 then (oneF l prev x, i) else chkF l (some x) (i + 1) L
def checkF (l : List (List Ev)) (L : List Fic) : Int × Int := if (slicesE l).2 ≠ 0 then ((slicesE l).2, 0) else chkF l none 0 L
def applyE (l : List (List Ev)) (L : List Fic) : List (List Ev) × Int := if (checkF l L).1 ≠ 0 then ([], (checkF l L).1) else (withL l L, 0)
end Go.Proofs.YtpkmiegccfhpnaaGreatDoor
