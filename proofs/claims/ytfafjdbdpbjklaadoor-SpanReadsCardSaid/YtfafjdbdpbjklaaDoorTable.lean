/- strconv.Itoa at every int: its table of powers of ten is the one that the row lists as laid. -/
import Derived.Test.YtfafjdbdpbjklaaDoorText
import Derived.Test.YtfafjdbdpbjklaaDoorDoor
import Derived.Lib.LaidTab
import Derived.MakeChecks
import Derived.LaidSub
import Derived.Lib.AppendIntMem
namespace Go.Proofs.YtfafjdbdpbjklaaDoor
open Go.RowKit

theorem table_of {W : World} (h : laidMetH Tryd.prog laids W) : Lib.TabIs Tryd.prog W "internal/strconv.uint64pow10" .u64 Lib.pow10Tab := by
  rw [MakeChecks.laidMetH_plain _ _ _ (by kernel_rfl)] at h
  have e : laids.filter (fun x => x.1 == "internal/strconv.uint64pow10") = [("internal/strconv.uint64pow10", Lib.tabData .u64 Lib.pow10Tab)] := by kernel_rfl
  have h := h.filter (fun x => x.1 == "internal/strconv.uint64pow10")
  rw [e] at h
  exact Lib.tabIs_of_head (rest := []) (g := 0) (t := 74) (e := 67) (n := 20) (by kernel_rfl) (by kernel_rfl) (by kernel_rfl) (by kernel_rfl) (by kernel_rfl) (by kernel_rfl) h
theorem itoa_of_table {w : World} (h : Lib.TabIs Tryd.prog w "internal/strconv.uint64pow10" .u64 Lib.pow10Tab) (n : Int) (h0 : -9223372036854775808 ≤ n) (h1 : n ≤ 9223372036854775807) : ItoaAt w n := by
  intro W hb
  refine (Tryd.strconv_Itoa n h0 h1 W (Joins.tab_stays (g := 0) (by kernel_rfl) h hb (Nat.le_refl _))).mono ?_
  rintro e w' ⟨he, k, os, rfl⟩
  exact ⟨he, Lib.below_grow _ _ (Nat.le_refl _) _ _⟩
section
open Go.ChangeShapes Go.WideShapes Go.ChangeAt Go.RowKit Go.WideMaps Go.WideElems
open Go.ChangeMaps (open_string)
variable {H : Type} {enc : TypeId × Value → H} {W : World} {base b0 : Nat} {spare : Nat → Bool} {held : Bool} {r : Reach} {v : Value} {d : DataW H} {p : List MemPlace}
theorem arg_string (hv : Value.okWide Tryd.prog W r b0 9 v) (h : DataW.Trod enc Tryd.prog W base spare held 9 v d p) : ∃ s : ByteArray, v = .string s ∧ s.size ≤ maxLen := by
  obtain ⟨s, rfl, _, _, hs⟩ := open_string Tryd.underlying9 hv h
  exact ⟨s, rfl, hs⟩
end
end Go.Proofs.YtfafjdbdpbjklaaDoor
