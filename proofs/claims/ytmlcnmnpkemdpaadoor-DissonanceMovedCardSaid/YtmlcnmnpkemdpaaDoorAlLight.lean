
/- The law's own settings: which are light, a copy, whether two are alike. -/
import Derived.Test.YtmlcnmnpkemdpaaDoorAlMem
import Derived.Test.YtmlcnmnpkemdpaaDoorAlSlMem
import Derived.Test.YtmlcnmnpkemdpaaDoorEvents
import Derived.Deep.LoopGhost
namespace Go.Proofs.YtmlcnmnpkemdpaaDoor
open Go.RowKit
def lightB (l : List (List Ev)) : Bool := decide (∀ v ∈ l.take 11, v.length ≤ 24) && decide (l.length ≤ 10)
theorem lightB_ok {l : List (List Ev)} (h : lightB l = true) : l.length ≤ 10 ∧ ∀ v ∈ l, v.length ≤ 24 := by
  unfold lightB at h
  rw [Bool.and_eq_true, decide_eq_true_eq, decide_eq_true_eq] at h
  exact ⟨h.2, fun v hv => h.1 v (by rw [List.take_of_length_le (by omega)]; exact hv)⟩
set_option maxRecDepth 100000 in
theorem voice_info : (Tryd.prog.info? 37).map (fun i => (i.zero, i.size, i.bytes)) = some (some (.slice none 0 0), 1, 24) := by kernel_rfl
theorem csV_append (a b : List Pl) : csV (a ++ b) = csV a ++ csV b := by unfold csV; rw [List.flatMap_append]
theorem one_csV (l : List Pl) : ∀ u ∈ csV l, u.oneCell' = true := by
  intro u hu
  obtain ⟨t, _, ht⟩ := List.mem_flatMap.1 hu
  simp [slV] at ht
  subst ht; rfl
/-- The voices lie in rows of the call's own. -/
def VocAt (w : World) (base : Nat) (ds : List Pl) (l : List (List Ev)) : Prop := ∀ (k : Nat) d v, ds[k]? = some d → l[k]? = some v → w.ownsRow base 54 10 (.slice d.1 d.2.1 d.2.2) d.2.1 (csE v) ∧ d.2.1 ≤ 9223372036854775807
theorem VocAt.kept {w W : World} {base : Nat} {ds : List Pl} {l : List (List Ev)} (h : VocAt w base ds l) (hb : Below w.heap.size w W) : VocAt W base ds l := fun k d v hd hv => ⟨own_call (h k d v hd hv).1 hb, (h k d v hd hv).2⟩
/-- What the law's copy hands back. -/
def OwnRet (n : Nat) (l : List (List Ev)) (w : World) (e : Ending) (w' : World) : Prop := ∃ A' c', e = .returned (.slice A' n c') ∧ ReadsV w' w'.heap.size A' n l ∧ Below w.heap.size w w'
end Go.Proofs.YtmlcnmnpkemdpaaDoor
