
/- Lists of structs of three numbers (pitches, clashes): slices of the call's own. -/
import Derived.Test.YtmlcnmnpkemdpaaDoorEvents
import Derived.Test.YtmlcnmnpkemdpaaDoorChPitch
namespace Go.Proofs.YtmlcnmnpkemdpaaDoor
open Go.RowKit
theorem pitch_info : (Tryd.prog.info? 32).map (fun i => (i.zero, i.size, i.bytes)) = some (some (.agg #[.int .i64 0, .int .i64 0, .int .i64 0]), 3, 24) := by kernel_rfl
theorem clash_info : (Tryd.prog.info? 93).map (fun i => (i.zero, i.size, i.bytes)) = some (some (.agg #[.int .i64 0, .int .i64 0, .int .i64 0]), 3, 24) := by kernel_rfl
theorem one_csP (l : List (Int × Int × Int)) : ∀ u ∈ csP l, u.oneCell' = true := by
  intro u hu
  obtain ⟨t, _, ht⟩ := List.mem_flatMap.1 hu
  simp [cP] at ht
  rcases ht with rfl | rfl | rfl <;> rfl
theorem csP_append (l m : List (Int × Int × Int)) : csP (l ++ m) = csP l ++ csP m := by unfold csP; rw [List.flatMap_append]
theorem csP_len (l : List (Int × Int × Int)) : (csP l).length = l.length * 3 := flat_len cP 3 (fun _ => rfl) l
/-- A slice of threes of the call's own. -/
def Own3 (t : TypeId) (w : World) (base n : Nat) (A : Option Addr) (c : Nat) (l : List (Int × Int × Int)) : Prop := w.ownsRow base t 3 (.slice A n c) n (csP l) ∧ Reads w w.heap.size 3 A n (csP l) ∧ n ≤ c
theorem own3_form {t : TypeId} {w : World} {base n : Nat} {v : Value} {l : List (Int × Int × Int)} (h : w.ownsRow base t 3 v n (csP l)) : ∃ A c, v = .slice A n c ∧ Own3 t w base n A c l := by
  obtain ⟨A, c, e, hr, hc, _⟩ := own_reads h
  subst e
  exact ⟨A, c, rfl, h, hr, hc⟩
theorem Own3.kept {t : TypeId} {w w' : World} {base n c : Nat} {A : Option Addr} {l : List (Int × Int × Int)} (h : Own3 t w base n A c l) (hb : Below w.heap.size w w') : Own3 t w' base n A c l :=
  ⟨own_call h.1 hb, (h.2.1.below (Nat.le_refl _) hb).more hb.size, h.2.2⟩
theorem Own3.nil_ (t : TypeId) (w : World) (base : Nat) : Own3 t w base 0 none 0 [] := ⟨⟨rfl, .inl ⟨rfl, rfl⟩⟩, Reads.none_, Nat.le_refl _⟩
theorem Own3.lower {t : TypeId} {w : World} {base base' n c : Nat} {A : Option Addr} {l : List (Int × Int × Int)} (h : Own3 t w base n A c l) (hb : base' ≤ base) : Own3 t w base' n A c l := by
  refine ⟨?_, h.2⟩
  obtain ⟨h1, h2⟩ := h.1
  refine ⟨h1, ?_⟩
  rcases h2 with h2 | ⟨g, cap, cur, h2, h3, h4⟩
  · exact .inl h2
  · exact .inr ⟨g, cap, cur, h2, by omega, h4⟩
theorem Own3.len {t : TypeId} {w : World} {base n c : Nat} {A : Option Addr} {l : List (Int × Int × Int)} (h : Own3 t w base n A c l) : l.length = n := h.2.1.ptlen
end Go.Proofs.YtmlcnmnpkemdpaaDoor
