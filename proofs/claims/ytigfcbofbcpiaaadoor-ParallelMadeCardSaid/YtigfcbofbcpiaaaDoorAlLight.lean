
/- The law's own settings: which are light, a copy, whether two are alike. -/
import Derived.Test.YtigfcbofbcpiaaaDoorAlMem
import Derived.Test.YtigfcbofbcpiaaaDoorAlSlMem
import Derived.Test.YtigfcbofbcpiaaaDoorEvents
import Derived.Deep.LoopGhost
namespace Go.Proofs.YtigfcbofbcpiaaaDoor
open Go.RowKit
def lightB (l : List (List Ev)) : Bool := decide (∀ v ∈ l.take 11, v.length ≤ 24) && decide (l.length ≤ 10)
theorem lightB_ok {l : List (List Ev)} (h : lightB l = true) : l.length ≤ 10 ∧ ∀ v ∈ l, v.length ≤ 24 := by
  unfold lightB at h
  rw [Bool.and_eq_true, decide_eq_true_eq, decide_eq_true_eq] at h
  exact ⟨h.2, fun v hv => h.1 v (by rw [List.take_of_length_le (by omega)]; exact hv)⟩
set_option maxRecDepth 100000 in
theorem voice_info : (Tryd.prog.info? 23).map (fun i => (i.zero, i.size, i.bytes)) = some (some (.slice none 0 0), 1, 24) := by kernel_rfl
theorem csV_append (a b : List Pl) : csV (a ++ b) = csV a ++ csV b := by unfold csV; rw [List.flatMap_append]
theorem one_csV (l : List Pl) : ∀ u ∈ csV l, u.oneCell' = true := by
  intro u hu
  obtain ⟨t, _, ht⟩ := List.mem_flatMap.1 hu
  simp [slV] at ht
  subst ht; rfl
/-- The voices lie in rows of the call's own. -/
def VocAt (w : World) (base : Nat) (ds : List Pl) (l : List (List Ev)) : Prop := ∀ (k : Nat) d v, ds[k]? = some d → l[k]? = some v → w.ownsRow base 70 10 (.slice d.1 d.2.1 d.2.2) d.2.1 (csE v) ∧ d.2.1 ≤ 9223372036854775807
theorem VocAt.kept {w W : World} {base : Nat} {ds : List Pl} {l : List (List Ev)} (h : VocAt w base ds l) (hb : Below w.heap.size w W) : VocAt W base ds l := fun k d v hd hv => ⟨own_call (h k d v hd hv).1 hb, (h k d v hd hv).2⟩
/-- What the law's copy hands back. -/
def OwnRet (n : Nat) (l : List (List Ev)) (w : World) (e : Ending) (w' : World) : Prop := ∃ A' c', e = .returned (.slice A' n c') ∧ ReadsV w' w'.heap.size A' n l ∧ Below w.heap.size w w'
set_option maxRecDepth 100000 in
set_option maxHeartbeats 4000000 in
theorem own_any (A : Option Addr) (n c : Nat) (l : List (List Ev)) (B : Nat) (w : World) (h : ReadsV w B A n l) (hB : B ≤ w.heap.size) (hn : n ≤ 10) (hv9 : ∀ v ∈ l, v.length ≤ 24) :
    Calls Tryd.prog 16 #[.slice A n c] w fun e w' => OwnRet n l w e w' := by
  have HL := Lib.hid h.len
  have HV9 := Lib.hid hv9
  clear hv9
  obtain ⟨i0, hi0, hz0, hz1, hz2⟩ := info_parts voice_info
  go_enter Tryd.func16, Tryd.ntmps16
  go_wp2
  go_loopg [3, 4] n (fun gh u i wr => ∃ (k : Nat) (ds : List Pl), k + gh = n ∧ i = .int .i64 (k : Int) ∧ wr.ownsRow w.heap.size 23 1 u k (csV ds) ∧ ds.length = k ∧ VocAt wr w.heap.size ds l ∧ Below w.heap.size w wr)
  case atStart => exact ⟨0, [], by omega, by simp, ⟨rfl, .inl ⟨rfl, rfl⟩⟩, rfl, fun k d v hd _ => by simp at hd, Below.refl _ _⟩
  case round =>
    obtain ⟨k, ds, hkg, rfl, hrow, hdl, hvs, k0⟩ := hrel
    have wk : IntKind.i64.wrap ((k : Int) + 1) = (k : Int) + 1 := IntWalk.i64_in _ (by omega)
    cases gk with
    | zero =>
      obtain rfl : k = n := by omega
      have d0 : ¬ ((k : Int) < (k : Int)) := by omega
      obtain ⟨A9, c9, rfl, r9, _, _⟩ := own_reads hrow
      have HF := Lib.hid (show ReadsV wr wr.heap.size A9 k l from ⟨ds, by rw [hdl]; exact HL.out.symm, r9, fun j d v hd hv => by
        obtain ⟨h1, h2⟩ := hvs j d v hd hv
        obtain ⟨A8, c8, e8, r8, _, _⟩ := own_reads h1
        cases e8
        exact ⟨r8, h2⟩⟩)
      clear hdl
      go_wp2
      go_ret
      exact ⟨A9, c9, rfl, HF.out, k0⟩
    | succ g =>
      have hkn : k < n := by omega
      have d0 : (k : Int) < (n : Int) := by omega
      obtain ⟨v, hv⟩ := get_some (l := l) (k := k) (by have := HL.out; omega)
      have hv24 := HV9.out v (List.mem_of_getElem? hv)
      obtain ⟨b, off, A', n', c', rfl, hab, cv, rv, hn', hvn⟩ := h.voice hB k0 hkn hv
      have HVK := Lib.hid hv
      have HDL := Lib.hid hdl
      have q1 := ownEvents_any A' n' c' v B wr rv (Nat.le_trans hB k0.size) (by omega)
      clear hv hdl
      go_wp2_with fail
      refine q1.mono ?_
      rintro e w2 ⟨A2, c2, rfl, ho2, hb2⟩
      have row2 := own_call hrow hb2
      have vs2 := hvs.kept hb2
      have k2 := below_call k0 hb2
      have kz := k0.size
      have kz2 := hb2.size
      clear hvs hrow q1
      go_wp2_with (at_builtin; (refine wpList_append_any _ rfl (.tmp 11) (.tmp 17) 25 rfl w.heap.size 23 i0 _ 1 24 Tryd.underlying25 hi0 hz0 hz1 hz2 rfl (by omega) u3 k (csV ds) rfl (own_call row2 (below_alloc (Below.refl _ _) _)) (w2.heap.size + 1) (some ⟨w2.heap.size, 0, none⟩) 1 1 (csV [(A2, n', c2)]) rfl (Reads.newAt _ _ _ 1 1 _ rfl rfl) (one_csV _) (by simp only [maxLen]; omega) (by omega) (by simp; omega) ?_); intro v4 w4 hown4 hg4 hat4)
      have hB4 : Below w.heap.size w2 w4 := Below.grown (B := w.heap.size) (a := w2) ((below_alloc (Below.refl w2.heap.size w2) (.cells #[.slice A2 n' c2] 23)).mono (by omega)) hg4 (by simp; omega) (fun x hx => (row2.lt x hx).1)
      have rowA := own_call row2 (below_alloc (Below.refl w2.heap.size w2) (.cells #[.slice A2 n' c2] 23))
      have HNV := Lib.hid (show VocAt w4 w.heap.size (ds ++ [(A2, n', c2)]) l from fun j d u hd hu => by
        rcases Nat.lt_or_ge j ds.length with hj | hj
        · rw [List.getElem?_append_left hj] at hd
          have h1 := vs2 j d u hd hu
          exact ⟨own_far (own_call h1.1 (below_alloc (Below.refl w2.heap.size w2) (.cells #[.slice A2 n' c2] 23))) rowA hg4 (by decide), h1.2⟩
        · have hjk : j = k := by
            have h9 := (List.getElem?_eq_some_iff.1 hd).1
            rw [List.length_append, HDL.out] at h9
            rw [HDL.out] at hj
            have h10 : j < k + 1 := h9
            omega
          subst hjk
          rw [List.getElem?_append_right (by rw [HDL.out]; exact Nat.le_refl _), HDL.out] at hd
          simp at hd
          subst hd
          rw [HVK.out] at hu
          cases hu
          exact ⟨own_far (own_call (own_lower ho2.1 kz) (below_alloc (Below.refl w2.heap.size w2) (.cells #[.slice A2 n' c2] 23))) rowA hg4 (by decide), hn'⟩)
      go_roundg g
      case measure => omega
      case rel => exact ⟨k + 1, ds ++ [(A2, n', c2)], by omega, by go_num, by rw [csV_append]; exact hown4, by rw [List.length_append, HDL.out]; rfl, HNV.out, k2.trans hB4⟩
set_option maxRecDepth 100000 in
set_option maxHeartbeats 1000000 in
theorem same_any (A A' : Option Addr) (n c c' : Nat) (l : List (List Ev)) (B B' : Nat) (w : World) (h : ReadsV w B A n l) (hB : B ≤ w.heap.size) (h' : ReadsV w B' A' n l) (hB' : B' ≤ w.heap.size) (hn : n ≤ 100000) :
    Calls Tryd.prog 28 #[.slice A n c, .slice A' n c'] w fun e w' => e = .returned (.bool true) ∧ Below w.heap.size w w' := by
  have HL := Lib.hid h.len
  go_enter Tryd.func28, Tryd.ntmps28
  go_wp2
  go_loopg [5] n (fun gh i wr => ∃ k : Nat, k + gh = n ∧ i = .int .i64 (k : Int) ∧ Below w.heap.size w wr)
  case atStart => exact ⟨0, by omega, by simp, Below.refl _ _⟩
  case round =>
    obtain ⟨k, hkg, rfl, k0⟩ := hrel
    have wk : IntKind.i64.wrap ((k : Int) + 1) = (k : Int) + 1 := IntWalk.i64_in _ (by omega)
    cases gk with
    | zero =>
      have d0 : ¬ ((k : Int) < (n : Int)) := by omega
      clear hkg
      go_wp2
      go_ret
      exact ⟨rfl, k0⟩
    | succ g =>
      have hkn : k < n := by omega
      have d0 : (k : Int) < (n : Int) := by omega
      obtain ⟨v, hv⟩ := get_some (l := l) (k := k) (by have := HL.out; omega)
      obtain ⟨b, off, A2, n2, c2, rfl, hab, cv, rv, hn2, hvn⟩ := h.voice hB k0 hkn hv
      obtain ⟨b', off', A3, n3, c3, rfl, hab', cv', rv', hn3, hvn'⟩ := h'.voice hB' k0 hkn hv
      have h23 : n3 = n2 := by omega
      subst h23
      have HQ := Lib.hid (fun W (hW : Below wr.heap.size wr W) => sameEvents_any A2 A3 n3 c2 c3 v B B' W (rv.below (Nat.le_trans hB k0.size) hW) (Nat.le_trans (Nat.le_trans hB k0.size) hW.size) (rv'.below (Nat.le_trans hB' k0.size) hW) (Nat.le_trans (Nat.le_trans hB' k0.size) hW.size) (by omega))
      clear hv
      go_wp2_with fail
      refine wp_region_calm (by kernel_rfl) (by kernel_rfl) ?_
      repeat (go_big_quiet_step ((go_at_call 49; exact calm_call (HQ.out _ (Calm.h _)))))
      refine wpQuiet_nil ?_
      intro wd gd
      go_wp2
      go_roundg g
      case measure => omega
      case rel => exact ⟨k + 1, by omega, by go_num, below_call k0 gd⟩
end Go.Proofs.YtigfcbofbcpiaaaDoor
