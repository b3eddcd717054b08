
/- The law's copy of a setting. -/
import Derived.Test.YtmlcnmnpkemdpaaDoorAlLight
import Derived.Test.YtmlcnmnpkemdpaaDoorDsPlain
namespace Go.Proofs.YtmlcnmnpkemdpaaDoor
open Go.RowKit
/-- The blocks of the rows ascend. -/
def Far (ds : List Pl) : Prop := ∀ (j k : Nat) (d d' : Pl) (p q : Addr), j < k → ds[j]? = some d → ds[k]? = some d' → d.1 = some p → d'.1 = some q → p.block < q.block
theorem Far.nil_ : Far [] := fun j k d d' p q _ h => by simp at h
theorem Far.snoc {ds : List Pl} {x : Pl} {B : Nat} (h : Far ds) (h1 : ∀ d ∈ ds, ∀ p, d.1 = some p → p.block < B) (h2 : ∀ q, x.1 = some q → B ≤ q.block) : Far (ds ++ [x]) := by
  intro j k d d' p q hjk hd hd' hp hq
  rcases Nat.lt_or_ge k ds.length with hk | hk
  · rw [List.getElem?_append_left hk] at hd'
    rw [List.getElem?_append_left (by omega)] at hd
    exact h j k d d' p q hjk hd hd' hp hq
  · have hk2 : k = ds.length := by
      have := (List.getElem?_eq_some_iff.1 hd').1
      rw [List.length_append, List.length_singleton] at this
      omega
    subst hk2
    rw [List.getElem?_append_right (Nat.le_refl _)] at hd'
    simp at hd'
    subst hd'
    rw [List.getElem?_append_left (by omega)] at hd
    have a1 := h1 d (List.mem_of_getElem? hd) p hp
    have a2 := h2 q hq
    omega
/-- The rows lie in the world. -/
theorem VocAt.lt {w : World} {base : Nat} {ds : List Pl} {l : List (List Ev)} (h : VocAt w base ds l) (hl : ds.length ≤ l.length) : ∀ d ∈ ds, ∀ p, d.1 = some p → p.block < w.heap.size := fun d hd p hp => by
  obtain ⟨k, hk⟩ := List.getElem?_of_mem hd
  obtain ⟨v, hv⟩ := get_some (l := l) (k := k) (by have := (List.getElem?_eq_some_iff.1 hk).1; omega)
  have h1 := (h k d v hk hv).1
  rw [hp] at h1
  exact (h1.lt p.block rfl).2
theorem own_base {w : World} {base size n m c : Nat} {e : TypeId} {q : Addr} {xs : List Value} (h : w.ownsRow base e size (.slice (some q) m c) n xs) : base ≤ q.block := (h.lt q.block rfl).1
/-- What the law's copy hands back: a row of its own, each voice in a row of its own. -/
def OwnX (n : Nat) (l : List (List Ev)) (w : World) (e : Ending) (w' : World) : Prop :=
  ∃ u ds, e = .returned u ∧ w'.ownsRow w.heap.size 37 1 u n (csV ds) ∧ ds.length = n ∧ VocAt w' w.heap.size ds l ∧ Far ds ∧ Below w.heap.size w w'
set_option maxRecDepth 100000 in
set_option maxHeartbeats 4000000 in
theorem own32_row (A : Option Addr) (n c : Nat) (l : List (List Ev)) (w : World) (h : ReadsV w w.heap.size A n l) (hn : n ≤ 10) (hv9 : ∀ v ∈ l, v.length ≤ 24) :
    Calls Tryd.prog 24 #[.slice A n c] w fun e w' => OwnX n l w e w' := by
  have HL := Lib.hid h.len
  have HV9 := Lib.hid hv9
  have HNE : 54 ≠ 37 := by decide
  clear hv9
  obtain ⟨i0, hi0, hz0, hz1, hz2⟩ := info_parts voice_info
  obtain ⟨j0, hj0, yz0, yz1, yz2⟩ := info_parts event_info
  go_enter Tryd.func24, Tryd.ntmps24
  go_wp2
  go_loopg [3, 4] n (fun gh u i wr => ∃ (k : Nat) (ds : List Pl), k + gh = n ∧ i = .int .i64 (k : Int) ∧ wr.ownsRow w.heap.size 37 1 u k (csV ds) ∧ ds.length = k ∧ VocAt wr w.heap.size ds l ∧ Far ds ∧ Below w.heap.size w wr)
  case atStart => exact ⟨0, [], by omega, by simp, ⟨rfl, .inl ⟨rfl, rfl⟩⟩, rfl, fun k d v hd _ => by simp at hd, Far.nil_, Below.refl _ _⟩
  case round =>
    obtain ⟨k, ds, hkg, rfl, hrow, hdl, hvs, hfar, k0⟩ := hrel
    have wk : IntKind.i64.wrap ((k : Int) + 1) = (k : Int) + 1 := IntWalk.i64_in _ (by omega)
    cases gk with
    | zero =>
      have hkn : k = n := by omega
      have d0 : ¬ ((k : Int) < (n : Int)) := by omega
      subst hkn
      have HX := Lib.hid (show OwnX k l w (.returned u3) wr from ⟨_, ds, rfl, hrow, hdl, hvs, hfar, k0⟩)
      obtain ⟨A9, c9, rfl, -, _, _⟩ := own_reads hrow
      clear hdl hkg hrow hvs hfar
      go_wp2
      refine ret_of (by simp [results, Tryd.results24, go_sem, *]; repeat' (first | rfl | apply And.intro)) rfl ?_
      exact HX.out
    | succ g =>
      have hkn : k < n := by omega
      have d0 : (k : Int) < (n : Int) := by omega
      obtain ⟨v, hv⟩ := get_some (l := l) (k := k) (by have := HL.out; omega)
      have hv24 := HV9.out v (List.mem_of_getElem? hv)
      obtain ⟨b, off, A', n', c', rfl, hab, cv, rv, hn', hvn⟩ := h.voice (Nat.le_refl _) k0 hkn hv
      have rv2 := rv
      have HVK := Lib.hid hv
      have HDL := Lib.hid hdl
      have HN' := Lib.hid hn'
      have hn24 : n' ≤ 24 := by omega
      have kz := k0.size
      clear hv hdl hvn hv24 hn'
      have lit := World.ownsRow_lit (e := 54) (size := 10) wr #[] 0 (Nat.le_refl _) (by simp [maxLen]) rfl
      go_wp2_with (first
        | (at_builtin; (refine wpList_append_any _ rfl (.tmp 12) (.tmp 16) 37 rfl wr.heap.size 54 j0 _ 10 80 Tryd.underlying37 hj0 yz0 yz1 yz2 rfl (by omega) (.slice (some ⟨wr.heap.size, 0, none⟩) 0 0) 0 [] rfl lit w.heap.size A' n' c' (csE v) rfl (rv2.below kz (below_alloc (Below.refl _ _) _)) (one_csE v) (by simp only [maxLen]; omega) (by omega) (by simp) ?_); intro v3 w3 hown3 hg3 hat3
           have k3 : Below wr.heap.size wr w3 := Below.grown (B := wr.heap.size) (below_alloc (Below.refl wr.heap.size wr) (.cells #[] 54)) hg3 (by simp) (fun x hx => by simp [Value.ownBlock] at hx; omega)
           simp only [Nat.zero_add, List.nil_append] at hown3
           obtain ⟨A3, c3, h3, r3, _, _⟩ := own_reads hown3
           subst h3
           have row3 := own_call hrow k3
           have vs3 := hvs.kept k3
           have z3 := k3.size)
        | (at_builtin; (refine wpList_append_any _ rfl (.tmp 11) (.tmp 18) 22 rfl w.heap.size 37 i0 _ 1 24 Tryd.underlying22 hi0 hz0 hz1 hz2 rfl (by omega) u3 k (csV ds) rfl (own_call row3 (below_alloc (Below.refl _ _) _)) (w3.heap.size + 1) (some ⟨w3.heap.size, 0, none⟩) 1 1 (csV [(A3, n', c3)]) rfl (Reads.newAt _ _ _ 1 1 _ rfl rfl) (one_csV _) (by simp only [maxLen]; omega) (by omega) (by simp; omega) ?_); intro v4 w4 hown4 hg4 hat4))
      have HFAR := Lib.hid (show Far (ds ++ [(A3, n', c3)]) from hfar.snoc (hvs.lt (by rw [HDL.out, HL.out]; exact Nat.le_of_lt hkn)) (fun q hq => by
        have h1 : A3 = some q := hq
        rw [h1] at hown3
        exact own_base hown3))
      have k2 := below_call k0 k3
      have hB4 : Below w.heap.size w3 w4 := Below.grown (B := w.heap.size) (a := w3) ((below_alloc (Below.refl w3.heap.size w3) (.cells #[.slice A3 n' c3] 37)).mono (by omega)) hg4 (by simp; omega) (fun x hx => (row3.lt x hx).1)
      have rowA := own_call row3 (below_alloc (Below.refl w3.heap.size w3) (.cells #[.slice A3 n' c3] 37))
      have HNV := Lib.hid (show VocAt w4 w.heap.size (ds ++ [(A3, n', c3)]) l from fun j d u hd hu => by
        rcases Nat.lt_or_ge j ds.length with hj | hj
        · rw [List.getElem?_append_left hj] at hd
          have h1 := vs3 j d u hd hu
          exact ⟨own_far (own_call h1.1 (below_alloc (Below.refl w3.heap.size w3) (.cells #[.slice A3 n' c3] 37))) rowA hg4 HNE, h1.2⟩
        · have hjk : j = k := by
            have h9 := (List.getElem?_eq_some_iff.1 hd).1
            rw [List.length_append, HDL.out] at h9
            rw [HDL.out] at hj
            have h10 : j < k + 1 := h9
            omega
          subst hjk
          rw [List.getElem?_append_right (by rw [HDL.out]; exact Nat.le_refl _), HDL.out] at hd
          simp at hd
          subst hd
          rw [HVK.out] at hu
          cases hu
          exact ⟨own_far (own_call (own_lower hown3 kz) (below_alloc (Below.refl w3.heap.size w3) (.cells #[.slice A3 n' c3] 37))) rowA hg4 HNE, HN'.out⟩)
      go_roundg g
      case measure => omega
      case rel => exact ⟨k + 1, ds ++ [(A3, n', c3)], by omega, by go_num, by rw [csV_append]; exact hown4, by rw [List.length_append, HDL.out]; rfl, HNV.out, HFAR.out, k2.trans hB4⟩
theorem own32_any (A : Option Addr) (n c : Nat) (l : List (List Ev)) (w : World) (h : ReadsV w w.heap.size A n l) (hn : n ≤ 10) (hv9 : ∀ v ∈ l, v.length ≤ 24) :
    Calls Tryd.prog 24 #[.slice A n c] w fun e w' => OwnRet n l w e w' := by
  refine (own32_row A n c l w h hn hv9).mono ?_
  rintro e w1 ⟨u, ds, rfl, hrow, hdl, hvs, hfar, k0⟩
  obtain ⟨A9, c9, rfl, r9, _, _⟩ := own_reads hrow
  exact ⟨A9, c9, rfl, ⟨ds, by rw [hdl]; exact h.len.symm, r9, fun j d v hd hv => by
    obtain ⟨h1, h2⟩ := hvs j d v hd hv
    obtain ⟨A8, c8, e8, r8, _, _⟩ := own_reads h1
    cases e8
    exact ⟨r8, h2⟩⟩, k0⟩
end Go.Proofs.YtmlcnmnpkemdpaaDoor
