/- Lists of events: the kit's copies and comparisons; slices of events of the call's own. -/
import Derived.Test.YtbljfaocmeeljaaEvEnd
import Derived.Test.YtbljfaocmeeljaaSlices
namespace Go.Proofs.Ytbljfaocmeeljaa
open Go.RowKit
theorem event_info : (Try.prog.info? 67).map (fun i => (i.zero, i.size, i.bytes)) = some (some (vE ⟨(0, 0), (0, 0), (0, 0, 0), false, 0, 0⟩), 10, 80) := by kernel_rfl
theorem one_csE (l : List Ev) : ∀ u ∈ csE l, u.oneCell' = true := by
  intro u hu
  obtain ⟨t, _, ht⟩ := List.mem_flatMap.1 hu
  simp [cE] at ht
  rcases ht with rfl | rfl | rfl | rfl | rfl | rfl | rfl | rfl | rfl | rfl <;> rfl
theorem csE_append (l m : List Ev) : csE (l ++ m) = csE l ++ csE m := by unfold csE; rw [List.flatMap_append]
theorem csE_len (l : List Ev) : (csE l).length = l.length * 10 := flat_len cE 10 (fun _ => rfl) l
theorem own_call {w w' : World} {base size n : Nat} {e : TypeId} {v : Value} {xs : List Value} (h : w.ownsRow base e size v n xs) (hb : Below w.heap.size w w') : w'.ownsRow base e size v n xs := by
  have hl := h.lt
  obtain ⟨h1, h2⟩ := h
  refine ⟨h1, ?_⟩
  rcases h2 with h2 | ⟨g, cap, cur, h2, h3, h4, h5⟩
  · exact .inl h2
  · refine .inr ⟨g, cap, cur, h2, h3, ?_, h5⟩
    rw [hb.block g (hl g (by rw [h2]; rfl)).2]; exact h4
/-- A slice of events of the call's own. -/
def OwnE (w : World) (base n : Nat) (A : Option Addr) (c : Nat) (l : List Ev) : Prop := w.ownsRow base 67 10 (.slice A n c) n (csE l) ∧ Reads w w.heap.size 10 A n (csE l) ∧ n ≤ c
theorem ownE_form {w : World} {base n : Nat} {v : Value} {l : List Ev} (h : w.ownsRow base 67 10 v n (csE l)) : ∃ A c, v = .slice A n c ∧ OwnE w base n A c l := by
  obtain ⟨A, c, e, hr, hc, _⟩ := own_reads h
  subst e
  exact ⟨A, c, rfl, h, hr, hc⟩
theorem OwnE.kept {w w' : World} {base n c : Nat} {A : Option Addr} {l : List Ev} (h : OwnE w base n A c l) (hb : Below w.heap.size w w') : OwnE w' base n A c l :=
  ⟨own_call h.1 hb, (h.2.1.below (Nat.le_refl _) hb).more hb.size, h.2.2⟩
set_option maxRecDepth 100000 in
set_option maxHeartbeats 400000 in
theorem ownEvents_any (A : Option Addr) (n c : Nat) (l : List Ev) (B : Nat) (w : World) (h : Reads w B 10 A n (csE l)) (hB : B ≤ w.heap.size) (hn : n ≤ 5000) :
    Calls Try.prog 42 #[.slice A n c] w fun e w' => ∃ A' c', e = .returned (.slice A' n c') ∧ OwnE w' w.heap.size n A' c' l ∧ Below w.heap.size w w' := by
  obtain ⟨i0, hi0, hz0, hz1, hz2⟩ := info_parts event_info
  go_enter Try.func42, Try.ntmps42
  go_wp2_with (at_builtin; (refine wpList_append_any _ rfl (.tmp 3) (.tmp 4) _ rfl w.heap.size 67 i0 _ 10 80 Try.underlying61 hi0 hz0 hz1 hz2 rfl (by omega) (.slice (some ⟨w.heap.size, 0, none⟩) 0 0) 0 [] rfl (World.ownsRow_lit w #[] 0 (Nat.le_refl _) (by simp [maxLen]) rfl) B A n c (csE l) rfl (h.below hB (below_alloc (Below.refl _ _) _)) (one_csE l) (by simp only [maxLen]; omega) (by omega) (by simp) ?_); intro v1 w1 hown1 hg1 hat1)
  go_ret
  simp only [Nat.zero_add, List.nil_append] at hown1
  obtain ⟨A', c', e, ho⟩ := ownE_form hown1
  subst e
  exact ⟨A', c', rfl, ho, (below_alloc (Below.refl _ _) _).grown hg1 (by simp) (fun k hk => by simp [Value.ownBlock] at hk; omega)⟩
set_option maxRecDepth 100000 in
set_option maxHeartbeats 1000000 in
theorem sameEvents_any (A A' : Option Addr) (n c c' : Nat) (l : List Ev) (B B' : Nat) (w : World) (h : Reads w B 10 A n (csE l)) (hB : B ≤ w.heap.size) (h' : Reads w B' 10 A' n (csE l)) (hB' : B' ≤ w.heap.size) (hn : n ≤ 9223372036854775807) :
    Calls Try.prog 50 #[.slice A n c, .slice A' n c'] w fun e w' => e = .returned (.bool true) ∧ Below w.heap.size w w' := by
  have hl := h.evlen
  have HL := Lib.hid hl; clear hl
  go_enter Try.func50, Try.ntmps50
  go_wp2
  go_loopw [5] (fun i wr => ∃ k : Nat, k ≤ n ∧ i = .int .i64 k ∧ Below w.heap.size w wr) (fun i _ => n - (intOf i).toNat)
  case atStart => exact ⟨0, by omega, rfl, Below.refl _ _⟩
  case round =>
    obtain ⟨k, hk, rfl, k0⟩ := hrel
    by_cases hlt : k < n
    · have hlt' : (k : Int) < (n : Int) := by omega
      obtain ⟨x, hx⟩ := get_some (l := l) (k := k) (by have := HL.out; omega)
      obtain ⟨b, off, rfl, hab, hc⟩ := h.ev hB k0 hlt hx
      obtain ⟨b', off', rfl, hab', hc'⟩ := h'.ev hB' k0 hlt hx
      obtain ⟨⟨a, a'⟩, ⟨d, d'⟩, ⟨p, q, r⟩, rst, sg, ps⟩ := x
      obtain ⟨c0, c1, c2, c3, c4, c5, c6, c7, c8, c9⟩ := ten hc
      obtain ⟨d0, d1, d2, d3, d4, d5, d6, d7, d8, d9⟩ := ten hc'
      clear hc hc' hx
      simp only at c0 c1 c2 c3 c4 c5 c6 c7 c8 c9 d0 d1 d2 d3 d4 d5 d6 d7 d8 d9
      go_wp2
      go_quiet (fail)
      go_wp2
      go_roundw
      case rel => exact ⟨k + 1, by omega, by go_num, below_drewN k0 _⟩
      case measure => simp [intOf]; omega
    · go_wp2
      go_ret
      exact ⟨rfl, k0⟩
end Go.Proofs.Ytbljfaocmeeljaa
