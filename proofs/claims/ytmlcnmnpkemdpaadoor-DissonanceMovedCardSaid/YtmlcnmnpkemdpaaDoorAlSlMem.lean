
/- Lists of slices in memory. -/
import Derived.Test.YtmlcnmnpkemdpaaDoorAlRef
namespace Go.Proofs.YtmlcnmnpkemdpaaDoor
open Go.RowKit
def cI (n : Int) : List Value := [.int .i64 n]
def csN (l : List Int) : List Value := l.flatMap cI
theorem csN_append (l m : List Int) : csN (l ++ m) = csN l ++ csN m := by unfold csN; rw [List.flatMap_append]
theorem csN_len (l : List Int) : (csN l).length = l.length * 1 := flat_len cI 1 (fun _ => rfl) l
theorem one_csN (l : List Int) : ∀ u ∈ csN l, u.oneCell' = true := by
  intro u hu
  obtain ⟨t, _, ht⟩ := List.mem_flatMap.1 hu
  simp [cI] at ht
  subst ht; rfl
set_option maxRecDepth 100000 in
theorem num_info : (Tryd.prog.info? 3).map (fun i => (i.zero, i.size, i.bytes)) = some (some (.int .i64 0), 1, 8) := by kernel_rfl
set_option maxRecDepth 100000 in
theorem sl_info : (Tryd.prog.info? 77).map (fun i => (i.zero, i.size, i.bytes)) = some (some (.agg #[.int .i64 0, .int .i64 0, .int .i64 0, .int .i64 0, .slice none 0 0]), 5, 56) := by kernel_rfl
/-- A slice in memory: its times, the place of its events. -/
def cS (p : Sl × Pl) : List Value := [.int .i64 p.1.at_.1, .int .i64 p.1.at_.2, .int .i64 p.1.dur.1, .int .i64 p.1.dur.2, .slice p.2.1 p.2.2.1 p.2.2.2]
def csS (l : List (Sl × Pl)) : List Value := l.flatMap cS
theorem csS_append (l m : List (Sl × Pl)) : csS (l ++ m) = csS l ++ csS m := by unfold csS; rw [List.flatMap_append]
theorem csS_len (l : List (Sl × Pl)) : (csS l).length = l.length * 5 := flat_len cS 5 (fun _ => rfl) l
theorem one_csS (l : List (Sl × Pl)) : ∀ u ∈ csS l, u.oneCell' = true := by
  intro u hu
  obtain ⟨t, _, ht⟩ := List.mem_flatMap.1 hu
  simp [cS] at ht
  rcases ht with rfl | rfl | rfl | rfl | rfl <;> rfl
/-- A row of another type stands where a row is appended to. -/
theorem own_far {w w' : World} {base base2 size size2 n n2 : Nat} {e e2 : TypeId} {v v2 : Value} {xs xs2 : List Value} (h : w.ownsRow base e size v n xs) (h2 : w.ownsRow base2 e2 size2 v2 n2 xs2) (hg : w.grownBy w' v2.ownBlock) (hne : e ≠ e2) : w'.ownsRow base e size v n xs := by
  have hl := h.lt
  obtain ⟨h1, h3⟩ := h
  refine ⟨h1, ?_⟩
  rcases h3 with h3 | ⟨g, cap, cur, hv, hb, hh, rest⟩
  · exact .inl h3
  · refine .inr ⟨g, cap, cur, hv, hb, ?_, rest⟩
    rw [hg.block g (hl g (by rw [hv]; rfl)).2 ?_]
    · exact hh
    · intro heq
      obtain ⟨_, h4⟩ := h2
      rcases h4 with ⟨rfl, _⟩ | ⟨g2, cap2, cur2, hv2, _, hh2, _⟩
      · cases heq
      · rw [hv2] at heq
        cases heq
        rw [hh] at hh2
        cases hh2
        exact hne rfl
/-- The events of slices lie where they are said to lie, in rows of the call's own. -/
def EvsAt (w : World) (base : Nat) (ps : List (Sl × Pl)) : Prop := ∀ p ∈ ps, p.1.evs.length = p.2.2.1 ∧ w.ownsRow base 3 1 (.slice p.2.1 p.2.2.1 p.2.2.2) p.2.2.1 (csN p.1.evs)
theorem EvsAt.kept {w W : World} {base : Nat} {ps : List (Sl × Pl)} (h : EvsAt w base ps) (hb : Below w.heap.size w W) : EvsAt W base ps := fun p hp => ⟨(h p hp).1, own_call (h p hp).2 hb⟩
theorem EvsAt.far {w W : World} {base base2 size2 n2 : Nat} {e2 : TypeId} {v2 : Value} {xs2 : List Value} {ps : List (Sl × Pl)} (h : EvsAt w base ps) (h2 : w.ownsRow base2 e2 size2 v2 n2 xs2) (hg : w.grownBy W v2.ownBlock) (hne : 3 ≠ e2) : EvsAt W base ps := fun p hp => ⟨(h p hp).1, own_far (h p hp).2 h2 hg hne⟩
theorem EvsAt.reads {w : World} {base : Nat} {ps : List (Sl × Pl)} (h : EvsAt w base ps) {p : Sl × Pl} (hp : p ∈ ps) : p.1.evs.length = p.2.2.1 ∧ Reads w w.heap.size 1 p.2.1 p.2.2.1 (csN p.1.evs) := by
  obtain ⟨h1, h2⟩ := h p hp
  obtain ⟨A, c, e, hr, _, _⟩ := own_reads h2
  cases e
  exact ⟨h1, hr⟩
/-- A value reads as a list of slices; the call's own row. -/
def EvsR (w : World) (B : Nat) (ps : List (Sl × Pl)) : Prop := ∀ p ∈ ps, p.1.evs.length = p.2.2.1 ∧ Reads w B 1 p.2.1 p.2.2.1 (csN p.1.evs)
def ReadsS (w : World) (B : Nat) (A : Option Addr) (n : Nat) (l : List Sl) : Prop := ∃ ps : List (Sl × Pl), ps.map (·.1) = l ∧ Reads w B 5 A n (csS ps) ∧ EvsR w B ps
def OwnS (w : World) (base : Nat) (v : Value) (l : List Sl) : Prop := ∃ ps : List (Sl × Pl), ps.map (·.1) = l ∧ w.ownsRow base 77 5 v l.length (csS ps) ∧ EvsAt w base ps
theorem OwnS.nil_ (w : World) (base : Nat) : OwnS w base (.slice none 0 0) [] := ⟨[], rfl, ⟨rfl, .inl ⟨rfl, rfl⟩⟩, fun p hp => by cases hp⟩
theorem OwnS.kept {w W : World} {base : Nat} {v : Value} {l : List Sl} (h : OwnS w base v l) (hb : Below w.heap.size w W) : OwnS W base v l := by
  obtain ⟨ps, h1, h2, h3⟩ := h
  exact ⟨ps, h1, own_call h2 hb, h3.kept hb⟩
theorem OwnS.reads {w : World} {base : Nat} {v : Value} {l : List Sl} (h : OwnS w base v l) : ∃ A c, v = .slice A l.length c ∧ ReadsS w w.heap.size A l.length l := by
  obtain ⟨ps, h1, h2, h3⟩ := h
  obtain ⟨A, c, e, hr, _, _⟩ := own_reads h2
  exact ⟨A, c, e, ps, h1, hr, fun p hp => h3.reads hp⟩
theorem ReadsS.below {w W : World} {B n : Nat} {A : Option Addr} {l : List Sl} (h : ReadsS w B A n l) (hB : B ≤ w.heap.size) (hb : Below w.heap.size w W) : ReadsS W B A n l := by
  obtain ⟨ps, h1, h2, h3⟩ := h
  exact ⟨ps, h1, h2.below hB hb, fun p hp => ⟨(h3 p hp).1, (h3 p hp).2.below hB hb⟩⟩
theorem ReadsS.len {w : World} {B n : Nat} {A : Option Addr} {l : List Sl} (h : ReadsS w B A n l) : l.length = n := by
  obtain ⟨ps, h1, h2, _⟩ := h
  rw [← h1, List.length_map]
  exact h2.len (size := 5) (l := ps) (f := cS) (fun _ => rfl) (by decide)
theorem own_lower {w : World} {base base2 size n : Nat} {e : TypeId} {v : Value} {xs : List Value} (h : w.ownsRow base e size v n xs) (hb : base2 ≤ base) : w.ownsRow base2 e size v n xs := by
  obtain ⟨h1, h2⟩ := h
  refine ⟨h1, ?_⟩
  rcases h2 with h2 | ⟨g, cap, cur, hv, hg, rest⟩
  · exact .inl h2
  · exact .inr ⟨g, cap, cur, hv, by omega, rest⟩
/-- A store ahead of the row. -/
theorem own_set {w : World} {base size n : Nat} {e : TypeId} {v u : Value} {xs : List Value} {p : Addr} (h : w.ownsRow base e size v n xs) (hp : p.block < base) : (w.setCell p u).ownsRow base e size v n xs := by
  obtain ⟨h1, h2⟩ := h
  refine ⟨h1, ?_⟩
  rcases h2 with h2 | ⟨g, cap, cur, hv, hg, hh, rest⟩
  · exact .inl h2
  · exact .inr ⟨g, cap, cur, hv, hg, by rw [Below.heap_setCell w p u g (by omega)]; exact hh, rest⟩
theorem OwnS.lower {w : World} {base base2 : Nat} {v : Value} {l : List Sl} (h : OwnS w base v l) (hb : base2 ≤ base) : OwnS w base2 v l := by
  obtain ⟨ps, h1, h2, h3⟩ := h
  exact ⟨ps, h1, own_lower h2 hb, fun p hp => ⟨(h3 p hp).1, own_lower (h3 p hp).2 hb⟩⟩
theorem own_drew {w : World} {base size n : Nat} {e : TypeId} {v : Value} {xs : List Value} (h : w.ownsRow base e size v n xs) (k : Nat) : (w.drewN k).ownsRow base e size v n xs := h
/-- One more slice behind a row of slices. -/
theorem OwnS.snoc {w w' : World} {base k : Nat} {v v' : Value} {l : List Sl} {ps : List (Sl × Pl)} {p : Sl × Pl} (hps : ps.map (·.1) = l) (hk : l.length = k) (hrow : w'.ownsRow base 77 5 v' (k + 1) (csS ps ++ csS [p])) (h0 : w.ownsRow base 77 5 v k (csS ps))
    (he : EvsAt w base ps) (hp : p.1.evs.length = p.2.2.1 ∧ w.ownsRow base 3 1 (.slice p.2.1 p.2.2.1 p.2.2.2) p.2.2.1 (csN p.1.evs)) (hg : w.grownBy w' v.ownBlock) : OwnS w' base v' (l ++ [p.1]) := by
  refine ⟨ps ++ [p], by simp [hps], by rw [List.length_append, hk, csS_append]; exact hrow, fun q hq => ?_⟩
  rcases List.mem_append.1 hq with hq | hq
  · exact ⟨(he q hq).1, own_far (he q hq).2 h0 hg (by decide)⟩
  · rw [List.mem_singleton.1 hq]
    exact ⟨hp.1, own_far hp.2 h0 hg (by decide)⟩
end Go.Proofs.YtmlcnmnpkemdpaaDoor
