
/- What the iterator of the slices and its rounds promise each other; the row of the places. -/
import Derived.Test.YtmlcnmnpkemdpaaDoorAlMoments
import Derived.RangeFuncOwn
namespace Go.Proofs.YtmlcnmnpkemdpaaDoor
open Go.RowKit
/-! ### Nothing but block b, of what lay there, is turned -/
abbrev Gb (b : Nat) (W W' : World) : Prop := W.grownBy W' (some b)
theorem Gb.refl (b : Nat) (W : World) : Gb b W W := ⟨rfl, rfl, rfl, Nat.le_refl _, fun _ _ _ => rfl⟩
theorem Gb.tr {b : Nat} {A B C : World} (h : Gb b A B) (k : Gb b B C) : Gb b A C :=
  ⟨k.os.trans h.os, k.tape.trans h.tape, k.output.trans h.output, Nat.le_trans h.size k.size, fun i hi hn => (k.block i (Nat.lt_of_lt_of_le hi h.size) hn).trans (h.block i hi hn)⟩
theorem Gb.call {b : Nat} {A B C : World} (h : Gb b A B) (k : Below B.heap.size B C) : Gb b A C := h.tr ⟨k.os, k.tape, k.output, k.size, fun i hi _ => k.block i hi⟩
theorem Gb.off {b : Nat} {A B C : World} (h : Gb b A B) (k : Below A.heap.size B C) : Gb b A C :=
  ⟨k.os.trans h.os, k.tape.trans h.tape, k.output.trans h.output, Nat.le_trans h.size k.size, fun i hi hn => (k.block i hi).trans (h.block i hi hn)⟩
theorem Gb.set {b : Nat} {A B : World} (h : Gb b A B) {p : Addr} (hp : p.block = b) (u : Value) : Gb b A (B.setCell p u) :=
  h.tr ⟨rfl, rfl, rfl, by simp [World.setCell], fun i hi hn => Below.heap_setCell _ _ _ _ (fun e => hn (by rw [e, hp]))⟩
theorem Gb.of_below {b : Nat} {A B : World} (h : Below A.heap.size A B) : Gb b A B := (Gb.refl b A).call h
theorem Gb.below {b n : Nat} {A B : World} (h : Gb b A B) (hb : n ≤ b) (hn : n ≤ A.heap.size) : Below n A B :=
  ⟨h.os, h.tape, h.output, h.size, fun i hi => h.block i (Nat.lt_of_lt_of_le hi hn) (fun e => by cases e; omega)⟩
theorem Blk.gb {b g : Nat} {A B : World} {t : TypeId} {cs : Array Value} (h : Blk A g t cs) (hg : Gb b A B) (hne : g ≠ b) : Blk B g t cs := (hg.block g h.lt (fun e => by cases e; exact hne rfl)).trans h
theorem own_gb {b : Nat} {A B : World} {base size n : Nat} {e : TypeId} {v : Value} {xs : List Value} (h : A.ownsRow base e size v n xs) (hg : Gb b A B) (hne : ∀ k, v.ownBlock = some k → k ≠ b) : B.ownsRow base e size v n xs := by
  have hl := h.lt
  obtain ⟨h1, h3⟩ := h
  refine ⟨h1, ?_⟩
  rcases h3 with h3 | ⟨g, cap, cur, hv, hb, hh, rest⟩
  · exact .inl h3
  · have e0 : v.ownBlock = some g := by rw [hv]; rfl
    exact .inr ⟨g, cap, cur, hv, hb, (hg.block g (hl g e0).2 (fun e => hne g e0 (Option.some.inj e))).trans hh, rest⟩
theorem own_gb_hi {b : Nat} {A B : World} {base size n : Nat} {e : TypeId} {v : Value} {xs : List Value} (h : A.ownsRow base e size v n xs) (hg : Gb b A B) (hb : b < base) : B.ownsRow base e size v n xs :=
  own_gb h hg (fun k hk e => by have := (h.lt k hk).1; omega)
theorem EvsAt.gb {b base : Nat} {A B : World} {ps : List (Sl × Pl)} (h : EvsAt A base ps) (hg : Gb b A B) (hb : b < base) : EvsAt B base ps := fun p hp => ⟨(h p hp).1, own_gb_hi (h p hp).2 hg hb⟩
theorem OwnS.gb {b base : Nat} {A B : World} {v : Value} {l : List Sl} (h : OwnS A base v l) (hg : Gb b A B) (hb : b < base) : OwnS B base v l := by
  obtain ⟨ps, h1, h2, h3⟩ := h
  exact ⟨ps, h1, own_gb_hi h2 hg hb, h3.gb hg hb⟩
/-! ### What a round leaves alone: the rows that are no slices, no list of them and no error -/
structure KeepN (W W' : World) : Prop where
  size : W.heap.size ≤ W'.heap.size
  same : ∀ (k : Nat) (cs : Array Value) (t : TypeId), W.heap[k]? = some (.cells cs t (0, 0)) → t ≠ 61 → t ≠ 27 → t ≠ 77 → W'.heap[k]? = some (.cells cs t (0, 0))
theorem KeepN.refl (W : World) : KeepN W W := ⟨Nat.le_refl _, fun _ _ _ h _ _ _ => h⟩
theorem KeepN.tr {A B C : World} (h : KeepN A B) (k : KeepN B C) : KeepN A C := ⟨Nat.le_trans h.size k.size, fun i cs t hi h1 h2 h3 => k.same i cs t (h.same i cs t hi h1 h2 h3) h1 h2 h3⟩
theorem KeepN.alloc {A B : World} (h : KeepN A B) (o : Obj) : KeepN A (B.alloc o) :=
  h.tr ⟨by simp, fun i cs t hi _ _ _ => (Below.heap_alloc B o i (Array.getElem?_eq_some_iff.1 hi).1).trans hi⟩
theorem KeepN.drew {A B : World} (h : KeepN A B) : KeepN A B.drew := ⟨h.size, h.same⟩
theorem KeepN.set {A B : World} (h : KeepN A B) {p : Addr} {cs : Array Value} {t : TypeId} (hb : Blk B p.block t cs) (ht : t = 61 ∨ t = 27 ∨ t = 77) (u : Value) : KeepN A (B.setCell p u) :=
  h.tr ⟨by simp [World.setCell], fun i cs' t' hi h1 h2 h3 => by
    by_cases e : i = p.block
    · subst e
      unfold Blk at hb
      rw [hb] at hi
      cases hi
      rcases ht with rfl | rfl | rfl <;> contradiction
    · exact (Below.heap_setCell B p u i e).trans hi⟩
theorem KeepN.put {A B : World} (h : KeepN A B) {r : Nat} {o : Obj} (o' : Obj) (hr : B.heap[r]? = some o) (ho : o.isCells = false) : KeepN A (B.putObj r o') :=
  h.tr ⟨by simp, fun i cs t hi _ _ _ => by
    by_cases e : i = r
    · subst e; rw [hr] at hi; cases hi; cases ho
    · exact (World.putObj_heap_other e).trans hi⟩
theorem KeepN.grown {A B C : World} (h : KeepN A B) {base size n : Nat} {e : TypeId} {v : Value} {xs : List Value} (h2 : B.ownsRow base e size v n xs) (hg : B.grownBy C v.ownBlock) (he : e = 61 ∨ e = 27 ∨ e = 77) : KeepN A C :=
  h.tr ⟨hg.size, fun i cs t hi h1 h3 h4 => by
    refine (hg.block i (Array.getElem?_eq_some_iff.1 hi).1 ?_).trans hi
    intro heq
    obtain ⟨_, h5⟩ := h2
    rcases h5 with ⟨rfl, _⟩ | ⟨g2, cap2, cur2, hv2, _, hh2, _⟩
    · cases heq
    · rw [hv2] at heq
      cases heq
      rw [hi] at hh2
      cases hh2
      rcases he with rfl | rfl | rfl <;> contradiction⟩
theorem Blk.keepN {g : Nat} {A B : World} {t : TypeId} {cs : Array Value} (h : Blk A g t cs) (hk : KeepN A B) (h1 : t ≠ 61) (h2 : t ≠ 27) (h3 : t ≠ 77) : Blk B g t cs := hk.same g cs t h h1 h2 h3
theorem own_keepN {A B : World} {base size n : Nat} {e : TypeId} {v : Value} {xs : List Value} (h : A.ownsRow base e size v n xs) (hk : KeepN A B) (h1 : e ≠ 61) (h2 : e ≠ 27) (h3 : e ≠ 77) : B.ownsRow base e size v n xs := by
  obtain ⟨h4, h5⟩ := h
  refine ⟨h4, ?_⟩
  rcases h5 with h5 | ⟨g, cap, cur, hv, hb, hh, rest⟩
  · exact .inl h5
  · exact .inr ⟨g, cap, cur, hv, hb, hk.same g cur e hh h1 h2 h3, rest⟩
/-! ### The row of the places -/
def numV (k : Nat) : Value := .int .i64 (k : Int)
def Row1 (w : World) (b : Nat) (ps : List Nat) : Prop := Blk w b 3 (ps.map numV).toArray
theorem Row1.cell {w : World} {b : Nat} {ps : List Nat} (h : Row1 w b ps) {q p : Nat} (hq : ps[q]? = some p) : w.cell? ⟨b, q, none⟩ = some (.int .i64 (p : Int)) := by
  rw [Blk.cell h]
  simp [hq, numV]
theorem Row1.set {w : World} {b : Nat} {ps : List Nat} (h : Row1 w b ps) (q p : Nat) : Row1 (w.setCell ⟨b, q, none⟩ (.int .i64 (p : Int))) b (ps.set q p) := by
  have := Blk.set_ h q (numV p)
  unfold Row1
  rw [List.map_set]
  simpa [numV] using this
theorem Row1.made (w : World) (n : Nat) : Row1 (w.alloc (.cells (madeCells #[.int .i64 0] n) 3)) w.heap.size (List.replicate n 0) := by
  have e : ((List.replicate n 0).map numV).toArray = madeCells #[.int .i64 0] n := by
    apply Array.ext'
    simp [madeCells, numV]
    apply List.ext_getElem?
    intro i
    simp [List.getElem?_replicate, List.getElem?_map]
    by_cases hi : i < n <;> simp [hi, Nat.mod_one]
  unfold Row1
  rw [e]
  exact Blk.new _ _ _
/-- Where a voice's place is. -/
def PtrsAt (l : List (List Ev)) (t : Tm) (ps : List Nat) : Prop := ps.length = l.length ∧ ∀ (j : Nat) v, l[j]? = some v → ∃ p, ps[j]? = some p ∧ Ptr v t p ∧ p ≤ v.length
theorem ptrs_zero (l : List (List Ev)) (t : Tm) : PtrsAt l t (List.replicate l.length 0) := ⟨by simp, fun j v hj => ⟨0, by rw [List.getElem?_replicate, if_pos (List.getElem?_eq_some_iff.1 hj).1], .inl rfl, Nat.zero_le _⟩⟩
theorem PtrsAt.set {l : List (List Ev)} {t : Tm} {ps : List Nat} (h : PtrsAt l t ps) {q p : Nat} {v : List Ev} (hv : l[q]? = some v) (hp : Ptr v t p) (hl : p ≤ v.length) : PtrsAt l t (ps.set q p) := by
  refine ⟨by rw [List.length_set]; exact h.1, fun j u hj => ?_⟩
  by_cases e : q = j
  · subst e
    rw [hv] at hj; cases hj
    refine ⟨p, ?_, hp, hl⟩
    obtain ⟨p0, h0, _⟩ := h.2 q _ hv
    have := (List.getElem?_eq_some_iff.1 h0).1
    simp [this]
  · obtain ⟨p0, h0, r⟩ := h.2 j u hj
    exact ⟨p0, by rw [List.getElem?_set_ne e]; exact h0, r⟩
theorem PtrsAt.later {l : List (List Ev)} {t t' : Tm} {ps : List Nat} (h : PtrsAt l t ps) (hv : ∀ v ∈ l, Val v) (ht : ok t) (ht' : ok t') (hle : ¬ ltT t' t) : PtrsAt l t' ps :=
  ⟨h.1, fun j v hj => by obtain ⟨p, h0, h1, h2⟩ := h.2 j v hj; exact ⟨p, h0, ptr_later (hv v (List.mem_of_getElem? hj)) ht ht' h1 hle, h2⟩⟩
/-! ### A setting in memory, below B -/
theorem Reads.lay {w W : World} {B size n : Nat} {A : Option Addr} {xs : List Value} (h : Reads w B size A n xs) (hb : Below B w W) : Reads W B size A n xs := h.keep fun _ _ hp => hb.cell (by simp; omega)
theorem ReadsV.lay {w W : World} {B n : Nat} {A : Option Addr} {l : List (List Ev)} (h : ReadsV w B A n l) (hb : Below B w W) : ReadsV W B A n l := by
  obtain ⟨ds, h1, h2, h3⟩ := h
  exact ⟨ds, h1, h2.lay hb, fun k d v hd hv => ⟨(h3 k d v hd hv).1.lay hb, (h3 k d v hd hv).2⟩⟩
theorem ReadsV.voiceB {w : World} {B n : Nat} {A : Option Addr} {l : List (List Ev)} (h : ReadsV w B A n l) {k : Nat} {v : List Ev} (hk : k < n) (hv : l[k]? = some v) :
    ∃ b off A' n' c', A = some ⟨b, off, none⟩ ∧ b < B ∧ w.cell? ⟨b, off + k, none⟩ = some (.slice A' n' c') ∧ Reads w B 10 A' n' (csE v) ∧ n' ≤ 9223372036854775807 ∧ v.length = n' := by
  have hl := h.len
  obtain ⟨ds, h1, h2, h3⟩ := h
  obtain ⟨d, hd⟩ := get_some (l := ds) (k := k) (by omega)
  obtain ⟨b, off, hA, hbB, hc⟩ := h2.elem (f := slV) (fun _ => rfl) hk hd
  obtain ⟨r, rn⟩ := h3 k d v hd hv
  refine ⟨b, off, d.1, d.2.1, d.2.2, hA, hbB, ?_, r, rn, r.evlen⟩
  have := hc 0 _ rfl
  simpa using this
theorem Reads.evB {w : World} {B n : Nat} {A : Option Addr} {l : List Ev} (h : Reads w B 10 A n (csE l)) {k : Nat} {x : Ev} (hk : k < n) (hx : l[k]? = some x) :
    ∃ b off, A = some ⟨b, off, none⟩ ∧ b < B ∧ w.cell? ⟨b, off + k * 10, none⟩ = some (.int .i64 x.at_.1) ∧ w.cell? ⟨b, off + k * 10 + 1, none⟩ = some (.int .i64 x.at_.2) := by
  obtain ⟨b, off, hA, hbB, hc⟩ := h.elem (f := cE) (fun _ => rfl) hk hx
  have hall : ∀ j u, (cE x)[j]? = some u → w.cell? ⟨b, off + k * 10 + j, none⟩ = some u := fun j u hj => by
    rw [Nat.add_assoc]
    exact hc j u hj
  exact ⟨b, off, hA, hbB, hall 0 _ rfl, hall 1 _ rfl⟩
end Go.Proofs.YtmlcnmnpkemdpaaDoor
