
/- Two copies of a setting that are changed event by event: what lies in memory. -/
import Derived.Test.YtmlcnmnpkemdpaaDoorDsMake
import Derived.Test.YtmlcnmnpkemdpaaDoorDsOwn
namespace Go.Proofs.YtmlcnmnpkemdpaaDoor
open Go.RowKit
theorem m_split (done rest : List Ev) (y : Ev) : csE (done ++ y :: rest) = csE done ++ .int .i64 y.at_.1 :: .int .i64 y.at_.2 :: .int .i64 y.dur.1 :: .int .i64 y.dur.2 :: .int .i64 y.pit.1 :: .int .i64 y.pit.2.1 :: .int .i64 y.pit.2.2 :: .bool y.rest :: .int .i64 y.sign :: .int .i64 y.pass :: csE rest := by
  rw [csE_append]; rfl
theorem m_set_at (done rest : List Ev) (x : Ev) (p q : Int) : ((csE (done ++ x :: rest)).set (done.length * 10) (.int .i64 p)).set (done.length * 10 + 1) (.int .i64 q) = csE (done ++ { x with at_ := (p, q) } :: rest) := by
  rw [m_split, m_split, ← csE_len done]; simp
theorem m_set_dur (done rest : List Ev) (x : Ev) (p q : Int) : ((csE (done ++ x :: rest)).set (done.length * 10 + 2) (.int .i64 p)).set (done.length * 10 + 3) (.int .i64 q) = csE (done ++ { x with dur := (p, q) } :: rest) := by
  rw [m_split, m_split, ← csE_len done]; simp
theorem m_set_oct (done rest : List Ev) (x : Ev) (p : Int) : (csE (done ++ x :: rest)).set (done.length * 10 + 5) (.int .i64 p) = csE (done ++ { x with pit := (x.pit.1, p, x.pit.2.2) } :: rest) := by
  rw [m_split, m_split, ← csE_len done]; simp
/-- The first k events changed. -/
def mix (f : Ev → Ev) (k : Nat) (v : List Ev) : List Ev := (v.take k).map f ++ v.drop k
theorem mix_at {f : Ev → Ev} {k : Nat} {v : List Ev} {x : Ev} (h : v[k]? = some x) : mix f k v = (v.take k).map f ++ x :: v.drop (k + 1) := by unfold mix; rw [drop_get h]
theorem mix_next {f : Ev → Ev} {k : Nat} {v : List Ev} {x : Ev} (h : v[k]? = some x) : mix f (k + 1) v = (v.take k).map f ++ f x :: v.drop (k + 1) := by
  unfold mix; rw [take_get h, List.map_append, List.append_assoc]; rfl
theorem mix_len {k : Nat} {v : List Ev} (f : Ev → Ev) {x : Ev} (h : v[k]? = some x) : ((v.take k).map f).length = k := by
  have := (List.getElem?_eq_some_iff.1 h).1
  rw [List.length_map, List.length_take]; omega
/-- The voices behind k events of voice i. -/
def gs (f : Ev → Ev) (i k : Nat) (j : Nat) (v : List Ev) : List Ev := if j < i then v.map f else if j = i then mix f k v else v
theorem gs_at (f : Ev → Ev) (i k : Nat) (v : List Ev) : gs f i k i v = mix f k v := by unfold gs; rw [if_neg (by omega), if_pos rfl]
theorem gs_ne (f : Ev → Ev) {i k k' j : Nat} (h : j ≠ i) (v : List Ev) : gs f i k j v = gs f i k' j v := by unfold gs; rw [if_neg h, if_neg h]
theorem gs_start (f : Ev → Ev) (j : Nat) (v : List Ev) : gs f 0 0 j v = v := by
  unfold gs mix
  rw [if_neg (by omega)]
  split <;> simp
theorem gs_step (f : Ev → Ev) (i j : Nat) {k : Nat} (v : List Ev) (hv : j = i → v.length = k) : gs f i k j v = gs f (i + 1) 0 j v := by
  unfold gs mix
  by_cases h : j < i
  · rw [if_pos h, if_pos (by omega)]
  · by_cases h2 : j = i
    · have := hv h2
      rw [if_neg h, if_pos h2, if_pos (by omega), List.take_of_length_le (by omega), List.drop_eq_nil_of_le (by omega), List.append_nil]
    · rw [if_neg h, if_neg h2, if_neg (by omega)]
      split <;> simp
def VocF (w : World) (base : Nat) (ds : List Pl) (l : List (List Ev)) (g : Nat → List Ev → List Ev) : Prop :=
  ∀ (j : Nat) d v, ds[j]? = some d → l[j]? = some v → w.ownsRow base 54 10 (.slice d.1 d.2.1 d.2.2) d.2.1 (csE (g j v)) ∧ d.2.1 ≤ 9223372036854775807
/-- A copy: its row, its voices as g has them, all in blocks from base on and below lim, no two in one block. -/
structure CopyAt (w : World) (base lim : Nat) (u : Value) (ds : List Pl) (l : List (List Ev)) (g : Nat → List Ev → List Ev) : Prop where
  row : w.ownsRow base 37 1 u ds.length (csV ds)
  voc : VocF w base ds l g
  far : Far ds
  len : ds.length = l.length
  inn : ∀ d ∈ ds, ∀ p, d.1 = some p → p.block < lim
  out : ∀ b, u.ownBlock = some b → b < lim
theorem own_lim {w w' : World} {base size n B : Nat} {e : TypeId} {v : Value} {xs : List Value} (h : w.ownsRow base e size v n xs) (hl : ∀ b, v.ownBlock = some b → b < B) (hb : Below B w w') : w'.ownsRow base e size v n xs := by
  obtain ⟨h1, h2⟩ := h
  refine ⟨h1, ?_⟩
  rcases h2 with h2 | ⟨g, cap, cur, h2, h3, h4, h5⟩
  · exact .inl h2
  · refine .inr ⟨g, cap, cur, h2, h3, ?_, h5⟩
    rw [hb.block g (hl g (by rw [h2]; rfl))]; exact h4
theorem CopyAt.kept {w w' : World} {base lim B : Nat} {u : Value} {ds : List Pl} {l : List (List Ev)} {g : Nat → List Ev → List Ev} (h : CopyAt w base lim u ds l g) (hb : Below B w w') (hB : lim ≤ B) : CopyAt w' base lim u ds l g where
  row := own_lim h.row (fun b hb' => by have := h.out b hb'; omega) hb
  voc := fun j d v hd hv => ⟨own_lim (h.voc j d v hd hv).1 (fun b hb' => by
    obtain ⟨A, n, c⟩ := d
    cases A with
    | none => cases hb'
    | some p =>
      have := h.inn _ (List.mem_of_getElem? hd) p rfl
      cases hb'
      omega) hb, (h.voc j d v hd hv).2⟩
  far := h.far
  len := h.len
  inn := h.inn
  out := h.out
theorem CopyAt.congr {w : World} {base lim : Nat} {u : Value} {ds : List Pl} {l : List (List Ev)} {g g' : Nat → List Ev → List Ev} (h : CopyAt w base lim u ds l g) (he : ∀ j v, l[j]? = some v → g j v = g' j v) : CopyAt w base lim u ds l g' where
  row := h.row
  voc := fun j d v hd hv => by rw [← he j v hv]; exact h.voc j d v hd hv
  far := h.far
  len := h.len
  inn := h.inn
  out := h.out
theorem CopyAt.of {n : Nat} {l : List (List Ev)} {w w' : World} {e : Ending} (h : OwnX n l w e w') (hl : l.length = n) (f : Ev → Ev) : ∃ u ds, e = .returned u ∧ (∃ A c, u = .slice A n c) ∧ CopyAt w' w.heap.size w'.heap.size u ds l (gs f 0 0) ∧ Below w.heap.size w w' := by
  obtain ⟨u, ds, rfl, hrow, hdl, hvs, hfar, k0⟩ := h
  obtain ⟨A, c, hu, -, _, _⟩ := own_reads hrow
  refine ⟨u, ds, rfl, ⟨A, c, hu⟩, ⟨by rw [hdl]; exact hrow, fun j d v hd hv => by rw [gs_start]; exact hvs j d v hd hv, hfar, by omega, fun d hd p hp => hvs.lt (by omega) d hd p hp, fun b hb => (hrow.lt b hb).2⟩, k0⟩
theorem csV_get : ∀ (ds : List Pl) (i : Nat), (csV ds)[i]? = ds[i]?.map (fun d : Pl => Value.slice d.1 d.2.1 d.2.2)
  | [], i => by simp [csV]
  | d :: ds, 0 => rfl
  | d :: ds, i + 1 => by
    have := csV_get ds i
    rw [List.getElem?_cons_succ, ← this]
    rfl
/-- Voice i of a copy. -/
theorem CopyAt.at_ {w : World} {base lim i : Nat} {u : Value} {ds : List Pl} {l : List (List Ev)} {g : Nat → List Ev → List Ev} {v : List Ev} (h : CopyAt w base lim u ds l g) (hv : l[i]? = some v) :
    ∃ bu cu A n c, u = .slice (some ⟨bu, 0, none⟩) ds.length cu ∧ base ≤ bu ∧ bu < w.heap.size ∧ w.cell? ⟨bu, i, none⟩ = some (.slice A n c) ∧ ds[i]? = some (A, n, c) ∧ w.ownsRow base 54 10 (.slice A n c) n (csE (g i v)) := by
  have hi := (List.getElem?_eq_some_iff.1 hv).1
  obtain ⟨⟨A, n, c⟩, hd⟩ := get_some (l := ds) (k := i) (by have := h.len; omega)
  have hr := h.row
  rcases hr.2 with ⟨_, h0⟩ | ⟨bu, cu, cur, hu, hb, hh, _, _, _, _⟩
  · have := h.len; omega
  · refine ⟨bu, cu, A, n, c, hu, hb, ?_, ?_, hd, (h.voc i _ v hd hv).1⟩
    · exact (hr.lt bu (by rw [hu]; rfl)).2
    · rw [hu] at hr
      rw [hr.cellAt i (by have := h.len; omega)]
      rw [csV_get, hd]; rfl
/-- The row of voice i changed in place. -/
theorem CopyAt.put {w w' : World} {base lim i gi n c : Nat} {u : Value} {ds : List Pl} {l : List (List Ev)} {g g' : Nat → List Ev → List Ev} {v : List Ev} (h : CopyAt w base lim u ds l g) (hv : l[i]? = some v) (hd : ds[i]? = some (some ⟨gi, 0, none⟩, n, c))
    (hst : ∀ (b0 size m : Nat) (e : TypeId) (x : Value) (xs : List Value), w.ownsRow b0 e size x m xs → (∀ b, x.ownBlock = some b → b ≠ gi) → w'.ownsRow b0 e size x m xs)
    (hnew : w'.ownsRow base 54 10 (.slice (some ⟨gi, 0, none⟩) n c) n (csE (g' i v))) (hg : ∀ j, j ≠ i → ∀ x, g' j x = g j x) : CopyAt w' base lim u ds l g' where
  row := hst _ _ _ _ _ _ h.row (fun b hb hbg => by
    subst hbg
    have h1 := (h.voc i _ v hd hv).1
    rcases h1.2 with ⟨h0, _⟩ | ⟨g1, c1, cur, hu, _, hh, _⟩
    · cases h0
    · cases hu
      rcases h.row.2 with ⟨h0, _⟩ | ⟨g2, c2, cur2, hu2, _, hh2, _⟩
      · rw [h0] at hb; cases hb
      · rw [hu2] at hb
        cases hb
        rw [hh] at hh2
        have hne : 54 ≠ 37 := by decide
        cases hh2)
  voc := fun j d x hdj hx => by
    by_cases hj : j = i
    · subst hj
      rw [hd] at hdj
      rw [hv] at hx
      cases hdj
      cases hx
      exact ⟨hnew, (h.voc j _ v hd hv).2⟩
    · rw [hg j hj]
      refine ⟨hst _ _ _ _ _ _ (h.voc j d x hdj hx).1 (fun b hb hbg => ?_), (h.voc j d x hdj hx).2⟩
      obtain ⟨A, m, c'⟩ := d
      cases A with
      | none => cases hb
      | some p =>
        cases hb
        rcases Nat.lt_or_ge j i with hlt | hge
        · have := h.far j i _ _ p ⟨gi, 0, none⟩ hlt hdj hd rfl rfl
          simp only at this; omega
        · have := h.far i j _ _ ⟨gi, 0, none⟩ p (by omega) hd hdj rfl rfl
          simp only at this; omega
  far := h.far
  len := h.len
  inn := h.inn
  out := h.out
theorem CopyAt.reads {w : World} {base lim n c : Nat} {A : Option Addr} {ds : List Pl} {l : List (List Ev)} {g : Nat → List Ev → List Ev} (h : CopyAt w base lim (.slice A n c) ds l g) (hn : l.length = n) (f : Ev → Ev) (hg : ∀ j v, l[j]? = some v → g j v = v.map f) : ReadsV w w.heap.size A n (l.map (List.map f)) := by
  have hl := h.len
  obtain ⟨A9, c9, e9, r9, _, _⟩ := own_reads h.row
  cases e9
  refine ⟨ds, by rw [List.length_map]; exact hl, r9, fun j d v hd hv => ?_⟩
  rw [List.getElem?_map] at hv
  obtain ⟨x, hx, rfl⟩ := Option.map_eq_some_iff.1 hv
  obtain ⟨h1, h2⟩ := h.voc j d x hd hx
  rw [hg j x hx] at h1
  obtain ⟨A8, c8, e8, r8, _, _⟩ := own_reads h1
  cases e8
  exact ⟨r8, h2⟩
/-- A store into block gi. -/
theorem st_one {w : World} {gi q : Nat} {a : Value} (b0 size m : Nat) (e : TypeId) (x : Value) (xs : List Value) (h : w.ownsRow b0 e size x m xs) (hne : ∀ b, x.ownBlock = some b → b ≠ gi) : (w.setCell ⟨gi, q, none⟩ a).ownsRow b0 e size x m xs := by
  obtain ⟨h1, h2⟩ := h
  refine ⟨h1, ?_⟩
  rcases h2 with h2 | ⟨g, cap, cur, hv, hg, hh, rest⟩
  · exact .inl h2
  · exact .inr ⟨g, cap, cur, hv, hg, by rw [Below.heap_setCell w ⟨gi, q, none⟩ a g (hne g (by rw [hv]; rfl))]; exact hh, rest⟩
/-- A store ahead of the copy. -/
theorem CopyAt.set_ {w : World} {base lim gi q : Nat} {a : Value} {u : Value} {ds : List Pl} {l : List (List Ev)} {g : Nat → List Ev → List Ev} (h : CopyAt w base lim u ds l g) (hg : gi < base) : CopyAt (w.setCell ⟨gi, q, none⟩ a) base lim u ds l g where
  row := st_one _ _ _ _ _ _ h.row (fun b hb => by have := (h.row.lt b hb).1; omega)
  voc := fun j d v hd hv => ⟨st_one _ _ _ _ _ _ (h.voc j d v hd hv).1 (fun b hb => by have := ((h.voc j d v hd hv).1.lt b hb).1; omega), (h.voc j d v hd hv).2⟩
  far := h.far
  len := h.len
  inn := h.inn
  out := h.out
theorem m_get {done rest : List Ev} {x : Ev} {k : Nat} (hk : done.length = k) (j : Nat) (hj : j < 10) : (csE (done ++ x :: rest))[k * 10 + j]? = (cE x)[j]? := by
  subst hk
  rw [csE_append, ← csE_len done, List.getElem?_append_right (by omega), Nat.add_sub_cancel_left]
  show (cE x ++ csE rest)[j]? = _
  exact List.getElem?_append_left (by show j < 10; exact hj)
/-- Event k of voice i of a copy. -/
theorem CopyAt.ev_ {w : World} {base lim i k nv c : Nat} {A : Option Addr} {ds : List Pl} {l : List (List Ev)} {g : Nat → List Ev → List Ev} {v done rest : List Ev} {x : Ev} (h : CopyAt w base lim (.slice A 3 c) ds l g) (hv : l[i]? = some v) (hg : g i v = done ++ x :: rest) (hk : done.length = k) (hn : (done ++ x :: rest).length = nv) :
    ∃ bu gi cx, A = some ⟨bu, 0, none⟩ ∧ bu < w.heap.size ∧ base ≤ bu ∧ w.cell? ⟨bu, i, none⟩ = some (.slice (some ⟨gi, 0, none⟩) nv cx) ∧ ds[i]? = some (some ⟨gi, 0, none⟩, nv, cx) ∧ base ≤ gi ∧ gi < w.heap.size ∧
      w.ownsRow base 54 10 (.slice (some ⟨gi, 0, none⟩) nv cx) nv (csE (done ++ x :: rest)) ∧ (∀ j u, (cE x)[j]? = some u → w.cell? ⟨gi, k * 10 + j, none⟩ = some u) ∧ ∀ j, w.frozen? ⟨gi, j, none⟩ = false := by
  obtain ⟨bu, cu, A1, n1, c1, hu, hb, hlt, hcell, hd, hrow⟩ := h.at_ hv
  rw [hg] at hrow
  have hl := hrow.1
  rw [csE_len, hn] at hl
  obtain rfl : n1 = nv := by omega
  have hA : A = some ⟨bu, 0, none⟩ := by injection hu
  rcases hrow.2 with ⟨_, h0⟩ | ⟨gi, cap, cur, hgi, hbg, hh, _⟩
  · rw [h0] at hn; simp at hn
  · have e1 : A1 = some ⟨gi, 0, none⟩ := by injection hgi
    subst e1
    refine ⟨bu, gi, c1, hA, hlt, hb, hcell, hd, hbg, (hrow.lt gi rfl).2, hrow, fun j u hj => ?_, fun j => hrow.frozenAt j⟩
    have hj10 : j < 10 := (List.getElem?_eq_some_iff.1 hj).1
    rw [hrow.cellAt (k * 10 + j) (by
      have : k < n1 := by rw [← hn, List.length_append, hk]; simp
      omega), m_get hk j hj10, hj]
theorem oct_row {w : World} {base n c gi k : Nat} {v : List Ev} {x : Ev} (hx : v[k]? = some x) (hr : x.rest = false) (h : w.ownsRow base 54 10 (.slice (some ⟨gi, 0, none⟩) n c) n (csE ((v.take k).map octE ++ x :: v.drop (k + 1)))) :
    (w.setCell ⟨gi, k * 10 + 5, none⟩ (.int .i64 (x.pit.2.1 + 1))).ownsRow base 54 10 (.slice (some ⟨gi, 0, none⟩) n c) n (csE (mix octE (k + 1) v)) := by
  have h1 := (h.stored (k * 10 + 5) (.int .i64 (x.pit.2.1 + 1))).1
  have e := m_set_oct ((v.take k).map octE) (v.drop (k + 1)) x (x.pit.2.1 + 1)
  rw [mix_len octE hx] at e
  rw [e] at h1
  rw [mix_next hx, show octE x = { x with pit := (x.pit.1, x.pit.2.1 + 1, x.pit.2.2) } by unfold octE upP; rw [if_neg (by simp [hr])]]
  exact h1
theorem at_row {w : World} {base n c gi k : Nat} {v : List Ev} {x : Ev} (hx : v[k]? = some x) (p q : Int) (h : w.ownsRow base 54 10 (.slice (some ⟨gi, 0, none⟩) n c) n (csE ((v.take k).map dblE ++ x :: v.drop (k + 1)))) :
    ((w.setCell ⟨gi, k * 10, none⟩ (.int .i64 p)).setCell ⟨gi, k * 10 + 1, none⟩ (.int .i64 q)).ownsRow base 54 10 (.slice (some ⟨gi, 0, none⟩) n c) n (csE ((v.take k).map dblE ++ { x with at_ := (p, q) } :: v.drop (k + 1))) := by
  have h1 := (((h.stored (k * 10) (.int .i64 p)).1).stored (k * 10 + 1) (.int .i64 q)).1
  have e := m_set_at ((v.take k).map dblE) (v.drop (k + 1)) x p q
  rw [mix_len dblE hx] at e
  rwa [e] at h1
theorem dur_row {w : World} {base n c gi k : Nat} {v : List Ev} {x y : Ev} (hx : v[k]? = some x) (p q : Int) (he : dblE x = { y with dur := (p, q) }) (h : w.ownsRow base 54 10 (.slice (some ⟨gi, 0, none⟩) n c) n (csE ((v.take k).map dblE ++ y :: v.drop (k + 1)))) :
    ((w.setCell ⟨gi, k * 10 + 2, none⟩ (.int .i64 p)).setCell ⟨gi, k * 10 + 3, none⟩ (.int .i64 q)).ownsRow base 54 10 (.slice (some ⟨gi, 0, none⟩) n c) n (csE (mix dblE (k + 1) v)) := by
  have h1 := (((h.stored (k * 10 + 2) (.int .i64 p)).1).stored (k * 10 + 3) (.int .i64 q)).1
  have e := m_set_dur ((v.take k).map dblE) (v.drop (k + 1)) y p q
  rw [mix_len dblE hx] at e
  rw [e] at h1
  rw [mix_next hx, he]
  exact h1
end Go.Proofs.YtmlcnmnpkemdpaaDoor
