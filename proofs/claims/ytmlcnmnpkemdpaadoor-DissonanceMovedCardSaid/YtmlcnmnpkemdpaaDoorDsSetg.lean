
/- Stg, DsSet, DsChord, DsBegin: one text. -/
import Derived.Test.YtmlcnmnpkemdpaaDoorAlSlices
import Derived.Test.YtmlcnmnpkemdpaaDoorPlain
import Derived.Test.YtmlcnmnpkemdpaaDoorDsMap
import Derived.Test.YtmlcnmnpkemdpaaDoorDsPlain
import Derived.Test.YtmlcnmnpkemdpaaDoorChLists
import Derived.Deep.LoopGhost
import Derived.Test.YtmlcnmnpkemdpaaDoorChWhole
import Derived.BigRegion
/- A setting with its slices, in memory (the first part of PaMem, by itself). -/

namespace Go.Proofs.YtmlcnmnpkemdpaaDoor
open Go.RowKit
theorem ReadsV.more {w : World} {B B' n : Nat} {A : Option Addr} {l : List (List Ev)} (h : ReadsV w B A n l) (hB : B ≤ B') : ReadsV w B' A n l := by
  obtain ⟨ds, h1, h2, h3⟩ := h
  exact ⟨ds, h1, h2.more hB, fun k d v hd hv => ⟨(h3 k d v hd hv).1.more hB, (h3 k d v hd hv).2⟩⟩
theorem mom_big {l : List (List Ev)} (hz : (checkA l).1 = 0) : (momS l).length ≤ 32000 := by
  obtain ⟨f1, f2, _⟩ := set_facts hz; have := momS_len l (fun v hv => (f2 v hv).2.2); omega
theorem ReadsS.el {w W : World} {B n : Nat} {A : Option Addr} {l : List Sl} (h : ReadsS w B A n l) (hB : B ≤ w.heap.size) (hb : Below w.heap.size w W) {k : Nat} {s : Sl} (hk : k < n) (hs : l[k]? = some s) :
    ∃ b off p q c, A = some ⟨b, off, none⟩ ∧ b < W.heap.size ∧ s.evs.length = q ∧ Reads W W.heap.size 1 p q (csN s.evs) ∧ W.cell? ⟨b, off + k * 5, none⟩ = some (.int .i64 s.at_.1) ∧ W.cell? ⟨b, off + k * 5 + 1, none⟩ = some (.int .i64 s.at_.2) ∧
      W.cell? ⟨b, off + k * 5 + 2, none⟩ = some (.int .i64 s.dur.1) ∧ W.cell? ⟨b, off + k * 5 + 3, none⟩ = some (.int .i64 s.dur.2) ∧ W.cell? ⟨b, off + k * 5 + 4, none⟩ = some (.slice p q c) := by
  obtain ⟨ps, h1, h2, h3⟩ := h
  have hp : ∃ x, ps[k]? = some x ∧ x.1 = s := by
    rw [← h1, List.getElem?_map] at hs
    cases hx : ps[k]? with
    | none => rw [hx] at hs; cases hs
    | some x => rw [hx] at hs; exact ⟨x, rfl, by simpa using hs⟩
  obtain ⟨⟨s', p, q, c⟩, hx, rfl⟩ := hp
  obtain ⟨b, off, hA, hbB, hc⟩ := Reads.elem (f := cS) (fun _ => rfl) h2 hk hx
  obtain ⟨e1, e2⟩ := h3 _ (List.mem_of_getElem? hx)
  have hz := hb.size
  have hall : ∀ j u, (cS (s', p, q, c))[j]? = some u → W.cell? ⟨b, off + k * 5 + j, none⟩ = some u := fun j u hj => by
    rw [hb.cell (by simp; omega), Nat.add_assoc]
    exact hc j u hj
  exact ⟨b, off, p, q, c, hA, by omega, e1, (e2.below hB hb).more (by omega), hall 0 _ rfl, hall 1 _ rfl, hall 2 _ rfl, hall 3 _ rfl, hall 4 _ rfl⟩
theorem rdV {w w' : World} {A : Option Addr} {n : Nat} {l : List (List Ev)} (h : ReadsV w w.heap.size A n l) (hb : Below w.heap.size w w') : ReadsV w' w'.heap.size A n l := (h.below (Nat.le_refl _) hb).more hb.size
theorem rd1 {w w' : World} {A : Option Addr} {n size : Nat} {xs : List Value} (h : Reads w w.heap.size size A n xs) (hb : Below w.heap.size w w') : Reads w' w'.heap.size size A n xs := (h.below (Nat.le_refl _) hb).more hb.size
theorem ReadsS.kept {w W : World} {n : Nat} {A : Option Addr} {l : List Sl} (h : ReadsS w w.heap.size A n l) (hb : Below w.heap.size w W) : ReadsS W W.heap.size A n l := by
  obtain ⟨ps, h1, h2, h3⟩ := h
  exact ⟨ps, h1, rd1 h2 hb, fun p hp => ⟨(h3 p hp).1, rd1 (h3 p hp).2 hb⟩⟩
/-- A setting with its slices: voices at A, slices at S. -/
structure Stg (w : World) (A S : Option Addr) (n K : Nat) (l : List (List Ev)) : Prop where
  voices : ReadsV w w.heap.size A n l
  slices : ReadsS w w.heap.size S K ((List.range K).map (slOf l (momS l)))
  good : (checkA l).1 = 0
  many : K = (momS l).length - 1
theorem Stg.kept {w w' : World} {A S : Option Addr} {n K : Nat} {l : List (List Ev)} (h : Stg w A S n K l) (hb : Below w.heap.size w w') : Stg w' A S n K l := ⟨rdV h.voices hb, h.slices.kept hb, h.good, h.many⟩
theorem Stg.len {w : World} {A S : Option Addr} {n K : Nat} {l : List (List Ev)} (h : Stg w A S n K l) : l.length = n := h.voices.len
theorem Stg.big {w : World} {A S : Option Addr} {n K : Nat} {l : List (List Ev)} (h : Stg w A S n K l) : K ≤ 32000 ∧ n ≤ 8 := by
  have h1 := mom_big h.good
  have h2 := h.many
  have h3 := (checkA_all h.good).1
  have h4 := h.len
  omega
/-- The cells that the walks read of voice i and slice k. -/
theorem Stg.at_ {w W : World} {A S : Option Addr} {n K : Nat} {l : List (List Ev)} (h : Stg w A S n K l) (hb : Below w.heap.size w W) {i k : Nat} (hi : i < n) (hk : k < K) {v : List Ev} (hv : l[i]? = some v) :
    ∃ ba oa bs os be oe ce A' n' c', A = some ⟨ba, oa, none⟩ ∧ S = some ⟨bs, os, none⟩ ∧ ba < W.heap.size ∧ bs < W.heap.size ∧ be < W.heap.size ∧
      W.cell? ⟨bs, os + k * 5, none⟩ = some (.int .i64 (mAt (momS l) k).1) ∧ W.cell? ⟨bs, os + k * 5 + 1, none⟩ = some (.int .i64 (mAt (momS l) k).2) ∧
      W.cell? ⟨bs, os + k * 5 + 4, none⟩ = some (.slice (some ⟨be, oe, none⟩) n ce) ∧ W.cell? ⟨be, oe + i, none⟩ = some (.int .i64 (onS v (mAt (momS l) k))) ∧
      W.cell? ⟨ba, oa + i, none⟩ = some (.slice A' n' c') ∧ Reads W W.heap.size 10 A' n' (csE v) ∧ v.length = n' := by
  have hg : ((List.range K).map (slOf l (momS l)))[k]? = some (slOf l (momS l) k) := by rw [List.getElem?_map, List.getElem?_range hk]; rfl
  obtain ⟨bs, os, p, q, ce, hS, hbs, hq, hr, c0, c1, _, _, c4⟩ := h.slices.el (Nat.le_refl _) hb hk hg
  have hqn : q = n := by rw [← hq]; show (l.map _).length = n; rw [List.length_map]; exact h.len
  subst hqn
  obtain ⟨be, oe, hp, hbe, hce⟩ := Reads.elem (f := cI) (fun _ => rfl) hr (k := i) hi (x := onS v (mAt (momS l) k)) (by show (l.map _)[i]? = _; rw [List.getElem?_map, hv]; rfl)
  have e0 : W.cell? ⟨be, oe + i, none⟩ = some (.int .i64 (onS v (mAt (momS l) k))) := by have h0 := hce 0 _ rfl; simpa using h0
  obtain ⟨ba, oa, A', n', c', hA, hba, cv, hre, _, hvn⟩ := h.voices.voice (Nat.le_refl _) hb hi hv
  subst hp
  exact ⟨ba, oa, bs, os, be, oe, ce, A', n', c', hA, hS, hba, hbs, hbe, c0, c1, c4, e0, cv, hre.more hb.size, hvn⟩
/-- The same, the addresses given. -/
theorem Stg.addr {w : World} {A S : Option Addr} {n K : Nat} {l : List (List Ev)} (h : Stg w A S n K l) {i k : Nat} (hi : i < n) (hk : k < K) : ∃ ba oa bs os, A = some ⟨ba, oa, none⟩ ∧ S = some ⟨bs, os, none⟩ := by
  obtain ⟨v, hv⟩ := get_some (l := l) (k := i) (by have := h.len; omega)
  obtain ⟨ba, oa, bs, os, _, _, _, _, _, _, hA, hS, _⟩ := h.at_ (Below.refl _ _) hi hk hv
  exact ⟨ba, oa, bs, os, hA, hS⟩
theorem Stg.at2 {w W : World} {ba oa bs os : Nat} {n K : Nat} {l : List (List Ev)} (h : Stg w (some ⟨ba, oa, none⟩) (some ⟨bs, os, none⟩) n K l) (hb : Below w.heap.size w W) {i k : Nat} (hi : i < n) (hk : k < K) {v : List Ev} (hv : l[i]? = some v) :
    ∃ be oe ce A' n' c', ba < W.heap.size ∧ bs < W.heap.size ∧ be < W.heap.size ∧
      W.cell? ⟨bs, os + k * 5, none⟩ = some (.int .i64 (mAt (momS l) k).1) ∧ W.cell? ⟨bs, os + k * 5 + 1, none⟩ = some (.int .i64 (mAt (momS l) k).2) ∧
      W.cell? ⟨bs, os + k * 5 + 4, none⟩ = some (.slice (some ⟨be, oe, none⟩) n ce) ∧ W.cell? ⟨be, oe + i, none⟩ = some (.int .i64 (onS v (mAt (momS l) k))) ∧
      W.cell? ⟨ba, oa + i, none⟩ = some (.slice A' n' c') ∧ Reads W W.heap.size 10 A' n' (csE v) ∧ v.length = n' := by
  obtain ⟨ba', oa', bs', os', be, oe, ce, A', n', c', hA, hS, r⟩ := h.at_ hb hi hk hv
  cases hA
  cases hS
  exact ⟨be, oe, ce, A', n', c', r⟩
/-- Where a voice has an event, or none, in slice k. -/
theorem Stg.onK {w : World} {A S : Option Addr} {n K : Nat} {l : List (List Ev)} (h : Stg w A S n K l) {k : Nat} (hk : k < K) {i : Nat} {v : List Ev} (hv : l[i]? = some v) : onS v (mAt (momS l) k) = -1 ∨ ∃ (j : Nat) (x : Ev), onS v (mAt (momS l) k) = (j : Int) ∧ v[j]? = some x := by
  obtain ⟨_, f2, _, _, f5⟩ := set_facts h.good
  have hm := h.many
  rcases on_char (f2 v (List.mem_of_getElem? hv)).2.1 (ok_mAt f5 (i := k) (by omega)) with ⟨j, x, hx, _, e⟩ | e
  · exact .inr ⟨j, x, e, hx⟩
  · exact .inl e
/-- A world from which the walk counts ('ht.kept' of the walk's printed rows). -/
structure Anch (w : World) : Prop where
theorem Anch.kept {w W : World} (_ : Anch w) (hb : Below w.heap.size w W) : Below w.heap.size w W := hb
end Go.Proofs.YtmlcnmnpkemdpaaDoor

/- A setting of layer 32 in memory: voices, slices, the kinds of clashes slice by slice. -/

namespace Go.Proofs.YtmlcnmnpkemdpaaDoor
open Go.RowKit
/-- The kinds of a slice, as a map of pairs of voices. -/
def kindF (l : List (List Ev)) (t : Tm) (ks : List Int) : Int := lookL (kindsC l t) (ks.getD 0 0) (ks.getD 1 0)
def csM (bs : List Nat) : List Value := bs.flatMap fun b => [.map (some b)]
theorem csM_append (a b : List Nat) : csM (a ++ b) = csM a ++ csM b := by unfold csM; rw [List.flatMap_append]
theorem csM_len (l : List Nat) : (csM l).length = l.length * 1 := flat_len (fun b => [Value.map (some b)]) 1 (fun _ => rfl) l
theorem one_csM (l : List Nat) : ∀ u ∈ csM l, u.oneCell' = true := by
  intro u hu
  unfold csM at hu
  obtain ⟨b, _, hb⟩ := List.mem_flatMap.1 hu
  rw [List.mem_singleton] at hb
  subst hb; rfl
def KindsAt (w : World) (l : List (List Ev)) (bs : List Nat) : Prop := ∀ (i : Nat) (b : Nat), bs[i]? = some b → IntMap w 94 2 b 100 (kindF l (mAt (momS l) i))
theorem KindsAt.call {w w' : World} {l : List (List Ev)} {bs : List Nat} (h : KindsAt w l bs) (hb : Below w.heap.size w w') : KindsAt w' l bs := fun i b hi => (h i b hi).call hb
/-- The receiver: block g. -/
structure SetR (w : World) (g : Nat) (A S Q : Option Addr) (n c K d q : Nat) (l : List (List Ev)) : Prop where
  stg : Stg w A S n K l
  lt : g < w.heap.size
  c0 : w.cell? ⟨g, 0, none⟩ = some (.slice A n c)
  c1 : w.cell? ⟨g, 1, none⟩ = some (.slice S K d)
  c2 : w.cell? ⟨g, 2, none⟩ = some (.slice Q K q)
  kinds : ∃ bs : List Nat, Reads w w.heap.size 1 Q K (csM bs) ∧ KindsAt w l bs
theorem SetR.kept {w w' : World} {g : Nat} {A S Q : Option Addr} {n c K d q : Nat} {l : List (List Ev)} (h : SetR w g A S Q n c K d q l) (hb : Below w.heap.size w w') : SetR w' g A S Q n c K d q l := by
  obtain ⟨bs, k1, k2⟩ := h.kinds
  exact ⟨h.stg.kept hb, by have := hb.size; have := h.lt; omega, (hb.cell (p := ⟨g, 0, none⟩) h.lt).trans h.c0, (hb.cell (p := ⟨g, 1, none⟩) h.lt).trans h.c1, (hb.cell (p := ⟨g, 2, none⟩) h.lt).trans h.c2, bs, rd1 k1 hb, k2.call hb⟩
theorem SetR.pits {w : World} {g : Nat} {A S Q : Option Addr} {n c K d q : Nat} {l : List (List Ev)} (h : SetR w g A S Q n c K d q l) : ∀ v ∈ l, PitsV v := fun v hv => val_pits ((checkA_all h.stg.good).2 v hv)
/-- The map of slice i. -/
theorem SetR.map {w W : World} {g : Nat} {A S Q : Option Addr} {n c K d q : Nat} {l : List (List Ev)} (h : SetR w g A S Q n c K d q l) (hb : Below w.heap.size w W) {i : Nat} (hi : i < K) :
    ∃ b o m, Q = some ⟨b, o, none⟩ ∧ b < W.heap.size ∧ W.cell? ⟨b, o + i, none⟩ = some (.map (some m)) ∧ IntMap W 94 2 m 100 (kindF l (mAt (momS l) i)) := by
  obtain ⟨bs, k1, k2⟩ := h.kinds
  have hl : bs.length = K := k1.len (size := 1) (l := bs) (f := fun b => [Value.map (some b)]) (fun _ => rfl) (by decide)
  obtain ⟨m, hm⟩ : ∃ m, bs[i]? = some m := ⟨_, List.getElem?_eq_getElem (by omega)⟩
  obtain ⟨b, o, hA, hbB, hc⟩ := k1.elem (f := fun b => [Value.map (some b)]) (fun _ => rfl) hi hm
  have e := hc 0 _ rfl
  simp only [Nat.mul_one, Nat.add_zero] at e
  have hz := hb.size
  exact ⟨b, o, m, hA, by omega, (hb.cell (p := ⟨b, o + i, none⟩) hbB).trans e, (k2 i m hm).call hb⟩
theorem kindF_eq (l : List (List Ev)) (t : Tm) {a b : Nat} (hab : a < b) : kindF l t [(a : Int), (b : Int)] = clE l t a b := look_kinds l t hab
/-- Of a voice with itself nothing is kept. -/
theorem kindF_self (l : List (List Ev)) (t : Tm) (a : Nat) : kindF l t [(a : Int), (a : Int)] = 0 := by
  unfold kindF lookL
  show (kindsC l t).foldl (fun r c => if c.1 = (a : Int) ∧ c.2.1 = (a : Int) then c.2.2 else r) 0 = 0
  rw [look_all (v := 0) (kindsC l t) 0 (fun c hc h1 h2 => by
    obtain ⟨x, y, hxy, _, rfl⟩ := kinds_mem.1 hc
    simp only at h1 h2
    omega)]
  split <;> rfl
theorem kindF_any {l : List (List Ev)} (hp : ∀ v ∈ l, PitsV v) (t : Tm) (a b : Nat) : kindF l t [min (a : Int) b, max (a : Int) b] = clE l t a b := by
  rcases Nat.lt_trichotomy a b with h | h | h
  · rw [show min (a : Int) b = a by omega, show max (a : Int) b = b by omega]; exact kindF_eq l t h
  · subst h
    rw [show min (a : Int) a = a by omega, show max (a : Int) a = a by omega, kindF_self, clE_self]
  · rw [show min (a : Int) b = b by omega, show max (a : Int) b = a by omega, kindF_eq l t h, clE_comm hp]
end Go.Proofs.YtmlcnmnpkemdpaaDoor

/- The voices that sound in a slice, and their pitches: the program's chord. -/

namespace Go.Proofs.YtmlcnmnpkemdpaaDoor
open Go.RowKit
def whoK (l : List (List Ev)) (t : Tm) (j : Nat) : List Nat := (List.range j).filter fun v => sndB (l.getD v []) t
def whoI (l : List (List Ev)) (t : Tm) (j : Nat) : List Int := (whoK l t j).map fun (v : Nat) => (v : Int)
def whatK (l : List (List Ev)) (t : Tm) (j : Nat) : List Pit3 := (whoK l t j).map fun v => pitA (l.getD v []) t
theorem whoK_all (l : List (List Ev)) (t : Tm) : whoK l t l.length = whoC l t := rfl
theorem whoK_len (l : List (List Ev)) (t : Tm) (j : Nat) : (whoK l t j).length ≤ j := by
  have := List.length_filter_le (fun v => sndB (l.getD v []) t) (List.range j)
  rwa [List.length_range] at this
theorem whoI_len (l : List (List Ev)) (t : Tm) (j : Nat) : (whoI l t j).length = (whoK l t j).length := by unfold whoI; rw [List.length_map]
theorem whatK_len (l : List (List Ev)) (t : Tm) (j : Nat) : (whatK l t j).length = (whoK l t j).length := by unfold whatK; rw [List.length_map]
theorem whoK_yes {l : List (List Ev)} {t : Tm} {j : Nat} (h : sndB (l.getD j []) t = true) : whoI l t (j + 1) = whoI l t j ++ [(j : Int)] ∧ whatK l t (j + 1) = whatK l t j ++ [pitA (l.getD j []) t] ∧ (whoK l t (j + 1)).length = (whoK l t j).length + 1 := by
  have e : whoK l t (j + 1) = whoK l t j ++ [j] := by
    unfold whoK
    rw [List.range_succ, List.filter_append]
    congr 1
    exact List.filter_cons_of_pos (p := fun v => sndB (l.getD v []) t) h
  unfold whoI whatK
  rw [e]
  simp
theorem whoK_no {l : List (List Ev)} {t : Tm} {j : Nat} (h : sndB (l.getD j []) t = false) : whoK l t (j + 1) = whoK l t j := by
  unfold whoK
  rw [List.range_succ, List.filter_append, show [j].filter (fun v => sndB (l.getD v []) t) = [] from List.filter_cons_of_neg (p := fun v => sndB (l.getD v []) t) (by rw [h]; simp), List.append_nil]
theorem getD_at {l : List (List Ev)} {i : Nat} {v : List Ev} (h : l[i]? = some v) : l.getD i [] = v := by simp [List.getD, h]
def ChordRet (l : List (List Ev)) (t : Tm) (w : World) (e : Ending) (w' : World) : Prop :=
  ∃ A1 c1 A2 c2, e = .returned (.tuple #[.slice A1 (whoC l t).length c1, .slice A2 (whoC l t).length c2]) ∧ Reads w' w'.heap.size 1 A1 (whoC l t).length (csN (whoI l t l.length)) ∧ Reads w' w'.heap.size 3 A2 (whoC l t).length (csP (whatC l t)) ∧ Below w.heap.size w w'
set_option maxRecDepth 100000 in
set_option maxHeartbeats 4000000 in
theorem chord_ok {w : World} {g k n K : Nat} {A S : Option Addr} {c d : Nat} {l : List (List Ev)} (h : Stg w A S n K l) (hg : g < w.heap.size) (hg0 : w.cell? ⟨g, 0, none⟩ = some (.slice A n c)) (hg1 : w.cell? ⟨g, 1, none⟩ = some (.slice S K d)) (hk : k < K) :
    Calls Tryd.prog 34 #[.pointer (some ⟨g, 0, none⟩), .int .i64 k] w fun e w' => ChordRet l (mAt (momS l) k) w e w' := by
  have hgs : ((List.range K).map (slOf l (momS l)))[k]? = some (slOf l (momS l) k) := by rw [List.getElem?_map, List.getElem?_range hk]; rfl
  obtain ⟨bs, os, p, q, ce, rfl, hbs, hq, hr, x0, x1, x2, x3, x4⟩ := h.slices.el (Nat.le_refl _) (Below.refl _ _) hk hgs
  have hqn : q = n := by rw [← hq]; show (l.map _).length = n; rw [List.length_map]; exact h.len
  subst hqn
  have hn8 := h.big.2
  have HL := Lib.hid h.len
  have HON := Lib.hid (fun i v (hi : l[i]? = some v) => h.onK hk hi)
  have HV := Lib.hid (fun i v (hi : i < q) (hv : l[i]? = some v) => h.voices.voice (Nat.le_refl _) (Below.refl _ _) hi hv)
  have HE := Lib.hid hr
  obtain ⟨t, ht⟩ : ∃ t, t = mAt (momS l) k := ⟨_, rfl⟩
  have HS := Lib.hid (show (slOf l (momS l) k).evs = l.map (fun v => onS v t) by rw [ht]; rfl)
  rw [← ht] at HON ⊢
  have hkk : (k : Int) < (K : Int) := by omega
  obtain ⟨i0, hi0, hz0, hz1, hz2⟩ := info_parts num_info
  obtain ⟨j0, hj0, yz0, yz1, yz2⟩ := info_parts pitch_info
  clear hq hr x0 x1 x2 x3 hgs ht h
  go_enter Tryd.func34, Tryd.ntmps34
  go_wp2_with fail
  go_loopg [6, 7, 8, 9, 19] q (fun gh a b _ _ i wr => ∃ j : Nat, j + gh = q ∧ i = .int .i64 (j : Int) ∧ wr.ownsRow w.heap.size 3 1 a (whoK l t j).length (csN (whoI l t j)) ∧ wr.ownsRow w.heap.size 32 3 b (whoK l t j).length (csP (whatK l t j)) ∧ Below w.heap.size w wr)
  case atStart => exact ⟨0, by omega, rfl, ⟨rfl, .inl ⟨rfl, rfl⟩⟩, ⟨rfl, .inl ⟨rfl, rfl⟩⟩, Below.refl _ _⟩
  case round =>
    obtain ⟨j, hjg, rfl, hwho, hwhat, kr⟩ := hrel
    have wk : IntKind.i64.wrap ((j : Int) + 1) = (j : Int) + 1 := IntWalk.i64_in _ (by omega)
    cases gk with
    | zero =>
      have hj : j = q := by omega
      subst hj
      have d0 : ¬ ((j : Int) < (j : Int)) := by omega
      obtain ⟨A1, c1, rfl, r1, _, _⟩ := own_reads hwho
      obtain ⟨A2, c2, rfl, r2, _, _⟩ := own_reads hwhat
      have E1 := Lib.hid (show whoK l t j = whoC l t by rw [← HL.out]; exact whoK_all l t)
      have E2 := Lib.hid (show whatK l t j = whatC l t by unfold whatK; rw [E1.out]; rfl)
      clear hjg
      go_wp2
      go_ret2
      refine ⟨A1, c1, A2, c2, by rw [E1.out]; rfl, ?_, ?_, kr⟩
      · rw [HL.out, ← E1.out]; exact r1
      · rw [← E2.out, ← E1.out]; exact r2
    | succ gh =>
      have hjq : j < q := by omega
      have d0 : (j : Int) < (q : Int) := by omega
      obtain ⟨v, hv⟩ := get_some (l := l) (k := j) (by have := HL.out; omega)
      have hlen := whoK_len l t j
      obtain ⟨be, oe, rfl, hbe, hce⟩ := HE.out.elem (f := cI) (fun _ => rfl) (k := j) hjq (x := onS v t) (by rw [HS.out, List.getElem?_map, hv]; rfl)
      have ce0 := hce 0 _ rfl
      simp only [Nat.mul_one, Nat.add_zero] at ce0
      have ce1 := (kr.cell (p := ⟨be, oe + j, none⟩) hbe).trans ce0
      have cg0 := (kr.cell (p := ⟨g, 0, none⟩) hg).trans hg0
      have zr := kr.size
      have lbe : be < wr.heap.size := by omega
      have lg : g < wr.heap.size := by omega
      clear ce0 hce
      rcases HON.out j v hv with ho | ⟨e, x, ho, hx⟩
      · have HN := Lib.hid (whoK_no (l := l) (t := t) (j := j) (by rw [getD_at hv]; exact snd_neg (by omega)))
        have HNI := Lib.hid (show whoI l t (j + 1) = whoI l t j by unfold whoI; rw [HN.out])
        have HN2 := Lib.hid (show whatK l t (j + 1) = whatK l t j by unfold whatK; rw [HN.out])
        rw [ho] at ce1
        clear ho hv
        go_wp2_with fail
        go_roundg gh
        case measure => omega
        case rel => exact ⟨j + 1, by omega, by go_num, by rw [HN.out, HNI.out]; exact hwho, by rw [HN.out, HN2.out]; exact hwhat, kr⟩
      · obtain ⟨ba, oa, A', n', c', rfl, hba, cv, hre, _, hvn⟩ := HV.out j v hjq hv
        obtain ⟨bx, ox, rfl, hbx, hcx⟩ := hre.ev (Nat.le_refl _) (Below.refl _ _) (k := e) (by rw [← hvn]; exact (List.getElem?_eq_some_iff.1 hx).1) hx
        obtain ⟨f0, f1, f2, f3, f4, f5, f6, f7, f8, f9⟩ := ten hcx
        have hen : (e : Int) < (n' : Int) := by have := (List.getElem?_eq_some_iff.1 hx).1; omega
        rw [ho] at ce1
        have cv1 := (kr.cell (p := ⟨ba, oa + j, none⟩) hba).trans cv
        have g7 := (kr.cell (p := ⟨bx, ox + e * 10 + 7, none⟩) hbx).trans f7
        have lba : ba < wr.heap.size := by omega
        have lbx : bx < wr.heap.size := by omega
        cases hrr : x.rest with
        | true =>
          have HN := Lib.hid (whoK_no (l := l) (t := t) (j := j) (by rw [getD_at hv]; exact snd_rest ho hx hrr))
          have HNI := Lib.hid (show whoI l t (j + 1) = whoI l t j by unfold whoI; rw [HN.out])
          have HN2 := Lib.hid (show whatK l t (j + 1) = whatK l t j by unfold whatK; rw [HN.out])
          rw [hrr] at g7
          clear ho hv hx hrr f0 f1 f2 f3 f4 f5 f6 f7 f8 f9 hcx hre
          go_wp2_with fail
          go_roundg gh
          case measure => omega
          case rel => exact ⟨j + 1, by omega, by go_num, by rw [HN.out, HNI.out]; exact hwho, by rw [HN.out, HN2.out]; exact hwhat, kr⟩
        | false =>
          obtain ⟨s1, s2⟩ := snd_note ho hx hrr
          obtain ⟨y1, y2, y3⟩ := whoK_yes (l := l) (t := t) (j := j) (by rw [getD_at hv]; exact s1)
          rw [getD_at hv, s2] at y2
          have Y1 := Lib.hid y1
          have Y2 := Lib.hid y2
          have Y3 := Lib.hid y3
          rw [hrr] at g7
          obtain ⟨_, _, ⟨p0, p1, p2⟩, _, _, _⟩ := x
          simp only at f4 f5 f6 Y2
          clear ho hv hx hrr f0 f1 f2 f3 f7 f8 f9 hcx hre s1 s2 y1 y2 y3
          go_wp2_with (first
            | (at_builtin; refine wpList_append_any _ rfl (.tmp 40) (.tmp 42) 25 rfl w.heap.size 3 i0 _ 1 8 Tryd.underlying25 hi0 hz0 hz1 hz2 rfl (by omega) u6 (whoK l t j).length (csN (whoI l t j)) rfl (own_call hwho (below_alloc (Below.refl _ _) _)) (wr.heap.size + 1) (some ⟨wr.heap.size, 0, none⟩) 1 1 (csN [(j : Int)]) rfl (Reads.newAt _ _ _ 1 1 _ rfl rfl) (one_csN _) (by simp only [maxLen]; omega) (by omega) (by simp; omega) ?_
               intro v4 w4 hown4 hg4 hat4
               have hB4 : Below w.heap.size w w4 := Below.grown (B := w.heap.size) (kr.alloc (by omega) _) hg4 (by simp; omega) (fun x hx => (hwho.lt x hx).1)
               have hwhat4 : w4.ownsRow w.heap.size 32 3 u7 (whoK l t j).length (csP (whatK l t j)) := own_far (own_call hwhat (below_alloc (Below.refl _ _) (.cells #[.int .i64 (j : Int)] 3))) (own_call hwho (below_alloc (Below.refl _ _) (.cells #[.int .i64 (j : Int)] 3))) hg4 (by decide)
               have zg0 := (hB4.cell (p := ⟨g, 0, none⟩) hg).trans hg0
               have zv1 := (hB4.cell (p := ⟨ba, oa + j, none⟩) hba).trans cv
               have z4 := (hB4.cell (p := ⟨bx, ox + e * 10 + 4, none⟩) hbx).trans f4
               have z5 := (hB4.cell (p := ⟨bx, ox + e * 10 + 5, none⟩) hbx).trans f5
               have z6 := (hB4.cell (p := ⟨bx, ox + e * 10 + 6, none⟩) hbx).trans f6
               have zz := hB4.size
               have m1 : g < w4.heap.size := by omega
               have m2 : ba < w4.heap.size := by omega
               have m3 : bx < w4.heap.size := by omega)
            | (at_builtin; refine wpList_append_any _ rfl (.tmp 44) (.tmp 56) 26 rfl w.heap.size 32 j0 _ 3 24 Tryd.underlying26 hj0 yz0 yz1 yz2 rfl (by omega) u7 (whoK l t j).length (csP (whatK l t j)) rfl (own_call hwhat4 (below_alloc (Below.refl _ _) _)) (w4.heap.size + 1) (some ⟨w4.heap.size, 0, none⟩) 1 1 (csP [(p0, p1, p2)]) rfl (Reads.newAt _ _ _ 1 3 _ rfl rfl) (one_csP _) (by simp only [maxLen]; omega) (by omega) (by simp; omega) ?_
               intro v5 w5 hown5 hg5 hat5))
          have hB5 : Below w.heap.size w w5 := Below.grown (B := w.heap.size) (hB4.alloc (by omega) _) hg5 (by simp; omega) (fun x hx => (hwhat4.lt x hx).1)
          have hwho5 := own_far (own_call hown4 (below_alloc (Below.refl _ _) (.cells #[.int .i64 p0, .int .i64 p1, .int .i64 p2] 32))) (own_call hwhat4 (below_alloc (Below.refl _ _) (.cells #[.int .i64 p0, .int .i64 p1, .int .i64 p2] 32))) hg5 (by decide)
          go_roundg gh
          case measure => omega
          case rel => exact ⟨j + 1, by omega, by go_num, by rw [Y1.out, Y3.out, csN_append]; exact hwho5, by rw [Y2.out, Y3.out, csP_append]; exact hown5, hB5⟩
end Go.Proofs.YtmlcnmnpkemdpaaDoor

/- A setting begun: the program's begin. -/

namespace Go.Proofs.YtmlcnmnpkemdpaaDoor
open Go.RowKit
theorem map_info : (Tryd.prog.info? 91).map (fun i => (i.zero, i.size, i.bytes)) = some (some (.map none), 1, 8) := by kernel_rfl
theorem IntMap.mono {w : World} {K : TypeId} {c b n n' : Nat} {f : List Int → Int} (h : IntMap w K c b n f) (hn : n ≤ n') : IntMap w K c b n' f := by obtain ⟨D, h, hf⟩ := h; exact ⟨D, h.mono hn, hf⟩
theorem map_row {w : World} {K : TypeId} {c b n : Nat} {f : List Int → Int} (h : IntMap w K c b n f) {base size m : Nat} {e : TypeId} {v : Value} {xs : List Value} (ho : w.ownsRow base e size v m xs) : some b ≠ v.ownBlock := by
  obtain ⟨D, ⟨es, clock, hb, _⟩, _⟩ := h
  rcases ho.2 with ⟨rfl, _⟩ | ⟨g, cap, cur, rfl, _, hg, _⟩
  · intro h; cases h
  · intro h
    have : b = g := by simpa [Value.ownBlock] using h
    subst this
    rw [hb] at hg; cases hg
theorem map_blk {w : World} {K : TypeId} {c b n : Nat} {f : List Int → Int} (h : IntMap w K c b n f) {g : Nat} {t : TypeId} {cs : Array Value} (hg : Blk w g t cs) : b ≠ g := by
  obtain ⟨D, ⟨es, clock, hb, _⟩, _⟩ := h
  rintro rfl
  unfold Blk at hg
  rw [hb] at hg; cases hg
theorem IntMap.setCell {w : World} {K : TypeId} {c b n : Nat} {f : List Int → Int} (h : IntMap w K c b n f) {p : Addr} {u : Value} (hne : b ≠ p.block) : IntMap (w.setCell p u) K c b n f := by
  obtain ⟨D, ⟨es, clock, hb, r⟩, hf⟩ := h
  exact ⟨D, ⟨es, clock, (Below.heap_setCell w p u b hne).trans hb, r⟩, hf⟩
/-- The maps of the first slices: k of them. -/
def KindsK (w : World) (l : List (List Ev)) (bs : List Nat) (k : Nat) : Prop := ∀ (i b : Nat), bs[i]? = some b → i < k ∧ IntMap w 94 2 b 100 (kindF l (mAt (momS l) i))
theorem fullC_len (L : List Pit3) : (fullC L).length ≤ L.length * L.length := allC_len L L.length
/-- The clashes of the chord in the walk's words. -/
theorem full_at {l : List (List Ev)} {t : Tm} {j : Nat} {x : Pit3} (h : (fullC (whatC l t))[j]? = some x) : ∃ a b : Nat, x.1 = (a : Int) ∧ x.2.1 = (b : Int) ∧ a < (whoC l t).length ∧ b < (whoC l t).length ∧ (kindsC l t)[j]? = some ((((whoC l t).getD a 0 : Nat) : Int), (((whoC l t).getD b 0 : Nat) : Int), x.2.2) ∧ okI x.2.2 := by
  obtain ⟨a, b, hab, hb, hbad, rfl⟩ := (fullC_mem _ _).1 (List.mem_of_getElem? h)
  rw [what_len] at hb
  refine ⟨a, b, rfl, rfl, by omega, hb, ?_, ?_⟩
  · unfold kindsC
    rw [List.getElem?_map, h]
    rfl
  · have : ∀ p q, okI (kindP p q) := fun p q => by unfold kindP kindX okI; (repeat' split) <;> omega
    exact this _ _
theorem whoI_at {l : List (List Ev)} {t : Tm} {i : Nat} (h : i < (whoC l t).length) : (whoI l t l.length)[i]? = some (((whoC l t).getD i 0 : Nat) : Int) := by
  unfold whoI
  rw [whoK_all, List.getElem?_map, List.getElem?_eq_getElem h]
  simp [List.getD, h]
theorem who_val {l : List (List Ev)} {t : Tm} {i : Nat} (h : i < (whoC l t).length) : (whoC l t).getD i 0 < l.length := by
  rw [show (whoC l t).getD i 0 = (whoC l t)[i] by simp [List.getD, h]]
  exact (who_mem.1 (List.getElem_mem h)).1
def kindJ (l : List (List Ev)) (t : Tm) (j : Nat) (ks : List Int) : Int := lookL ((kindsC l t).take j) (ks.getD 0 0) (ks.getD 1 0)
theorem kindJ_next {l : List (List Ev)} {t : Tm} {j : Nat} {c : Pit3} (h : (kindsC l t)[j]? = some c) (ks : List Int) (ho : okK 2 ks) : upd (kindJ l t j) [c.1, c.2.1] c.2.2 ks = kindJ l t (j + 1) ks := by
  obtain ⟨hl, _⟩ := ho
  match ks, hl with
  | [a, b], _ =>
    unfold upd kindJ
    rw [look_next h]
    simp only [List.getD_cons_zero, List.getD_cons_succ, List.cons.injEq, and_true]
    by_cases hc : c.1 = a ∧ c.2.1 = b
    · rw [if_pos hc, if_pos ⟨hc.1.symm, hc.2.symm⟩]
    · rw [if_neg hc, if_neg (fun hh => hc ⟨hh.1.symm, hh.2.symm⟩)]
theorem clashes_any2 (A : Option Addr) (n c : Nat) (L : List Pit3) (w : World) (h : Reads w w.heap.size 3 A n (csP L)) (hn : n ≤ 8) (hv : ∀ p ∈ L, pchk p = 0) (ht : Tabs w) :
    Calls Tryd.prog 31 #[.slice A n c] w fun e w' => ∃ A' c', e = .returned (.tuple #[.slice A' (fullC L).length c', .int .i64 0]) ∧ Reads w' w'.heap.size 3 A' (fullC L).length (csP (fullC L)) ∧ Below w.heap.size w w' := by
  have q1 := Clashes_any A n c L _ w h (Nat.le_refl _) (by omega) ht
  have hl := h.ptlen
  have hf : ∀ l : List Pit3, (∀ p ∈ l, pchk p = 0) → firstE l = 0 := by
    intro l
    induction l with
    | nil => intro _; rfl
    | cons p l ih => intro h; unfold firstE; rw [if_neg (by rw [h p (by simp)]; exact fun h => h rfl)]; exact ih (fun q hq => h q (by simp [hq]))
  have e : clashE L = (fullC L, 0) := by
    unfold clashE chordE
    rw [if_neg (show ¬ 8 < L.length by omega), hf L hv, if_neg (fun h => h rfl)]
  rw [e] at q1
  exact q1
def BegunRet (A : Option Addr) (n c : Nat) (l : List (List Ev)) (w : World) (e : Ending) (w' : World) : Prop :=
  ∃ g S Q K d q, e = .returned (.tuple #[.pointer (some ⟨g, 0, none⟩), .int .i64 0]) ∧ SetR w' g A S Q n c K d q l ∧ Below w.heap.size w w'
set_option maxRecDepth 100000 in
set_option maxHeartbeats 1000000 in
theorem begin_err (A : Option Addr) (n c : Nat) (l : List (List Ev)) (w : World) (h : ReadsV w w.heap.size A n l) (hn : n ≤ 9223372036854775807) (he : (slicesE l).2 ≠ 0) :
    Calls Tryd.prog 33 #[.slice A n c] w fun e w' => e = .returned (.tuple #[.pointer none, .int .i64 (slicesE l).2]) ∧ Below w.heap.size w w' := by
  have q1 := slices_any A n c l _ w h (Nat.le_refl _) hn
  have hne : ((slicesE l).2 != 0) = true := by simpa using he
  obtain ⟨er, her⟩ : ∃ x, x = (slicesE l).2 := ⟨_, rfl⟩
  rw [← her] at q1 hne ⊢
  clear he her
  have hmm := @run_makeMap Tryd.prog
  go_enter Tryd.func33, Tryd.ntmps33
  go_wp2_with fail
  refine q1.mono ?_
  rintro e w1 ⟨v1, rfl, ho1, k1⟩
  obtain ⟨S, d, rfl, rs⟩ := ho1.reads
  go_wp2_with fail
  go_ret2
  exact ⟨rfl, k1⟩
set_option maxRecDepth 100000 in
set_option maxHeartbeats 8000000 in
theorem begin_ok (A : Option Addr) (n c : Nat) (l : List (List Ev)) (w : World) (h : ReadsV w w.heap.size A n l) (hn : n ≤ 9223372036854775807) (he : (slicesE l).2 = 0) (ht : Tabs w) :
    Calls Tryd.prog 33 #[.slice A n c] w fun e w' => BegunRet A n c l w e w' := by
  have q1 := slices_any A n c l _ w h (Nat.le_refl _) hn
  obtain ⟨hz, hsl⟩ := slicesE_ok he
  rw [he] at q1
  have hmm := @run_makeMap Tryd.prog
  go_enter Tryd.func33, Tryd.ntmps33
  go_wp2_with fail
  refine q1.mono ?_
  rintro e w1 ⟨v1, rfl, ho1, k1⟩
  obtain ⟨S, d, rfl, rs⟩ := ho1.reads
  have HKL := Lib.hid (show (slicesE l).1.length = (momS l).length - 1 by rw [hsl]; simp)
  rw [hsl] at rs
  simp only [List.length_map, List.length_range] at rs
  rw [HKL.out]
  obtain ⟨K, hK⟩ : ∃ K, K = (momS l).length - 1 := ⟨_, rfl⟩
  rw [← hK] at rs ⊢
  have stg : Stg w1 A S n K l := ⟨rdV h k1, by rw [hK]; rw [hK] at rs; exact rs, hz, hK⟩
  have ht1 := ht.kept k1
  have hbig := stg.big
  have HLN := Lib.hid stg.len
  have HP := Lib.hid (show ∀ v ∈ l, PitsV v from fun v hv => val_pits ((checkA_all hz).2 v hv))
  obtain ⟨i0, hi0, hz0, hz1, hz2⟩ := info_parts map_info
  clear hK he hsl ho1 HKL rs hz q1 h ht
  go_wp2_with fail
  go_loopg [7, 8, 9, 10, 11, 12, 14, 29, 46] K (fun gh _ _ _ _ _ _ _ i _ wr => ∃ (k : Nat) (bs : List Nat) (vq : Value), k + gh = K ∧ i = .int .i64 (k : Int) ∧ Blk wr w1.heap.size 72 #[.slice A n c, .slice S K d, vq] ∧ wr.ownsRow (w1.heap.size + 1) 91 1 vq k (csM bs) ∧ KindsK wr l bs k ∧ Below w1.heap.size w1 wr)
  case atStart => exact ⟨0, [], .slice none 0 0, by omega, by simp, Blk.new _ _ _, ⟨rfl, .inl ⟨rfl, rfl⟩⟩, fun i b hb => by simp at hb, by repeat (first | with_reducible exact Below.refl _ _ | with_reducible assumption | with_reducible refine below_drewN ?_ _ | with_reducible refine Below.drew ?_ | with_reducible refine below_alloc ?_ _ | (with_reducible refine Below.setCell ?_ ?_ _; rotate_left; ((try simp only); omega)))⟩
  case round =>
    obtain ⟨k, bs, vq, hkg, rfl, hblk, hrow, hkinds, kr⟩ := hrel
    have wk : IntKind.i64.wrap ((k : Int) + 1) = (k : Int) + 1 := IntWalk.i64_in _ (by omega)
    cases gk with
    | zero =>
      have hk : k = K := by omega
      subst hk
      have d0 : ¬ ((k : Int) < (k : Int)) := by omega
      obtain ⟨Q, q, rfl, rq, _, _⟩ := own_reads hrow
      have HR := Lib.hid (show SetR wr w1.heap.size A S Q n c k d q l from ⟨stg.kept kr, hblk.lt, hblk.cell 0, hblk.cell 1, hblk.cell 2, bs, rq, fun i b hb => (hkinds i b hb).2⟩)
      clear hkg hrow
      go_wp2
      go_ret2
      exact ⟨w1.heap.size, S, Q, k, d, q, rfl, HR.out, below_call k1 kr⟩
    | succ gh =>
      have hkK : k < K := by omega
      have d0 : (k : Int) < (K : Int) := by omega
      obtain ⟨t, ht⟩ : ∃ t, t = mAt (momS l) k := ⟨_, rfl⟩
      have q2 := chord_ok (stg.kept kr) hblk.lt (hblk.cell 0) (hblk.cell 1) hkK
      rw [← ht] at q2
      have HT := Lib.hid ht
      clear ht
      go_wp2_with fail
      refine q2.mono ?_
      rintro e w2 ⟨A1, c1, A2, c2, rfl, r1, r2, b2⟩
      replace hblk := hblk.kept b2
      replace hrow := own_call hrow b2
      replace hkinds : KindsK w2 l bs k := fun i b hb => ⟨(hkinds i b hb).1, (hkinds i b hb).2.call b2⟩
      have k2 := below_call kr b2
      have hwl : (whoC l t).length ≤ 8 := by have := who_le l t; have := HLN.out; omega
      have q3 := clashes_any2 A2 (whoC l t).length c2 (whatC l t) w2 r2 (by omega) (what_ok HP.out t) (ht1.kept k2)
      clear q2 b2 kr r2
      go_wp2_with fail
      refine q3.mono ?_
      rintro e w3 ⟨A3, c3, rfl, r3, b3⟩
      have hc64 : (fullC (whatC l t)).length ≤ 64 := by have := fullC_len (whatC l t); rw [what_len] at this; have := Nat.mul_le_mul hwl hwl; omega
      replace hblk := hblk.kept b3
      replace hrow := own_call hrow b3
      replace hkinds : KindsK w3 l bs k := fun i b hb => ⟨(hkinds i b hb).1, (hkinds i b hb).2.call b3⟩
      replace r1 := rd1 r1 b3
      have k3 := below_call k2 b3
      have HC := Lib.hid hc64
      obtain ⟨C, hC⟩ : ∃ C, C = (fullC (whatC l t)).length := ⟨_, rfl⟩
      have HCL := Lib.hid hC
      rw [← hC] at r3 hc64 ⊢
      clear q3 b3 k2 hC
      go_wp2_with fail
      obtain ⟨w4, hw4⟩ : ∃ x, x = w3.alloc (.map #[] 0) := ⟨_, rfl⟩
      have b4 : Below w3.heap.size w3 w4 := by rw [hw4]; exact below_alloc (Below.refl _ _) _
      have m4 : IntMap w4 94 2 w3.heap.size 0 (fun _ => 0) := by rw [hw4]; exact IntMap.made _ _ _
      rw [← hw4]
      clear hw4
      have z3 := k3.size
      have M0 : IntMap w4 94 2 w3.heap.size 0 (kindJ l t 0) := m4.same fun ks _ => rfl
      go_loopg [14, 46] C (fun g2 _ i wy => ∃ j : Nat, j + g2 = C ∧ i = .int .i64 (j : Int) ∧ IntMap wy 94 2 w3.heap.size j (kindJ l t j) ∧ Below w3.heap.size w3 wy)
      case atStart => exact ⟨0, by omega, by simp, M0, b4⟩
      case round =>
        obtain ⟨j, hjg, rfl, mj, ky⟩ := hrel
        have wj : IntKind.i64.wrap ((j : Int) + 1) = (j : Int) + 1 := IntWalk.i64_in _ (by omega)
        cases gk with
        | zero =>
          have hj : j = C := by omega
          have d1 : ¬ ((j : Int) < (C : Int)) := by omega
          have E := Lib.hid (show IntMap wr 94 2 w3.heap.size 100 (kindF l (mAt (momS l) k)) from (mj.mono (by omega)).same fun ks _ => by
            unfold kindJ kindF
            rw [← HT.out, List.take_of_length_le]
            unfold kindsC
            rw [List.length_map, ← HCL.out]; omega)
          have blkY := hblk.kept ky
          have rowY := own_call hrow ky
          have kinY : KindsK wr l bs k := fun i b hb => ⟨(hkinds i b hb).1, (hkinds i b hb).2.call ky⟩
          have kY := below_call k3 ky
          have bl : bs.length = k := by have := rowY.1; rw [csM_len] at this; omega
          have y0 := blkY.cell 0
          have y1 := blkY.cell 1
          have y2 := blkY.cell 2
          have yl := blkY.lt
          have zY := kY.size
          clear hjg hj mj hblk hrow hkinds ky M0 m4 b4 r1 r3
          go_wp2_with (at_builtin; refine wpList_append_any _ rfl (.tmp 69) (.tmp 71) 70 rfl (w1.heap.size + 1) 91 i0 _ 1 8 Tryd.underlying70 hi0 hz0 hz1 hz2 rfl (by omega) vq k (csM bs) rfl (own_call rowY (below_alloc (Below.refl _ _) _)) (wr.heap.size + 1) (some ⟨wr.heap.size, 0, none⟩) 1 1 (csM [w3.heap.size]) rfl (Reads.newAt _ _ _ 1 1 _ rfl rfl) (one_csM _) (by simp only [maxLen]; omega) (by omega) (by simp; omega) ?_
                       intro v7 w7 hown7 hg7 hat7
                       have hne : some w1.heap.size ≠ vq.ownBlock := fun he => by have := (rowY.lt _ he.symm).1; omega
                       have blk7 : Blk w7 w1.heap.size 72 #[.slice A n c, .slice S K d, vq] := Blk.grown_ (blkY.alloc (.cells #[.map (some w3.heap.size)] 91)) hg7 hne
                       have s0 := blk7.cell 0
                       have s1 := blk7.cell 1
                       have s2 := blk7.cell 2
                       have sl := blk7.lt
                       have sf := blk7.frozen
                       obtain ⟨A7, c7, hv7, hr7, _, _⟩ := own_reads hown7
                       subst hv7)
          have rowA := own_call rowY (below_alloc (Below.refl wr.heap.size wr) (.cells #[.map (some w3.heap.size)] 91))
          have k7 : Below w1.heap.size w1 w7 := Below.grown (B := w1.heap.size) (kY.alloc (by omega) _) hg7 (by simp; omega) (fun x hx => by have := (rowY.lt x hx).1; omega)
          have kin7 : KindsK w7 l (bs ++ [w3.heap.size]) (k + 1) := by
            intro i b hb
            rcases Nat.lt_or_ge i bs.length with hi | hi
            · rw [List.getElem?_append_left hi] at hb
              obtain ⟨g1, g2⟩ := kinY i b hb
              have g3 := g2.call (below_alloc (Below.refl wr.heap.size wr) (.cells #[.map (some w3.heap.size)] 91))
              exact ⟨by omega, g3.grown hg7 (map_row g3 rowA)⟩
            · have hik : i = k := by
                have := (List.getElem?_eq_some_iff.1 hb).1
                rw [List.length_append, List.length_singleton] at this
                omega
              subst hik
              rw [List.getElem?_append_right hi, show i - bs.length = 0 by omega] at hb
              cases hb
              have g3 := E.out.call (below_alloc (Below.refl wr.heap.size wr) (.cells #[.map (some w3.heap.size)] 91))
              exact ⟨by omega, g3.grown hg7 (map_row g3 rowA)⟩
          go_roundg gh
          case measure => omega
          case rel => exact ⟨k + 1, bs ++ [w3.heap.size], .slice A7 (k + 1) c7, by omega, by go_num, blk7.set_ 2 _, by rw [csM_append]; exact own_set hown7 (by simp), fun i b hb => ⟨(kin7 i b hb).1, (kin7 i b hb).2.setCell (map_blk (kin7 i b hb).2 blk7)⟩, Below.setCell k7 (by simp) _⟩
        | succ g2 =>
          have hjC : j < C := by omega
          have d1 : (j : Int) < (C : Int) := by omega
          obtain ⟨x, hx⟩ := get_some (l := fullC (whatC l t)) (k := j) (by have := HCL.out; omega)
          obtain ⟨a, b, e1, e2, ha, hb, hkj, ok3⟩ := full_at hx
          obtain ⟨bc, oc, rfl, hbc, y0, y1, y2⟩ := r3.pt (Nat.le_refl _) ky hjC hx
          obtain ⟨ba, oa, hA, hba, u0⟩ := r1.elem (f := cI) (fun _ => rfl) (k := a) ha (whoI_at ha)
          obtain ⟨bb, ob, hA', hbb, v0⟩ := r1.elem (f := cI) (fun _ => rfl) (k := b) hb (whoI_at hb)
          subst hA
          cases hA'
          have u1 := u0 0 _ rfl
          have v1 := v0 0 _ rfl
          simp only [Nat.mul_one, Nat.add_zero] at u1 v1
          have u2 := (ky.cell (p := ⟨ba, oa + a, none⟩) hba).trans u1
          have v2 := (ky.cell (p := ⟨ba, oa + b, none⟩) hba).trans v1
          have HA := Lib.hid (who_val ha)
          have HB := Lib.hid (who_val hb)
          have HJ := Lib.hid (fun ks ho => kindJ_next hkj ks ho)
          obtain ⟨x0, x1, x2⟩ := x
          simp only at e1 e2 y0 y1 y2 ok3 HJ
          rw [e1] at y0
          rw [e2] at y1
          obtain ⟨va, hva⟩ : ∃ z, z = (whoC l t).getD a 0 := ⟨_, rfl⟩
          obtain ⟨vb, hvb⟩ : ∃ z, z = (whoC l t).getD b 0 := ⟨_, rfl⟩
          rw [← hva] at u2 HA HJ
          rw [← hvb] at v2 HB HJ
          have HO := Lib.hid (show okK 2 [(va : Int), (vb : Int)] from ⟨rfl, by
            have := HA.out; have := HB.out; have := HLN.out
            intro z hz
            simp only [List.mem_cons, List.not_mem_nil, or_false] at hz
            unfold okI
            rcases hz with rfl | rfl <;> omega⟩)
          have da : (a : Int) < ((whoC l t).length : Int) := by omega
          have db : (b : Int) < ((whoC l t).length : Int) := by omega
          have zy := ky.size
          have lbc : bc < wr.heap.size := hbc
          have lba : ba < wr.heap.size := by omega
          clear hkj hx e1 e2 u0 u1 v0 v1 hva hvb ha hb
          go_wp2_with fail
          obtain ⟨wz, hwz⟩ : ∃ z, z = wr.alloc (.cells #[.int .i64 (a : Int), .int .i64 (b : Int), .int .i64 x2] 93) := ⟨_, rfl⟩
          have bz : Below wr.heap.size wr wz := by rw [hwz]; exact below_alloc (Below.refl _ _) _
          have BX : Blk wz wr.heap.size 93 #[.int .i64 (a : Int), .int .i64 (b : Int), .int .i64 x2] := by rw [hwz]; exact Blk.new _ _ _
          rw [← hwz]
          have t0 := BX.cell 0
          have t1 := BX.cell 1
          have t2 := BX.cell 2
          have tl := BX.lt
          have u3 := (bz.cell (p := ⟨ba, oa + a, none⟩) lba).trans u2
          have v3 := (bz.cell (p := ⟨ba, oa + b, none⟩) lba).trans v2
          have lbz : ba < wz.heap.size := by have := bz.size; omega
          have mz := mj.call bz
          have kz := below_call ky bz
          clear hwz u2 v2 mj
          refine wp_region_calm_tail 14 (by kernel_rfl) (by kernel_rfl) ?_
          simp only [List.take_succ_cons, List.take_zero, List.drop_succ_cons, List.drop_zero]
          repeat (go_big_quiet_step (fail))
          refine wpQuiet_nil ?_
          intro wd gd
          refine wpList_put (T := 91) rfl (.tmp 50) (.tmp 61) (.tmp 63) rfl (mz.call gd) key_two Tryd.underlying91 (by simp only [maxLen]; omega) [(va : Int), (vb : Int)] HO.out x2 ok3 rfl rfl rfl ?_
          intro w6 m6 hg6
          have k6 : Below w3.heap.size w3 w6 := Below.grown (B := w3.heap.size) (below_call kz gd) hg6 (below_call kz gd).size (fun x hx => by cases hx; exact Nat.le_refl _)
          have m7 := m6.same HJ.out
          go_wp2
          go_roundg g2
          case measure => omega
          case rel => exact ⟨j + 1, by omega, by go_num, m7, k6⟩
end Go.Proofs.YtmlcnmnpkemdpaaDoor

