
/- A setting with its slices, in memory; what a voice sounds in a slice, by the program and by the reference. -/
import Derived.Test.YtigfcbofbcpiaaaDoorPaMath
import Derived.Test.YtigfcbofbcpiaaaDoorAlSlices
import Derived.Test.YtigfcbofbcpiaaaDoorChPitchB
import Derived.Test.YtigfcbofbcpiaaaDoorChKind
namespace Go.Proofs.YtigfcbofbcpiaaaDoor
open Go.RowKit
theorem ReadsV.more {w : World} {B B' n : Nat} {A : Option Addr} {l : List (List Ev)} (h : ReadsV w B A n l) (hB : B ≤ B') : ReadsV w B' A n l := by
  obtain ⟨ds, h1, h2, h3⟩ := h
  exact ⟨ds, h1, h2.more hB, fun k d v hd hv => ⟨(h3 k d v hd hv).1.more hB, (h3 k d v hd hv).2⟩⟩
theorem mom_big {l : List (List Ev)} (hz : (checkA l).1 = 0) : (momS l).length ≤ 32000 := by
  obtain ⟨f1, f2, _⟩ := set_facts hz; have := momS_len l (fun v hv => (f2 v hv).2.2); omega
theorem ReadsS.el {w W : World} {B n : Nat} {A : Option Addr} {l : List Sl} (h : ReadsS w B A n l) (hB : B ≤ w.heap.size) (hb : Below w.heap.size w W) {k : Nat} {s : Sl} (hk : k < n) (hs : l[k]? = some s) :
    ∃ b off p q c, A = some ⟨b, off, none⟩ ∧ b < W.heap.size ∧ s.evs.length = q ∧ Reads W W.heap.size 1 p q (csN s.evs) ∧ W.cell? ⟨b, off + k * 5, none⟩ = some (.int .i64 s.at_.1) ∧ W.cell? ⟨b, off + k * 5 + 1, none⟩ = some (.int .i64 s.at_.2) ∧
      W.cell? ⟨b, off + k * 5 + 2, none⟩ = some (.int .i64 s.dur.1) ∧ W.cell? ⟨b, off + k * 5 + 3, none⟩ = some (.int .i64 s.dur.2) ∧ W.cell? ⟨b, off + k * 5 + 4, none⟩ = some (.slice p q c) := by
  obtain ⟨ps, h1, h2, h3⟩ := h
  have hp : ∃ x, ps[k]? = some x ∧ x.1 = s := by
    rw [← h1, List.getElem?_map] at hs
    cases hx : ps[k]? with
    | none => rw [hx] at hs; cases hs
    | some x => rw [hx] at hs; exact ⟨x, rfl, by simpa using hs⟩
  obtain ⟨⟨s', p, q, c⟩, hx, rfl⟩ := hp
  obtain ⟨b, off, hA, hbB, hc⟩ := Reads.elem (f := cS) (fun _ => rfl) h2 hk hx
  obtain ⟨e1, e2⟩ := h3 _ (List.mem_of_getElem? hx)
  have hz := hb.size
  have hall : ∀ j u, (cS (s', p, q, c))[j]? = some u → W.cell? ⟨b, off + k * 5 + j, none⟩ = some u := fun j u hj => by
    rw [hb.cell (by simp; omega), Nat.add_assoc]
    exact hc j u hj
  exact ⟨b, off, p, q, c, hA, by omega, e1, (e2.below hB hb).more (by omega), hall 0 _ rfl, hall 1 _ rfl, hall 2 _ rfl, hall 3 _ rfl, hall 4 _ rfl⟩
theorem rdV {w w' : World} {A : Option Addr} {n : Nat} {l : List (List Ev)} (h : ReadsV w w.heap.size A n l) (hb : Below w.heap.size w w') : ReadsV w' w'.heap.size A n l := (h.below (Nat.le_refl _) hb).more hb.size
theorem rd1 {w w' : World} {A : Option Addr} {n size : Nat} {xs : List Value} (h : Reads w w.heap.size size A n xs) (hb : Below w.heap.size w w') : Reads w' w'.heap.size size A n xs := (h.below (Nat.le_refl _) hb).more hb.size
theorem ReadsS.kept {w W : World} {n : Nat} {A : Option Addr} {l : List Sl} (h : ReadsS w w.heap.size A n l) (hb : Below w.heap.size w W) : ReadsS W W.heap.size A n l := by
  obtain ⟨ps, h1, h2, h3⟩ := h
  exact ⟨ps, h1, rd1 h2 hb, fun p hp => ⟨(h3 p hp).1, rd1 (h3 p hp).2 hb⟩⟩
/-- A setting with its slices: voices at A, slices at S. -/
structure Stg (w : World) (A S : Option Addr) (n K : Nat) (l : List (List Ev)) : Prop where
  voices : ReadsV w w.heap.size A n l
  slices : ReadsS w w.heap.size S K ((List.range K).map (slOf l (momS l)))
  good : (checkA l).1 = 0
  many : K = (momS l).length - 1
theorem Stg.kept {w w' : World} {A S : Option Addr} {n K : Nat} {l : List (List Ev)} (h : Stg w A S n K l) (hb : Below w.heap.size w w') : Stg w' A S n K l := ⟨rdV h.voices hb, h.slices.kept hb, h.good, h.many⟩
theorem Stg.len {w : World} {A S : Option Addr} {n K : Nat} {l : List (List Ev)} (h : Stg w A S n K l) : l.length = n := h.voices.len
theorem Stg.big {w : World} {A S : Option Addr} {n K : Nat} {l : List (List Ev)} (h : Stg w A S n K l) : K ≤ 32000 ∧ n ≤ 8 := by
  have h1 := mom_big h.good
  have h2 := h.many
  have h3 := (checkA_all h.good).1
  have h4 := h.len
  omega
/-- The cells that the walks read of voice i and slice k. -/
theorem Stg.at_ {w W : World} {A S : Option Addr} {n K : Nat} {l : List (List Ev)} (h : Stg w A S n K l) (hb : Below w.heap.size w W) {i k : Nat} (hi : i < n) (hk : k < K) {v : List Ev} (hv : l[i]? = some v) :
    ∃ ba oa bs os be oe ce A' n' c', A = some ⟨ba, oa, none⟩ ∧ S = some ⟨bs, os, none⟩ ∧ ba < W.heap.size ∧ bs < W.heap.size ∧ be < W.heap.size ∧
      W.cell? ⟨bs, os + k * 5, none⟩ = some (.int .i64 (mAt (momS l) k).1) ∧ W.cell? ⟨bs, os + k * 5 + 1, none⟩ = some (.int .i64 (mAt (momS l) k).2) ∧
      W.cell? ⟨bs, os + k * 5 + 4, none⟩ = some (.slice (some ⟨be, oe, none⟩) n ce) ∧ W.cell? ⟨be, oe + i, none⟩ = some (.int .i64 (onS v (mAt (momS l) k))) ∧
      W.cell? ⟨ba, oa + i, none⟩ = some (.slice A' n' c') ∧ Reads W W.heap.size 10 A' n' (csE v) ∧ v.length = n' := by
  have hg : ((List.range K).map (slOf l (momS l)))[k]? = some (slOf l (momS l) k) := by rw [List.getElem?_map, List.getElem?_range hk]; rfl
  obtain ⟨bs, os, p, q, ce, hS, hbs, hq, hr, c0, c1, _, _, c4⟩ := h.slices.el (Nat.le_refl _) hb hk hg
  have hqn : q = n := by rw [← hq]; show (l.map _).length = n; rw [List.length_map]; exact h.len
  subst hqn
  obtain ⟨be, oe, hp, hbe, hce⟩ := Reads.elem (f := cI) (fun _ => rfl) hr (k := i) hi (x := onS v (mAt (momS l) k)) (by show (l.map _)[i]? = _; rw [List.getElem?_map, hv]; rfl)
  have e0 : W.cell? ⟨be, oe + i, none⟩ = some (.int .i64 (onS v (mAt (momS l) k))) := by have h0 := hce 0 _ rfl; simpa using h0
  obtain ⟨ba, oa, A', n', c', hA, hba, cv, hre, _, hvn⟩ := h.voices.voice (Nat.le_refl _) hb hi hv
  subst hp
  exact ⟨ba, oa, bs, os, be, oe, ce, A', n', c', hA, hS, hba, hbs, hbe, c0, c1, c4, e0, cv, hre.more hb.size, hvn⟩
/-- The same, the addresses given. -/
theorem Stg.addr {w : World} {A S : Option Addr} {n K : Nat} {l : List (List Ev)} (h : Stg w A S n K l) {i k : Nat} (hi : i < n) (hk : k < K) : ∃ ba oa bs os, A = some ⟨ba, oa, none⟩ ∧ S = some ⟨bs, os, none⟩ := by
  obtain ⟨v, hv⟩ := get_some (l := l) (k := i) (by have := h.len; omega)
  obtain ⟨ba, oa, bs, os, _, _, _, _, _, _, hA, hS, _⟩ := h.at_ (Below.refl _ _) hi hk hv
  exact ⟨ba, oa, bs, os, hA, hS⟩
theorem Stg.at2 {w W : World} {ba oa bs os : Nat} {n K : Nat} {l : List (List Ev)} (h : Stg w (some ⟨ba, oa, none⟩) (some ⟨bs, os, none⟩) n K l) (hb : Below w.heap.size w W) {i k : Nat} (hi : i < n) (hk : k < K) {v : List Ev} (hv : l[i]? = some v) :
    ∃ be oe ce A' n' c', ba < W.heap.size ∧ bs < W.heap.size ∧ be < W.heap.size ∧
      W.cell? ⟨bs, os + k * 5, none⟩ = some (.int .i64 (mAt (momS l) k).1) ∧ W.cell? ⟨bs, os + k * 5 + 1, none⟩ = some (.int .i64 (mAt (momS l) k).2) ∧
      W.cell? ⟨bs, os + k * 5 + 4, none⟩ = some (.slice (some ⟨be, oe, none⟩) n ce) ∧ W.cell? ⟨be, oe + i, none⟩ = some (.int .i64 (onS v (mAt (momS l) k))) ∧
      W.cell? ⟨ba, oa + i, none⟩ = some (.slice A' n' c') ∧ Reads W W.heap.size 10 A' n' (csE v) ∧ v.length = n' := by
  obtain ⟨ba', oa', bs', os', be, oe, ce, A', n', c', hA, hS, r⟩ := h.at_ hb hi hk hv
  cases hA
  cases hS
  exact ⟨be, oe, ce, A', n', c', r⟩
theorem check_pit {v : List Ev} (h : (checkS v).1 = 0) : ∀ x ∈ v, x.rest = false → pchk x.pit = 0 := by
  have key : ∀ (v : List Ev) (now : Tm) (i : Int), (checkFrom now i v).1 = 0 → ∀ x ∈ v, x.rest = false → pchk x.pit = 0 := by
    intro v
    induction v with
    | nil => intro now i _ x hx; cases hx
    | cons y v ih =>
      intro now i h x hx hr
      unfold checkFrom at h
      split at h
      · rename_i h0; simp only at h; exact absurd h h0
      · rename_i h0
        rcases List.mem_cons.1 hx with rfl | hx
        · have hs : stepS now x = 0 := by omega
          unfold stepS at hs
          split at hs
          · contradiction
          · rename_i ho
            have ho' : oneS x = 0 := by omega
            unfold oneS at ho'
            split at ho'
            · contradiction
            · split at ho'
              · contradiction
              · split at ho'
                · cases ho'
                · split at ho'
                  · cases ho'
                  · split at ho'
                    · rename_i h5; exact absurd ho' h5.2
                    · rename_i h5
                      by_cases h6 : pchk x.pit = 0
                      · exact h6
                      · exact absurd ⟨hr, h6⟩ h5
        · exact ih _ _ h x hx hr
  unfold checkS at h
  split at h
  · cases h
  · exact key v _ _ h
theorem snd_pit {v : List Ev} (h : (checkS v).1 = 0) (t : Tm) : pchk (pitA v t) = 0 := by
  unfold pitA
  cases hs : (sndV v t).2 with
  | false =>
    have : (sndV v t).1 = zeroEv := by
      unfold sndV at hs ⊢
      cases e : sndP v t with
      | none => rfl
      | some x => rw [e] at hs; simp at hs
    rw [this]; rfl
  | true =>
    obtain ⟨k, _, hx, hr⟩ := sndV_val hs
    exact check_pit h _ (List.mem_of_getElem? hx) hr
theorem Stg.pit {w : World} {A S : Option Addr} {n K : Nat} {l : List (List Ev)} (h : Stg w A S n K l) {i : Nat} {v : List Ev} (hv : l[i]? = some v) (t : Tm) : pchk (pitA v t) = 0 := snd_pit ((checkA_all h.good).2 v (List.mem_of_getElem? hv)) t
/-- Where a voice has an event, or none, in slice k. -/
theorem Stg.onK {w : World} {A S : Option Addr} {n K : Nat} {l : List (List Ev)} (h : Stg w A S n K l) {k : Nat} (hk : k < K) {i : Nat} {v : List Ev} (hv : l[i]? = some v) : onS v (mAt (momS l) k) = -1 ∨ ∃ (j : Nat) (x : Ev), onS v (mAt (momS l) k) = (j : Int) ∧ v[j]? = some x := by
  obtain ⟨_, f2, _, _, f5⟩ := set_facts h.good
  have hm := h.many
  rcases on_char (f2 v (List.mem_of_getElem? hv)).2.1 (ok_mAt f5 (i := k) (by omega)) with ⟨j, x, hx, _, e⟩ | e
  · exact .inr ⟨j, x, e, hx⟩
  · exact .inl e
/-- A world from which the walk counts ('ht.kept' of the walk's printed rows). -/
structure Anch (w : World) : Prop where
theorem Anch.kept {w W : World} (_ : Anch w) (hb : Below w.heap.size w W) : Below w.heap.size w W := hb
@[reducible] def vX (A : Option Addr) (n c : Nat) (S : Option Addr) (K d : Nat) : Value := .agg #[.slice A n c, .slice S K d]
set_option maxRecDepth 100000 in
set_option maxHeartbeats 2000000 in
theorem sounds_ok {A S : Option Addr} {n K : Nat} {l : List (List Ev)} {w : World} (h : Stg w A S n K l) (c d : Nat) {i k : Nat} {v : List Ev} (hi : l[i]? = some v) (hk : k < K) :
    Calls Tryd.prog 74 #[vX A n c S K d, .int .i64 i, .int .i64 k] w fun e w' => e = .returned (.tuple #[vE (sndV v (mAt (momS l) k)).1, .bool (sndV v (mAt (momS l) k)).2]) ∧ Below w.heap.size w w' := by
  have hin : i < n := by have := (List.getElem?_eq_some_iff.1 hi).1; have := h.len; omega
  have kb : Below w.heap.size w ((w.alloc (.cells #[.slice A n c, .slice S K d] 75)).alloc (.cells #[.int .i64 0, .int .i64 0, .int .i64 0, .int .i64 0, .int .i64 0, .int .i64 0, .int .i64 0, .bool false, .int .i64 0, .int .i64 0] 70)) := by repeat (first | with_reducible exact Below.refl _ _ | with_reducible assumption | with_reducible refine below_drewN ?_ _ | with_reducible refine Below.drew ?_ | with_reducible refine below_alloc ?_ _ | (with_reducible refine Below.setCell ?_ ?_ _; rotate_left; ((try simp only); omega)))
  obtain ⟨ba, oa, bs, os, be, oe, ce, A', n', c', rfl, rfl, hba, hbs, hbe, x0, x1, x4, y0, z0, hre, hvn⟩ := h.at_ kb hin hk hi
  have hik : (i : Int) < (n : Int) := by omega
  have hkk : (k : Int) < (K : Int) := by omega
  rcases h.onK hk hi with ho | ⟨j, x, ho, hx⟩
  · have E := Lib.hid (sndV_neg (v := v) (t := mAt (momS l) k) (by omega))
    rw [ho] at y0
    clear ho hi h x0 x1 hre hvn kb
    go_enter Tryd.func74, Tryd.ntmps74
    go_wp2
    refine ret_of (by simp [results, Tryd.results74, go_sem, *]; repeat' (first | rfl | apply And.intro)) rfl ⟨?_, by repeat (first | with_reducible exact Below.refl _ _ | with_reducible assumption | with_reducible refine below_drewN ?_ _ | with_reducible refine Below.drew ?_ | with_reducible refine below_alloc ?_ _ | (with_reducible refine Below.setCell ?_ ?_ _; rotate_left; ((try simp only); omega)))⟩
    rw [E.out]
    rfl
  · rw [ho] at y0
    have hjn : j < n' := by have := (List.getElem?_eq_some_iff.1 hx).1; omega
    obtain ⟨bx, ox, hAx, hbx, hcx⟩ := hre.ev (Nat.le_refl _) (Below.refl _ _) hjn hx
    obtain ⟨c0, c1, c2, c3, c4, c5, c6, c7, c8, c9⟩ := ten hcx
    have hjn' : (j : Int) < (n' : Int) := by omega
    cases hr : x.rest with
    | true =>
      have E := Lib.hid (sndV_rest ho hx hr)
      rw [hr] at c7
      subst hAx
      clear ho hi h x0 x1 hre hvn kb hcx hr hx
      go_enter Tryd.func74, Tryd.ntmps74
      go_wp2
      refine ret_of (by simp [results, Tryd.results74, go_sem, *]; repeat' (first | rfl | apply And.intro)) rfl ⟨?_, by repeat (first | with_reducible exact Below.refl _ _ | with_reducible assumption | with_reducible refine below_drewN ?_ _ | with_reducible refine Below.drew ?_ | with_reducible refine below_alloc ?_ _ | (with_reducible refine Below.setCell ?_ ?_ _; rotate_left; ((try simp only); omega)))⟩
      rw [E.out]
      rfl
    | false =>
      have E := Lib.hid (sndV_note ho hx hr)
      obtain ⟨⟨a0, a1⟩, ⟨d0, d1⟩, ⟨p0, p1, p2⟩, rst, sg, ps⟩ := x
      simp only at hr c0 c1 c2 c3 c4 c5 c6 c7 c8 c9
      subst hr
      subst hAx
      clear ho hi h x0 x1 hre hvn kb hcx hx
      go_enter Tryd.func74, Tryd.ntmps74
      go_wp2
      refine ret_of (by simp [results, Tryd.results74, go_sem, *]; repeat' (first | rfl | apply And.intro)) rfl ⟨?_, by repeat (first | with_reducible exact Below.refl _ _ | with_reducible assumption | with_reducible refine below_drewN ?_ _ | with_reducible refine Below.drew ?_ | with_reducible refine below_alloc ?_ _ | (with_reducible refine Below.setCell ?_ ?_ _; rotate_left; ((try simp only); omega)))⟩
      rw [E.out]
end Go.Proofs.YtigfcbofbcpiaaaDoor
