/- Parts of the proofs of layer 31: FiRound, FiCopy, FiWith, FiMerge. -/
import Derived.Test.YtpkmiegccfhpnaaGreatDoorK19
import Derived.Test.YtpkmiegccfhpnaaGreatDoorK20
import Derived.Deep.LoopGhost
import Derived.Test.YtpkmiegccfhpnaaGreatDoorK09
import Derived.Test.YtpkmiegccfhpnaaGreatDoorK04
import Derived.Test.YtpkmiegccfhpnaaGreatDoorK03
import Derived.Test.YtpkmiegccfhpnaaGreatDoorK12
import Derived.Test.YtpkmiegccfhpnaaGreatDoorK17
namespace Go.Proofs.YtpkmiegccfhpnaaGreatDoor
open Go.RowKit Go.Maps
/-- A round under way, but for the number of the rule. -/
structure YQ (W : World) (db ob : Nat) (pd : Option Nat) (dn : Plc → Option Fic) (mo no : Nat) (f : Plc → Option Fic) : Prop where
  dbox : Blk W db 71 #[.map pd]
  done : DoneAt W pd dn
  apart : pd ≠ some mo
  obox : Blk W ob 71 #[.map (some mo)]
  out : TMap W keyPlace elemFic mo no f
theorem YQ.call {W W' : World} {db ob mo no : Nat} {pd : Option Nat} {dn f : Plc → Option Fic} (h : YQ W db ob pd dn mo no f) (hb : Below W.heap.size W W') : YQ W' db ob pd dn mo no f :=
  ⟨h.dbox.kept hb, h.done.call hb, h.apart, h.obox.kept hb, h.out.call hb⟩
theorem YQ.ys {W : World} {db ob ib mo no : Nat} {pd : Option Nat} {dn f : Plc → Option Fic} {r : Int} (h : YQ W db ob pd dn mo no f) (hi : Blk W ib 3 #[.int .i64 (r - 1)]) : YS W db ob ib pd dn mo no f r := ⟨h.dbox, h.done, h.apart, h.obox, h.out, hi⟩
theorem YS.yq {W : World} {db ob ib mo no : Nat} {pd : Option Nat} {dn f : Plc → Option Fic} {r : Int} (h : YS W db ob ib pd dn mo no f r) : YQ W db ob pd dn mo no f := ⟨h.dbox, h.done, h.apart, h.obox, h.out⟩
/-- What the first k rules have brought. -/
def StageK (l : List (List Ev)) (dn : Plc → Option Fic) (k : Nat) (f : Plc → Option Fic) : Prop :=
  (k = 0 ∧ f = fun _ => none) ∨ (k = 1 ∧ ∃ L, (∀ p, p ∈ L ↔ leadB l p = true) ∧ f = ylds dn 1 1 (fun _ => none) L) ∨
  (k = 2 ∧ ∃ L, (∀ p, p ∈ L ↔ leadB l p = true) ∧ f = ylds dn 2 (-1) (ylds dn 1 1 (fun _ => none) L) (triL l)) ∨ (k = 3 ∧ f = rnd l dn)
theorem StageK.zero {l : List (List Ev)} {dn f : Plc → Option Fic} (h : StageK l dn 0 f) : f = fun _ => none := by
  rcases h with h | h | h | h <;> first | exact h.2 | (have := h.1; omega)
theorem StageK.one {l : List (List Ev)} {dn f : Plc → Option Fic} (h : StageK l dn 1 f) : ∃ L, (∀ p, p ∈ L ↔ leadB l p = true) ∧ f = ylds dn 1 1 (fun _ => none) L := by
  rcases h with h | h | h | h <;> first | exact h.2 | (have := h.1; omega)
theorem StageK.two {l : List (List Ev)} {dn f : Plc → Option Fic} (h : StageK l dn 2 f) : ∃ L, (∀ p, p ∈ L ↔ leadB l p = true) ∧ f = ylds dn 2 (-1) (ylds dn 1 1 (fun _ => none) L) (triL l) := by
  rcases h with h | h | h | h <;> first | exact h.2 | (have := h.1; omega)
theorem StageK.three {l : List (List Ev)} {dn f : Plc → Option Fic} (h : StageK l dn 3 f) : f = rnd l dn := by
  rcases h with h | h | h | h <;> first | exact h.2 | (have := h.1; omega)
theorem rnd_some {l : List (List Ev)} {dn : Plc → Option Fic} {L : List Plc} (hL : ∀ p, p ∈ L ↔ leadB l p = true) : ylds dn 3 (-1) (ylds dn 2 (-1) (ylds dn 1 1 (fun _ => none) L) (triL l)) (supL l) = rnd l dn := rnd_eq hL
def RoundRet (l : List (List Ev)) (dn : Plc → Option Fic) (w : World) (e : Ending) (w' : World) : Prop :=
  ∃ mo no, e = .returned (.map (some mo)) ∧ no ≤ 4000000 ∧ w.heap.size ≤ mo ∧ TMap w' keyPlace elemFic mo no (rnd l dn) ∧ Below w.heap.size w w'
/-- What the loop over the rules keeps. -/
def RLoop (w w1 : World) (db ob fb : Nat) (pd : Option Nat) (dn : Plc → Option Fic) (mo : Nat) (l : List (List Ev)) (k : Nat) (wr : World) : Prop :=
  ∃ no f, no ≤ k * 3500000 ∧ (k = 1 → no ≤ 300000) ∧ (k = 2 → no ≤ 3300000) ∧ (k = 3 → no ≤ 3400000) ∧ StageK l dn k f ∧ YQ wr db ob pd dn mo no f ∧ Blk wr fb 101 #[.func (.func 63) #[] #[], .func (.func 64) #[] #[], .func (.func 65) #[] #[]] ∧ w1.grownBy wr (some mo) ∧ Below w.heap.size w wr
set_option maxRecDepth 100000 in
set_option maxHeartbeats 8000000 in
theorem round_ok {w : World} {pd : Option Nat} {dn : Plc → Option Fic} (hd : DoneAt w pd dn) (A : Option Addr) (n c : Nat) (l : List (List Ev)) (B : Nat) (hV : ReadsV w B A n l) (hB : B ≤ w.heap.size) (hl : SetV l) (hs : (slicesE l).2 = 0) (hT : Tabs w) :
    Calls Tryz.prog 43 #[.slice A n c, .map pd] w fun e w' => RoundRet l dn w e w' := by
  have hmm := @run_makeMap Tryz.prog
  have HV := Lib.hid hV
  have HT := Lib.hid hT
  have HSL := Lib.hid hl
  have HSE := Lib.hid hs
  have HD := Lib.hid hd
  have hpd : ∀ b, pd = some b → b < w.heap.size := fun b hb => by
    rcases hd with ⟨h, _⟩ | ⟨b', nd, h, hm⟩
    · rw [h] at hb; cases hb
    · rw [h] at hb; cases hb; exact hm.lt
  clear hV hT hl hs hd
  go_enter Tryz.func43, Tryz.ntmps43
  go_wp2_with fail
  obtain ⟨w1, hw1⟩ : ∃ z, z = (((w.alloc (.cells #[.map pd] 71)).alloc (.map #[] 0)).alloc (.cells #[.map (some (w.heap.size + 1))] 71)).alloc (.cells #[.func (.func 63) #[] #[], .func (.func 64) #[] #[], .func (.func 65) #[] #[]] 101) := ⟨_, rfl⟩
  have kb : Below w.heap.size w w1 := by rw [hw1]; repeat (first | with_reducible exact Below.refl _ _ | with_reducible assumption | with_reducible refine below_drewN ?_ _ | with_reducible refine Below.drew ?_ | with_reducible refine below_alloc ?_ _ | (with_reducible refine Below.setCell ?_ ?_ _; rotate_left; ((try simp only); omega)))
  have hsz : w1.heap.size = w.heap.size + 4 := by rw [hw1]; simp
  have db0 : Blk w1 w.heap.size 71 #[.map pd] := by rw [hw1]; exact (((Blk.new _ _ _).alloc _).alloc _).alloc _
  have ob0 : Blk w1 (w.heap.size + 2) 71 #[.map (some (w.heap.size + 1))] := by rw [hw1]; exact (Blk.newAt _ _ _ _ (by simp)).alloc _
  have fb0 : Blk w1 (w.heap.size + 3) 101 #[.func (.func 63) #[] #[], .func (.func 64) #[] #[], .func (.func 65) #[] #[]] := by rw [hw1]; exact Blk.newAt _ _ _ _ (by simp)
  have tm0 : TMap w1 keyPlace elemFic (w.heap.size + 1) 0 (fun _ => none) := by
    rw [hw1]
    have h0 := TMap.made (w.alloc (.cells #[.map pd] 71)) keyPlace elemFic
    rw [show (w.alloc (.cells #[.map pd] 71)).heap.size = w.heap.size + 1 by simp] at h0
    exact (h0.call (below_alloc (Below.refl _ _) _)).call (below_alloc (Below.refl _ _) _)
  rw [← hw1]
  clear hw1
  have HSZ := Lib.hid hsz
  have HKB := Lib.hid kb
  have r0 : RLoop w w1 w.heap.size (w.heap.size + 2) (w.heap.size + 3) pd dn (w.heap.size + 1) l 0 w1 :=
    ⟨0, _, by omega, by omega, by omega, by omega, .inl ⟨rfl, rfl⟩, ⟨db0, HD.out.call kb, fun e => by have := hpd _ e; omega, ob0, tm0⟩, fb0, ⟨rfl, rfl, rfl, Nat.le_refl _, fun _ _ _ => rfl⟩, kb⟩
  clear db0 ob0 fb0 tm0 kb hsz
  go_loopg [6, 7, 11] 3 (fun gh _ _ i wr => ∃ k : Nat, k + gh = 3 ∧ i = .int .i64 (k : Int) ∧ RLoop w w1 w.heap.size (w.heap.size + 2) (w.heap.size + 3) pd dn (w.heap.size + 1) l k wr)
  case atStart => exact ⟨0, by omega, by simp, r0⟩
  case round =>
    clear r0
    obtain ⟨k, hkg, rfl, hR⟩ := hrel
    obtain ⟨no, f, hno, hno1, hno2, hno3, hst, hyq, hfb, hgb, hbw⟩ := hR
    cases gk with
    | zero =>
      have hk : k = 3 := by omega
      subst hk
      have d0 : ¬ (((3 : Nat) : Int) < 3) := by omega
      have HF := hst.three
      subst HF
      have o0 := hyq.obox.cell 0
      have lo := hyq.obox.lt
      simp only [List.getElem?_toArray, List.getElem?_cons_zero] at o0
      have HR := Lib.hid (show RoundRet l dn w (.returned (.map (some (w.heap.size + 1)))) wr from ⟨_, no, rfl, by have := hno3 rfl; omega, by omega, hyq.out, hbw⟩)
      clear hyq hfb hgb hbw hno hno1 hno2 hno3
      go_wp2
      refine ret_of (by simp [results, Tryz.results43, go_sem, *]; repeat' (first | rfl | apply And.intro)) rfl HR.out
    | succ gh =>
      have hk3 : k < 3 := by omega
      have d0 : (k : Int) < 3 := by omega
      have wk : IntKind.i64.wrap ((k : Int) + 1) = (k : Int) + 1 := IntWalk.i64_in _ (by omega)
      have hb1 : B ≤ w.heap.size + 1 := by omega
      have hv1 := HV.out.under (hbw.mono hB)
      have ht1 := HT.out.kept hbw
      have hp1 := hgb.size
      have hs0 := hbw.size
      rcases (show k = 0 ∨ k = 1 ∨ k = 2 by omega) with rfl | rfl | rfl
      · have c0 : wr.cell? ⟨w.heap.size + 3, 0, none⟩ = some (.func (.func 63) #[] #[]) := hfb.cell 0
        obtain ⟨w5, hw5⟩ : ∃ z, z = wr.alloc (.cells #[.int .i64 0] 3) := ⟨_, rfl⟩
        have k5 : Below wr.heap.size wr w5 := by rw [hw5]; repeat (first | with_reducible exact Below.refl _ _ | with_reducible assumption | with_reducible refine below_drewN ?_ _ | with_reducible refine Below.drew ?_ | with_reducible refine below_alloc ?_ _ | (with_reducible refine Below.setCell ?_ ?_ _; rotate_left; ((try simp only); omega)))
        have b5 : Blk w5 wr.heap.size 3 #[.int .i64 ((0 + 1 : Int) - 1)] := by rw [hw5]; exact Blk.new _ _ _
        have ys5 := (hyq.call k5).ys b5
        have fb5 := hfb.kept k5
        have gb5 := Gb.call hgb k5
        have bw5 := below_call hbw k5
        have hs5 := bw5.size
        have HF0 := Lib.hid hst.zero
        have hno0 : no ≤ 0 := by omega
        have q := leading_ok 200000 (sortsC_all _ (by omega)) ys5 (by omega) A n c l B (hv1.under (k5.mono (by omega))) hb1 HSL.out (Nat.le_refl _) (ht1.kept k5)
        have HF5 := Lib.hid fb5
        have HG5 := Lib.hid gb5
        clear fb5 gb5 hfb hgb hyq
        go_wp2_with fail
        rw [← hw5]
        refine q.mono ?_
        rintro e w9 ⟨rfl, no', L, hno', hL, hI⟩
        have HST : StageK l dn (0 + 1) (ylds dn 1 1 f L) := .inr (.inl ⟨rfl, L, hL, by rw [HF0.out]⟩)
        have gb9 := Gb.tr HG5.out hI.gb
        have bw9 : Below w.heap.size w w9 := HKB.out.trans (Gb.below gb9 (by omega) (by have := HSZ.out; omega))
        have fb9 := Blk.gb HF5.out hI.gb (by omega)
        have HR := Lib.hid (show RLoop w w1 w.heap.size (w.heap.size + 2) (w.heap.size + 3) pd dn (w.heap.size + 1) l (0 + 1) w9 from ⟨no', _, by omega, by omega, by omega, by omega, HST, hI.ys.yq, fb9, gb9, bw9⟩)
        clear gb9 bw9 fb9 HF5 HG5 q hI ys5 HST
        go_wp2
        go_roundg gh
        case measure => omega
        case rel => exact ⟨0 + 1, by omega, by go_num, HR.out⟩
      · have c0 : wr.cell? ⟨w.heap.size + 3, 1, none⟩ = some (.func (.func 64) #[] #[]) := hfb.cell 1
        obtain ⟨w5, hw5⟩ : ∃ z, z = wr.alloc (.cells #[.int .i64 1] 3) := ⟨_, rfl⟩
        have k5 : Below wr.heap.size wr w5 := by rw [hw5]; repeat (first | with_reducible exact Below.refl _ _ | with_reducible assumption | with_reducible refine below_drewN ?_ _ | with_reducible refine Below.drew ?_ | with_reducible refine below_alloc ?_ _ | (with_reducible refine Below.setCell ?_ ?_ _; rotate_left; ((try simp only); omega)))
        have b5 : Blk w5 wr.heap.size 3 #[.int .i64 ((1 + 1 : Int) - 1)] := by rw [hw5]; exact Blk.new _ _ _
        have ys5 := (hyq.call k5).ys b5
        have fb5 := hfb.kept k5
        have gb5 := Gb.call hgb k5
        have bw5 := below_call hbw k5
        have hs5 := bw5.size
        have HF0 := Lib.hid hst.one
        have hno0 : no ≤ 300000 := hno1 rfl
        have q := tritones_ok ys5 (by omega) A n c l B (hv1.under (k5.mono (by omega))) hb1 HSL.out HSE.out (ht1.kept k5)
        have HF5 := Lib.hid fb5
        have HG5 := Lib.hid gb5
        clear fb5 gb5 hfb hgb hyq
        go_wp2_with fail
        rw [← hw5]
        refine q.mono ?_
        rintro e w9 ⟨rfl, no', hno', hI⟩
        have HST : StageK l dn (1 + 1) (ylds dn 2 (-1) f (triL l)) := by
          obtain ⟨L, hL, e⟩ := HF0.out
          exact .inr (.inr (.inl ⟨rfl, L, hL, by rw [e]⟩))
        have gb9 := Gb.tr HG5.out hI.gb
        have bw9 : Below w.heap.size w w9 := HKB.out.trans (Gb.below gb9 (by omega) (by have := HSZ.out; omega))
        have fb9 := Blk.gb HF5.out hI.gb (by omega)
        have HR := Lib.hid (show RLoop w w1 w.heap.size (w.heap.size + 2) (w.heap.size + 3) pd dn (w.heap.size + 1) l (1 + 1) w9 from ⟨no', _, by omega, by omega, by omega, by omega, HST, hI.ys.yq, fb9, gb9, bw9⟩)
        clear gb9 bw9 fb9 HF5 HG5 q hI ys5 HST
        go_wp2
        go_roundg gh
        case measure => omega
        case rel => exact ⟨1 + 1, by omega, by go_num, HR.out⟩
      · have c0 : wr.cell? ⟨w.heap.size + 3, 2, none⟩ = some (.func (.func 65) #[] #[]) := hfb.cell 2
        obtain ⟨w5, hw5⟩ : ∃ z, z = wr.alloc (.cells #[.int .i64 2] 3) := ⟨_, rfl⟩
        have k5 : Below wr.heap.size wr w5 := by rw [hw5]; repeat (first | with_reducible exact Below.refl _ _ | with_reducible assumption | with_reducible refine below_drewN ?_ _ | with_reducible refine Below.drew ?_ | with_reducible refine below_alloc ?_ _ | (with_reducible refine Below.setCell ?_ ?_ _; rotate_left; ((try simp only); omega)))
        have b5 : Blk w5 wr.heap.size 3 #[.int .i64 ((2 + 1 : Int) - 1)] := by rw [hw5]; exact Blk.new _ _ _
        have ys5 := (hyq.call k5).ys b5
        have fb5 := hfb.kept k5
        have gb5 := Gb.call hgb k5
        have bw5 := below_call hbw k5
        have hs5 := bw5.size
        have HF0 := Lib.hid hst.two
        have hno0 : no ≤ 3300000 := hno2 rfl
        have q := superLa_ok ys5 (by omega) A n c l B (hv1.under (k5.mono (by omega))) hb1 HSL.out
        have HF5 := Lib.hid fb5
        have HG5 := Lib.hid gb5
        clear fb5 gb5 hfb hgb hyq
        go_wp2_with fail
        rw [← hw5]
        refine q.mono ?_
        rintro e w9 ⟨rfl, no', hno', hI⟩
        have HST : StageK l dn (2 + 1) (ylds dn 3 (-1) f (supL l)) := by
          obtain ⟨L, hL, e⟩ := HF0.out
          exact .inr (.inr (.inr ⟨rfl, by rw [e]; exact rnd_some hL⟩))
        have gb9 := Gb.tr HG5.out hI.gb
        have bw9 : Below w.heap.size w w9 := HKB.out.trans (Gb.below gb9 (by omega) (by have := HSZ.out; omega))
        have fb9 := Blk.gb HF5.out hI.gb (by omega)
        have HR := Lib.hid (show RLoop w w1 w.heap.size (w.heap.size + 2) (w.heap.size + 3) pd dn (w.heap.size + 1) l (2 + 1) w9 from ⟨no', _, by omega, by omega, by omega, by omega, HST, hI.ys.yq, fb9, gb9, bw9⟩)
        clear gb9 bw9 fb9 HF5 HG5 q hI ys5 HST
        go_wp2
        go_roundg gh
        case measure => omega
        case rel => exact ⟨2 + 1, by omega, by go_num, HR.out⟩
end Go.Proofs.YtpkmiegccfhpnaaGreatDoor
namespace Go.Proofs.YtpkmiegccfhpnaaGreatDoor
open Go.RowKit
/-- The voices lie in rows of the call's own. -/
def VocAt (w : World) (base : Nat) (ds : List Pl) (l : List (List Ev)) : Prop := ∀ (k : Nat) d v, ds[k]? = some d → l[k]? = some v → w.ownsRow base 49 10 (.slice d.1 d.2.1 d.2.2) d.2.1 (csE v) ∧ d.2.1 ≤ 9223372036854775807
theorem VocAt.kept {w W : World} {base : Nat} {ds : List Pl} {l : List (List Ev)} (h : VocAt w base ds l) (hb : Below w.heap.size w W) : VocAt W base ds l := fun k d v hd hv => ⟨own_call (h k d v hd hv).1 hb, (h k d v hd hv).2⟩
/-- The blocks of the rows ascend. -/
def Far (ds : List Pl) : Prop := ∀ (j k : Nat) (d d' : Pl) (p q : Addr), j < k → ds[j]? = some d → ds[k]? = some d' → d.1 = some p → d'.1 = some q → p.block < q.block
theorem Far.nil_ : Far [] := fun j k d d' p q _ h => by simp at h
theorem Far.snoc {ds : List Pl} {x : Pl} {B : Nat} (h : Far ds) (h1 : ∀ d ∈ ds, ∀ p, d.1 = some p → p.block < B) (h2 : ∀ q, x.1 = some q → B ≤ q.block) : Far (ds ++ [x]) := by
  intro j k d d' p q hjk hd hd' hp hq
  rcases Nat.lt_or_ge k ds.length with hk | hk
  · rw [List.getElem?_append_left hk] at hd'
    rw [List.getElem?_append_left (by omega)] at hd
    exact h j k d d' p q hjk hd hd' hp hq
  · have hk2 : k = ds.length := by
      have := (List.getElem?_eq_some_iff.1 hd').1
      rw [List.length_append, List.length_singleton] at this
      omega
    subst hk2
    rw [List.getElem?_append_right (Nat.le_refl _)] at hd'
    simp at hd'
    subst hd'
    rw [List.getElem?_append_left (by omega)] at hd
    have a1 := h1 d (List.mem_of_getElem? hd) p hp
    have a2 := h2 q hq
    omega
/-- The rows lie in the world. -/
theorem VocAt.lt {w : World} {base : Nat} {ds : List Pl} {l : List (List Ev)} (h : VocAt w base ds l) (hl : ds.length ≤ l.length) : ∀ d ∈ ds, ∀ p, d.1 = some p → p.block < w.heap.size := fun d hd p hp => by
  obtain ⟨k, hk⟩ := List.getElem?_of_mem hd
  obtain ⟨v, hv⟩ := get_some (l := l) (k := k) (by have := (List.getElem?_eq_some_iff.1 hk).1; omega)
  have h1 := (h k d v hk hv).1
  rw [hp] at h1
  exact (h1.lt p.block rfl).2
theorem own_base {w : World} {base size n m c : Nat} {e : TypeId} {q : Addr} {xs : List Value} (h : w.ownsRow base e size (.slice (some q) m c) n xs) : base ≤ q.block := (h.lt q.block rfl).1
theorem m_split (done rest : List Ev) (y : Ev) : csE (done ++ y :: rest) = csE done ++ .int .i64 y.at_.1 :: .int .i64 y.at_.2 :: .int .i64 y.dur.1 :: .int .i64 y.dur.2 :: .int .i64 y.pit.1 :: .int .i64 y.pit.2.1 :: .int .i64 y.pit.2.2 :: .bool y.rest :: .int .i64 y.sign :: .int .i64 y.pass :: csE rest := by
  rw [csE_append]; rfl
def VocF (w : World) (base : Nat) (ds : List Pl) (l : List (List Ev)) (g : Nat → List Ev → List Ev) : Prop :=
  ∀ (j : Nat) d v, ds[j]? = some d → l[j]? = some v → w.ownsRow base 49 10 (.slice d.1 d.2.1 d.2.2) d.2.1 (csE (g j v)) ∧ d.2.1 ≤ 9223372036854775807
/-- A copy: its row, its voices as g has them, all in blocks from base on and below lim, no two in one block. -/
structure CopyAt (w : World) (base lim : Nat) (u : Value) (ds : List Pl) (l : List (List Ev)) (g : Nat → List Ev → List Ev) : Prop where
  row : w.ownsRow base 36 1 u ds.length (csV ds)
  voc : VocF w base ds l g
  far : Far ds
  len : ds.length = l.length
  inn : ∀ d ∈ ds, ∀ p, d.1 = some p → p.block < lim
  out : ∀ b, u.ownBlock = some b → b < lim
theorem own_lim {w w' : World} {base size n B : Nat} {e : TypeId} {v : Value} {xs : List Value} (h : w.ownsRow base e size v n xs) (hl : ∀ b, v.ownBlock = some b → b < B) (hb : Below B w w') : w'.ownsRow base e size v n xs := by
  obtain ⟨h1, h2⟩ := h
  refine ⟨h1, ?_⟩
  rcases h2 with h2 | ⟨g, cap, cur, h2, h3, h4, h5⟩
  · exact .inl h2
  · refine .inr ⟨g, cap, cur, h2, h3, ?_, h5⟩
    rw [hb.block g (hl g (by rw [h2]; rfl))]; exact h4
theorem CopyAt.kept {w w' : World} {base lim B : Nat} {u : Value} {ds : List Pl} {l : List (List Ev)} {g : Nat → List Ev → List Ev} (h : CopyAt w base lim u ds l g) (hb : Below B w w') (hB : lim ≤ B) : CopyAt w' base lim u ds l g where
  row := own_lim h.row (fun b hb' => by have := h.out b hb'; omega) hb
  voc := fun j d v hd hv => ⟨own_lim (h.voc j d v hd hv).1 (fun b hb' => by
    obtain ⟨A, n, c⟩ := d
    cases A with
    | none => cases hb'
    | some p =>
      have := h.inn _ (List.mem_of_getElem? hd) p rfl
      cases hb'
      omega) hb, (h.voc j d v hd hv).2⟩
  far := h.far
  len := h.len
  inn := h.inn
  out := h.out
theorem CopyAt.congr {w : World} {base lim : Nat} {u : Value} {ds : List Pl} {l : List (List Ev)} {g g' : Nat → List Ev → List Ev} (h : CopyAt w base lim u ds l g) (he : ∀ j v, l[j]? = some v → g j v = g' j v) : CopyAt w base lim u ds l g' where
  row := h.row
  voc := fun j d v hd hv => by rw [← he j v hv]; exact h.voc j d v hd hv
  far := h.far
  len := h.len
  inn := h.inn
  out := h.out
theorem csV_get : ∀ (ds : List Pl) (i : Nat), (csV ds)[i]? = ds[i]?.map (fun d : Pl => Value.slice d.1 d.2.1 d.2.2)
  | [], i => by simp [csV]
  | d :: ds, 0 => rfl
  | d :: ds, i + 1 => by
    have := csV_get ds i
    rw [List.getElem?_cons_succ, ← this]
    rfl
/-- Voice i of a copy. -/
theorem CopyAt.at_ {w : World} {base lim i : Nat} {u : Value} {ds : List Pl} {l : List (List Ev)} {g : Nat → List Ev → List Ev} {v : List Ev} (h : CopyAt w base lim u ds l g) (hv : l[i]? = some v) :
    ∃ bu cu A n c, u = .slice (some ⟨bu, 0, none⟩) ds.length cu ∧ base ≤ bu ∧ bu < w.heap.size ∧ w.cell? ⟨bu, i, none⟩ = some (.slice A n c) ∧ ds[i]? = some (A, n, c) ∧ w.ownsRow base 49 10 (.slice A n c) n (csE (g i v)) := by
  have hi := (List.getElem?_eq_some_iff.1 hv).1
  obtain ⟨⟨A, n, c⟩, hd⟩ := get_some (l := ds) (k := i) (by have := h.len; omega)
  have hr := h.row
  rcases hr.2 with ⟨_, h0⟩ | ⟨bu, cu, cur, hu, hb, hh, _, _, _, _⟩
  · have := h.len; omega
  · refine ⟨bu, cu, A, n, c, hu, hb, ?_, ?_, hd, (h.voc i _ v hd hv).1⟩
    · exact (hr.lt bu (by rw [hu]; rfl)).2
    · rw [hu] at hr
      rw [hr.cellAt i (by have := h.len; omega)]
      rw [csV_get, hd]; rfl
/-- The row of voice i changed in place. -/
theorem CopyAt.put {w w' : World} {base lim i gi n c : Nat} {u : Value} {ds : List Pl} {l : List (List Ev)} {g g' : Nat → List Ev → List Ev} {v : List Ev} (h : CopyAt w base lim u ds l g) (hv : l[i]? = some v) (hd : ds[i]? = some (some ⟨gi, 0, none⟩, n, c))
    (hst : ∀ (b0 size m : Nat) (e : TypeId) (x : Value) (xs : List Value), w.ownsRow b0 e size x m xs → (∀ b, x.ownBlock = some b → b ≠ gi) → w'.ownsRow b0 e size x m xs)
    (hnew : w'.ownsRow base 49 10 (.slice (some ⟨gi, 0, none⟩) n c) n (csE (g' i v))) (hg : ∀ j, j ≠ i → ∀ x, g' j x = g j x) : CopyAt w' base lim u ds l g' where
  row := hst _ _ _ _ _ _ h.row (fun b hb hbg => by
    subst hbg
    have h1 := (h.voc i _ v hd hv).1
    rcases h1.2 with ⟨h0, _⟩ | ⟨g1, c1, cur, hu, _, hh, _⟩
    · cases h0
    · cases hu
      rcases h.row.2 with ⟨h0, _⟩ | ⟨g2, c2, cur2, hu2, _, hh2, _⟩
      · rw [h0] at hb; cases hb
      · rw [hu2] at hb
        cases hb
        rw [hh] at hh2
        have hne : 49 ≠ 36 := by decide
        cases hh2)
  voc := fun j d x hdj hx => by
    by_cases hj : j = i
    · subst hj
      rw [hd] at hdj
      rw [hv] at hx
      cases hdj
      cases hx
      exact ⟨hnew, (h.voc j _ v hd hv).2⟩
    · rw [hg j hj]
      refine ⟨hst _ _ _ _ _ _ (h.voc j d x hdj hx).1 (fun b hb hbg => ?_), (h.voc j d x hdj hx).2⟩
      obtain ⟨A, m, c'⟩ := d
      cases A with
      | none => cases hb
      | some p =>
        cases hb
        rcases Nat.lt_or_ge j i with hlt | hge
        · have := h.far j i _ _ p ⟨gi, 0, none⟩ hlt hdj hd rfl rfl
          simp only at this; omega
        · have := h.far i j _ _ ⟨gi, 0, none⟩ p (by omega) hd hdj rfl rfl
          simp only at this; omega
  far := h.far
  len := h.len
  inn := h.inn
  out := h.out
/-- A store into block gi. -/
theorem st_one {w : World} {gi q : Nat} {a : Value} (b0 size m : Nat) (e : TypeId) (x : Value) (xs : List Value) (h : w.ownsRow b0 e size x m xs) (hne : ∀ b, x.ownBlock = some b → b ≠ gi) : (w.setCell ⟨gi, q, none⟩ a).ownsRow b0 e size x m xs := by
  obtain ⟨h1, h2⟩ := h
  refine ⟨h1, ?_⟩
  rcases h2 with h2 | ⟨g, cap, cur, hv, hg, hh, rest⟩
  · exact .inl h2
  · exact .inr ⟨g, cap, cur, hv, hg, by rw [Below.heap_setCell w ⟨gi, q, none⟩ a g (hne g (by rw [hv]; rfl))]; exact hh, rest⟩
/-- A store ahead of the copy. -/
theorem CopyAt.set_ {w : World} {base lim gi q : Nat} {a : Value} {u : Value} {ds : List Pl} {l : List (List Ev)} {g : Nat → List Ev → List Ev} (h : CopyAt w base lim u ds l g) (hg : gi < base) : CopyAt (w.setCell ⟨gi, q, none⟩ a) base lim u ds l g where
  row := st_one _ _ _ _ _ _ h.row (fun b hb => by have := (h.row.lt b hb).1; omega)
  voc := fun j d v hd hv => ⟨st_one _ _ _ _ _ _ (h.voc j d v hd hv).1 (fun b hb => by have := ((h.voc j d v hd hv).1.lt b hb).1; omega), (h.voc j d v hd hv).2⟩
  far := h.far
  len := h.len
  inn := h.inn
  out := h.out
theorem m_get {done rest : List Ev} {x : Ev} {k : Nat} (hk : done.length = k) (j : Nat) (hj : j < 10) : (csE (done ++ x :: rest))[k * 10 + j]? = (cE x)[j]? := by
  subst hk
  rw [csE_append, ← csE_len done, List.getElem?_append_right (by omega), Nat.add_sub_cancel_left]
  show (cE x ++ csE rest)[j]? = _
  exact List.getElem?_append_left (by show j < 10; exact hj)
theorem one_csV (l : List Pl) : ∀ u ∈ csV l, u.oneCell' = true := by
  intro u hu
  obtain ⟨t, _, ht⟩ := List.mem_flatMap.1 hu
  simp [slV] at ht
  subst ht; rfl
theorem csV_append (a b : List Pl) : csV (a ++ b) = csV a ++ csV b := by unfold csV; rw [List.flatMap_append]
theorem m_set_alt (done rest : List Ev) (x : Ev) (p : Int) : (csE (done ++ x :: rest)).set (done.length * 10 + 6) (.int .i64 p) = csE (done ++ altE p x :: rest) := by
  rw [m_split, m_split, ← csE_len done]; unfold altE; simp
/-- Event k of voice i of a copy. -/
theorem CopyAt.evk {w : World} {base lim i k m : Nat} {u : Value} {ds : List Pl} {l : List (List Ev)} {g : Nat → List Ev → List Ev} {v done rest : List Ev} {x : Ev} (h : CopyAt w base lim u ds l g) (hv : l[i]? = some v) (hg : g i v = done ++ x :: rest) (hk : done.length = k) (hm : ds.length = m) :
    ∃ bu cu gi cx nv, u = .slice (some ⟨bu, 0, none⟩) m cu ∧ bu < w.heap.size ∧ base ≤ bu ∧ w.cell? ⟨bu, i, none⟩ = some (.slice (some ⟨gi, 0, none⟩) nv cx) ∧ ds[i]? = some (some ⟨gi, 0, none⟩, nv, cx) ∧ base ≤ gi ∧ gi < w.heap.size ∧ k < nv ∧ nv = (done ++ x :: rest).length ∧
      w.ownsRow base 49 10 (.slice (some ⟨gi, 0, none⟩) nv cx) nv (csE (done ++ x :: rest)) ∧ (∃ y, w.cell? ⟨gi, k * 10 + 6, none⟩ = some (.int .i64 y)) ∧ ∀ j, w.frozen? ⟨gi, j, none⟩ = false := by
  obtain ⟨bu, cu, A1, n1, c1, hu, hb, hlt, hcell, hd, hrow⟩ := h.at_ hv
  rw [hg] at hrow
  have hl := hrow.1
  rw [csE_len] at hl
  have hn : n1 = (done ++ x :: rest).length := by omega
  have hkn : k < n1 := by rw [hn, List.length_append, hk]; simp
  rcases hrow.2 with ⟨_, h0⟩ | ⟨gi, cap, cur, hgi, hbg, hh, _⟩
  · omega
  · have e1 : A1 = some ⟨gi, 0, none⟩ := by injection hgi
    subst e1
    refine ⟨bu, cu, gi, c1, n1, by rw [← hm]; exact hu, hlt, hb, hcell, hd, hbg, (hrow.lt gi rfl).2, hkn, hn, hrow, ⟨x.pit.2.2, ?_⟩, fun j => hrow.frozenAt j⟩
    rw [hrow.cellAt (k * 10 + 6) (by omega), m_get hk 6 (by decide)]
    rfl
/-- The setting behind some proposals, voice by voice. -/
def gW (l : List (List Ev)) (L : List Fic) (j : Nat) (_ : List Ev) : List Ev := (withL l L).getD j []
theorem withL_snoc (l : List (List Ev)) (L : List Fic) (y : Fic) : withL l (L ++ [y]) = setA (withL l L) y := by unfold withL; rw [List.foldl_append]; rfl
theorem setA_len (l : List (List Ev)) (y : Fic) : (setA l y).length = l.length := by unfold setA; rw [List.length_modify]
theorem withL_len (l : List (List Ev)) (L : List Fic) : (withL l L).length = l.length := by
  induction L generalizing l with
  | nil => rfl
  | cons y L ih => show (withL (setA l y) L).length = _; rw [ih, setA_len]
theorem modify_mid {α : Type} (f : α → α) : ∀ (a : List α) (x : α) (b : List α), (a ++ x :: b).modify a.length f = a ++ f x :: b
  | [], _, _ => rfl
  | y :: a, x, b => by
    show (y :: (a ++ x :: b)).modify (a.length + 1) f = y :: (a ++ f x :: b)
    rw [List.modify_succ_cons, modify_mid f a x b]
theorem setA_at (l : List (List Ev)) (y : Fic) (j : Nat) : (setA l y)[j]? = if y.1.toNat = j then l[j]?.map (fun v => v.modify y.2.1.toNat (altE y.2.2.1)) else l[j]? := by
  unfold setA
  rw [List.getElem?_modify]
  split <;> simp
theorem setA_vlen {l : List (List Ev)} {y : Fic} {j : Nat} {v : List Ev} (h : (setA l y)[j]? = some v) : ∃ v0, l[j]? = some v0 ∧ v.length = v0.length := by
  rw [setA_at] at h
  split at h
  · obtain ⟨v0, h0, rfl⟩ := Option.map_eq_some_iff.1 h
    exact ⟨v0, h0, by rw [List.length_modify]⟩
  · exact ⟨v, h, rfl⟩
theorem withL_vlen {L : List Fic} : ∀ {l : List (List Ev)} {j : Nat} {v : List Ev}, (withL l L)[j]? = some v → ∃ v0, l[j]? = some v0 ∧ v.length = v0.length := by
  induction L with
  | nil => intro l j v h; exact ⟨v, h, rfl⟩
  | cons y L ih =>
    intro l j v h
    obtain ⟨v1, h1, e1⟩ := ih (l := setA l y) h
    obtain ⟨v0, h0, e0⟩ := setA_vlen h1
    exact ⟨v0, h0, e1.trans e0⟩
theorem inF_nat {l : List (List Ev)} {x : Fic} (h : inF l x = true) : ∃ (i k : Nat) (v : List Ev), x.1 = (i : Int) ∧ x.2.1 = (k : Int) ∧ l[i]? = some v ∧ k < v.length := by
  unfold inF at h
  rw [decide_eq_true_eq] at h
  obtain ⟨h1, h2, h3, h4⟩ := h
  obtain ⟨v, hv⟩ := get_some (l := l) (k := x.1.toNat) (by omega)
  rw [getD_at hv] at h4
  exact ⟨x.1.toNat, x.2.1.toNat, v, by omega, by omega, hv, by omega⟩
/-- One proposal more. -/
theorem gW_next {l : List (List Ev)} {L : List Fic} {y : Fic} {i k : Nat} {v : List Ev} (hi : y.1 = (i : Int)) (hk : y.2.1 = (k : Int)) (hv : l[i]? = some v) (hkv : k < v.length) :
    ∃ done x rest, gW l L i v = done ++ x :: rest ∧ done.length = k ∧ gW l (L ++ [y]) i v = done ++ altE y.2.2.1 x :: rest ∧ ∀ j, j ≠ i → ∀ z, gW l (L ++ [y]) j z = gW l L j z := by
  obtain ⟨v1, h1⟩ := get_some (l := withL l L) (k := i) (by rw [withL_len]; exact (List.getElem?_eq_some_iff.1 hv).1)
  obtain ⟨v0, h0, e0⟩ := withL_vlen h1
  rw [hv] at h0
  cases h0
  obtain ⟨x, hx⟩ := get_some (l := v1) (k := k) (by omega)
  have hsplit : v1 = v1.take k ++ x :: v1.drop (k + 1) := by rw [← drop_get hx, List.take_append_drop]
  have hlen : (v1.take k).length = k := by rw [List.length_take]; omega
  refine ⟨v1.take k, x, v1.drop (k + 1), ?_, hlen, ?_, ?_⟩
  · unfold gW; rw [getD_at h1]; exact hsplit
  · have h2 : (setA (withL l L) y)[i]? = some (v1.modify k (altE y.2.2.1)) := by rw [setA_at, if_pos (by omega), h1]; simp [hk]
    unfold gW
    rw [withL_snoc, getD_at h2]
    have h3 : v1.modify k (altE y.2.2.1) = (v1.take k ++ x :: v1.drop (k + 1)).modify k (altE y.2.2.1) := congrArg (fun z => z.modify k (altE y.2.2.1)) hsplit
    rw [h3]
    have h4 := modify_mid (altE y.2.2.1) (v1.take k) x (v1.drop (k + 1))
    rwa [hlen] at h4
  · intro j hj z
    unfold gW
    rw [withL_snoc]
    have : (setA (withL l L) y)[j]? = (withL l L)[j]? := by rw [setA_at, if_neg (by omega)]
    simp [List.getD, this]
end Go.Proofs.YtpkmiegccfhpnaaGreatDoor
namespace Go.Proofs.YtpkmiegccfhpnaaGreatDoor
open Go.RowKit
set_option maxRecDepth 100000 in
theorem voice_info : (Tryz.prog.info? 36).map (fun i => (i.zero, i.size, i.bytes)) = some (some (.slice none 0 0), 1, 24) := by kernel_rfl
@[go_sem] theorem eql_nilE (w : World) (A : Option Addr) (n c : Nat) : (binOp .eql 36 (.slice A n c) (.slice none 0 0)).run Tryz.prog w = .ok (.bool A.isNone) w := by
  unfold binOp
  simp [run_equal_slice_nil w _ _ A n c Tryz.underlying36]
set_option maxRecDepth 100000 in
set_option maxHeartbeats 1000000 in
theorem cloneE_any (A : Option Addr) (n c : Nat) (l : List Ev) (B : Nat) (w : World) (h : Reads w B 10 A n (csE l)) (hB : B ≤ w.heap.size) (hn : n ≤ 5000) :
    Calls Tryz.prog 55 #[.slice A n c] w fun e w' => ∃ A' c', e = .returned (.slice A' n c') ∧ OwnE w' w.heap.size n A' c' l ∧ Below w.heap.size w w' := by
  obtain ⟨i0, hi0, hz0, hz1, hz2⟩ := info_parts event_info
  cases A with
  | none =>
    have h0 := h.none_len rfl
    subst h0
    have hl : l = [] := List.eq_nil_of_length_eq_zero h.evlen
    subst hl
    go_enter Tryz.func55, Tryz.ntmps55
    go_wp2
    go_ret
    exact ⟨none, 0, rfl, ⟨⟨rfl, .inl ⟨rfl, rfl⟩⟩, Reads.none_, Nat.le_refl _⟩, Below.refl _ _⟩
  | some ad =>
    go_enter Tryz.func55, Tryz.ntmps55
    go_wp2_with (at_builtin; (refine wpList_append_any _ rfl (.tmp 5) (.tmp 6) _ rfl w.heap.size 49 i0 _ 10 80 Tryz.underlying36 hi0 hz0 hz1 hz2 rfl (by omega) (.slice (some ⟨w.heap.size, 0, none⟩) 0 0) 0 [] rfl (World.ownsRow_lit w #[] 0 (Nat.le_refl _) (by simp [maxLen]) rfl) B (some ad) n c (csE l) rfl (h.below hB (below_alloc (Below.refl _ _) _)) (one_csE l) (by simp only [maxLen]; omega) (by omega) (by simp) ?_); intro v1 w1 hown1 hg1 hat1)
    go_ret
    simp only [Nat.zero_add, List.nil_append] at hown1
    obtain ⟨A', c', e, ho⟩ := ownE_form hown1
    subst e
    exact ⟨A', c', rfl, ho, (below_alloc (Below.refl _ _) _).grown hg1 (by simp) (fun k hk => by simp [Value.ownBlock] at hk; omega)⟩
theorem CopyAt.start {w : World} {base n : Nat} {u : Value} {ds : List Pl} {l : List (List Ev)} (hrow : w.ownsRow base 36 1 u n (csV ds)) (hdl : ds.length = n) (hl : l.length = n) (hvs : VocAt w base ds l) (hfar : Far ds) : CopyAt w base w.heap.size u ds l (gW l []) where
  row := by rw [hdl]; exact hrow
  voc := fun j d v hd hv => by
    have : gW l [] j v = v := getD_at hv
    rw [this]; exact hvs j d v hd hv
  far := hfar
  len := by omega
  inn := fun d hd p hp => hvs.lt (by omega) d hd p hp
  out := fun b hb => (hrow.lt b hb).2
theorem CopyAt.readsW {w : World} {base lim n c : Nat} {A : Option Addr} {ds : List Pl} {l : List (List Ev)} {L : List Fic} (h : CopyAt w base lim (.slice A n c) ds l (gW l L)) (hn : l.length = n) : ReadsV w w.heap.size A n (withL l L) := by
  have hl := h.len
  obtain ⟨A9, c9, e9, r9, _, _⟩ := own_reads h.row
  cases e9
  refine ⟨ds, by rw [withL_len]; exact hl, r9, fun j d v hd hv => ?_⟩
  obtain ⟨v0, h0, _⟩ := withL_vlen hv
  obtain ⟨h1, h2⟩ := h.voc j d v0 hd h0
  rw [show gW l L j v0 = v from getD_at hv] at h1
  obtain ⟨A8, c8, e8, r8, _, _⟩ := own_reads h1
  cases e8
  exact ⟨r8, h2⟩
/-- What 'with' hands back. -/
def WRet (n : Nat) (l : List (List Ev)) (w : World) (e : Ending) (w' : World) : Prop := ∃ A c, e = .returned (.slice A n c) ∧ ReadsV w' w'.heap.size A n l ∧ Below w.heap.size w w'
set_option maxRecDepth 100000 in
set_option maxHeartbeats 8000000 in
theorem fwith_ok (A : Option Addr) (n c : Nat) (l : List (List Ev)) (B : Nat) (w : World) (h : ReadsV w B A n l) (hB : B ≤ w.heap.size) (hn : n ≤ 10) (hv9 : ∀ v ∈ l, v.length ≤ 5000) (A2 : Option Addr) (m c2 : Nat) (L : List Fic) (B2 : Nat) (h2 : Reads w B2 4 A2 m (csFic L)) (hB2 : B2 ≤ w.heap.size) (hm : m ≤ 1000000) (hin : ∀ y ∈ L, inF l y = true) :
    Calls Tryz.prog 36 #[.slice A n c, .slice A2 m c2] w fun e w' => WRet n (withL l L) w e w' := by
  have HL := Lib.hid h.len
  have HV := Lib.hid h
  have HV9 := Lib.hid hv9
  have HR2 := Lib.hid h2
  have HLM := Lib.hid (show L.length = m from h2.len (size := 4) (l := L) (f := cFic) (fun _ => rfl) (by decide))
  have HIN := Lib.hid hin
  have HNE : 49 ≠ 36 := by decide
  obtain ⟨i0, hi0, hz0, hz1, hz2⟩ := info_parts voice_info
  clear hv9 h h2 hin
  go_enter Tryz.func36, Tryz.ntmps36
  go_wp2
  go_loopg [5, 7, 12] n (fun gh u _ i wr => ∃ (k : Nat) (ds : List Pl), k + gh = n ∧ i = .int .i64 (k : Int) ∧ wr.ownsRow w.heap.size 36 1 u k (csV ds) ∧ ds.length = k ∧ VocAt wr w.heap.size ds l ∧ Far ds ∧ Below w.heap.size w wr)
  case atStart => exact ⟨0, [], by omega, by simp, ⟨rfl, .inl ⟨rfl, rfl⟩⟩, rfl, fun k d v hd _ => by simp at hd, Far.nil_, Below.refl _ _⟩
  case round =>
    obtain ⟨k, ds, hkg, rfl, hrow, hdl, hvs, hfar, k0⟩ := hrel
    have wk : IntKind.i64.wrap ((k : Int) + 1) = (k : Int) + 1 := IntWalk.i64_in _ (by omega)
    cases gk with
    | zero =>
      have hkn : k = n := by omega
      have d0 : ¬ ((k : Int) < (n : Int)) := by omega
      subst hkn
      have K0 := CopyAt.start hrow hdl HL.out hvs hfar
      obtain ⟨A9, c9, hu9, -, _, _⟩ := own_reads hrow
      subst hu9
      have HDL := Lib.hid hdl
      obtain ⟨lim, hlim⟩ : ∃ z, z = wr.heap.size := ⟨_, rfl⟩
      rw [← hlim] at K0
      have hlim2 : lim ≤ wr.heap.size := by omega
      clear hdl hkg hrow hvs hfar wk hlim
      go_wp2_with fail
      go_loopg [9, 24] m (fun g2 _ i wy => ∃ q : Nat, q + g2 = m ∧ i = .int .i64 (q : Int) ∧ CopyAt wy w.heap.size lim (.slice A9 k c9) ds l (gW l (L.take q)) ∧ Below w.heap.size w wy ∧ lim ≤ wy.heap.size)
      case atStart => exact ⟨0, by omega, by simp, K0, k0, hlim2⟩
      case round =>
        clear K0 k0 hlim2
        obtain ⟨wy, hwy⟩ : ∃ z, z = wr := ⟨_, rfl⟩
        subst hwy
        obtain ⟨q, hqg, rfl, K, kr, hlm⟩ := hrel
        have wq : IntKind.i64.wrap ((q : Int) + 1) = (q : Int) + 1 := IntWalk.i64_in _ (by omega)
        cases gk with
        | zero =>
          have hq : q = m := by omega
          have d1 : ¬ ((q : Int) < (m : Int)) := by omega
          subst hq
          have HX := Lib.hid (show WRet k (withL l L) w (.returned (.slice A9 k c9)) wy from ⟨_, _, rfl, by
            have := K.readsW HL.out
            rwa [List.take_of_length_le (by rw [HLM.out]; exact Nat.le_refl _)] at this, kr⟩)
          clear K kr hlm
          go_wp2
          refine ret_of (by simp [results, Tryz.results36, go_sem, *]; repeat' (first | rfl | apply And.intro)) rfl HX.out
        | succ g2 =>
          have hqm : q < m := by omega
          have d1 : (q : Int) < (m : Int) := by omega
          obtain ⟨⟨y1, y2, y3, y4⟩, hy⟩ := get_some (l := L) (k := q) (by have := HLM.out; omega)
          obtain ⟨bf, off, hA2, hbf, hcf⟩ := Reads.elem (f := cFic) (fun _ => rfl) (HR2.out.below hB2 kr) hqm hy
          subst hA2
          have e0 := hcf 0 _ rfl
          have e1 := hcf 1 _ rfl
          have e2 := hcf 2 _ rfl
          have e3 := hcf 3 _ rfl
          simp only [Nat.add_zero, ← Nat.add_assoc] at e0 e1 e2 e3
          obtain ⟨i, j, v, hi, hj, hv, hjv⟩ := inF_nat (HIN.out _ (List.mem_of_getElem? hy))
          simp only at hi hj
          subst hi hj
          obtain ⟨done, x, rest, hg, hdn, hg2, hgo⟩ := gW_next (L := L.take q) (y := ((i : Int), (j : Int), y3, y4)) rfl rfl hv hjv
          rw [← take_get hy] at hg2 hgo
          obtain ⟨bu, cu, gi, cx, nv, hu, hbu, hbase, hcu, hds, hbg, hgl, hjn, hnv, how, ⟨z6, hz6⟩, hfz⟩ := K.evk hv hg hdn HDL.out
          have hik : i < k := by have := (List.getElem?_eq_some_iff.1 hv).1; have := HL.out; omega
          have hik' : (i : Int) < (k : Int) := by omega
          have hjn' : (j : Int) < (nv : Int) := by omega
          have hA9 : A9 = some ⟨bu, 0, none⟩ := by injection hu
          subst hA9
          have lbf : bf < wy.heap.size := by have := kr.size; omega
          have HG2 := Lib.hid hg2
          have HGO := Lib.hid hgo
          have HDN := Lib.hid hdn
          have HVV := Lib.hid hv
          have HDS := Lib.hid hds
          clear hy hcf hv hg hg2 hgo hdn hu hds hjv hnv
          go_wp2_with fail
          obtain ⟨w5, hw5⟩ : ∃ z, z = wy.alloc (.cells #[.int .i64 (i : Int), .int .i64 (j : Int), .int .i64 y3, .int .i64 y4] 39) := ⟨_, rfl⟩
          have k5 : Below wy.heap.size wy w5 := by rw [hw5]; repeat (first | with_reducible exact Below.refl _ _ | with_reducible assumption | with_reducible refine below_drewN ?_ _ | with_reducible refine Below.drew ?_ | with_reducible refine below_alloc ?_ _ | (with_reducible refine Below.setCell ?_ ?_ _; rotate_left; ((try simp only); omega)))
          have b5 : Blk w5 wy.heap.size 39 #[.int .i64 (i : Int), .int .i64 (j : Int), .int .i64 y3, .int .i64 y4] := by rw [hw5]; exact Blk.new _ _ _
          have kr5 := below_call kr k5
          rw [← hw5]
          have f0 := b5.cell 0
          have f1 := b5.cell 1
          have f2 := b5.cell 2
          have lf := b5.lt
          simp only [List.getElem?_toArray, List.getElem?_cons_zero, List.getElem?_cons_succ] at f0 f1 f2
          have u0 := (k5.cell (p := ⟨bu, i, none⟩) hbu).trans hcu
          have lu : bu < w5.heap.size := by have := k5.size; omega
          have K5 := K.kept k5 hlm
          have o5 := own_call how k5
          have hlm5 : lim ≤ w5.heap.size := by have := k5.size; omega
          have hg5 : gi < w5.heap.size := by have := k5.size; omega
          have z5 := (k5.cell (p := ⟨gi, j * 10 + 6, none⟩) hgl).trans hz6
          clear hw5 K kr e0 e1 e2 e3 hcu hz6 how hfz k5 b5
          refine wp_region_calm_tail 12 (by kernel_rfl) (by kernel_rfl) ?_
          simp only [List.take_succ_cons, List.take_zero, List.drop_succ_cons, List.drop_zero]
          repeat (go_big_quiet_step (fail))
          refine wpQuiet_nil ?_
          intro wd gd
          have Kd := K5.kept gd hlm5
          have krd := below_call kr5 gd
          have od := own_call o5 gd
          have fd := od.frozenAt (j * 10 + 4 + 2)
          have zd : wd.cell? ⟨gi, j * 10 + 4 + 2, none⟩ = some (.int .i64 z6) := (gd.cell (p := ⟨gi, j * 10 + 6, none⟩) hg5).trans z5
          have lgd : gi < wd.heap.size := by have := gd.size; omega
          have hlmd : lim ≤ wd.heap.size := by have := gd.size; omega
          clear K5 kr5 o5 f0 f1 f2 u0 z5 gd
          go_wp2_with fail
          obtain ⟨w7, hw7⟩ : ∃ z, z = wd.setCell ⟨gi, j * 10 + 4 + 2, none⟩ (.int .i64 y3) := ⟨_, rfl⟩
          have K7 : CopyAt w7 w.heap.size lim (.slice (some ⟨bu, 0, none⟩) k c9) ds l (gW l (L.take (q + 1))) := by
            rw [hw7]
            refine Kd.put HVV.out HDS.out (fun _ _ _ _ _ _ h hne => st_one _ _ _ _ _ _ h hne) ?_ HGO.out
            have h1 := (od.stored (j * 10 + 6) (.int .i64 y3)).1
            have e := m_set_alt done rest x y3
            rw [HDN.out] at e
            rw [e] at h1
            rw [HG2.out]
            exact h1
          have kr7 : Below w.heap.size w w7 := by rw [hw7]; exact krd.setCell (by show w.heap.size ≤ gi; exact hbg) _
          have hl7 : lim ≤ w7.heap.size := by rw [hw7]; simpa using hlmd
          rw [← hw7]
          clear hw7 Kd krd od fd zd
          go_roundg g2
          case measure => omega
          case rel => exact ⟨q + 1, by omega, by go_num, K7, kr7, hl7⟩
    | succ g =>
      have hkn : k < n := by omega
      have d0 : (k : Int) < (n : Int) := by omega
      obtain ⟨v, hv⟩ := get_some (l := l) (k := k) (by have := HL.out; omega)
      have hv24 := HV9.out v (List.mem_of_getElem? hv)
      obtain ⟨b, off, A', n', c', rfl, hab, cv, rv, hn', hvn⟩ := HV.out.voice hB k0 hkn hv
      have q := cloneE_any A' n' c' v B wr rv (Nat.le_trans hB k0.size) (by omega)
      have HVK := Lib.hid hv
      have HDL := Lib.hid hdl
      have HN' := Lib.hid hn'
      have hn24 : n' ≤ 5000 := by omega
      have kz := k0.size
      clear hv hdl hvn hv24 hn' rv
      go_wp2_with fail
      refine q.mono ?_
      rintro e w3 ⟨A3, c3, rfl, ⟨hown3, _, _⟩, k3⟩
      have row3 := own_call hrow k3
      have vs3 := hvs.kept k3
      have z3 := k3.size
      clear q cv hab
      go_wp2_with (at_builtin; (refine wpList_append_any _ rfl (.tmp 16) (.tmp 19) 58 rfl w.heap.size 36 i0 _ 1 24 Tryz.underlying58 hi0 hz0 hz1 hz2 rfl (by omega) u5 k (csV ds) rfl (own_call row3 (below_alloc (Below.refl _ _) _)) (w3.heap.size + 1) (some ⟨w3.heap.size, 0, none⟩) 1 1 (csV [(A3, n', c3)]) rfl (Reads.newAt _ _ _ 1 1 _ rfl rfl) (one_csV _) (by simp only [maxLen]; omega) (by omega) (by simp; omega) ?_); intro v4 w4 hown4 hg4 hat4)
      have HFAR := Lib.hid (show Far (ds ++ [(A3, n', c3)]) from hfar.snoc (hvs.lt (by rw [HDL.out, HL.out]; exact Nat.le_of_lt hkn)) (fun q hq => by
        have h1 : A3 = some q := hq
        rw [h1] at hown3
        exact own_base hown3))
      have k2 := below_call k0 k3
      have hB4 : Below w.heap.size w3 w4 := Below.grown (B := w.heap.size) (a := w3) ((below_alloc (Below.refl w3.heap.size w3) (.cells #[.slice A3 n' c3] 36)).mono (by omega)) hg4 (by simp; omega) (fun x hx => (row3.lt x hx).1)
      have rowA := own_call row3 (below_alloc (Below.refl w3.heap.size w3) (.cells #[.slice A3 n' c3] 36))
      have HNV := Lib.hid (show VocAt w4 w.heap.size (ds ++ [(A3, n', c3)]) l from fun j d u hd hu => by
        rcases Nat.lt_or_ge j ds.length with hj | hj
        · rw [List.getElem?_append_left hj] at hd
          have h1 := vs3 j d u hd hu
          exact ⟨own_far (own_call h1.1 (below_alloc (Below.refl w3.heap.size w3) (.cells #[.slice A3 n' c3] 36))) rowA hg4 HNE, h1.2⟩
        · have hjk : j = k := by
            have h9 := (List.getElem?_eq_some_iff.1 hd).1
            rw [List.length_append, HDL.out] at h9
            rw [HDL.out] at hj
            have h10 : j < k + 1 := h9
            omega
          subst hjk
          rw [List.getElem?_append_right (by rw [HDL.out]; exact Nat.le_refl _), HDL.out] at hd
          simp at hd
          subst hd
          rw [HVK.out] at hu
          cases hu
          exact ⟨own_far (own_call (own_lower hown3 kz) (below_alloc (Below.refl w3.heap.size w3) (.cells #[.slice A3 n' c3] 36))) rowA hg4 HNE, HN'.out⟩)
      go_roundg g
      case measure => omega
      case rel => exact ⟨k + 1, ds ++ [(A3, n', c3)], by omega, by go_num, by rw [csV_append]; exact hown4, by rw [List.length_append, HDL.out]; rfl, HNV.out, HFAR.out, k2.trans hB4⟩
end Go.Proofs.YtpkmiegccfhpnaaGreatDoor
namespace Go.Proofs.YtpkmiegccfhpnaaGreatDoor
open Go.RowKit Go.Maps
section
variable {γ β : Type} {K : TypeId} {G : KeyG γ K} {T : ElemT β} {w w' : World} {b n r : Nat} {f : γ → Option β} {S : γ → Bool}
theorem TRng.kept2 {row : Option Nat} (h : TRng w G T b r n f S) (hg : w.grownBy w' row) (hb : some b ≠ row) (hr : some r ≠ row) : TRng w' G T b r n f S ∧ w'.rangeLeft b r = w.rangeLeft b r := by
  obtain ⟨D, left, cnt, h1, h2⟩ := h
  have h3 := h1.kept hg hb hr
  exact ⟨⟨D, left, cnt, h3, h2⟩, by rw [h3.left_eq, h1.left_eq]⟩
end
/-- The map under way. -/
def mixF (fd fs : Plc → Option Fic) (S : Plc → Bool) : Plc → Option Fic := fun p => if S p = true then fs p else fd p
theorem mixF_put {fd fs : Plc → Option Fic} {S : Plc → Bool} {x : Plc} {y : Fic} (h : fs x = some y) : updO (mixF fd fs S) x y = mixF fd fs (fun z => S z || decide (z = x)) := by
  funext z
  unfold updO mixF
  by_cases e : z = x
  · subst e; simp [h]
  · simp [e]
set_option maxRecDepth 100000 in
set_option maxHeartbeats 4000000 in
theorem copy_any (bd bs nd ns : Nat) (fd fs : Plc → Option Fic) (w : World) (hd : TMap w keyPlace elemFic bd nd fd) (hs : TMap w keyPlace elemFic bs ns fs) (hne : bd ≠ bs) (hn : nd + ns ≤ 100000000000000) (hok : ∀ x, fs x ≠ none → okI x.1 ∧ okI x.2) :
    Calls Tryz.prog 59 #[.map (some bd), .map (some bs)] w fun e w' => e = .returned (.tuple #[]) ∧ TMap w' keyPlace elemFic bd (nd + ns) (mergeF fd fs) ∧ Gb bd w w' := by
  have HOK := Lib.hid hok
  have hlt := hd.lt
  clear hok
  go_enter Tryz.func59, Tryz.ntmps59
  go_wp2_with (refine wpList_trange rfl (.tmp 6) rfl hs Tryz.underlying71 rfl ?_; intro w0 hR0 hg0 hs0)
  have hd0 := hd.grown hg0 (by simp)
  have hgb0 : Gb bd w w0 := Gb.of_below ⟨hg0.os, hg0.tape, hg0.output, hg0.size, fun i hi => hg0.block i hi (by simp)⟩
  obtain ⟨rb, hrb⟩ : ∃ z, z = w.heap.size := ⟨_, rfl⟩
  have hrd : rb ≠ bd := by omega
  have hl0 := hR0.left_le
  have HRB := Lib.hid hrb
  rw [← hrb] at hR0 hl0 ⊢
  clear hs0 hg0 hd hs hrb
  go_frame
  go_loopw [4, 5] (fun _ _ wr => ∃ (S : Plc → Bool) (cnt : Nat), TRng wr keyPlace elemFic bs rb ns fs S ∧ Hid (∀ x, S x = true → fs x ≠ none) ∧ TMap wr keyPlace elemFic bd (nd + cnt) (mixF fd fs S) ∧ Hid (cnt + wr.rangeLeft bs rb ≤ ns) ∧ Gb bd w wr) (fun _ _ wr => wr.rangeLeft bs rb)
  case atStart => exact ⟨_, 0, hR0, Lib.hid (fun x h => by cases h), hd0.same (fun x _ => by simp [mixF]), Lib.hid (by omega), hgb0⟩
  case round =>
    clear hR0 hd0 hl0 hgb0
    obtain ⟨S, cnt, hR, hS, hM, hC, hG⟩ := hrel
    go_wp2_with (refine wpList_tnext rfl (.tmp 7) rfl hR rfl ?_ ?_)
    · intro hall
      have HF := Lib.hid (show TMap wr keyPlace elemFic bd (nd + ns) (mergeF fd fs) from (hM.mono (by have := hC.out; omega)).same (fun x hx => by
        unfold mixF mergeF
        cases hfx : fs x with
        | none =>
          have : ¬ S x = true := fun h => hS.out x h hfx
          simp [this]
        | some y => rw [if_pos (hall x.1 x.2 hx (by rw [show ((x.1, x.2) : Plc) = x from rfl, hfx]; simp))]))
      clear hall hR hM
      go_wp2
      go_end0
      exact ⟨rfl, HF.out, hG⟩
    · intro x1 x2 y1 y2 y3 y4 w2 hx hy hfx hSx hR2 hlt2 hg2 hs2 hen
      rw [show keyPlace.enc (x1, x2) = .agg #[.int .i64 x1, .int .i64 x2] from rfl, show elemFic.enc (y1, y2, y3, y4) = .agg #[.int .i64 y1, .int .i64 y2, .int .i64 y3, .int .i64 y4] from rfl] at hen ⊢
      have hM2 := hM.grown hg2 (by intro e; exact hrd (by injection e with e; omega))
      have hG2 : Gb bd w w2 := hG.off ⟨hg2.os, hg2.tape, hg2.output, hg2.size, fun i hi => hg2.block i (by have := hG.size; omega) (by have := HRB.out; intro e; injection e with e; omega)⟩
      have HLT := Lib.hid hlt2
      have HSN := Lib.hid (show ∀ z, (S z || decide (z = (x1, x2))) = true → fs z ≠ none from fun z hz => by
        rw [Bool.or_eq_true, decide_eq_true_eq] at hz
        rcases hz with hz | rfl
        · exact hS.out z hz
        · rw [hfx]; simp)
      have HPUT := Lib.hid (mixF_put (fd := fd) (S := S) hfx)
      have hkk := below_alloc (below_alloc (Below.refl w2.heap.size w2) (.cells #[.int .i64 x1, .int .i64 x2] 61)) (.cells #[.int .i64 y1, .int .i64 y2, .int .i64 y3, .int .i64 y4] 39)
      have hM3 := hM2.call hkk
      have hG3 := hG2.call hkk
      obtain ⟨hR3, hl3⟩ := hR2.kept2 (grown_alloc w2 (.cells #[.int .i64 x1, .int .i64 x2] 61)) (by simp) (by simp)
      obtain ⟨hR4, hl4⟩ := hR3.kept2 (grown_alloc _ (.cells #[.int .i64 y1, .int .i64 y2, .int .i64 y3, .int .i64 y4] 39)) (by simp) (by simp)
      have HL := Lib.hid (hl4.trans hl3)
      have hcn : nd + cnt ≤ 100000000000000 := by have := hC.out; omega
      clear hs2 hg2 hlt2 hfx hSx hR hR2 hR3 hl3 hl4 hM hM2 hG hG2 hkk
      go_wp2_with (refine wpList_tput rfl (.tmp 13) (.tmp 14) (.tmp 15) rfl hM3 Tryz.underlying71 (by simp only [maxLen]; omega) (x1, x2) hx (y1, y2, y3, y4) trivial rfl rfl rfl ?_; intro w5 m5 g5)
      obtain ⟨hR5, hl5⟩ := hR4.kept2 g5 (by intro e; injection e with e; omega) (by intro e; injection e with e; omega)
      have HL5 := Lib.hid hl5
      rw [HPUT.out] at m5
      have hG5 := hG3.tr g5
      clear hl5 hR4 g5 hM3 hG3
      go_frame
      go_roundw
      case rel => exact ⟨_, cnt + 1, hR5, HSN, by rw [show nd + (cnt + 1) = nd + cnt + 1 by omega]; exact m5, Lib.hid (by rw [HL5.out, HL.out]; have := HLT.out; have := hC.out; omega), hG5⟩
      case measure => rw [HL5.out, HL.out]; exact HLT.out
end Go.Proofs.YtpkmiegccfhpnaaGreatDoor
