/- Parts of the proof of LawRounds31: FiRAdd, FiRAddW, ChHeightA, ChHeightB, ChHeight, ChRefKind, ChMadeKind, ChRefSimple. -/
import Derived.Test.YtpkmiegccfhpnaaGreatDoorR17
set_option maxRecDepth 100000
set_option maxHeartbeats 16000000
namespace Go.Proofs.YtpkmiegccfhpnaaGreatDoor
open Go.RowKit
structure KeepT (w w' : World) : Prop where
 os : w'.os = w.os
 tape : w'.tape = w.tape
 output : w'.output = w.output
 size : w.heap.size ≤ w'.heap.size
 block : ∀ (b : Nat) (cs : Array Value) (t : TypeId) (fz : Nat × Nat), w.heap[b]? = some (.cells cs t fz) → t ≠ 39 → t ≠ 108 → w'.heap[b]? = some (.cells cs t fz)
theorem KeepT.refl (w : World) : KeepT w w := ⟨rfl, rfl, rfl, Nat.le_refl _, fun _ _ _ _ h _ _ => h⟩
theorem KeepT.trans {a b c : World} (h : KeepT a b) (k : KeepT b c) : KeepT a c := ⟨k.os.trans h.os, k.tape.trans h.tape, k.output.trans h.output, Nat.le_trans h.size k.size, fun i cs t fz hi h1 h2 => k.block i cs t fz (h.block i cs t fz hi h1 h2) h1 h2⟩
theorem lt_of_some {w : World} {b : Nat} {o : Obj} (h : w.heap[b]? = some o) : b < w.heap.size := (Array.getElem?_eq_some_iff.1 h).1
theorem KeepT.of_below {w w' : World} (h : Below w.heap.size w w') : KeepT w w' := ⟨h.os, h.tape, h.output, h.size, fun b _ _ _ hb _ _ => (h.block b (lt_of_some hb)).trans hb⟩
theorem own_keepT {w w' : World} {base size n : Nat} {t : TypeId} {v : Value} {xs : List Value} (h : w.ownsRow base t size v n xs) (k : KeepT w w') (h1 : t ≠ 39) (h2 : t ≠ 108) : w'.ownsRow base t size v n xs := by
 refine ⟨h.1, ?_⟩
 rcases h.2 with hn | ⟨g, cap, cur, e, hb, hg, rest⟩
 ·exact .inl hn
 ·exact .inr ⟨g, cap, cur, e, hb, k.block g cur t (0, 0) hg h1 h2, rest⟩
theorem Reads.lows {w W : World} {B size n : Nat} {A : Option Addr} {xs : List Value} (h : Reads w B size A n xs) (k : Below B w W) : Reads W B size A n xs := h.keep fun b o hb => k.cell (by simpa using hb)
theorem ReadsV.lows {w W : World} {B n : Nat} {A : Option Addr} {l : List (List Ev)} (h : ReadsV w B A n l) (k : Below B w W) : ReadsV W B A n l := by
 obtain ⟨ds, h1, h2, h3⟩ := h
 exact ⟨ds, h1, h2.lows k, fun i d v hd hv => ⟨(h3 i d v hd hv).1.lows k, (h3 i d v hd hv).2⟩⟩
structure FSt (w : World) (base g : Nat) (A : Option Addr) (n c : Nat) (A2 : Option Addr) (m c2 : Nat) (l : List (List Ev)) (T O : List Fic) : Prop where
 blk : ∃ u, Blk w g 108 #[.slice A n c, .slice A2 m c2, u] ∧ w.ownsRow base 39 4 u O.length (csFic O)
 hg : base ≤ g
 hb : base ≤ w.heap.size
 rV : ReadsV w base A n l
 rT : Reads w base 4 A2 m (csFic T)
 pro : ProL l T O
theorem own_neF {w : World} {base n : Nat} {u : Value} {xs : List Value} (how : w.ownsRow base 39 4 u n xs) : ∀ (b : Nat) (cs : Array Value) (t : TypeId) (fz : Nat × Nat), w.heap[b]? = some (.cells cs t fz) → t ≠ 39 → some b ≠ u.ownBlock := by
 intro b cs t fz hb ht e
 rcases how.2 with ⟨rfl, _⟩ | ⟨g', cap, cur, rfl, _, hg', _⟩
 ·simp [Value.ownBlock] at e
 ·simp [Value.ownBlock] at e
  subst e
  rw [hg'] at hb
  cases hb
  exact ht rfl
theorem blk_grownF {w w4 : World} {base n g : Nat} {u : Value} {xs : List Value} {t : TypeId} {cs : Array Value} (hB : Blk w g t cs) (how : w.ownsRow base 39 4 u n xs) (hgr : w.grownBy w4 u.ownBlock) (ht : t ≠ 39) : Blk w4 g t cs := (hgr.block g hB.lt (own_neF how g _ _ _ hB ht)).trans hB
section
variable {w w' : World} {base g n c m c2 : Nat} {A A2 : Option Addr} {l : List (List Ev)} {T O : List Fic}
theorem FSt.call (h : FSt w base g A n c A2 m c2 l T O) (k : Below w.heap.size w w') : FSt w' base g A n c A2 m c2 l T O := by
 obtain ⟨u, h1, h2⟩ := h.blk
 exact ⟨⟨u, h1.kept k, own_call h2 k⟩, h.hg, Nat.le_trans h.hb k.size, h.rV.below h.hb k, h.rT.below h.hb k, h.pro⟩
theorem FSt.put {w4 : World} {u u4 : Value} {p : Plc} {a r : Int} (h : FSt w base g A n c A2 m c2 l T O) (hB : Blk w g 108 #[.slice A n c, .slice A2 m c2, u]) (how : w.ownsRow base 39 4 u O.length (csFic O))
  (hown : w4.ownsRow base 39 4 u4 (O.length + 1) (csFic O ++ csFic [(p.1, p.2, a, r)])) (hgr : w.grownBy w4 u.ownBlock) (hf : freeB l p = true) (h1 : funL T p = none) (h2 : funL O p = none) :
  FSt (w4.setCell ⟨g, 2, none⟩ u4) base g A n c A2 m c2 l T (addL l T O p a r) ∧ KeepT w (w4.setCell ⟨g, 2, none⟩ u4) ∧ Below base w (w4.setCell ⟨g, 2, none⟩ u4) := by
 have hne := own_neF how
 have hB4 : Blk w4 g 108 #[.slice A n c, .slice A2 m c2, u] := (hgr.block g hB.lt (hne g _ _ _ hB (by decide))).trans hB
 have hlow : Below base w w4 := ⟨hgr.os, hgr.tape, hgr.output, hgr.size, fun b hb => hgr.block b (Nat.lt_of_lt_of_le hb h.hb) (fun e => by have := (how.lt b e.symm).1; omega)⟩
 have hlow5 : Below base w (w4.setCell ⟨g, 2, none⟩ u4) := hlow.setCell (by show base ≤ g; exact h.hg) _
 have hB5 : Blk (w4.setCell ⟨g, 2, none⟩ u4) g 108 #[.slice A n c, .slice A2 m c2, u4] := hB4.set_to rfl
 have eo : addL l T O p a r = O ++ [(p.1, p.2, a, r)] := by unfold addL; rw [if_pos ⟨hf, by rw [h1]; rfl, by rw [h2]; rfl⟩]
 have hown5 : (w4.setCell ⟨g, 2, none⟩ u4).ownsRow base 39 4 u4 (O.length + 1) (csFic O ++ csFic [(p.1, p.2, a, r)]) := by
  refine ⟨hown.1, ?_⟩
  rcases hown.2 with hn | ⟨g', cap, cur, e, hb', hg', rest⟩
  ·exact .inl hn
  ·refine .inr ⟨g', cap, cur, e, hb', ?_, rest⟩
   have : g' ≠ g := by
    rintro rfl
    have h3 : w4.heap[g']? = some (.cells #[.slice A n c, .slice A2 m c2, u] 108 (0, 0)) := hB4
    rw [hg'] at h3
    cases h3
   exact (Below.heap_setCell w4 _ _ g' this).trans hg'
 refine ⟨⟨⟨u4, hB5, ?_⟩, h.hg, Nat.le_trans h.hb hlow5.size, ?_, ?_, h.pro.add p a r⟩, ⟨hlow5.os, hlow5.tape, hlow5.output, hlow5.size, ?_⟩, hlow5⟩
 ·rw [eo, csFic_append, List.length_append]; exact hown5
 ·exact h.rV.lows hlow5
 ·exact h.rT.lows hlow5
 ·intro b cs t fz hb h3 h4
  have hbg : b ≠ g := by
   rintro rfl
   have h5 : w.heap[b]? = some (.cells #[.slice A n c, .slice A2 m c2, u] 108 (0, 0)) := hB
   rw [h5] at hb
   cases hb
   exact h4 rfl
  exact (Below.heap_setCell w4 _ _ b hbg).trans ((hgr.block b (lt_of_some hb) (hne b cs t fz hb h3)).trans hb)
end
def AddRet (base g : Nat) (A : Option Addr) (n c : Nat) (A2 : Option Addr) (m c2 : Nat) (l : List (List Ev)) (T O : List Fic) (w : World) (e : Ending) (w' : World) : Prop :=
 (∃ z, e = .returned z) ∧ FSt w' base g A n c A2 m c2 l T O ∧ KeepT w w' ∧ Below base w w'
theorem AddRet.same {w w' : World} {base g n c m c2 : Nat} {A A2 : Option Addr} {l : List (List Ev)} {T O O' : List Fic} {z : Value} (h : FSt w base g A n c A2 m c2 l T O) (k : Below w.heap.size w w') (e : O' = O) : AddRet base g A n c A2 m c2 l T O' w (.returned z) w' := by
 subst e
 exact ⟨⟨z, rfl⟩, h.call k, .of_below k, k.mono h.hb⟩
theorem no_more {T : List Fic} {q : Nat} {y : Fic} {p : Plc} (hy : T[q]? = some y) (h : ∀ z ∈ T.take q, plcF z ≠ p) (hne : plcF y ≠ p) : ∀ z ∈ T.take (q + 1), plcF z ≠ p := by
 rw [take_get hy]
 intro z hz
 rcases List.mem_append.1 hz with hz | hz
 ·exact h z hz
 ·rw [List.mem_singleton.1 hz]; exact hne
theorem fun_has {T : List Fic} {q : Nat} {y : Fic} {p : Plc} (hy : T[q]? = some y) (e : plcF y = p) : (funL T p).isSome = true := by
 cases hf : funL T p with
 | none => exact absurd e (funL_none.1 hf y (List.mem_of_getElem? hy))
 | some x => rfl
theorem addL_in {l : List (List Ev)} {T O : List Fic} {p : Plc} {a r : Int} (h : (funL T p).isSome = true) : addL l T O p a r = O := by unfold addL; rw [if_neg (fun hh => by rw [h] at hh; cases hh.2.1)]
theorem addL_has {l : List (List Ev)} {T O : List Fic} {p : Plc} {a r : Int} (h : (funL O p).isSome = true) : addL l T O p a r = O := by unfold addL; rw [if_neg (fun hh => by rw [h] at hh; cases hh.2.2)]
theorem radd_ok {w : World} {base g n c m c2 : Nat} {A A2 : Option Addr} {l : List (List Ev)} {T O : List Fic} (h : FSt w base g A n c A2 m c2 l T O) (hm : m ≤ 1000000) (hO : O.length ≤ 1000000) {v e : Nat} {x : Ev} (hx : evA l ((v : Int), (e : Int)) = some x) (a r : Int) :
  Calls Tryz.prog 93 #[.pointer (some ⟨g, 0, none⟩), .int .i64 (v : Int), .int .i64 (e : Int), .int .i64 a, .int .i64 r] w fun en w' => AddRet base g A n c A2 m c2 l T (addL l T O ((v : Int), (e : Int)) a r) w en w' := by
 obtain ⟨i0, hi0, hz0, hz1, hz2⟩ := info_parts fic_info
 have HS := Lib.hid h
 have q1 := fun W (hW : Below w.heap.size w W) => rplain_ok A n c l base W (h.rV.below h.hb hW) (Nat.le_trans h.hb hW.size) hx
 obtain ⟨u, hB, how⟩ := h.blk
 have HT := Lib.hid (show T.length = m from h.rT.len (size := 4) (l := T) (f := cFic) (fun _ => rfl) (by decide))
 have HRT := Lib.hid h.rT
 have HB := Lib.hid hB
 have HOW := Lib.hid how
 have HBB := Lib.hid h.hb
 obtain ⟨A3, c3, hu, hRO, -, -⟩ := own_reads how
 have HRO := Lib.hid hRO
 subst hu
 have g0 := hB.cell 0
 have g1 := hB.cell 1
 have g2 := hB.cell 2
 have lg := hB.lt
 simp only [List.getElem?_toArray, List.getElem?_cons_zero, List.getElem?_cons_succ] at g0 g1 g2
 obtain ⟨fb, hfb⟩ : ∃ z, z = freeB l ((v : Int), (e : Int)) := ⟨_, rfl⟩
 simp only [← hfb] at q1
 have HF := Lib.hid hfb
 obtain ⟨k, hk⟩ : ∃ z, z = O.length := ⟨_, rfl⟩
 have HK := Lib.hid hk
 rw [← hk] at hO
 clear h hB how hRO hx hfb hk
 rw [← HK.out] at g2
 go_enter Tryz.func93, Tryz.ntmps93
 go_wp2_with fail
 refine Calls.mono (q1 _ (Below.refl _ _)) ?_
 rintro en w1 ⟨rfl, b1⟩
 have c0 := (b1.cell (p := ⟨g, 0, none⟩) lg).trans g0
 have c1 := (b1.cell (p := ⟨g, 1, none⟩) lg).trans g1
 have c2' := (b1.cell (p := ⟨g, 2, none⟩) lg).trans g2
 have lg1 : g < w1.heap.size := by have := b1.size; omega
 have k1 : Below w.heap.size w w1 := b1
 clear q1 b1 g0 g1 g2
 cases fb with
 | false =>
  go_wp2
  refine ret_of (by simp [results, Tryz.results93, go_sem, *]; repeat' (first | rfl | apply And.intro)) rfl (AddRet.same HS.out k1 (addL_off HF.out.symm))
 | true =>
  go_wp2_with fail
  go_loopg [10] m (fun gh i wr => ∃ q : Nat, q + gh = m ∧ i = .int .i64 (q : Int) ∧ wr = w1 ∧ ∀ y ∈ T.take q, plcF y ≠ ((v : Int), (e : Int)))
  case atStart => exact ⟨0, by omega, by simp, rfl, by simp⟩
  case round =>
   obtain ⟨q, hqg, rfl, hwr, hno⟩ := hrel
   obtain ⟨wo, hwo⟩ : ∃ z, z = wr := ⟨_, rfl⟩
   subst hwo
   subst hwr
   have wq : IntKind.i64.wrap ((q : Int) + 1) = (q : Int) + 1 := IntWalk.i64_in _ (by omega)
   cases gk with
   | zero =>
    have hq : q = m := by omega
    have d0 : ¬ ((q : Int) < (m : Int)) := by omega
    have HNT := Lib.hid (show funL T ((v : Int), (e : Int)) = none from funL_none.2 (by rwa [List.take_of_length_le (by rw [HT.out]; omega)] at hno))
    clear hno hqg wq
    go_wp2_with fail
    go_loopg [11] k (fun gh i wy => ∃ q : Nat, q + gh = k ∧ i = .int .i64 (q : Int) ∧ wy = wo ∧ ∀ y ∈ O.take q, plcF y ≠ ((v : Int), (e : Int)))
    case atStart => exact ⟨0, by omega, by simp, rfl, by simp⟩
    case round =>
     obtain ⟨q2, hqg, rfl, hwy, hno⟩ := hrel
     subst hwy
     have wq : IntKind.i64.wrap ((q2 : Int) + 1) = (q2 : Int) + 1 := IntWalk.i64_in _ (by omega)
     cases gk with
     | zero =>
      have hq2 : q2 = k := by omega
      have d1 : ¬ ((q2 : Int) < (k : Int)) := by omega
      have HNO := Lib.hid (show funL O ((v : Int), (e : Int)) = none from funL_none.2 (by rwa [List.take_of_length_le (by rw [← HK.out]; omega)] at hno))
      have how := own_call HOW.out k1
      have hB := HB.out.kept k1
      have fg := hB.frozen
      have HST := Lib.hid (HS.out.call k1)
      have hbw : base ≤ wr.heap.size := Nat.le_trans HBB.out k1.size
      rw [← HK.out] at how
      clear hno hqg wq
      go_wp2_with (at_builtin; (refine wpList_append_any _ rfl (.tmp 86) (.tmp 92) 23 rfl base 39 i0 _ 4 32 Tryz.underlying23 hi0 hz0 hz1 hz2 rfl (by omega) (.slice A3 k c3) k (csFic O) rfl (own_call how (below_alloc (Below.refl _ _) _)) (wr.heap.size + 1) (some ⟨wr.heap.size, 0, none⟩) 1 1 (csFic [((v : Int), (e : Int), a, r)]) rfl (Reads.newAt _ _ _ 1 4 _ rfl rfl) (one_csFic _) (by simp only [maxLen]; omega) (by omega) (by simp; omega) ?_); intro v4 w4 hown4 hg4 hat4; have B4 := blk_grownF (hB.alloc _) (own_call how (below_alloc (Below.refl _ _) _)) hg4 (by decide); have f4 := B4.frozen; have y2 := B4.cell 2; simp only [List.getElem?_toArray, List.getElem?_cons_zero, List.getElem?_cons_succ] at y2; have l4 := B4.lt; obtain ⟨A4, c4, hv4, -, -, -⟩ := own_reads hown4; subst hv4; have HO4 := Lib.hid hown4; have HG4 := Lib.hid hg4; have HAT4 := Lib.hid hat4; clear hown4 hg4 hat4)
      have kl := below_alloc k1 (.cells #[.int .i64 (v : Int), .int .i64 (e : Int), .int .i64 a, .int .i64 r] 39)
      have X := (HST.out.call (below_alloc (Below.refl wr.heap.size wr) (.cells #[.int .i64 (v : Int), .int .i64 (e : Int), .int .i64 a, .int .i64 r] 39))).put (u := .slice A3 O.length c3) (p := ((v : Int), (e : Int))) (a := a) (r := r) (hB.alloc _) (own_call (by rw [HK.out] at how; exact how) (below_alloc (Below.refl _ _) _)) (by rw [← HK.out]; exact HO4.out) (by have := HG4.out; rw [HK.out] at this; exact this) HF.out.symm HNT.out HNO.out
      refine ret_of (by simp [results, Tryz.results93, go_sem, *]; repeat' (first | rfl | apply And.intro)) rfl ⟨⟨_, rfl⟩, X.1, (KeepT.of_below kl).trans X.2.1, (kl.mono HBB.out).trans X.2.2⟩
     | succ g2 =>
      have hqk : q2 < k := by omega
      have d1 : (q2 : Int) < (k : Int) := by omega
      obtain ⟨⟨y1, y2, y3, y4⟩, hy⟩ := get_some (l := O) (k := q2) (by have := HK.out; omega)
      obtain ⟨bf, off, hA2, hbf, hcf⟩ := Reads.elem (f := cFic) (fun _ => rfl) (HRO.out.below (Nat.le_refl _) k1) (by have := HK.out; omega) hy
      subst hA2
      have e0 := hcf 0 _ rfl
      have e1 := hcf 1 _ rfl
      simp only [Nat.add_zero, ← Nat.add_assoc] at e0 e1
      have HY := Lib.hid hy
      have HNO := Lib.hid hno
      have lbf : bf < wr.heap.size := by have := k1.size; omega
      clear hy hcf hno
      by_cases h1 : y1 = (v : Int)
      ·have f1 : (y1 == (v : Int)) = true := by simp [h1]
       by_cases h2 : y2 = (e : Int)
       ·have f2 : (y2 == (e : Int)) = true := by simp [h2]
        have HE := Lib.hid (show plcF (y1, y2, y3, y4) = ((v : Int), (e : Int)) by unfold plcF; rw [h1, h2])
        clear h1 h2
        go_wp2
        refine ret_of (by simp [results, Tryz.results93, go_sem, *]; repeat' (first | rfl | apply And.intro)) rfl (AddRet.same HS.out k1 (addL_has (fun_has HY.out HE.out)))
       ·have f2 : (y2 == (e : Int)) = false := by simp [h2]
        have HE := Lib.hid (show plcF (y1, y2, y3, y4) ≠ ((v : Int), (e : Int)) by unfold plcF; intro h; rw [Prod.mk.injEq] at h; exact h2 h.2)
        clear h1 h2
        go_wp2
        go_roundg g2
        case measure => omega
        case rel => exact ⟨q2 + 1, by omega, by go_num, rfl, no_more HY.out HNO.out HE.out⟩
      ·have f1 : (y1 == (v : Int)) = false := by simp [h1]
       have HE := Lib.hid (show plcF (y1, y2, y3, y4) ≠ ((v : Int), (e : Int)) by unfold plcF; intro h; rw [Prod.mk.injEq] at h; exact h1 h.1)
       clear h1
       go_wp2
       go_roundg g2
       case measure => omega
       case rel => exact ⟨q2 + 1, by omega, by go_num, rfl, no_more HY.out HNO.out HE.out⟩
   | succ gh =>
    have hqm : q < m := by omega
    have d0 : (q : Int) < (m : Int) := by omega
    obtain ⟨⟨y1, y2, y3, y4⟩, hy⟩ := get_some (l := T) (k := q) (by have := HT.out; omega)
    obtain ⟨bf, off, hA2, hbf, hcf⟩ := Reads.elem (f := cFic) (fun _ => rfl) (HRT.out.below HBB.out k1) hqm hy
    subst hA2
    have e0 := hcf 0 _ rfl
    have e1 := hcf 1 _ rfl
    simp only [Nat.add_zero, ← Nat.add_assoc] at e0 e1
    have HY := Lib.hid hy
    have HNO := Lib.hid hno
    have lbf : bf < wo.heap.size := by have := k1.size; have := HBB.out; omega
    clear hy hcf hno
    by_cases h1 : y1 = (v : Int)
    ·have f1 : (y1 == (v : Int)) = true := by simp [h1]
     by_cases h2 : y2 = (e : Int)
     ·have f2 : (y2 == (e : Int)) = true := by simp [h2]
      have HE := Lib.hid (show plcF (y1, y2, y3, y4) = ((v : Int), (e : Int)) by unfold plcF; rw [h1, h2])
      clear h1 h2
      go_wp2
      refine ret_of (by simp [results, Tryz.results93, go_sem, *]; repeat' (first | rfl | apply And.intro)) rfl (AddRet.same HS.out k1 (addL_in (fun_has HY.out HE.out)))
     ·have f2 : (y2 == (e : Int)) = false := by simp [h2]
      have HE := Lib.hid (show plcF (y1, y2, y3, y4) ≠ ((v : Int), (e : Int)) by unfold plcF; intro h; rw [Prod.mk.injEq] at h; exact h2 h.2)
      clear h1 h2
      go_wp2
      go_roundg gh
      case measure => omega
      case rel => exact ⟨q + 1, by omega, by go_num, rfl, no_more HY.out HNO.out HE.out⟩
    ·have f1 : (y1 == (v : Int)) = false := by simp [h1]
     have HE := Lib.hid (show plcF (y1, y2, y3, y4) ≠ ((v : Int), (e : Int)) by unfold plcF; intro h; rw [Prod.mk.injEq] at h; exact h1 h.1)
     clear h1
     go_wp2
     go_roundg gh
     case measure => omega
     case rel => exact ⟨q + 1, by omega, by go_num, rfl, no_more HY.out HNO.out HE.out⟩
theorem refHeight_0 (b c : Int) (h : pchk (0, b, c) = 0) (w : World) :
  Calls Tryz.prog 128 #[vP (0, b, c)] w fun e w' => e = .returned (.tuple #[.int .i64 (htP (0, b, c)), .int .i64 0]) ∧ Below w.heap.size w w' := by
 have r0 : Blk (w.alloc (.cells #[.int .i64 0, .int .i64 b, .int .i64 c] 47)) w.heap.size 47 #[.int .i64 0, .int .i64 b, .int .i64 c] := Blk.new _ _ _
 have k0 : Below w.heap.size w (w.alloc (.cells #[.int .i64 0, .int .i64 b, .int .i64 c] 47)) := by repeat (first | exact Below.refl _ _ | refine below_drewN ?_ _ | refine Below.drew ?_ | refine below_alloc ?_ _ | (refine below_call ?_ (by assumption)) | (refine Below.setCell ?_ ?_ _; rotate_left; (simp; try omega)))
 obtain ⟨h0, h1, h2, h3, h4, h5⟩ := pchk_ok h
 have hb : (pchk (0, b, c) != 0) = false := by simpa using h
 have E := Lib.hid (show htP (0, b, c) = 12 * b + 0 + c by rfl)
 simp only at h0 h1 h2 h3 h4 h5
 clear h
 go_enter Tryz.func128, Tryz.ntmps128
 go_wp2_with (first | (go_at_call 130; refine (refPcheck_any (_, _, _) _).mono ?_; rintro e wn ⟨rfl, hbn⟩; replace rn := Blk.kept (by with_reducible first | exact rn | exact r0 | exact rn.alloc _ | exact r0.alloc _ | exact (rn.alloc _).alloc _ | exact (r0.alloc _).alloc _) hbn; replace en := rn.cell; replace gn := rn.frozen; replace zn := rn.lt; replace kn := below_call (by with_reducible first | exact kn | exact k0 | exact below_alloc kn _ | exact below_alloc k0 _ | exact below_alloc (below_alloc kn _) _ | exact below_alloc (below_alloc k0 _) _) hbn; clear hbn))
 go_region
 go_wp2
 go_ret2
 rw [E.out]
 exact ⟨by simp, by repeat (first | exact Below.refl _ _ | assumption | refine below_drewN ?_ _ | refine Below.drew ?_ | refine below_alloc ?_ _ | (refine below_call ?_ (by assumption)) | (refine Below.setCell ?_ ?_ _; rotate_left; (simp; try omega)))⟩
theorem refHeight_1 (b c : Int) (h : pchk (1, b, c) = 0) (w : World) :
  Calls Tryz.prog 128 #[vP (1, b, c)] w fun e w' => e = .returned (.tuple #[.int .i64 (htP (1, b, c)), .int .i64 0]) ∧ Below w.heap.size w w' := by
 have r0 : Blk (w.alloc (.cells #[.int .i64 1, .int .i64 b, .int .i64 c] 47)) w.heap.size 47 #[.int .i64 1, .int .i64 b, .int .i64 c] := Blk.new _ _ _
 have k0 : Below w.heap.size w (w.alloc (.cells #[.int .i64 1, .int .i64 b, .int .i64 c] 47)) := by repeat (first | exact Below.refl _ _ | refine below_drewN ?_ _ | refine Below.drew ?_ | refine below_alloc ?_ _ | (refine below_call ?_ (by assumption)) | (refine Below.setCell ?_ ?_ _; rotate_left; (simp; try omega)))
 obtain ⟨h0, h1, h2, h3, h4, h5⟩ := pchk_ok h
 have hb : (pchk (1, b, c) != 0) = false := by simpa using h
 have E := Lib.hid (show htP (1, b, c) = 12 * b + 2 + c by rfl)
 simp only at h0 h1 h2 h3 h4 h5
 clear h
 go_enter Tryz.func128, Tryz.ntmps128
 go_wp2_with (first | (go_at_call 130; refine (refPcheck_any (_, _, _) _).mono ?_; rintro e wn ⟨rfl, hbn⟩; replace rn := Blk.kept (by with_reducible first | exact rn | exact r0 | exact rn.alloc _ | exact r0.alloc _ | exact (rn.alloc _).alloc _ | exact (r0.alloc _).alloc _) hbn; replace en := rn.cell; replace gn := rn.frozen; replace zn := rn.lt; replace kn := below_call (by with_reducible first | exact kn | exact k0 | exact below_alloc kn _ | exact below_alloc k0 _ | exact below_alloc (below_alloc kn _) _ | exact below_alloc (below_alloc k0 _) _) hbn; clear hbn))
 go_region
 go_wp2
 go_ret2
 rw [E.out]
 exact ⟨rfl, by repeat (first | exact Below.refl _ _ | assumption | refine below_drewN ?_ _ | refine Below.drew ?_ | refine below_alloc ?_ _ | (refine below_call ?_ (by assumption)) | (refine Below.setCell ?_ ?_ _; rotate_left; (simp; try omega)))⟩
theorem refHeight_2 (b c : Int) (h : pchk (2, b, c) = 0) (w : World) :
  Calls Tryz.prog 128 #[vP (2, b, c)] w fun e w' => e = .returned (.tuple #[.int .i64 (htP (2, b, c)), .int .i64 0]) ∧ Below w.heap.size w w' := by
 have r0 : Blk (w.alloc (.cells #[.int .i64 2, .int .i64 b, .int .i64 c] 47)) w.heap.size 47 #[.int .i64 2, .int .i64 b, .int .i64 c] := Blk.new _ _ _
 have k0 : Below w.heap.size w (w.alloc (.cells #[.int .i64 2, .int .i64 b, .int .i64 c] 47)) := by repeat (first | exact Below.refl _ _ | refine below_drewN ?_ _ | refine Below.drew ?_ | refine below_alloc ?_ _ | (refine below_call ?_ (by assumption)) | (refine Below.setCell ?_ ?_ _; rotate_left; (simp; try omega)))
 obtain ⟨h0, h1, h2, h3, h4, h5⟩ := pchk_ok h
 have hb : (pchk (2, b, c) != 0) = false := by simpa using h
 have E := Lib.hid (show htP (2, b, c) = 12 * b + 4 + c by rfl)
 simp only at h0 h1 h2 h3 h4 h5
 clear h
 go_enter Tryz.func128, Tryz.ntmps128
 go_wp2_with (first | (go_at_call 130; refine (refPcheck_any (_, _, _) _).mono ?_; rintro e wn ⟨rfl, hbn⟩; replace rn := Blk.kept (by with_reducible first | exact rn | exact r0 | exact rn.alloc _ | exact r0.alloc _ | exact (rn.alloc _).alloc _ | exact (r0.alloc _).alloc _) hbn; replace en := rn.cell; replace gn := rn.frozen; replace zn := rn.lt; replace kn := below_call (by with_reducible first | exact kn | exact k0 | exact below_alloc kn _ | exact below_alloc k0 _ | exact below_alloc (below_alloc kn _) _ | exact below_alloc (below_alloc k0 _) _) hbn; clear hbn))
 go_region
 go_wp2
 go_ret2
 rw [E.out]
 exact ⟨rfl, by repeat (first | exact Below.refl _ _ | assumption | refine below_drewN ?_ _ | refine Below.drew ?_ | refine below_alloc ?_ _ | (refine below_call ?_ (by assumption)) | (refine Below.setCell ?_ ?_ _; rotate_left; (simp; try omega)))⟩
theorem refHeight_3 (b c : Int) (h : pchk (3, b, c) = 0) (w : World) :
  Calls Tryz.prog 128 #[vP (3, b, c)] w fun e w' => e = .returned (.tuple #[.int .i64 (htP (3, b, c)), .int .i64 0]) ∧ Below w.heap.size w w' := by
 have r0 : Blk (w.alloc (.cells #[.int .i64 3, .int .i64 b, .int .i64 c] 47)) w.heap.size 47 #[.int .i64 3, .int .i64 b, .int .i64 c] := Blk.new _ _ _
 have k0 : Below w.heap.size w (w.alloc (.cells #[.int .i64 3, .int .i64 b, .int .i64 c] 47)) := by repeat (first | exact Below.refl _ _ | refine below_drewN ?_ _ | refine Below.drew ?_ | refine below_alloc ?_ _ | (refine below_call ?_ (by assumption)) | (refine Below.setCell ?_ ?_ _; rotate_left; (simp; try omega)))
 obtain ⟨h0, h1, h2, h3, h4, h5⟩ := pchk_ok h
 have hb : (pchk (3, b, c) != 0) = false := by simpa using h
 have E := Lib.hid (show htP (3, b, c) = 12 * b + 5 + c by rfl)
 simp only at h0 h1 h2 h3 h4 h5
 clear h
 go_enter Tryz.func128, Tryz.ntmps128
 go_wp2_with (first | (go_at_call 130; refine (refPcheck_any (_, _, _) _).mono ?_; rintro e wn ⟨rfl, hbn⟩; replace rn := Blk.kept (by with_reducible first | exact rn | exact r0 | exact rn.alloc _ | exact r0.alloc _ | exact (rn.alloc _).alloc _ | exact (r0.alloc _).alloc _) hbn; replace en := rn.cell; replace gn := rn.frozen; replace zn := rn.lt; replace kn := below_call (by with_reducible first | exact kn | exact k0 | exact below_alloc kn _ | exact below_alloc k0 _ | exact below_alloc (below_alloc kn _) _ | exact below_alloc (below_alloc k0 _) _) hbn; clear hbn))
 go_region
 go_wp2
 go_ret2
 rw [E.out]
 exact ⟨rfl, by repeat (first | exact Below.refl _ _ | assumption | refine below_drewN ?_ _ | refine Below.drew ?_ | refine below_alloc ?_ _ | (refine below_call ?_ (by assumption)) | (refine Below.setCell ?_ ?_ _; rotate_left; (simp; try omega)))⟩
theorem refHeight_4 (b c : Int) (h : pchk (4, b, c) = 0) (w : World) :
  Calls Tryz.prog 128 #[vP (4, b, c)] w fun e w' => e = .returned (.tuple #[.int .i64 (htP (4, b, c)), .int .i64 0]) ∧ Below w.heap.size w w' := by
 have r0 : Blk (w.alloc (.cells #[.int .i64 4, .int .i64 b, .int .i64 c] 47)) w.heap.size 47 #[.int .i64 4, .int .i64 b, .int .i64 c] := Blk.new _ _ _
 have k0 : Below w.heap.size w (w.alloc (.cells #[.int .i64 4, .int .i64 b, .int .i64 c] 47)) := by repeat (first | exact Below.refl _ _ | refine below_drewN ?_ _ | refine Below.drew ?_ | refine below_alloc ?_ _ | (refine below_call ?_ (by assumption)) | (refine Below.setCell ?_ ?_ _; rotate_left; (simp; try omega)))
 obtain ⟨h0, h1, h2, h3, h4, h5⟩ := pchk_ok h
 have hb : (pchk (4, b, c) != 0) = false := by simpa using h
 have E := Lib.hid (show htP (4, b, c) = 12 * b + 7 + c by rfl)
 simp only at h0 h1 h2 h3 h4 h5
 clear h
 go_enter Tryz.func128, Tryz.ntmps128
 go_wp2_with (first | (go_at_call 130; refine (refPcheck_any (_, _, _) _).mono ?_; rintro e wn ⟨rfl, hbn⟩; replace rn := Blk.kept (by with_reducible first | exact rn | exact r0 | exact rn.alloc _ | exact r0.alloc _ | exact (rn.alloc _).alloc _ | exact (r0.alloc _).alloc _) hbn; replace en := rn.cell; replace gn := rn.frozen; replace zn := rn.lt; replace kn := below_call (by with_reducible first | exact kn | exact k0 | exact below_alloc kn _ | exact below_alloc k0 _ | exact below_alloc (below_alloc kn _) _ | exact below_alloc (below_alloc k0 _) _) hbn; clear hbn))
 go_region
 go_wp2
 go_ret2
 rw [E.out]
 exact ⟨rfl, by repeat (first | exact Below.refl _ _ | assumption | refine below_drewN ?_ _ | refine Below.drew ?_ | refine below_alloc ?_ _ | (refine below_call ?_ (by assumption)) | (refine Below.setCell ?_ ?_ _; rotate_left; (simp; try omega)))⟩
theorem refHeight_5 (b c : Int) (h : pchk (5, b, c) = 0) (w : World) :
  Calls Tryz.prog 128 #[vP (5, b, c)] w fun e w' => e = .returned (.tuple #[.int .i64 (htP (5, b, c)), .int .i64 0]) ∧ Below w.heap.size w w' := by
 have r0 : Blk (w.alloc (.cells #[.int .i64 5, .int .i64 b, .int .i64 c] 47)) w.heap.size 47 #[.int .i64 5, .int .i64 b, .int .i64 c] := Blk.new _ _ _
 have k0 : Below w.heap.size w (w.alloc (.cells #[.int .i64 5, .int .i64 b, .int .i64 c] 47)) := by repeat (first | exact Below.refl _ _ | refine below_drewN ?_ _ | refine Below.drew ?_ | refine below_alloc ?_ _ | (refine below_call ?_ (by assumption)) | (refine Below.setCell ?_ ?_ _; rotate_left; (simp; try omega)))
 obtain ⟨h0, h1, h2, h3, h4, h5⟩ := pchk_ok h
 have hb : (pchk (5, b, c) != 0) = false := by simpa using h
 have E := Lib.hid (show htP (5, b, c) = 12 * b + 9 + c by rfl)
 simp only at h0 h1 h2 h3 h4 h5
 clear h
 go_enter Tryz.func128, Tryz.ntmps128
 go_wp2_with (first | (go_at_call 130; refine (refPcheck_any (_, _, _) _).mono ?_; rintro e wn ⟨rfl, hbn⟩; replace rn := Blk.kept (by with_reducible first | exact rn | exact r0 | exact rn.alloc _ | exact r0.alloc _ | exact (rn.alloc _).alloc _ | exact (r0.alloc _).alloc _) hbn; replace en := rn.cell; replace gn := rn.frozen; replace zn := rn.lt; replace kn := below_call (by with_reducible first | exact kn | exact k0 | exact below_alloc kn _ | exact below_alloc k0 _ | exact below_alloc (below_alloc kn _) _ | exact below_alloc (below_alloc k0 _) _) hbn; clear hbn))
 go_region
 go_wp2
 go_ret2
 rw [E.out]
 exact ⟨rfl, by repeat (first | exact Below.refl _ _ | assumption | refine below_drewN ?_ _ | refine Below.drew ?_ | refine below_alloc ?_ _ | (refine below_call ?_ (by assumption)) | (refine Below.setCell ?_ ?_ _; rotate_left; (simp; try omega)))⟩
theorem refHeight_6 (b c : Int) (h : pchk (6, b, c) = 0) (w : World) :
  Calls Tryz.prog 128 #[vP (6, b, c)] w fun e w' => e = .returned (.tuple #[.int .i64 (htP (6, b, c)), .int .i64 0]) ∧ Below w.heap.size w w' := by
 have r0 : Blk (w.alloc (.cells #[.int .i64 6, .int .i64 b, .int .i64 c] 47)) w.heap.size 47 #[.int .i64 6, .int .i64 b, .int .i64 c] := Blk.new _ _ _
 have k0 : Below w.heap.size w (w.alloc (.cells #[.int .i64 6, .int .i64 b, .int .i64 c] 47)) := by repeat (first | exact Below.refl _ _ | refine below_drewN ?_ _ | refine Below.drew ?_ | refine below_alloc ?_ _ | (refine below_call ?_ (by assumption)) | (refine Below.setCell ?_ ?_ _; rotate_left; (simp; try omega)))
 obtain ⟨h0, h1, h2, h3, h4, h5⟩ := pchk_ok h
 have hb : (pchk (6, b, c) != 0) = false := by simpa using h
 have E := Lib.hid (show htP (6, b, c) = 12 * b + 11 + c by rfl)
 simp only at h0 h1 h2 h3 h4 h5
 clear h
 go_enter Tryz.func128, Tryz.ntmps128
 go_wp2_with (first | (go_at_call 130; refine (refPcheck_any (_, _, _) _).mono ?_; rintro e wn ⟨rfl, hbn⟩; replace rn := Blk.kept (by with_reducible first | exact rn | exact r0 | exact rn.alloc _ | exact r0.alloc _ | exact (rn.alloc _).alloc _ | exact (r0.alloc _).alloc _) hbn; replace en := rn.cell; replace gn := rn.frozen; replace zn := rn.lt; replace kn := below_call (by with_reducible first | exact kn | exact k0 | exact below_alloc kn _ | exact below_alloc k0 _ | exact below_alloc (below_alloc kn _) _ | exact below_alloc (below_alloc k0 _) _) hbn; clear hbn))
 go_region
 go_wp2
 go_ret2
 rw [E.out]
 exact ⟨rfl, by repeat (first | exact Below.refl _ _ | assumption | refine below_drewN ?_ _ | refine Below.drew ?_ | refine below_alloc ?_ _ | (refine below_call ?_ (by assumption)) | (refine Below.setCell ?_ ?_ _; rotate_left; (simp; try omega)))⟩
theorem refHeight_ok (p : Int × Int × Int) (h : pchk p = 0) (w : World) :
  Calls Tryz.prog 128 #[vP p] w fun e w' => e = .returned (.tuple #[.int .i64 (htP p), .int .i64 0]) ∧ Below w.heap.size w w' := by
 obtain ⟨h0, h1, _, _, _, _⟩ := pchk_ok h
 obtain ⟨a, b, c⟩ := p
 simp only at h0 h1
 obtain rfl | rfl | rfl | rfl | rfl | rfl | rfl := step_cases h0 h1
 ·exact refHeight_0 b c h w
 ·exact refHeight_1 b c h w
 ·exact refHeight_2 b c h w
 ·exact refHeight_3 b c h w
 ·exact refHeight_4 b c h w
 ·exact refHeight_5 b c h w
 ·exact refHeight_6 b c h w
theorem rnumber_ok (p : Int × Int × Int) (h : pchk p = 0) (w : World) :
  Calls Tryz.prog 178 #[vP p] w fun e w' => e = .returned (.int .i64 (numP p)) ∧ Below w.heap.size w w' := by
 have q1 := refNumber_any p
 rw [numE_ok h] at q1
 clear h
 obtain ⟨x, hx⟩ : ∃ x, x = numP p := ⟨_, rfl⟩
 rw [← hx] at q1 ⊢
 clear hx
 obtain ⟨a, b, c⟩ := p
 go_enter Tryz.func178, Tryz.ntmps178
 go_wp2_with fail
 refine (q1 _).mono ?_
 rintro e w1 ⟨rfl, hb1⟩
 have BP1 : Blk w1 (w.heap.size) 47 #[.int .i64 a, .int .i64 b, .int .i64 c] := by
  refine Blk.kept ?_ hb1
  repeat (first | with_reducible exact Blk.new _ _ _ | (with_reducible refine Blk.newAt _ _ _ _ ?_; first | rfl | (simp; done)) | with_reducible (first | apply Blk.alloc | apply Blk.drewN | apply Blk.drew | apply Blk.set_to) | (with_reducible apply Blk.far_; (simp only [ne_eq]; omega)) | rfl)
 have cP0_1 : w1.cell? ⟨w.heap.size, 0, none⟩ = some (.int .i64 a) := BP1.cell 0
 have cP1_1 : w1.cell? ⟨w.heap.size, 1, none⟩ = some (.int .i64 b) := BP1.cell 1
 have cP2_1 : w1.cell? ⟨w.heap.size, 2, none⟩ = some (.int .i64 c) := BP1.cell 2
 have lP1 : w.heap.size < w1.heap.size := BP1.lt
 have mP1 : w.heap.size < w1.heap.size + 1 := by omega
 have nP1 : w.heap.size < w1.heap.size + 1 + 1 := by omega
 have hs1 : w.heap.size ≤ w1.heap.size := by have h := hb1.size; (try simp at h); omega
 go_wp2
 go_ret
 exact ⟨rfl, by repeat (first | exact Below.refl _ _ | refine below_drewN ?_ _ | refine Below.drew ?_ | refine below_alloc ?_ _ | (refine below_call ?_ (by assumption)) | (refine Below.setCell ?_ ?_ _; rotate_left; (simp; try omega)))⟩
theorem rheight_ok (p : Int × Int × Int) (h : pchk p = 0) (w : World) :
  Calls Tryz.prog 179 #[vP p] w fun e w' => e = .returned (.int .i64 (htP p)) ∧ Below w.heap.size w w' := by
 have q1 := refHeight_ok p h
 clear h
 obtain ⟨x, hx⟩ : ∃ x, x = htP p := ⟨_, rfl⟩
 rw [← hx] at q1 ⊢
 clear hx
 obtain ⟨a, b, c⟩ := p
 go_enter Tryz.func179, Tryz.ntmps179
 go_wp2_with fail
 refine (q1 _).mono ?_
 rintro e w1 ⟨rfl, hb1⟩
 have BP1 : Blk w1 (w.heap.size) 47 #[.int .i64 a, .int .i64 b, .int .i64 c] := by
  refine Blk.kept ?_ hb1
  repeat (first | with_reducible exact Blk.new _ _ _ | (with_reducible refine Blk.newAt _ _ _ _ ?_; first | rfl | (simp; done)) | with_reducible (first | apply Blk.alloc | apply Blk.drewN | apply Blk.drew | apply Blk.set_to) | (with_reducible apply Blk.far_; (simp only [ne_eq]; omega)) | rfl)
 have cP0_1 : w1.cell? ⟨w.heap.size, 0, none⟩ = some (.int .i64 a) := BP1.cell 0
 have cP1_1 : w1.cell? ⟨w.heap.size, 1, none⟩ = some (.int .i64 b) := BP1.cell 1
 have cP2_1 : w1.cell? ⟨w.heap.size, 2, none⟩ = some (.int .i64 c) := BP1.cell 2
 have lP1 : w.heap.size < w1.heap.size := BP1.lt
 have mP1 : w.heap.size < w1.heap.size + 1 := by omega
 have nP1 : w.heap.size < w1.heap.size + 1 + 1 := by omega
 have hs1 : w.heap.size ≤ w1.heap.size := by have h := hb1.size; (try simp at h); omega
 go_wp2
 go_ret
 exact ⟨rfl, by repeat (first | exact Below.refl _ _ | refine below_drewN ?_ _ | refine Below.drew ?_ | refine below_alloc ?_ _ | (refine below_call ?_ (by assumption)) | (refine Below.setCell ?_ ?_ _; rotate_left; (simp; try omega)))⟩
theorem rUp_ok (p q : Int × Int × Int) (hp : pchk p = 0) (hq : pchk q = 0) (w : World) :
  Calls Tryz.prog 175 #[vP p, vP q] w fun e w' => e = .returned (.agg #[.int .i64 (upI p q).1, .int .i64 (upI p q).2]) ∧ Below w.heap.size w w' := by
 have q1 := rnumber_ok p hp
 have q2 := rnumber_ok q hq
 have q3 := rheight_ok p hp
 have q4 := rheight_ok q hq
 have b1 := numP_bd hp; have b2 := numP_bd hq; have b3 := htP_bd hp; have b4 := htP_bd hq
 have U1 : ∀ x y u v, x = numP p → y = numP q → u = htP p → v = htP q → (y < x ∨ (y = x ∧ v < u)) → upI p q = (x - y, u - v) := by
  intro x y u v hx hy hu hv h
  have := (lo_of hx hy hu hv).1 h
  unfold upI btw
  rw [this.1, this.2, hx, hy, hu, hv]
 have U2 : ∀ x y u v, x = numP p → y = numP q → u = htP p → v = htP q → ¬ (y < x ∨ (y = x ∧ v < u)) → upI p q = (y - x, v - u) := by
  intro x y u v hx hy hu hv h
  have := (lo_of hx hy hu hv).2 h
  unfold upI btw
  rw [this.1, this.2, hx, hy, hu, hv]
 obtain ⟨x, hx⟩ : ∃ x, x = numP p := ⟨_, rfl⟩
 obtain ⟨y, hy⟩ : ∃ x, x = numP q := ⟨_, rfl⟩
 obtain ⟨u, hu⟩ : ∃ x, x = htP p := ⟨_, rfl⟩
 obtain ⟨v, hv⟩ : ∃ x, x = htP q := ⟨_, rfl⟩
 have E1 := Lib.hid (U1 x y u v hx hy hu hv)
 have E2 := Lib.hid (U2 x y u v hx hy hu hv)
 rw [← hx] at q1 b1
 rw [← hy] at q2 b2
 rw [← hu] at q3 b3
 rw [← hv] at q4 b4
 clear hx hy hu hv hp hq U1 U2
 obtain ⟨a, b, c⟩ := p
 obtain ⟨a', b', c'⟩ := q
 have r0 : Blk (((w.alloc (.cells #[.int .i64 a, .int .i64 b, .int .i64 c] 47)).alloc (.cells #[.int .i64 a', .int .i64 b', .int .i64 c'] 47)).alloc (.cells #[.int .i64 0, .int .i64 0] 131)) w.heap.size 47 #[.int .i64 a, .int .i64 b, .int .i64 c] := ((Blk.new _ _ _).alloc _).alloc _
 have s0 : Blk (((w.alloc (.cells #[.int .i64 a, .int .i64 b, .int .i64 c] 47)).alloc (.cells #[.int .i64 a', .int .i64 b', .int .i64 c'] 47)).alloc (.cells #[.int .i64 0, .int .i64 0] 131)) (w.heap.size + 1) 47 #[.int .i64 a', .int .i64 b', .int .i64 c'] := Blk.alloc (Blk.newAt _ _ _ _ (by simp)) _
 have t0 : Blk (((w.alloc (.cells #[.int .i64 a, .int .i64 b, .int .i64 c] 47)).alloc (.cells #[.int .i64 a', .int .i64 b', .int .i64 c'] 47)).alloc (.cells #[.int .i64 0, .int .i64 0] 131)) (w.heap.size + 1 + 1) 131 #[.int .i64 0, .int .i64 0] := Blk.newAt _ _ _ _ (by simp)
 have k0 : Below w.heap.size w (((w.alloc (.cells #[.int .i64 a, .int .i64 b, .int .i64 c] 47)).alloc (.cells #[.int .i64 a', .int .i64 b', .int .i64 c'] 47)).alloc (.cells #[.int .i64 0, .int .i64 0] 131)) := by repeat (first | exact Below.refl _ _ | refine below_drewN ?_ _ | refine Below.drew ?_ | refine below_alloc ?_ _ | (refine below_call ?_ (by assumption)) | (refine Below.setCell ?_ ?_ _; rotate_left; (simp; try omega)))
 go_enter Tryz.func175, Tryz.ntmps175
 go_wp2_with fail
 obtain ⟨wv, hwv⟩ := name_world k0
 rw [← hwv] at r0 s0 t0 k0 ⊢
 clear hwv
 have cr := r0.cell; have cs := s0.cell; have lr := r0.lt; have ls := s0.lt; have lt := t0.lt
 by_cases h1 : y < x
 ·have d1 : decide (y < x) = true := by simpa using h1
  have HS := Lib.hid (E1.out (Or.inl h1))
  refine wp_region_calm (by kernel_rfl) (by kernel_rfl) ?_
  repeat (go_big_quiet_step ((first | (go_at_call 178; (first | with_reducible exact calm_call (q1 _) | with_reducible exact calm_call (q2 _))) | (go_at_call 179; (first | with_reducible exact calm_call (q3 _) | with_reducible exact calm_call (q4 _))))))
  refine wpQuiet_nil ?_
  intro w1 hb1
  have r1 := r0.kept hb1; have s1 := s0.kept hb1; have t1 := t0.kept hb1; have k1 := below_call k0 hb1
  clear cr cs lr ls lt
  have cr := r1.cell; have cs := s1.cell; have lr := r1.lt; have ls := s1.lt; have lt := t1.lt; have fr := r1.frozen; have fs := s1.frozen
  go_wp2_with fail
  have hne : w.heap.size ≠ w.heap.size + 1 := by omega
  have k2 := k1
  obtain ⟨w2, k2, r2, s2, t2, hw2⟩ : ∃ w2, Below w.heap.size w w2 ∧ Blk w2 w.heap.size 47 #[.int .i64 a', .int .i64 b', .int .i64 c'] ∧ Blk w2 (w.heap.size + 1) 47 #[.int .i64 a, .int .i64 b, .int .i64 c] ∧ Blk w2 (w.heap.size + 1 + 1) 131 #[.int .i64 0, .int .i64 0] ∧ w2 = (((((w1.setCell ⟨w.heap.size, 0, none⟩ (.int .i64 a')).setCell ⟨w.heap.size, 1, none⟩ (.int .i64 b')).setCell ⟨w.heap.size, 2, none⟩ (.int .i64 c')).setCell ⟨w.heap.size + 1, 0, none⟩ (.int .i64 a)).setCell ⟨w.heap.size + 1, 1, none⟩ (.int .i64 b)).setCell ⟨w.heap.size + 1, 2, none⟩ (.int .i64 c) := ⟨_, by repeat (first | with_reducible (first | exact Below.refl _ _ | assumption | refine below_drewN ?_ _ | refine Below.drew ?_ | refine below_alloc ?_ _) | (with_reducible refine Below.setCell ?_ ?_ _; rotate_left; ((try simp only); omega))), by repeat (first | with_reducible exact r1 | with_reducible exact Blk.new _ _ _ | (with_reducible refine Blk.newAt _ _ _ _ ?_; first | rfl | (simp; done)) | with_reducible (first | apply Blk.alloc | apply Blk.drewN | apply Blk.drew | apply Blk.set_to) | (with_reducible apply Blk.far_; (simp only [ne_eq]; omega)) | rfl), by repeat (first | with_reducible exact s1 | with_reducible exact Blk.new _ _ _ | (with_reducible refine Blk.newAt _ _ _ _ ?_; first | rfl | (simp; done)) | with_reducible (first | apply Blk.alloc | apply Blk.drewN | apply Blk.drew | apply Blk.set_to) | (with_reducible apply Blk.far_; (simp only [ne_eq]; omega)) | rfl), by repeat (first | with_reducible exact t1 | with_reducible exact Blk.new _ _ _ | (with_reducible refine Blk.newAt _ _ _ _ ?_; first | rfl | (simp; done)) | with_reducible (first | apply Blk.alloc | apply Blk.drewN | apply Blk.drew | apply Blk.set_to) | (with_reducible apply Blk.far_; (simp only [ne_eq]; omega)) | rfl), rfl⟩
  rw [← hw2]
  clear hw2
  clear cr cs lr ls lt fr fs
  have cr := r2.cell; have cs := s2.cell; have lr := r2.lt; have ls := s2.lt; have lt := t2.lt
  refine wp_region_calm_tail 11 (by kernel_rfl) (by kernel_rfl) ?_
  simp only [List.take_succ_cons, List.take_zero, List.drop_succ_cons, List.drop_zero]
  repeat (go_big_quiet_step ((first | (go_at_call 178; (first | with_reducible exact calm_call (q1 _) | with_reducible exact calm_call (q2 _))) | (go_at_call 179; (first | with_reducible exact calm_call (q3 _) | with_reducible exact calm_call (q4 _))))))
  refine wpQuiet_nil ?_
  intro w3 hb3
  have t3 := t2.kept hb3; have ct := t3.cell; have ft := t3.frozen; have lt3 := t3.lt; have k3 := below_call k2 hb3
  go_wp2
  refine ret_of (by simp [results, Tryz.results175, go_sem, *]; repeat' (first | rfl | apply And.intro)) rfl ⟨?_, by repeat (first | with_reducible (first | exact Below.refl _ _ | assumption | refine below_drewN ?_ _ | refine Below.drew ?_ | refine below_alloc ?_ _) | (with_reducible refine Below.setCell ?_ ?_ _; rotate_left; ((try simp only); omega)))⟩
  first | (rw [HS.out]; done) | (rw [HS.out]; simp)
 ·have d1 : decide (y < x) = false := by simpa using h1
  by_cases h2 : y = x
  ·by_cases h3 : v < u
   ·have HS := Lib.hid (E1.out (Or.inr ⟨h2, h3⟩))
    subst h2
    have d3 : decide (v < u) = true := by simpa using h3
    refine wp_region_calm (by kernel_rfl) (by kernel_rfl) ?_
    repeat (go_big_quiet_step ((first | (go_at_call 178; (first | with_reducible exact calm_call (q1 _) | with_reducible exact calm_call (q2 _))) | (go_at_call 179; (first | with_reducible exact calm_call (q3 _) | with_reducible exact calm_call (q4 _))))))
    refine wpQuiet_nil ?_
    intro w1 hb1
    have r1 := r0.kept hb1; have s1 := s0.kept hb1; have t1 := t0.kept hb1; have k1 := below_call k0 hb1
    clear cr cs lr ls lt
    have cr := r1.cell; have cs := s1.cell; have lr := r1.lt; have ls := s1.lt; have lt := t1.lt; have fr := r1.frozen; have fs := s1.frozen
    go_wp2_with fail
    have hne : w.heap.size ≠ w.heap.size + 1 := by omega
    have k2 := k1
    obtain ⟨w2, k2, r2, s2, t2, hw2⟩ : ∃ w2, Below w.heap.size w w2 ∧ Blk w2 w.heap.size 47 #[.int .i64 a', .int .i64 b', .int .i64 c'] ∧ Blk w2 (w.heap.size + 1) 47 #[.int .i64 a, .int .i64 b, .int .i64 c] ∧ Blk w2 (w.heap.size + 1 + 1) 131 #[.int .i64 0, .int .i64 0] ∧ w2 = (((((w1.setCell ⟨w.heap.size, 0, none⟩ (.int .i64 a')).setCell ⟨w.heap.size, 1, none⟩ (.int .i64 b')).setCell ⟨w.heap.size, 2, none⟩ (.int .i64 c')).setCell ⟨w.heap.size + 1, 0, none⟩ (.int .i64 a)).setCell ⟨w.heap.size + 1, 1, none⟩ (.int .i64 b)).setCell ⟨w.heap.size + 1, 2, none⟩ (.int .i64 c) := ⟨_, by repeat (first | with_reducible (first | exact Below.refl _ _ | assumption | refine below_drewN ?_ _ | refine Below.drew ?_ | refine below_alloc ?_ _) | (with_reducible refine Below.setCell ?_ ?_ _; rotate_left; ((try simp only); omega))), by repeat (first | with_reducible exact r1 | with_reducible exact Blk.new _ _ _ | (with_reducible refine Blk.newAt _ _ _ _ ?_; first | rfl | (simp; done)) | with_reducible (first | apply Blk.alloc | apply Blk.drewN | apply Blk.drew | apply Blk.set_to) | (with_reducible apply Blk.far_; (simp only [ne_eq]; omega)) | rfl), by repeat (first | with_reducible exact s1 | with_reducible exact Blk.new _ _ _ | (with_reducible refine Blk.newAt _ _ _ _ ?_; first | rfl | (simp; done)) | with_reducible (first | apply Blk.alloc | apply Blk.drewN | apply Blk.drew | apply Blk.set_to) | (with_reducible apply Blk.far_; (simp only [ne_eq]; omega)) | rfl), by repeat (first | with_reducible exact t1 | with_reducible exact Blk.new _ _ _ | (with_reducible refine Blk.newAt _ _ _ _ ?_; first | rfl | (simp; done)) | with_reducible (first | apply Blk.alloc | apply Blk.drewN | apply Blk.drew | apply Blk.set_to) | (with_reducible apply Blk.far_; (simp only [ne_eq]; omega)) | rfl), rfl⟩
    rw [← hw2]
    clear hw2
    clear cr cs lr ls lt fr fs
    have cr := r2.cell; have cs := s2.cell; have lr := r2.lt; have ls := s2.lt; have lt := t2.lt
    refine wp_region_calm_tail 11 (by kernel_rfl) (by kernel_rfl) ?_
    simp only [List.take_succ_cons, List.take_zero, List.drop_succ_cons, List.drop_zero]
    repeat (go_big_quiet_step ((first | (go_at_call 178; (first | with_reducible exact calm_call (q1 _) | with_reducible exact calm_call (q2 _))) | (go_at_call 179; (first | with_reducible exact calm_call (q3 _) | with_reducible exact calm_call (q4 _))))))
    refine wpQuiet_nil ?_
    intro w3 hb3
    have t3 := t2.kept hb3; have ct := t3.cell; have ft := t3.frozen; have lt3 := t3.lt; have k3 := below_call k2 hb3
    go_wp2
    refine ret_of (by simp [results, Tryz.results175, go_sem, *]; repeat' (first | rfl | apply And.intro)) rfl ⟨?_, by repeat (first | with_reducible (first | exact Below.refl _ _ | assumption | refine below_drewN ?_ _ | refine Below.drew ?_ | refine below_alloc ?_ _) | (with_reducible refine Below.setCell ?_ ?_ _; rotate_left; ((try simp only); omega)))⟩
    first | (rw [HS.out]; done) | (rw [HS.out]; simp)
   ·have HS := Lib.hid (E2.out (by rintro (h | h); exact h1 h; exact h3 h.2))
    subst h2
    have d3 : decide (v < u) = false := by simpa using h3
    refine wp_region_calm (by kernel_rfl) (by kernel_rfl) ?_
    repeat (go_big_quiet_step ((first | (go_at_call 178; (first | with_reducible exact calm_call (q1 _) | with_reducible exact calm_call (q2 _))) | (go_at_call 179; (first | with_reducible exact calm_call (q3 _) | with_reducible exact calm_call (q4 _))))))
    refine wpQuiet_nil ?_
    intro w1 hb1
    have r1 := r0.kept hb1; have s1 := s0.kept hb1; have t1 := t0.kept hb1; have k1 := below_call k0 hb1
    clear cr cs lr ls lt
    have cr := r1.cell; have cs := s1.cell; have lr := r1.lt; have ls := s1.lt; have lt := t1.lt; have fr := r1.frozen; have fs := s1.frozen
    go_wp2_with fail
    obtain ⟨w2, k2, r2, s2, t2, hw2⟩ : ∃ w2, Below w.heap.size w w2 ∧ Blk w2 w.heap.size 47 #[.int .i64 a, .int .i64 b, .int .i64 c] ∧ Blk w2 (w.heap.size + 1) 47 #[.int .i64 a', .int .i64 b', .int .i64 c'] ∧ Blk w2 (w.heap.size + 1 + 1) 131 #[.int .i64 0, .int .i64 0] ∧ w2 = w1 := ⟨_, k1, r1, s1, t1, rfl⟩
    rw [← hw2]
    clear hw2
    clear cr cs lr ls lt fr fs
    have cr := r2.cell; have cs := s2.cell; have lr := r2.lt; have ls := s2.lt; have lt := t2.lt
    refine wp_region_calm_tail 11 (by kernel_rfl) (by kernel_rfl) ?_
    simp only [List.take_succ_cons, List.take_zero, List.drop_succ_cons, List.drop_zero]
    repeat (go_big_quiet_step ((first | (go_at_call 178; (first | with_reducible exact calm_call (q1 _) | with_reducible exact calm_call (q2 _))) | (go_at_call 179; (first | with_reducible exact calm_call (q3 _) | with_reducible exact calm_call (q4 _))))))
    refine wpQuiet_nil ?_
    intro w3 hb3
    have t3 := t2.kept hb3; have ct := t3.cell; have ft := t3.frozen; have lt3 := t3.lt; have k3 := below_call k2 hb3
    go_wp2
    refine ret_of (by simp [results, Tryz.results175, go_sem, *]; repeat' (first | rfl | apply And.intro)) rfl ⟨?_, by repeat (first | with_reducible (first | exact Below.refl _ _ | assumption | refine below_drewN ?_ _ | refine Below.drew ?_ | refine below_alloc ?_ _) | (with_reducible refine Below.setCell ?_ ?_ _; rotate_left; ((try simp only); omega)))⟩
    first | (rw [HS.out]; done) | (rw [HS.out]; simp)
  ·have HS := Lib.hid (E2.out (by rintro (h | h); exact h1 h; exact h2 h.1))
   have d2 : (y == x) = false := by simpa using h2
   refine wp_region_calm (by kernel_rfl) (by kernel_rfl) ?_
   repeat (go_big_quiet_step ((first | (go_at_call 178; (first | with_reducible exact calm_call (q1 _) | with_reducible exact calm_call (q2 _))) | (go_at_call 179; (first | with_reducible exact calm_call (q3 _) | with_reducible exact calm_call (q4 _))))))
   refine wpQuiet_nil ?_
   intro w1 hb1
   have r1 := r0.kept hb1; have s1 := s0.kept hb1; have t1 := t0.kept hb1; have k1 := below_call k0 hb1
   clear cr cs lr ls lt
   have cr := r1.cell; have cs := s1.cell; have lr := r1.lt; have ls := s1.lt; have lt := t1.lt; have fr := r1.frozen; have fs := s1.frozen
   go_wp2_with fail
   obtain ⟨w2, k2, r2, s2, t2, hw2⟩ : ∃ w2, Below w.heap.size w w2 ∧ Blk w2 w.heap.size 47 #[.int .i64 a, .int .i64 b, .int .i64 c] ∧ Blk w2 (w.heap.size + 1) 47 #[.int .i64 a', .int .i64 b', .int .i64 c'] ∧ Blk w2 (w.heap.size + 1 + 1) 131 #[.int .i64 0, .int .i64 0] ∧ w2 = w1 := ⟨_, k1, r1, s1, t1, rfl⟩
   rw [← hw2]
   clear hw2
   clear cr cs lr ls lt fr fs
   have cr := r2.cell; have cs := s2.cell; have lr := r2.lt; have ls := s2.lt; have lt := t2.lt
   refine wp_region_calm_tail 11 (by kernel_rfl) (by kernel_rfl) ?_
   simp only [List.take_succ_cons, List.take_zero, List.drop_succ_cons, List.drop_zero]
   repeat (go_big_quiet_step ((first | (go_at_call 178; (first | with_reducible exact calm_call (q1 _) | with_reducible exact calm_call (q2 _))) | (go_at_call 179; (first | with_reducible exact calm_call (q3 _) | with_reducible exact calm_call (q4 _))))))
   refine wpQuiet_nil ?_
   intro w3 hb3
   have t3 := t2.kept hb3; have ct := t3.cell; have ft := t3.frozen; have lt3 := t3.lt; have k3 := below_call k2 hb3
   go_wp2
   refine ret_of (by simp [results, Tryz.results175, go_sem, *]; repeat' (first | rfl | apply And.intro)) rfl ⟨?_, by repeat (first | with_reducible (first | exact Below.refl _ _ | assumption | refine below_drewN ?_ _ | refine Below.drew ?_ | refine below_alloc ?_ _) | (with_reducible refine Below.setCell ?_ ?_ _; rotate_left; ((try simp only); omega)))⟩
   first | (rw [HS.out]; done) | (rw [HS.out]; simp)
theorem rsimple_any (x : Int × Int) (w : World) (h0 : 0 ≤ x.1) (h1 : x.1 ≤ 62) (h2 : -400 ≤ x.2) (h3 : x.2 ≤ 400) :
  Calls Tryz.prog 174 #[.agg #[.int .i64 x.1, .int .i64 x.2]] w fun e w' => e = .returned (.agg #[.int .i64 (simI x).1, .int .i64 (simI x).2]) ∧ Below w.heap.size w w' := by
 obtain ⟨s, h⟩ := x
 simp only at h0 h1 h2 h3
 have E := Lib.hid (show simI (s, h) = (s % 7, h - 12 * (s / 7)) by rfl)
 go_enter Tryz.func174, Tryz.ntmps174
 go_wp2
 refine ret_of (by simp [results, Tryz.results174, go_sem, *]; repeat' (first | rfl | apply And.intro)) rfl ⟨?_, by repeat (first | with_reducible (first | exact Below.refl _ _ | assumption | refine below_drewN ?_ _ | refine Below.drew ?_ | refine below_alloc ?_ _) | (with_reducible refine Below.setCell ?_ ?_ _; rotate_left; ((try simp only); omega)))⟩
 rw [E.out]
theorem madeKind_ok (p q : Int × Int × Int) (hp : pchk p = 0) (hq : pchk q = 0) (w : World) :
  Calls Tryz.prog 168 #[vP p, vP q] w fun e w' => e = .returned (.int .i64 (kindP p q)) ∧ Below w.heap.size w w' := by
 have q1 := rUp_ok p q hp hq
 have HB := upI_bd hp hq
 have E := Lib.hid (show kindP p q = kindX (simI (upI p q)) by rfl)
 obtain ⟨⟨u, v⟩, hu⟩ : ∃ t, t = upI p q := ⟨_, rfl⟩
 rw [← hu] at q1 E HB
 simp only at HB
 have q2 := fun w => rsimple_any (u, v) w HB.1 HB.2.1 (by simp only; omega) (by simp only; omega)
 obtain ⟨⟨s, h⟩, hs⟩ : ∃ t, t = simI (u, v) := ⟨_, rfl⟩
 rw [← hs] at q2 E
 clear hs hu HB hp hq
 obtain ⟨a, b, c⟩ := p
 obtain ⟨a', b', c'⟩ := q
 go_enter Tryz.func168, Tryz.ntmps168
 go_wp2_with fail
 refine (q1 _).mono ?_
 rintro e w1 ⟨rfl, hb1⟩
 have BP1 : Blk w1 (w.heap.size) 47 #[.int .i64 a, .int .i64 b, .int .i64 c] := by
  refine Blk.kept ?_ hb1
  repeat (first | with_reducible exact Blk.new _ _ _ | (with_reducible refine Blk.newAt _ _ _ _ ?_; first | rfl | (simp; done)) | with_reducible (first | apply Blk.alloc | apply Blk.drewN | apply Blk.drew | apply Blk.set_to) | (with_reducible apply Blk.far_; (simp only [ne_eq]; omega)) | rfl)
 have cP0_1 : w1.cell? ⟨w.heap.size, 0, none⟩ = some (.int .i64 a) := BP1.cell 0
 have cP1_1 : w1.cell? ⟨w.heap.size, 1, none⟩ = some (.int .i64 b) := BP1.cell 1
 have cP2_1 : w1.cell? ⟨w.heap.size, 2, none⟩ = some (.int .i64 c) := BP1.cell 2
 have lP1 : w.heap.size < w1.heap.size := BP1.lt
 have mP1 : w.heap.size < w1.heap.size + 1 := by omega
 have nP1 : w.heap.size < w1.heap.size + 1 + 1 := by omega
 have BQ1 : Blk w1 (w.heap.size + 1) 47 #[.int .i64 a', .int .i64 b', .int .i64 c'] := by
  refine Blk.kept ?_ hb1
  repeat (first | with_reducible exact Blk.new _ _ _ | (with_reducible refine Blk.newAt _ _ _ _ ?_; first | rfl | (simp; done)) | with_reducible (first | apply Blk.alloc | apply Blk.drewN | apply Blk.drew | apply Blk.set_to) | (with_reducible apply Blk.far_; (simp only [ne_eq]; omega)) | rfl)
 have cQ0_1 : w1.cell? ⟨w.heap.size + 1, 0, none⟩ = some (.int .i64 a') := BQ1.cell 0
 have cQ1_1 : w1.cell? ⟨w.heap.size + 1, 1, none⟩ = some (.int .i64 b') := BQ1.cell 1
 have cQ2_1 : w1.cell? ⟨w.heap.size + 1, 2, none⟩ = some (.int .i64 c') := BQ1.cell 2
 have lQ1 : w.heap.size + 1 < w1.heap.size := BQ1.lt
 have mQ1 : w.heap.size + 1 < w1.heap.size + 1 := by omega
 have nQ1 : w.heap.size + 1 < w1.heap.size + 1 + 1 := by omega
 have hs1 : w.heap.size ≤ w1.heap.size := by have h := hb1.size; (try simp at h); omega
 go_wp2_with fail
 refine (q2 _).mono ?_
 rintro e w2 ⟨rfl, hb2⟩
 have BP2 : Blk w2 (w.heap.size) 47 #[.int .i64 a, .int .i64 b, .int .i64 c] := by
  refine Blk.kept ?_ hb2
  repeat (first | with_reducible exact BP1 | with_reducible exact Blk.new _ _ _ | (with_reducible refine Blk.newAt _ _ _ _ ?_; first | rfl | (simp; done)) | with_reducible (first | apply Blk.alloc | apply Blk.drewN | apply Blk.drew | apply Blk.set_to) | (with_reducible apply Blk.far_; (simp only [ne_eq]; omega)) | rfl)
 have cP0_2 : w2.cell? ⟨w.heap.size, 0, none⟩ = some (.int .i64 a) := BP2.cell 0
 have cP1_2 : w2.cell? ⟨w.heap.size, 1, none⟩ = some (.int .i64 b) := BP2.cell 1
 have cP2_2 : w2.cell? ⟨w.heap.size, 2, none⟩ = some (.int .i64 c) := BP2.cell 2
 have lP2 : w.heap.size < w2.heap.size := BP2.lt
 have mP2 : w.heap.size < w2.heap.size + 1 := by omega
 have nP2 : w.heap.size < w2.heap.size + 1 + 1 := by omega
 have BQ2 : Blk w2 (w.heap.size + 1) 47 #[.int .i64 a', .int .i64 b', .int .i64 c'] := by
  refine Blk.kept ?_ hb2
  repeat (first | with_reducible exact BQ1 | with_reducible exact Blk.new _ _ _ | (with_reducible refine Blk.newAt _ _ _ _ ?_; first | rfl | (simp; done)) | with_reducible (first | apply Blk.alloc | apply Blk.drewN | apply Blk.drew | apply Blk.set_to) | (with_reducible apply Blk.far_; (simp only [ne_eq]; omega)) | rfl)
 have cQ0_2 : w2.cell? ⟨w.heap.size + 1, 0, none⟩ = some (.int .i64 a') := BQ2.cell 0
 have cQ1_2 : w2.cell? ⟨w.heap.size + 1, 1, none⟩ = some (.int .i64 b') := BQ2.cell 1
 have cQ2_2 : w2.cell? ⟨w.heap.size + 1, 2, none⟩ = some (.int .i64 c') := BQ2.cell 2
 have lQ2 : w.heap.size + 1 < w2.heap.size := BQ2.lt
 have mQ2 : w.heap.size + 1 < w2.heap.size + 1 := by omega
 have nQ2 : w.heap.size + 1 < w2.heap.size + 1 + 1 := by omega
 clear BP1 lP1 mP1 nP1 cP0_1 cP1_1 cP2_1 BQ1 lQ1 mQ1 nQ1 cQ0_1 cQ1_1 cQ2_1
 have hs2 : w.heap.size ≤ w2.heap.size := by have h := hb2.size; (try simp at h); omega
 have kb : Below w.heap.size w w2 := by repeat (first | exact Below.refl _ _ | refine below_drewN ?_ _ | refine Below.drew ?_ | refine below_alloc ?_ _ | (refine below_call ?_ (by assumption)) | (refine Below.setCell ?_ ?_ _; rotate_left; (simp; try omega)))
 go_wp2
 all_goals
  go_ret
  rw [E.out]
  refine ⟨ret_int ?_, by repeat (first | with_reducible (first | exact Below.refl _ _ | assumption | refine below_drewN ?_ _ | refine Below.drew ?_ | refine below_alloc ?_ _) | (with_reducible refine Below.setCell ?_ ?_ _; rotate_left; ((try simp only); omega)))⟩
  simp only [kindX]
  repeat' split
  all_goals first | rfl | omega
theorem rboth_any (p q : Int × Int × Int) (w : World) :
  Calls Tryz.prog 167 #[vP p, vP q] w fun e w' => e = .returned (.int .i64 (bothP p q)) ∧ Below w.heap.size w w' := by
 by_cases hp : pchk p = 0
 ·have E := Lib.hid (bothP_both (q := q) hp)
  have hb : (pchk p == 0) = true := by simpa using hp
  clear hp
  obtain ⟨a, b, c⟩ := p
  obtain ⟨a', b', c'⟩ := q
  go_enter Tryz.func167, Tryz.ntmps167
  go_wp2_with fail
  refine (refPcheck_any (_, _, _) _).mono ?_
  rintro e w1 ⟨rfl, hb1⟩
  have BP1 : Blk w1 (w.heap.size) 47 #[.int .i64 a, .int .i64 b, .int .i64 c] := by
   refine Blk.kept ?_ hb1
   repeat (first | with_reducible exact Blk.new _ _ _ | (with_reducible refine Blk.newAt _ _ _ _ ?_; first | rfl | (simp; done)) | with_reducible (first | apply Blk.alloc | apply Blk.drewN | apply Blk.drew | apply Blk.set_to) | (with_reducible apply Blk.far_; (simp only [ne_eq]; omega)) | rfl)
  have cP0_1 : w1.cell? ⟨w.heap.size, 0, none⟩ = some (.int .i64 a) := BP1.cell 0
  have cP1_1 : w1.cell? ⟨w.heap.size, 1, none⟩ = some (.int .i64 b) := BP1.cell 1
  have cP2_1 : w1.cell? ⟨w.heap.size, 2, none⟩ = some (.int .i64 c) := BP1.cell 2
  have lP1 : w.heap.size < w1.heap.size := BP1.lt
  have mP1 : w.heap.size < w1.heap.size + 1 := by omega
  have nP1 : w.heap.size < w1.heap.size + 1 + 1 := by omega
  have BQ1 : Blk w1 (w.heap.size + 1) 47 #[.int .i64 a', .int .i64 b', .int .i64 c'] := by
   refine Blk.kept ?_ hb1
   repeat (first | with_reducible exact Blk.new _ _ _ | (with_reducible refine Blk.newAt _ _ _ _ ?_; first | rfl | (simp; done)) | with_reducible (first | apply Blk.alloc | apply Blk.drewN | apply Blk.drew | apply Blk.set_to) | (with_reducible apply Blk.far_; (simp only [ne_eq]; omega)) | rfl)
  have cQ0_1 : w1.cell? ⟨w.heap.size + 1, 0, none⟩ = some (.int .i64 a') := BQ1.cell 0
  have cQ1_1 : w1.cell? ⟨w.heap.size + 1, 1, none⟩ = some (.int .i64 b') := BQ1.cell 1
  have cQ2_1 : w1.cell? ⟨w.heap.size + 1, 2, none⟩ = some (.int .i64 c') := BQ1.cell 2
  have lQ1 : w.heap.size + 1 < w1.heap.size := BQ1.lt
  have mQ1 : w.heap.size + 1 < w1.heap.size + 1 := by omega
  have nQ1 : w.heap.size + 1 < w1.heap.size + 1 + 1 := by omega
  have hs1 : w.heap.size ≤ w1.heap.size := by have h := hb1.size; (try simp at h); omega
  go_wp2_with fail
  refine (refPcheck_any (_, _, _) _).mono ?_
  rintro e w2 ⟨rfl, hb2⟩
  have BP2 : Blk w2 (w.heap.size) 47 #[.int .i64 a, .int .i64 b, .int .i64 c] := by
   refine Blk.kept ?_ hb2
   repeat (first | with_reducible exact BP1 | with_reducible exact Blk.new _ _ _ | (with_reducible refine Blk.newAt _ _ _ _ ?_; first | rfl | (simp; done)) | with_reducible (first | apply Blk.alloc | apply Blk.drewN | apply Blk.drew | apply Blk.set_to) | (with_reducible apply Blk.far_; (simp only [ne_eq]; omega)) | rfl)
  have cP0_2 : w2.cell? ⟨w.heap.size, 0, none⟩ = some (.int .i64 a) := BP2.cell 0
  have cP1_2 : w2.cell? ⟨w.heap.size, 1, none⟩ = some (.int .i64 b) := BP2.cell 1
  have cP2_2 : w2.cell? ⟨w.heap.size, 2, none⟩ = some (.int .i64 c) := BP2.cell 2
  have lP2 : w.heap.size < w2.heap.size := BP2.lt
  have mP2 : w.heap.size < w2.heap.size + 1 := by omega
  have nP2 : w.heap.size < w2.heap.size + 1 + 1 := by omega
  have BQ2 : Blk w2 (w.heap.size + 1) 47 #[.int .i64 a', .int .i64 b', .int .i64 c'] := by
   refine Blk.kept ?_ hb2
   repeat (first | with_reducible exact BQ1 | with_reducible exact Blk.new _ _ _ | (with_reducible refine Blk.newAt _ _ _ _ ?_; first | rfl | (simp; done)) | with_reducible (first | apply Blk.alloc | apply Blk.drewN | apply Blk.drew | apply Blk.set_to) | (with_reducible apply Blk.far_; (simp only [ne_eq]; omega)) | rfl)
  have cQ0_2 : w2.cell? ⟨w.heap.size + 1, 0, none⟩ = some (.int .i64 a') := BQ2.cell 0
  have cQ1_2 : w2.cell? ⟨w.heap.size + 1, 1, none⟩ = some (.int .i64 b') := BQ2.cell 1
  have cQ2_2 : w2.cell? ⟨w.heap.size + 1, 2, none⟩ = some (.int .i64 c') := BQ2.cell 2
  have lQ2 : w.heap.size + 1 < w2.heap.size := BQ2.lt
  have mQ2 : w.heap.size + 1 < w2.heap.size + 1 := by omega
  have nQ2 : w.heap.size + 1 < w2.heap.size + 1 + 1 := by omega
  clear BP1 lP1 mP1 nP1 cP0_1 cP1_1 cP2_1 BQ1 lQ1 mQ1 nQ1 cQ0_1 cQ1_1 cQ2_1
  have hs2 : w.heap.size ≤ w2.heap.size := by have h := hb2.size; (try simp at h); omega
  have kb : Below w.heap.size w w2 := by repeat (first | exact Below.refl _ _ | refine below_drewN ?_ _ | refine Below.drew ?_ | refine below_alloc ?_ _ | (refine below_call ?_ (by assumption)) | (refine Below.setCell ?_ ?_ _; rotate_left; (simp; try omega)))
  go_wp2
  go_ret
  rw [E.out]
  exact ⟨rfl, kb⟩
 ·have E := Lib.hid (bothP_fst (q := q) hp)
  have hb : (pchk p == 0) = false := by simpa using hp
  clear hp
  obtain ⟨a, b, c⟩ := p
  obtain ⟨a', b', c'⟩ := q
  go_enter Tryz.func167, Tryz.ntmps167
  go_wp2_with fail
  refine (refPcheck_any (_, _, _) _).mono ?_
  rintro e w1 ⟨rfl, hb1⟩
  have BP1 : Blk w1 (w.heap.size) 47 #[.int .i64 a, .int .i64 b, .int .i64 c] := by
   refine Blk.kept ?_ hb1
   repeat (first | with_reducible exact Blk.new _ _ _ | (with_reducible refine Blk.newAt _ _ _ _ ?_; first | rfl | (simp; done)) | with_reducible (first | apply Blk.alloc | apply Blk.drewN | apply Blk.drew | apply Blk.set_to) | (with_reducible apply Blk.far_; (simp only [ne_eq]; omega)) | rfl)
  have cP0_1 : w1.cell? ⟨w.heap.size, 0, none⟩ = some (.int .i64 a) := BP1.cell 0
  have cP1_1 : w1.cell? ⟨w.heap.size, 1, none⟩ = some (.int .i64 b) := BP1.cell 1
  have cP2_1 : w1.cell? ⟨w.heap.size, 2, none⟩ = some (.int .i64 c) := BP1.cell 2
  have lP1 : w.heap.size < w1.heap.size := BP1.lt
  have mP1 : w.heap.size < w1.heap.size + 1 := by omega
  have nP1 : w.heap.size < w1.heap.size + 1 + 1 := by omega
  have BQ1 : Blk w1 (w.heap.size + 1) 47 #[.int .i64 a', .int .i64 b', .int .i64 c'] := by
   refine Blk.kept ?_ hb1
   repeat (first | with_reducible exact Blk.new _ _ _ | (with_reducible refine Blk.newAt _ _ _ _ ?_; first | rfl | (simp; done)) | with_reducible (first | apply Blk.alloc | apply Blk.drewN | apply Blk.drew | apply Blk.set_to) | (with_reducible apply Blk.far_; (simp only [ne_eq]; omega)) | rfl)
  have cQ0_1 : w1.cell? ⟨w.heap.size + 1, 0, none⟩ = some (.int .i64 a') := BQ1.cell 0
  have cQ1_1 : w1.cell? ⟨w.heap.size + 1, 1, none⟩ = some (.int .i64 b') := BQ1.cell 1
  have cQ2_1 : w1.cell? ⟨w.heap.size + 1, 2, none⟩ = some (.int .i64 c') := BQ1.cell 2
  have lQ1 : w.heap.size + 1 < w1.heap.size := BQ1.lt
  have mQ1 : w.heap.size + 1 < w1.heap.size + 1 := by omega
  have nQ1 : w.heap.size + 1 < w1.heap.size + 1 + 1 := by omega
  have hs1 : w.heap.size ≤ w1.heap.size := by have h := hb1.size; (try simp at h); omega
  have kb : Below w.heap.size w w1 := by repeat (first | exact Below.refl _ _ | refine below_drewN ?_ _ | refine Below.drew ?_ | refine below_alloc ?_ _ | (refine below_call ?_ (by assumption)) | (refine Below.setCell ?_ ?_ _; rotate_left; (simp; try omega)))
  go_wp2
  go_ret
  rw [E.out]
  exact ⟨rfl, kb⟩
theorem rKind_any (p q : Int × Int × Int) (w : World) :
  Calls Tryz.prog 149 #[vP p, vP q] w fun e w' => e = .returned (.tuple #[.int .i64 (kindE p q).1, .int .i64 (kindE p q).2]) ∧ Below w.heap.size w w' := by
 have q1 := rboth_any p q
 by_cases hz : bothP p q = 0
 ·have E := Lib.hid (show kindE p q = (kindP p q, 0) by unfold kindE; rw [hz, if_neg (fun h => h rfl)])
  rw [hz] at q1
  obtain ⟨hp, hq⟩ := bothP_ok hz
  have q2 := madeKind_ok p q hp hq
  obtain ⟨K, hK⟩ : ∃ t, t = kindP p q := ⟨_, rfl⟩
  rw [← hK] at q2 E
  clear hK hp hq hz
  obtain ⟨a, b, c⟩ := p
  obtain ⟨a', b', c'⟩ := q
  go_enter Tryz.func149, Tryz.ntmps149
  go_wp2_with fail
  refine (q1 _).mono ?_
  rintro e w1 ⟨rfl, hb1⟩
  have BP1 : Blk w1 (w.heap.size) 47 #[.int .i64 a, .int .i64 b, .int .i64 c] := by
   refine Blk.kept ?_ hb1
   repeat (first | with_reducible exact Blk.new _ _ _ | (with_reducible refine Blk.newAt _ _ _ _ ?_; first | rfl | (simp; done)) | with_reducible (first | apply Blk.alloc | apply Blk.drewN | apply Blk.drew | apply Blk.set_to) | (with_reducible apply Blk.far_; (simp only [ne_eq]; omega)) | rfl)
  have cP0_1 : w1.cell? ⟨w.heap.size, 0, none⟩ = some (.int .i64 a) := BP1.cell 0
  have cP1_1 : w1.cell? ⟨w.heap.size, 1, none⟩ = some (.int .i64 b) := BP1.cell 1
  have cP2_1 : w1.cell? ⟨w.heap.size, 2, none⟩ = some (.int .i64 c) := BP1.cell 2
  have lP1 : w.heap.size < w1.heap.size := BP1.lt
  have mP1 : w.heap.size < w1.heap.size + 1 := by omega
  have nP1 : w.heap.size < w1.heap.size + 1 + 1 := by omega
  have BQ1 : Blk w1 (w.heap.size + 1) 47 #[.int .i64 a', .int .i64 b', .int .i64 c'] := by
   refine Blk.kept ?_ hb1
   repeat (first | with_reducible exact Blk.new _ _ _ | (with_reducible refine Blk.newAt _ _ _ _ ?_; first | rfl | (simp; done)) | with_reducible (first | apply Blk.alloc | apply Blk.drewN | apply Blk.drew | apply Blk.set_to) | (with_reducible apply Blk.far_; (simp only [ne_eq]; omega)) | rfl)
  have cQ0_1 : w1.cell? ⟨w.heap.size + 1, 0, none⟩ = some (.int .i64 a') := BQ1.cell 0
  have cQ1_1 : w1.cell? ⟨w.heap.size + 1, 1, none⟩ = some (.int .i64 b') := BQ1.cell 1
  have cQ2_1 : w1.cell? ⟨w.heap.size + 1, 2, none⟩ = some (.int .i64 c') := BQ1.cell 2
  have lQ1 : w.heap.size + 1 < w1.heap.size := BQ1.lt
  have mQ1 : w.heap.size + 1 < w1.heap.size + 1 := by omega
  have nQ1 : w.heap.size + 1 < w1.heap.size + 1 + 1 := by omega
  have hs1 : w.heap.size ≤ w1.heap.size := by have h := hb1.size; (try simp at h); omega
  go_wp2_with fail
  refine (q2 _).mono ?_
  rintro e w2 ⟨rfl, hb2⟩
  have BP2 : Blk w2 (w.heap.size) 47 #[.int .i64 a, .int .i64 b, .int .i64 c] := by
   refine Blk.kept ?_ hb2
   repeat (first | with_reducible exact BP1 | with_reducible exact Blk.new _ _ _ | (with_reducible refine Blk.newAt _ _ _ _ ?_; first | rfl | (simp; done)) | with_reducible (first | apply Blk.alloc | apply Blk.drewN | apply Blk.drew | apply Blk.set_to) | (with_reducible apply Blk.far_; (simp only [ne_eq]; omega)) | rfl)
  have cP0_2 : w2.cell? ⟨w.heap.size, 0, none⟩ = some (.int .i64 a) := BP2.cell 0
  have cP1_2 : w2.cell? ⟨w.heap.size, 1, none⟩ = some (.int .i64 b) := BP2.cell 1
  have cP2_2 : w2.cell? ⟨w.heap.size, 2, none⟩ = some (.int .i64 c) := BP2.cell 2
  have lP2 : w.heap.size < w2.heap.size := BP2.lt
  have mP2 : w.heap.size < w2.heap.size + 1 := by omega
  have nP2 : w.heap.size < w2.heap.size + 1 + 1 := by omega
  have BQ2 : Blk w2 (w.heap.size + 1) 47 #[.int .i64 a', .int .i64 b', .int .i64 c'] := by
   refine Blk.kept ?_ hb2
   repeat (first | with_reducible exact BQ1 | with_reducible exact Blk.new _ _ _ | (with_reducible refine Blk.newAt _ _ _ _ ?_; first | rfl | (simp; done)) | with_reducible (first | apply Blk.alloc | apply Blk.drewN | apply Blk.drew | apply Blk.set_to) | (with_reducible apply Blk.far_; (simp only [ne_eq]; omega)) | rfl)
  have cQ0_2 : w2.cell? ⟨w.heap.size + 1, 0, none⟩ = some (.int .i64 a') := BQ2.cell 0
  have cQ1_2 : w2.cell? ⟨w.heap.size + 1, 1, none⟩ = some (.int .i64 b') := BQ2.cell 1
  have cQ2_2 : w2.cell? ⟨w.heap.size + 1, 2, none⟩ = some (.int .i64 c') := BQ2.cell 2
  have lQ2 : w.heap.size + 1 < w2.heap.size := BQ2.lt
  have mQ2 : w.heap.size + 1 < w2.heap.size + 1 := by omega
  have nQ2 : w.heap.size + 1 < w2.heap.size + 1 + 1 := by omega
  clear BP1 lP1 mP1 nP1 cP0_1 cP1_1 cP2_1 BQ1 lQ1 mQ1 nQ1 cQ0_1 cQ1_1 cQ2_1
  have hs2 : w.heap.size ≤ w2.heap.size := by have h := hb2.size; (try simp at h); omega
  have kb : Below w.heap.size w w2 := by repeat (first | exact Below.refl _ _ | refine below_drewN ?_ _ | refine Below.drew ?_ | refine below_alloc ?_ _ | (refine below_call ?_ (by assumption)) | (refine Below.setCell ?_ ?_ _; rotate_left; (simp; try omega)))
  go_wp2
  go_ret2
  rw [E.out]
  exact ⟨rfl, kb⟩
 ·have E := Lib.hid (show kindE p q = (0, bothP p q) by unfold kindE; rw [if_pos hz])
  have hb : (bothP p q != 0) = true := by simpa using hz
  clear hz
  obtain ⟨a, b, c⟩ := p
  obtain ⟨a', b', c'⟩ := q
  go_enter Tryz.func149, Tryz.ntmps149
  go_wp2_with fail
  refine (q1 _).mono ?_
  rintro e w1 ⟨rfl, hb1⟩
  have BP1 : Blk w1 (w.heap.size) 47 #[.int .i64 a, .int .i64 b, .int .i64 c] := by
   refine Blk.kept ?_ hb1
   repeat (first | with_reducible exact Blk.new _ _ _ | (with_reducible refine Blk.newAt _ _ _ _ ?_; first | rfl | (simp; done)) | with_reducible (first | apply Blk.alloc | apply Blk.drewN | apply Blk.drew | apply Blk.set_to) | (with_reducible apply Blk.far_; (simp only [ne_eq]; omega)) | rfl)
  have cP0_1 : w1.cell? ⟨w.heap.size, 0, none⟩ = some (.int .i64 a) := BP1.cell 0
  have cP1_1 : w1.cell? ⟨w.heap.size, 1, none⟩ = some (.int .i64 b) := BP1.cell 1
  have cP2_1 : w1.cell? ⟨w.heap.size, 2, none⟩ = some (.int .i64 c) := BP1.cell 2
  have lP1 : w.heap.size < w1.heap.size := BP1.lt
  have mP1 : w.heap.size < w1.heap.size + 1 := by omega
  have nP1 : w.heap.size < w1.heap.size + 1 + 1 := by omega
  have BQ1 : Blk w1 (w.heap.size + 1) 47 #[.int .i64 a', .int .i64 b', .int .i64 c'] := by
   refine Blk.kept ?_ hb1
   repeat (first | with_reducible exact Blk.new _ _ _ | (with_reducible refine Blk.newAt _ _ _ _ ?_; first | rfl | (simp; done)) | with_reducible (first | apply Blk.alloc | apply Blk.drewN | apply Blk.drew | apply Blk.set_to) | (with_reducible apply Blk.far_; (simp only [ne_eq]; omega)) | rfl)
  have cQ0_1 : w1.cell? ⟨w.heap.size + 1, 0, none⟩ = some (.int .i64 a') := BQ1.cell 0
  have cQ1_1 : w1.cell? ⟨w.heap.size + 1, 1, none⟩ = some (.int .i64 b') := BQ1.cell 1
  have cQ2_1 : w1.cell? ⟨w.heap.size + 1, 2, none⟩ = some (.int .i64 c') := BQ1.cell 2
  have lQ1 : w.heap.size + 1 < w1.heap.size := BQ1.lt
  have mQ1 : w.heap.size + 1 < w1.heap.size + 1 := by omega
  have nQ1 : w.heap.size + 1 < w1.heap.size + 1 + 1 := by omega
  have hs1 : w.heap.size ≤ w1.heap.size := by have h := hb1.size; (try simp at h); omega
  have kb : Below w.heap.size w w1 := by repeat (first | exact Below.refl _ _ | refine below_drewN ?_ _ | refine Below.drew ?_ | refine below_alloc ?_ _ | (refine below_call ?_ (by assumption)) | (refine Below.setCell ?_ ?_ _; rotate_left; (simp; try omega)))
  go_wp2
  go_ret2
  rw [E.out]
  exact ⟨rfl, kb⟩
end Go.Proofs.YtpkmiegccfhpnaaGreatDoor
