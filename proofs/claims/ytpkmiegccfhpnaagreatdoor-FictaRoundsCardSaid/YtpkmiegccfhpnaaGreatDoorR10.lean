/- Parts of the proof of LawRounds31: FiYield, FiFlat. -/
import Derived.Test.YtpkmiegccfhpnaaGreatDoorR09
set_option maxRecDepth 100000
set_option maxHeartbeats 16000000
namespace Go.Proofs.YtpkmiegccfhpnaaGreatDoor
open Go.RowKit Go.Maps
theorem evA_nat {l : List (List Ev)} {i j : Nat} {v : List Ev} {x : Ev} (hv : l[i]? = some v) (hx : v[j]? = some x) : evA l ((i : Int), (j : Int)) = some x := by
 unfold evA
 rw [if_neg (by simp only; omega)]
 simp only [Int.toNat_natCast]
 rw [getD_at hv, hx]
theorem evA_some {l : List (List Ev)} {p : Plc} {x : Ev} (h : evA l p = some x) : ∃ (i j : Nat) (v : List Ev), p = ((i : Int), (j : Int)) ∧ l[i]? = some v ∧ v[j]? = some x := by
 unfold evA at h
 split at h
 ·cases h
 ·obtain ⟨a, b⟩ := p
  rename_i h0
  simp only at h0 h
  refine ⟨a.toNat, b.toNat, l.getD a.toNat [], by rw [Prod.mk.injEq]; omega, ?_, h⟩
  have hb := (List.getElem?_eq_some_iff.1 h).1
  have ha : a.toNat < l.length := by
   by_cases hh : a.toNat < l.length
   ·exact hh
   ·rw [show l.getD a.toNat [] = [] by simp [List.getD, hh]] at hb
    simp at hb
  obtain ⟨v, hv⟩ := get_some ha
  rw [hv, getD_at hv]
theorem free_ev {l : List (List Ev)} {p : Plc} {x : Ev} (h : evA l p = some x) : freeB l p = (!x.rest && decide (x.pit.2.2 = 0)) := by unfold freeB; rw [h]
theorem of_ok (A : Option Addr) (n c : Nat) (l : List (List Ev)) (B : Nat) (w : World) (h : ReadsV w B A n l) (hB : B ≤ w.heap.size) {i j : Nat} {x : Ev} (hx : evA l ((i : Int), (j : Int)) = some x) :
  Calls Tryz.prog 49 #[.slice A n c, .agg #[.int .i64 (i : Int), .int .i64 (j : Int)]] w fun e w' => e = .returned (.agg (cE x).toArray) ∧ Below w.heap.size w w' := by
 obtain ⟨i', j', v, e, hv, hx⟩ := evA_some hx
 rw [Prod.mk.injEq] at e
 obtain ⟨e1, e2⟩ := e
 obtain rfl : i = i' := by omega
 obtain rfl : j = j' := by omega
 clear e1 e2
 have hl := h.len
 have hin : i < n := by have := (List.getElem?_eq_some_iff.1 hv).1; omega
 obtain ⟨bv, ov, A', n', c', rfl, hbv, cv, rv, hn', hvn⟩ := h.voice hB (Below.refl _ _) hin hv
 have hjn : j < n' := by have := (List.getElem?_eq_some_iff.1 hx).1; omega
 obtain ⟨bx, ox, rfl, hbx, hcx⟩ := rv.ev hB (Below.refl _ _) hjn hx
 obtain ⟨x0, x1, x2, x3, x4, x5, x6, x7, x8, x9⟩ := ten hcx
 have hin' : (i : Int) < (n : Int) := by omega
 have hjn' : (j : Int) < (n' : Int) := by omega
 obtain ⟨⟨a0, a1⟩, ⟨d0, d1⟩, ⟨p0, p1, p2⟩, rs, sg, ps⟩ := x
 simp only at x0 x1 x2 x3 x4 x5 x6 x7 x8 x9
 clear hx hv hl hcx rv h
 have E := Lib.hid (show (cE ⟨(a0, a1), (d0, d1), (p0, p1, p2), rs, sg, ps⟩).toArray = #[.int .i64 a0, .int .i64 a1, .int .i64 d0, .int .i64 d1, .int .i64 p0, .int .i64 p1, .int .i64 p2, .bool rs, .int .i64 sg, .int .i64 ps] from rfl)
 rw [E.out]
 go_enter Tryz.func49, Tryz.ntmps49
 go_wp2_with fail
 obtain ⟨wq, hwq⟩ : ∃ z, z = (w.alloc (.cells #[.int .i64 (i : Int), .int .i64 (j : Int)] 61)).alloc (.cells #[.int .i64 0, .int .i64 0, .int .i64 0, .int .i64 0, .int .i64 0, .int .i64 0, .int .i64 0, .bool false, .int .i64 0, .int .i64 0] 49) := ⟨_, rfl⟩
 have bp : Blk wq w.heap.size 61 #[.int .i64 (i : Int), .int .i64 (j : Int)] := by rw [hwq]; exact (Blk.new _ _ _).alloc _
 have br : Blk wq (w.heap.size + 1) 49 #[.int .i64 0, .int .i64 0, .int .i64 0, .int .i64 0, .int .i64 0, .int .i64 0, .int .i64 0, .bool false, .int .i64 0, .int .i64 0] := by rw [hwq]; exact Blk.newAt _ _ _ _ (by simp)
 have kq : Below w.heap.size w wq := by rw [hwq]; repeat (first | with_reducible (first | exact Below.refl _ _ | assumption | refine below_drewN ?_ _ | refine Below.drew ?_ | refine below_alloc ?_ _) | (with_reducible refine Below.setCell ?_ ?_ _; rotate_left; ((try simp only); omega)))
 rw [← hwq]
 have zq := kq.size
 have q0 := bp.cell 0
 have q1 := bp.cell 1
 have lp := bp.lt
 simp only [List.getElem?_toArray, List.getElem?_cons_zero, List.getElem?_cons_succ] at q0 q1
 have y0 := (kq.cell (p := ⟨_, _, none⟩) hbx).trans x0
 have y1 := (kq.cell (p := ⟨_, _, none⟩) hbx).trans x1
 have y2 := (kq.cell (p := ⟨_, _, none⟩) hbx).trans x2
 have y3 := (kq.cell (p := ⟨_, _, none⟩) hbx).trans x3
 have y4 := (kq.cell (p := ⟨_, _, none⟩) hbx).trans x4
 have y5 := (kq.cell (p := ⟨_, _, none⟩) hbx).trans x5
 have y6 := (kq.cell (p := ⟨_, _, none⟩) hbx).trans x6
 have y7 := (kq.cell (p := ⟨_, _, none⟩) hbx).trans x7
 have y8 := (kq.cell (p := ⟨_, _, none⟩) hbx).trans x8
 have y9 := (kq.cell (p := ⟨_, _, none⟩) hbx).trans x9
 have cv' := (kq.cell (p := ⟨_, _, none⟩) hbv).trans cv
 have l1 : bx < wq.heap.size := by omega
 have l2 : bv < wq.heap.size := by omega
 clear hwq x0 x1 x2 x3 x4 x5 x6 x7 x8 x9 cv hbx hbv
 refine wp_region_calm_tail 9 (by kernel_rfl) (by kernel_rfl) ?_
 simp only [List.take_succ_cons, List.take_zero, List.drop_succ_cons, List.drop_zero]
 repeat (go_big_quiet_step (fail))
 refine wpQuiet_nil ?_
 intro wd gd
 have kd := below_call kq gd
 have bd := br.kept gd
 have cd := bd.cell
 have fd := bd.frozen
 have ld := bd.lt
 clear y0 y1 y2 y3 y4 y5 y6 y7 y8 y9 cv' q0 q1 gd br bp kq zq
 go_wp2
 refine ret_of (by simp [results, Tryz.results49, go_sem, *]; repeat' (first | rfl | apply And.intro)) rfl ⟨rfl, by repeat (first | with_reducible (first | exact Below.refl _ _ | assumption | refine below_drewN ?_ _ | refine Below.drew ?_ | refine below_alloc ?_ _) | (with_reducible refine Below.setCell ?_ ?_ _; rotate_left; ((try simp only); omega)))⟩
theorem free_ok (A : Option Addr) (n c : Nat) (l : List (List Ev)) (B : Nat) (w : World) (h : ReadsV w B A n l) (hB : B ≤ w.heap.size) {i j : Nat} {x : Ev} (hx : evA l ((i : Int), (j : Int)) = some x) :
  Calls Tryz.prog 30 #[.slice A n c, .agg #[.int .i64 (i : Int), .int .i64 (j : Int)]] w fun e w' => e = .returned (.bool (freeB l ((i : Int), (j : Int)))) ∧ Below w.heap.size w w' := by
 have q1 := fun W (hW : Below w.heap.size w W) => of_ok A n c l B W (h.below hB hW) (Nat.le_trans hB hW.size) hx
 have E := Lib.hid (free_ev hx)
 obtain ⟨⟨a0, a1⟩, ⟨d0, d1⟩, ⟨p0, p1, p2⟩, rs, sg, ps⟩ := x
 rw [show (cE ⟨(a0, a1), (d0, d1), (p0, p1, p2), rs, sg, ps⟩).toArray = #[.int .i64 a0, .int .i64 a1, .int .i64 d0, .int .i64 d1, .int .i64 p0, .int .i64 p1, .int .i64 p2, .bool rs, .int .i64 sg, .int .i64 ps] from rfl] at q1
 have ht : Anch w := ⟨⟩
 clear hx h
 simp only at E
 have hf3 : ∀ (w : World), (Instr.field 49 (.agg #[.int .i64 a0, .int .i64 a1, .int .i64 d0, .int .i64 d1, .int .i64 p0, .int .i64 p1, .int .i64 p2, .bool rs, .int .i64 sg, .int .i64 ps]) 3).run Tryz.prog w = .ok (.bool rs) w := fun _ => by kernel_rfl
 have hf2 : ∀ (w : World), (Instr.field 49 (.agg #[.int .i64 a0, .int .i64 a1, .int .i64 d0, .int .i64 d1, .int .i64 p0, .int .i64 p1, .int .i64 p2, .bool rs, .int .i64 sg, .int .i64 ps]) 2).run Tryz.prog w = .ok (.agg #[.int .i64 p0, .int .i64 p1, .int .i64 p2]) w := fun _ => by kernel_rfl
 have hfp : ∀ (w : World), (Instr.field 47 (.agg #[.int .i64 p0, .int .i64 p1, .int .i64 p2]) 2).run Tryz.prog w = .ok (.int .i64 p2) w := fun _ => by kernel_rfl
 cases rs with
 | true =>
  go_enter Tryz.func30, Tryz.ntmps30
  go_wp2_with fail
  refine Calls.mono (q1 _ ?_) ?_
  ·exact ht.kept (by repeat (first | exact Below.refl _ _ | refine below_drewN ?_ _ | refine Below.drew ?_ | refine below_alloc ?_ _ | (refine below_call ?_ (by assumption)) | (refine Below.setCell ?_ ?_ _; rotate_left; (simp; try omega))))
  rintro e w1 ⟨rfl, hb1⟩
  have BP1 : Blk w1 (w.heap.size) 61 #[.int .i64 (i : Int), .int .i64 (j : Int)] := by
   refine Blk.kept ?_ hb1
   repeat (first | with_reducible exact Blk.new _ _ _ | (with_reducible refine Blk.newAt _ _ _ _ ?_; first | rfl | (simp; done)) | with_reducible (first | apply Blk.alloc | apply Blk.drewN | apply Blk.drew | apply Blk.set_to) | (with_reducible apply Blk.far_; (simp only [ne_eq]; omega)) | rfl)
  have cP0_1 : w1.cell? ⟨w.heap.size, 0, none⟩ = some (.int .i64 (i : Int)) := BP1.cell 0
  have cP1_1 : w1.cell? ⟨w.heap.size, 1, none⟩ = some (.int .i64 (j : Int)) := BP1.cell 1
  have lP1 : w.heap.size < w1.heap.size := BP1.lt
  have mP1 : w.heap.size < w1.heap.size + 1 := by omega
  have nP1 : w.heap.size < w1.heap.size + 1 + 1 := by omega
  have hs1 : w.heap.size ≤ w1.heap.size := by have h := hb1.size; (try simp at h); omega
  go_wp2
  refine ret_of (by simp [results, Tryz.results30, go_sem, *]; repeat' (first | rfl | apply And.intro)) rfl ⟨?_, by repeat (first | exact Below.refl _ _ | refine below_drewN ?_ _ | refine Below.drew ?_ | refine below_alloc ?_ _ | (refine below_call ?_ (by assumption)) | (refine Below.setCell ?_ ?_ _; rotate_left; (simp; try omega)))⟩
  rw [E.out]
  rfl
 | false =>
  have b0 : (p2 == 0) = decide (p2 = 0) := by rw [Bool.eq_iff_iff]; simp
  go_enter Tryz.func30, Tryz.ntmps30
  go_wp2_with fail
  refine Calls.mono (q1 _ ?_) ?_
  ·exact ht.kept (by repeat (first | exact Below.refl _ _ | refine below_drewN ?_ _ | refine Below.drew ?_ | refine below_alloc ?_ _ | (refine below_call ?_ (by assumption)) | (refine Below.setCell ?_ ?_ _; rotate_left; (simp; try omega))))
  rintro e w1 ⟨rfl, hb1⟩
  have BP1 : Blk w1 (w.heap.size) 61 #[.int .i64 (i : Int), .int .i64 (j : Int)] := by
   refine Blk.kept ?_ hb1
   repeat (first | with_reducible exact Blk.new _ _ _ | (with_reducible refine Blk.newAt _ _ _ _ ?_; first | rfl | (simp; done)) | with_reducible (first | apply Blk.alloc | apply Blk.drewN | apply Blk.drew | apply Blk.set_to) | (with_reducible apply Blk.far_; (simp only [ne_eq]; omega)) | rfl)
  have cP0_1 : w1.cell? ⟨w.heap.size, 0, none⟩ = some (.int .i64 (i : Int)) := BP1.cell 0
  have cP1_1 : w1.cell? ⟨w.heap.size, 1, none⟩ = some (.int .i64 (j : Int)) := BP1.cell 1
  have lP1 : w.heap.size < w1.heap.size := BP1.lt
  have mP1 : w.heap.size < w1.heap.size + 1 := by omega
  have nP1 : w.heap.size < w1.heap.size + 1 + 1 := by omega
  have hs1 : w.heap.size ≤ w1.heap.size := by have h := hb1.size; (try simp at h); omega
  go_wp2_with fail
  refine Calls.mono (q1 _ ?_) ?_
  ·exact ht.kept (by repeat (first | exact Below.refl _ _ | refine below_drewN ?_ _ | refine Below.drew ?_ | refine below_alloc ?_ _ | (refine below_call ?_ (by assumption)) | (refine Below.setCell ?_ ?_ _; rotate_left; (simp; try omega))))
  rintro e w2 ⟨rfl, hb2⟩
  have BP2 : Blk w2 (w.heap.size) 61 #[.int .i64 (i : Int), .int .i64 (j : Int)] := by
   refine Blk.kept ?_ hb2
   repeat (first | with_reducible exact BP1 | with_reducible exact Blk.new _ _ _ | (with_reducible refine Blk.newAt _ _ _ _ ?_; first | rfl | (simp; done)) | with_reducible (first | apply Blk.alloc | apply Blk.drewN | apply Blk.drew | apply Blk.set_to) | (with_reducible apply Blk.far_; (simp only [ne_eq]; omega)) | rfl)
  have cP0_2 : w2.cell? ⟨w.heap.size, 0, none⟩ = some (.int .i64 (i : Int)) := BP2.cell 0
  have cP1_2 : w2.cell? ⟨w.heap.size, 1, none⟩ = some (.int .i64 (j : Int)) := BP2.cell 1
  have lP2 : w.heap.size < w2.heap.size := BP2.lt
  have mP2 : w.heap.size < w2.heap.size + 1 := by omega
  have nP2 : w.heap.size < w2.heap.size + 1 + 1 := by omega
  clear BP1 lP1 mP1 nP1 cP0_1 cP1_1
  have hs2 : w.heap.size ≤ w2.heap.size := by have h := hb2.size; (try simp at h); omega
  go_wp2
  refine ret_of (by simp [results, Tryz.results30, go_sem, *]; repeat' (first | rfl | apply And.intro)) rfl ⟨?_, by repeat (first | exact Below.refl _ _ | refine below_drewN ?_ _ | refine Below.drew ?_ | refine below_alloc ?_ _ | (refine below_call ?_ (by assumption)) | (refine Below.setCell ?_ ?_ _; rotate_left; (simp; try omega)))⟩
  rw [E.out]
  rfl
/-! ### The proposals of a round, under way -/
def DoneAt (W : World) (pd : Option Nat) (dn : Plc → Option Fic) : Prop := (pd = none ∧ dn = fun _ => none) ∨ ∃ b nd, pd = some b ∧ TMap W keyPlace elemFic b nd dn
theorem DoneAt.call {W W' : World} {pd : Option Nat} {dn : Plc → Option Fic} (h : DoneAt W pd dn) (hb : Below W.heap.size W W') : DoneAt W' pd dn := by
 rcases h with h | ⟨b, nd, e, h⟩
 ·exact .inl h
 ·exact .inr ⟨b, nd, e, h.call hb⟩
theorem DoneAt.grown {W W' : World} {pd : Option Nat} {dn : Plc → Option Fic} (h : DoneAt W pd dn) {row : Option Nat} (hg : W.grownBy W' row) (hne : pd ≠ row ∨ row = none) : DoneAt W' pd dn := by
 rcases h with h | ⟨b, nd, e, h⟩
 ·exact .inl h
 ·refine .inr ⟨b, nd, e, h.grown hg ?_⟩
  rcases hne with hne | rfl
  ·rw [← e]; exact hne
  ·simp
theorem zero_fic (w : World) : (zeroValue 39).run Tryz.prog w = .ok (ficV (0, 0, 0, 0)) w := by kernel_rfl
theorem DoneAt.look {W : World} {pd : Option Nat} {dn : Plc → Option Fic} (h : DoneAt W pd dn) {x : Plc} (hx : okI x.1 ∧ okI x.2) :
  (Instr.lookup 71 (.map pd) (twoV x) true).run Tryz.prog W = .ok (.tuple #[ficV ((dn x).getD (0, 0, 0, 0)), .bool (dn x).isSome]) W := by
 rcases h with ⟨rfl, rfl⟩ | ⟨b, nd, rfl, h⟩
 ·exact look_nil keyPlace Tryz.underlying71 (zero_fic W) hx
 ·exact h.look Tryz.underlying71 (y0 := (0, 0, 0, 0)) (zero_fic W) trivial hx
structure YS (W : World) (db ob ib : Nat) (pd : Option Nat) (dn : Plc → Option Fic) (mo no : Nat) (f : Plc → Option Fic) (r : Int) : Prop where
 dbox : Blk W db 71 #[.map pd]
 done : DoneAt W pd dn
 apart : pd ≠ some mo
 obox : Blk W ob 71 #[.map (some mo)]
 out : TMap W keyPlace elemFic mo no f
 ibox : Blk W ib 3 #[.int .i64 (r - 1)]
section
variable {W W' : World} {db ob ib mo no no' : Nat} {pd : Option Nat} {dn f f' : Plc → Option Fic} {r : Int}
theorem YS.call (h : YS W db ob ib pd dn mo no f r) (hb : Below W.heap.size W W') : YS W' db ob ib pd dn mo no f r :=
 ⟨h.dbox.kept hb, h.done.call hb, h.apart, h.obox.kept hb, h.out.call hb, h.ibox.kept hb⟩
theorem blk_map {g b n : Nat} {t : TypeId} {cs : Array Value} {γ β : Type} {K : TypeId} {G : KeyG γ K} {T : ElemT β} {f : γ → Option β} (h : Blk W g t cs) (hm : TMap W G T b n f) : g ≠ b := by
 rintro rfl
 obtain ⟨D, ⟨es, clock, hblk, _⟩, _⟩ := hm
 unfold Blk at h
 rw [hblk] at h
 cases h
theorem YS.grow (h : YS W db ob ib pd dn mo no f r) (hg : W.grownBy W' (some mo)) (hm : TMap W' keyPlace elemFic mo no' f') : YS W' db ob ib pd dn mo no' f' r :=
 ⟨Blk.gb h.dbox hg (blk_map h.dbox h.out), h.done.grown hg (.inl h.apart), h.apart, Blk.gb h.obox hg (blk_map h.obox h.out), hm, Blk.gb h.ibox hg (blk_map h.ibox h.out)⟩
end
theorem yield_ok {w : World} {db ob ib mo no : Nat} {pd : Option Nat} {dn f : Plc → Option Fic} {r : Int} (h : YS w db ob ib pd dn mo no f r) (hno : no ≤ 100000000) (hr : 1 ≤ r ∧ r ≤ 3) (p : Plc) (hp : okI p.1 ∧ okI p.2) (al : Int) :
  Calls Tryz.prog 66 #[.agg #[.int .i64 p.1, .int .i64 p.2], .int .i64 al, .pointer (some ⟨db, 0, none⟩), .pointer (some ⟨ob, 0, none⟩), .pointer (some ⟨ib, 0, none⟩)] w fun e w' => e = .returned (.tuple #[]) ∧ YS w' db ob ib pd dn mo (no + 1) (yld dn r al f p) r ∧ w.grownBy w' (some mo) := by
 obtain ⟨v, e⟩ := p
 simp only
 have HYL := Lib.hid (show yld dn r al f (v, e) = if (dn (v, e)).isSome = false ∧ (f (v, e)).isSome = false then updO f (v, e) (v, e, al, r) else f from rfl)
 obtain ⟨⟨a1, a2, a3, a4⟩, ha⟩ : ∃ z, z = (dn (v, e)).getD (0, 0, 0, 0) := ⟨_, rfl⟩
 obtain ⟨b1, hb1⟩ : ∃ z, z = (dn (v, e)).isSome := ⟨_, rfl⟩
 obtain ⟨⟨c1, c2, c3, c4⟩, hc⟩ : ∃ z, z = (f (v, e)).getD (0, 0, 0, 0) := ⟨_, rfl⟩
 obtain ⟨b2, hb2⟩ : ∃ z, z = (f (v, e)).isSome := ⟨_, rfl⟩
 have lk1 := fun W (hW : Below w.heap.size w W) => (h.done.call hW).look (x := (v, e)) hp
 rw [← ha, ← hb1] at lk1
 have lk1 : ∀ W, Below w.heap.size w W → (Instr.lookup 71 (.map pd) (.agg #[.int .i64 v, .int .i64 e]) true).run Tryz.prog W = .ok (.tuple #[.agg #[.int .i64 a1, .int .i64 a2, .int .i64 a3, .int .i64 a4], .bool b1]) W := lk1
 have lk2 := fun W (hW : Below w.heap.size w W) => (h.out.call hW).look Tryz.underlying71 (y0 := (0, 0, 0, 0)) (zero_fic W) trivial (x := (v, e)) hp
 rw [← hc, ← hb2] at lk2
 have lk2 : ∀ W, Below w.heap.size w W → (Instr.lookup 71 (.map (some mo)) (.agg #[.int .i64 v, .int .i64 e]) true).run Tryz.prog W = .ok (.tuple #[.agg #[.int .i64 c1, .int .i64 c2, .int .i64 c3, .int .i64 c4], .bool b2]) W := lk2
 rw [← hb1, ← hb2] at HYL
 clear ha hb1 hc hb2
 have x0 := h.dbox.cell 0
 have y0 := h.obox.cell 0
 have z0 := h.ibox.cell 0
 have lx := h.dbox.lt
 have ly := h.obox.lt
 have lz := h.ibox.lt
 simp only [List.getElem?_toArray, List.getElem?_cons_zero] at x0 y0 z0
 have k1 := below_alloc (Below.refl w.heap.size w) (.cells #[.int .i64 v, .int .i64 e] 61)
 have l1 := lk1 _ k1
 have k2 := below_alloc k1 (.cells #[.int .i64 a1, .int .i64 a2, .int .i64 a3, .int .i64 a4] 39)
 have l2 := lk2 _ k2
 have k3 := below_alloc k2 (.cells #[.int .i64 c1, .int .i64 c2, .int .i64 c3, .int .i64 c4] 39)
 have h3 := h.call k3
 have wr : IntKind.i64.wrap (r - 1 + 1) = r := by rw [show r - 1 + 1 = r by omega]; exact IntWalk.i64_in _ (by omega)
 have ly1 : ob < w.heap.size + 1 := by omega
 have ly2 : ob < w.heap.size + 1 + 1 := by omega
 have lz1 : ib < w.heap.size + 1 := by omega
 have lz2 : ib < w.heap.size + 1 + 1 := by omega
 clear lk1 lk2
 cases b1 with
 | true =>
  have E := Lib.hid (show yld dn r al f (v, e) = f by rw [HYL.out, if_neg (by simp)])
  clear HYL
  go_enter Tryz.func66, Tryz.ntmps66
  go_wp2
  refine bodyPost_end (results_none rfl _ _ _) rfl ?_
  rw [E.out]
  exact ⟨rfl, ⟨h3.dbox, h3.done, h3.apart, h3.obox, h3.out.mono (by omega), h3.ibox⟩, Gb.of_below k3⟩
 | false =>
  cases b2 with
  | true =>
   have E := Lib.hid (show yld dn r al f (v, e) = f by rw [HYL.out, if_neg (by simp)])
   clear HYL
   go_enter Tryz.func66, Tryz.ntmps66
   go_wp2
   refine bodyPost_end (results_none rfl _ _ _) rfl ?_
   rw [E.out]
   exact ⟨rfl, ⟨h3.dbox, h3.done, h3.apart, h3.obox, h3.out.mono (by omega), h3.ibox⟩, Gb.of_below k3⟩
  | false =>
   have E := Lib.hid (show yld dn r al f (v, e) = updO f (v, e) (v, e, al, r) by rw [HYL.out, if_pos ⟨rfl, rfl⟩])
   clear HYL
   go_enter Tryz.func66, Tryz.ntmps66
   go_wp2_with (refine wpList_tput rfl (.tmp 29) (.tmp 30) (.tmp 38) rfl h3.out Tryz.underlying71 (by simp only [maxLen]; omega) (v, e) hp (v, e, al, r) trivial rfl rfl rfl ?_; intro w5 m5 g5)
   refine bodyPost_end (results_none rfl _ _ _) rfl ?_
   rw [E.out]
   exact ⟨rfl, h3.grow g5 m5, (Gb.of_below k3).tr g5⟩
def flatW (N : Nat) (p q : Plc) : Plc := if N = 1 then p else if N = 2 then q else (0, 0)
theorem ev_pit (x : Ev) (w : World) : (Instr.field 49 (.agg (cE x).toArray) 2).run Tryz.prog w = .ok (vP x.pit) w := by
 obtain ⟨⟨a0, a1⟩, ⟨d0, d1⟩, ⟨p0, p1, p2⟩, rs, sg, ps⟩ := x
 kernel_rfl
theorem pit_step (p : Pit3) (w : World) : (Instr.field 47 (vP p) 0).run Tryz.prog w = .ok (.int .i64 p.1) w := by
 obtain ⟨p0, p1, p2⟩ := p
 kernel_rfl
theorem flattened_ok (A : Option Addr) (n c : Nat) (l : List (List Ev)) (B : Nat) (w : World) (h : ReadsV w B A n l) (hB : B ≤ w.heap.size) {a i b j : Nat} {x y : Ev} (hx : evA l ((a : Int), (i : Int)) = some x) (hy : evA l ((b : Int), (j : Int)) = some y) (hxr : x.rest = false) (hyr : y.rest = false) (s : Int) :
  Calls Tryz.prog 124 #[.slice A n c, .agg #[.int .i64 (a : Int), .int .i64 (i : Int), .int .i64 (b : Int), .int .i64 (j : Int)], .int .i64 s] w fun e w' => e = .returned (.tuple #[.agg #[.int .i64 (flatW (flatN x.pit y.pit s) ((a : Int), (i : Int)) ((b : Int), (j : Int))).1, .int .i64 (flatW (flatN x.pit y.pit s) ((a : Int), (i : Int)) ((b : Int), (j : Int))).2], .bool (decide (flatN x.pit y.pit s ≠ 0))]) ∧ Below w.heap.size w w' := by
 have qf1 := fun W (hW : Below w.heap.size w W) => free_ok A n c l B W (h.below hB hW) (Nat.le_trans hB hW.size) hx
 have qf2 := fun W (hW : Below w.heap.size w W) => free_ok A n c l B W (h.below hB hW) (Nat.le_trans hB hW.size) hy
 have qo1 := fun W (hW : Below w.heap.size w W) => of_ok A n c l B W (h.below hB hW) (Nat.le_trans hB hW.size) hx
 have qo2 := fun W (hW : Below w.heap.size w W) => of_ok A n c l B W (h.below hB hW) (Nat.le_trans hB hW.size) hy
 have e1 : freeB l ((a : Int), (i : Int)) = decide (x.pit.2.2 = 0) := by rw [free_ev hx, hxr]; rfl
 have e2 : freeB l ((b : Int), (j : Int)) = decide (y.pit.2.2 = 0) := by rw [free_ev hy, hyr]; rfl
 obtain ⟨f1, hf1⟩ : ∃ z, z = freeB l ((a : Int), (i : Int)) := ⟨_, rfl⟩
 obtain ⟨f2, hf2⟩ : ∃ z, z = freeB l ((b : Int), (j : Int)) := ⟨_, rfl⟩
 rw [← hf1] at qf1 e1
 rw [← hf2] at qf2 e2
 have hv1 := ev_pit x
 have hv2 := ev_pit y
 have hp1 := pit_step x.pit
 have hp2 := pit_step y.pit
 obtain ⟨V1, hV1⟩ : ∃ z, z = Value.agg (cE x).toArray := ⟨_, rfl⟩
 obtain ⟨V2, hV2⟩ : ∃ z, z = Value.agg (cE y).toArray := ⟨_, rfl⟩
 obtain ⟨P1, hP1⟩ : ∃ z, z = vP x.pit := ⟨_, rfl⟩
 obtain ⟨P2, hP2⟩ : ∃ z, z = vP y.pit := ⟨_, rfl⟩
 rw [← hV1] at qo1 hv1
 rw [← hV2] at qo2 hv2
 rw [← hP1] at hv1 hp1
 rw [← hP2] at hv2 hp2
 obtain ⟨s1, hs1⟩ : ∃ z, z = x.pit.1 := ⟨_, rfl⟩
 obtain ⟨s2, hs2⟩ : ∃ z, z = y.pit.1 := ⟨_, rfl⟩
 obtain ⟨N, hN⟩ : ∃ z, z = flatN x.pit y.pit s := ⟨_, rfl⟩
 have HN := Lib.hid (show N = if s1 = s ∧ f1 = true then 1 else if s2 = s ∧ f2 = true then 2 else 0 by rw [hN, hs1, hs2, e1, e2]; unfold flatN; simp)
 rw [← hs1] at hp1
 rw [← hs2] at hp2
 rw [← hN]
 clear e1 e2 hf1 hf2 hV1 hV2 hP1 hP2 hs1 hs2 hN hx hy hxr hyr h
 have i0 : ∀ w, (Instr.index 164 (.agg #[.int .i64 (a : Int), .int .i64 (i : Int), .int .i64 (b : Int), .int .i64 (j : Int)]) (.int .i64 0)).run Tryz.prog w = .ok (.agg #[.int .i64 (a : Int), .int .i64 (i : Int)]) w := fun _ => by kernel_rfl
 have i1 : ∀ w, (Instr.index 164 (.agg #[.int .i64 (a : Int), .int .i64 (i : Int), .int .i64 (b : Int), .int .i64 (j : Int)]) (.int .i64 1)).run Tryz.prog w = .ok (.agg #[.int .i64 (b : Int), .int .i64 (j : Int)]) w := fun _ => by kernel_rfl
 go_enter Tryz.func124, Tryz.ntmps124
 go_wp2
 go_loopw [11] (fun i wr => ∃ k : Nat, k ≤ 2 ∧ i = .int .i64 k ∧ Below w.heap.size w wr ∧ Blk wr (w.heap.size + 1) 61 #[.int .i64 0, .int .i64 0] ∧ (0 < k → ¬ (s1 = s ∧ f1 = true)) ∧ (1 < k → ¬ (s2 = s ∧ f2 = true))) (fun i _ => 2 - (intOf i).toNat)
 case atStart => exact ⟨0, by omega, rfl, by repeat (first | exact Below.refl _ _ | refine below_drewN ?_ _ | refine Below.drew ?_ | refine below_alloc ?_ _ | (refine below_call ?_ (by assumption)) | (refine Below.setCell ?_ ?_ _; rotate_left; (simp; try omega))), Blk.newAt _ _ _ _ (by simp), by omega, by omega⟩
 case round =>
  obtain ⟨k, hk, rfl, k0, r0, m1, m2⟩ := hrel
  have rl := r0.lt
  match k, hk with
  | 0, _ =>
   rw [show ((0 : Nat) : Int) = 0 by rfl]
   have kW : Below w.heap.size w (wr.alloc (.cells #[.int .i64 (a : Int), .int .i64 (i : Int)] 61)) := below_alloc k0 _
   have bW := r0.alloc (.cells #[.int .i64 (a : Int), .int .i64 (i : Int)] 61)
   have cW : Blk (wr.alloc (.cells #[.int .i64 (a : Int), .int .i64 (i : Int)] 61)) wr.heap.size 61 #[.int .i64 (a : Int), .int .i64 (i : Int)] := Blk.new _ _ _
   go_wp2_with fail
   refine (qf1 _ kW).mono ?_
   rintro e w1 ⟨rfl, hb1⟩
   have k1 := below_call kW hb1
   have b1 := bW.kept hb1
   have c1 := cW.kept hb1
   have d0 := c1.cell 0
   have d1 := c1.cell 1
   have dl := c1.lt
   simp only [List.getElem?_toArray, List.getElem?_cons_zero, List.getElem?_cons_succ] at d0 d1
   cases f1 with
   | false =>
    clear bW cW kW hb1
    go_wp2
    go_roundw
    case measure => simp [intOf]
    case rel => exact ⟨1, by omega, rfl, k1, b1, (by first | exact fun _ => m1 (by omega) | (intro _ hh; exact absurd hh.2 (by simp))), (by first | (intro hh; omega) | (intro _ hh; exact absurd hh.2 (by simp)))⟩
   | true =>
    clear bW cW kW hb1
    go_wp2_with fail
    refine (qo1 _ k1).mono ?_
    rintro e w2 ⟨rfl, hb2⟩
    have k2 := below_call k1 hb2
    have b2 := b1.kept hb2
    have c2 := c1.kept hb2
    clear d0 d1 dl
    have d0 := c2.cell 0
    have d1 := c2.cell 1
    have dl := c2.lt
    have g0 := b2.cell 0
    have g1 := b2.cell 1
    have gf := b2.frozen
    have gl := b2.lt
    simp only [List.getElem?_toArray, List.getElem?_cons_zero, List.getElem?_cons_succ] at d0 d1 g0 g1
    by_cases hs : s1 = s
    ·have hb : (s1 == s) = true := by simpa using hs
     clear b1 c1 k1 hb2
     go_wp2
     have hne : wr.heap.size ≠ w.heap.size + 1 := by omega
     refine ret_of (by simp [results, Tryz.results124, go_sem, *]; repeat' (first | rfl | apply And.intro)) rfl ⟨?_, by repeat (first | with_reducible (first | exact Below.refl _ _ | assumption | refine below_drewN ?_ _ | refine Below.drew ?_ | refine below_alloc ?_ _) | (with_reducible refine Below.setCell ?_ ?_ _; rotate_left; ((try simp only); omega)))⟩
     first
      | (rw [HN.out, if_pos ⟨hs, trivial⟩]; rfl)
      | (rw [HN.out, if_neg (m1 (by omega)), if_pos ⟨hs, trivial⟩]; rfl)
    ·have hb : (s1 == s) = false := by simpa using hs
     clear b1 c1 k1 hb2
     go_wp2
     go_roundw
     case measure => simp [intOf]
     case rel => exact ⟨1, by omega, rfl, k2, b2, (by first | exact fun _ => m1 (by omega) | (intro _ hh; exact absurd hh.1 hs)), (by first | (intro hh; omega) | (intro _ hh; exact absurd hh.1 hs))⟩
  | 1, _ =>
   rw [show ((1 : Nat) : Int) = 1 by rfl]
   have kW : Below w.heap.size w (wr.alloc (.cells #[.int .i64 (b : Int), .int .i64 (j : Int)] 61)) := below_alloc k0 _
   have bW := r0.alloc (.cells #[.int .i64 (b : Int), .int .i64 (j : Int)] 61)
   have cW : Blk (wr.alloc (.cells #[.int .i64 (b : Int), .int .i64 (j : Int)] 61)) wr.heap.size 61 #[.int .i64 (b : Int), .int .i64 (j : Int)] := Blk.new _ _ _
   go_wp2_with fail
   refine (qf2 _ kW).mono ?_
   rintro e w1 ⟨rfl, hb1⟩
   have k1 := below_call kW hb1
   have b1 := bW.kept hb1
   have c1 := cW.kept hb1
   have d0 := c1.cell 0
   have d1 := c1.cell 1
   have dl := c1.lt
   simp only [List.getElem?_toArray, List.getElem?_cons_zero, List.getElem?_cons_succ] at d0 d1
   cases f2 with
   | false =>
    clear bW cW kW hb1
    go_wp2
    go_roundw
    case measure => simp [intOf]
    case rel => exact ⟨2, by omega, rfl, k1, b1, (by first | exact fun _ => m1 (by omega) | (intro _ hh; exact absurd hh.2 (by simp))), (by first | (intro hh; omega) | (intro _ hh; exact absurd hh.2 (by simp)))⟩
   | true =>
    clear bW cW kW hb1
    go_wp2_with fail
    refine (qo2 _ k1).mono ?_
    rintro e w2 ⟨rfl, hb2⟩
    have k2 := below_call k1 hb2
    have b2 := b1.kept hb2
    have c2 := c1.kept hb2
    clear d0 d1 dl
    have d0 := c2.cell 0
    have d1 := c2.cell 1
    have dl := c2.lt
    have g0 := b2.cell 0
    have g1 := b2.cell 1
    have gf := b2.frozen
    have gl := b2.lt
    simp only [List.getElem?_toArray, List.getElem?_cons_zero, List.getElem?_cons_succ] at d0 d1 g0 g1
    by_cases hs : s2 = s
    ·have hb : (s2 == s) = true := by simpa using hs
     clear b1 c1 k1 hb2
     go_wp2
     have hne : wr.heap.size ≠ w.heap.size + 1 := by omega
     refine ret_of (by simp [results, Tryz.results124, go_sem, *]; repeat' (first | rfl | apply And.intro)) rfl ⟨?_, by repeat (first | with_reducible (first | exact Below.refl _ _ | assumption | refine below_drewN ?_ _ | refine Below.drew ?_ | refine below_alloc ?_ _) | (with_reducible refine Below.setCell ?_ ?_ _; rotate_left; ((try simp only); omega)))⟩
     first
      | (rw [HN.out, if_pos ⟨hs, trivial⟩]; rfl)
      | (rw [HN.out, if_neg (m1 (by omega)), if_pos ⟨hs, trivial⟩]; rfl)
    ·have hb : (s2 == s) = false := by simpa using hs
     clear b1 c1 k1 hb2
     go_wp2
     go_roundw
     case measure => simp [intOf]
     case rel => exact ⟨2, by omega, rfl, k2, b2, (by first | exact fun _ => m1 (by omega) | (intro _ hh; exact absurd hh.1 hs)), (by first | (intro hh; omega) | (intro _ hh; exact absurd hh.1 hs))⟩
  | 2, _ =>
   rw [show ((2 : Nat) : Int) = 2 by rfl]
   have g0 := r0.cell 0
   have g1 := r0.cell 1
   have gf := r0.frozen
   simp only [List.getElem?_toArray, List.getElem?_cons_zero, List.getElem?_cons_succ] at g0 g1
   go_wp2
   refine ret_of (by simp [results, Tryz.results124, go_sem, *]; repeat' (first | rfl | apply And.intro)) rfl ⟨?_, by repeat (first | with_reducible (first | exact Below.refl _ _ | assumption | refine below_drewN ?_ _ | refine Below.drew ?_ | refine below_alloc ?_ _) | (with_reducible refine Below.setCell ?_ ?_ _; rotate_left; ((try simp only); omega)))⟩
   rw [HN.out, if_neg (m1 (by omega)), if_neg (m2 (by omega))]
   rfl
end Go.Proofs.YtpkmiegccfhpnaaGreatDoor
