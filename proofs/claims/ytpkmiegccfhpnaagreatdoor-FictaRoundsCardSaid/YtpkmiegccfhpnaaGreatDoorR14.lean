/- Parts of the proof of LawRounds31: FiLead, SoRow, FiPlain, FiFic, SoCmp. -/
import Derived.Test.YtpkmiegccfhpnaaGreatDoorR13
set_option maxRecDepth 100000
set_option maxHeartbeats 16000000
namespace Go.Proofs.YtpkmiegccfhpnaaGreatDoor
open Go.RowKit Go.Maps
def leadX (l : List (List Ev)) (x : Cad) : List Plc :=
 if x.kind = 3 ∧ freeB l (x.c, (posW (ats (l.getD x.c.toNat [])) x.at_ : Int) - 1) = true ∧ (ivl (l.getD x.c.toNat []) (posW (ats (l.getD x.c.toNat [])) x.at_)).2 = 2 then [(x.c, (posW (ats (l.getD x.c.toNat [])) x.at_ : Int) - 1)] else []
theorem posW_here {m : List Tm} (hs : SA m) {t : Tm} {k : Nat} (h : m[k]? = some t) : posW m t = k :=
 posW_is (fun j x hj hx => by
  have hk := (List.getElem?_eq_some_iff.1 h).1
  have hjl := (List.getElem?_eq_some_iff.1 hx).1
  have := List.pairwise_iff_getElem.1 hs j k hjl hk hj
  rwa [(List.getElem?_eq_some_iff.1 hx).2, (List.getElem?_eq_some_iff.1 h).2] at this) (Nat.le_of_lt (List.getElem?_eq_some_iff.1 h).1) (fun x hx => by rw [h] at hx; cases hx; exact ltT_irr _)
theorem lead_at {l : List (List Ev)} (hl : SetV l) {x : Cad} (h : CadOK l x) : ∃ (c i : Nat) (v : List Ev) (a b : Ev), x.c = (c : Int) ∧ l[c]? = some v ∧ v[i]? = some a ∧ v[i + 1]? = some b ∧ a.rest = false ∧ b.rest = false ∧ x.at_ = b.at_ ∧ posW (ats v) x.at_ = i + 1 ∧ (ats v)[i + 1]? = some x.at_ ∧
  (ivl v (i + 1)) = btw a.pit b.pit ∧ leadX l x = if x.kind = 3 ∧ freeB l ((c : Int), (i : Int)) = true ∧ (btw a.pit b.pit).2 = 2 then [((c : Int), (i : Int))] else [] := by
 obtain ⟨c, i, t, k, h1, h2, h3, h4, h5⟩ := h
 obtain ⟨p1, p2, p3, p4, p5⟩ := cad_parts h1
 have hcl := getD_lt (l := l) (c := c) (i := i) (by omega)
 obtain ⟨v, hv⟩ := get_some hcl
 have hm := List.mem_of_getElem? hv
 rw [getD_at hv] at h2 p2
 obtain ⟨q1, q2, q3, q4, _⟩ := clK_ne (v := v) (i := i) (by omega)
 obtain ⟨j, rfl⟩ : ∃ j, i = j + 1 := ⟨i - 1, by omega⟩
 obtain ⟨a, ha⟩ := get_some (l := v) (k := j) (by omega)
 obtain ⟨b, hb⟩ := get_some q4
 rw [Nat.add_sub_cancel] at q2
 have ra : a.rest = false := by unfold noteB at q2; rw [ha] at q2; simpa using q2
 have rb : b.rest = false := by unfold noteB at q3; rw [hb] at q3; simpa using q3
 have hat : x.at_ = b.at_ := by rw [h2]; unfold atOf; rw [hb]
 have hA : (ats v)[j + 1]? = some x.at_ := by rw [hat]; exact ats_at hb
 have hp := posW_here (ats_sa (hl.val v hm)) hA
 refine ⟨c, j, v, a, b, h3, hv, ha, hb, ra, rb, hat, hp, hA, ivl_two ha hb, ?_⟩
 unfold leadX
 rw [h3, Int.toNat_natCast, getD_at hv, hp, ivl_two ha hb, show (((j + 1 : Nat) : Int)) - 1 = (j : Int) by omega]
theorem lead_mem {l : List (List Ev)} (hl : SetV l) {cs : List Cad} (h1 : ∀ x ∈ cs, CadOK l x) (h2 : ∀ c i t k, CadAt l c i t k = true → ∃ x ∈ cs, Hit l c i t k x) (p : Plc) : p ∈ cs.flatMap (leadX l) ↔ leadB l p = true := by
 rw [List.mem_flatMap]
 constructor
 ·rintro ⟨x, hx, hp⟩
  obtain ⟨c, i, v, a, b, e1, hv, ha, hb, ra, rb, hat, hpos, hA, hiv, hL⟩ := lead_at hl (h1 x hx)
  rw [hL] at hp
  split at hp
  ·rename_i hc
   obtain ⟨k3, kf, kb⟩ := hc
   obtain rfl := List.mem_singleton.1 hp
   unfold leadB
   have hil : i + 1 < (l.getD c []).length := by rw [getD_at hv]; exact (List.getElem?_eq_some_iff.1 hb).1
   have hw := (weak_iff hl.val (c := c) (i := i + 1) hil).2 ⟨x, h1 x hx, k3, e1, by rw [getD_at hv]; unfold atOf; rw [hb]; exact hat⟩
   simp only [Int.toNat_natCast]
   have h3 : (ivl (l.getD c []) (i + 1)).2 = 2 := by rw [getD_at hv, hiv]; exact kb
   rw [kf, hw]
   show (true && (true && decide ((ivl (l.getD c []) (i + 1)).2 = 2))) = true
   rw [decide_eq_true h3]
   rfl
  ·cases hp
 ·intro hb
  unfold leadB at hb
  simp only [Bool.and_eq_true, decide_eq_true_eq] at hb
  obtain ⟨hf, hw, hi2⟩ := hb
  have hev : ∃ x, evA l p = some x := by unfold freeB at hf; split at hf; exact ⟨_, ‹_›⟩; cases hf
  obtain ⟨y, hy⟩ := hev
  obtain ⟨c, i, v, rfl, hv, hyv⟩ := evA_some hy
  simp only [Int.toNat_natCast] at hw hi2
  unfold weakB at hw
  simp only [List.any_eq_true, List.mem_range, Bool.and_eq_true, decide_eq_true_eq] at hw
  obtain ⟨t, _, k, _, hc, hk⟩ := hw
  obtain ⟨x, hx, hhit⟩ := h2 c (i + 1) t k hc
  refine ⟨x, hx, ?_⟩
  obtain ⟨c', i', v', a, b, e1, hv', ha, hb', ra, rb, hat, hpos, hA, hiv, hL⟩ := lead_at hl (h1 x hx)
  obtain ⟨g1, g2, g3⟩ := hhit
  obtain rfl : c' = c := by have := e1.symm.trans g2; omega
  rw [hv] at hv'
  cases hv'
  rw [getD_at hv] at g1 hi2
  have hil : i + 1 < v.length := by
   obtain ⟨_, h3, _⟩ := cad_parts hc
   rw [getD_at hv] at h3
   exact (clK_ne (v := v) (i := i + 1) (by omega)).2.2.2.1
  obtain ⟨z, hz⟩ := get_some hil
  have hzz : x.at_ = z.at_ := by rw [g1]; unfold atOf; rw [hz]
  have hpos2 := posW_here (ats_sa (hl.val v (List.mem_of_getElem? hv))) (show (ats v)[i + 1]? = some x.at_ by rw [hzz]; exact ats_at hz)
  obtain rfl : i' = i := by omega
  rw [hL, if_pos ⟨g3.trans hk, hf, by rw [← hiv]; exact hi2⟩]
  exact List.mem_singleton.2 rfl
theorem lead_next {l : List (List Ev)} {cs : List Cad} {k : Nat} {x : Cad} (h : cs[k]? = some x) : (cs.take (k + 1)).flatMap (leadX l) = (cs.take k).flatMap (leadX l) ++ leadX l x := by
 rw [take_get h, List.flatMap_append]; simp
def LRet (l : List (List Ev)) (db ob ib : Nat) (pd : Option Nat) (dn : Plc → Option Fic) (mo no : Nat) (f : Plc → Option Fic) (w : World) (e : Ending) (w' : World) : Prop :=
 e = .returned (.tuple #[]) ∧ ∃ (no' : Nat) (L : List Plc), no' ≤ no + 300000 ∧ (∀ p, p ∈ L ↔ leadB l p = true) ∧ RInv w w' db ob ib pd dn mo no' (ylds dn 1 1 f L) 1
theorem leading_ok (N : Nat) (hsort : SortsC N) {w : World} {db ob ib mo no : Nat} {pd : Option Nat} {dn f : Plc → Option Fic} (h : YS w db ob ib pd dn mo no f 1) (hno : no ≤ 10) (A : Option Addr) (n c : Nat) (l : List (List Ev)) (B : Nat) (hV : ReadsV w B A n l) (hB : B ≤ mo) (hl : SetV l) (hfew : 200000 ≤ N) (hT : Tabs w) :
  Calls Tryz.prog 63 #[.slice A n c, .func (.func 66) #[] #[.pointer (some ⟨db, 0, none⟩), .pointer (some ⟨ob, 0, none⟩), .pointer (some ⟨ib, 0, none⟩)]] w
   fun e w' => LRet l db ob ib pd dn mo no f w e w' := by
 have hmo := h.out.lt
 have hLN := hV.len
 have hn8 : n ≤ 8 := by have := hl.len; omega
 have q0 := find_ok N hsort A n c l B w hV (by omega) hl hfew hT
 have HV := Lib.hid hV
 have HY := Lib.hid h
 have HT := Lib.hid hT
 have HSL := Lib.hid hl
 have HLN := Lib.hid hLN
 clear h hV hl hLN hT hsort hfew
 go_enter Tryz.func63, Tryz.ntmps63
 go_wp2_with fail
 refine q0.mono ?_
 rintro e w1 ⟨u, cs, rfl, how, hc1, hc2, hlen, hb1⟩
 obtain ⟨Ac, cc, rfl, -, -, hcc⟩ := own_reads how
 have HC1 := Lib.hid hc1
 have HMEM := Lib.hid (lead_mem HSL.out hc1 hc2)
 have HOW := Lib.hid how
 have hs1 := hb1.size
 have inv0 : RInv w w1 db ob ib pd dn mo no f 1 := ⟨HY.out.call hb1, Gb.of_below hb1⟩
 obtain ⟨M, hM⟩ : ∃ z, z = cs.length := ⟨_, rfl⟩
 rw [← hM] at hlen how ⊢
 have HM := Lib.hid hM
 have HTM := Lib.hid (HY.out.out.call hb1)
 have HTB1 := Lib.hid (HT.out.kept hb1)
 clear q0 hc1 hc2 how hb1 hM
 go_wp2_with fail
 go_loopg [7, 8, 9, 10, 11, 12, 20] M (fun gh _ _ _ _ _ _ i wr => ∃ (k no' : Nat), k + gh = M ∧ i = .int .i64 (k : Int) ∧ no' ≤ no + k ∧ w1.grownBy wr (some mo) ∧ RInv w wr db ob ib pd dn mo no' (ylds dn 1 1 f ((cs.take k).flatMap (leadX l))) 1)
 case atStart => exact ⟨0, no, by omega, by simp, by omega, Gb.refl _ _, inv0⟩
 case round =>
  clear inv0
  obtain ⟨k, no', hkg, rfl, hno', hg1, inv⟩ := hrel
  have wk : IntKind.i64.wrap ((k : Int) + 1) = (k : Int) + 1 := IntWalk.i64_in _ (by omega)
  cases gk with
  | zero =>
   have hk : k = M := by omega
   subst hk
   have d0 : ¬ ((k : Int) < (k : Int)) := by omega
   have HTK := Lib.hid (show cs.take k = cs by rw [HM.out]; exact List.take_length)
   go_wp2
   refine bodyPost_end (results_none rfl _ _ _) rfl ?_
   rw [HTK.out] at inv
   exact ⟨rfl, no', cs.flatMap (leadX l), by omega, HMEM.out, inv⟩
  | succ gh =>
   have hkn : k < M := by omega
   have d0 : (k : Int) < (M : Int) := by omega
   obtain ⟨x, hx⟩ := get_some (l := cs) (k := k) (by have := HM.out; omega)
   have hcm := HC1.out x (List.mem_of_getElem? hx)
   have hr1 := own_gb_hi HOW.out hg1 hmo
   obtain ⟨Ac', cc', hAc, hrd, -, -⟩ := own_reads hr1
   cases hAc
   obtain ⟨bc, oc, rfl, hbc, hce⟩ := Reads.elem (f := cCad) (fun _ => rfl) hrd (k := k) (by have := HM.out; omega) hx
   have hall : ∀ j v, (cCad x)[j]? = some v → wr.cell? ⟨bc, oc + k * 7 + j, none⟩ = some v := fun j v hj => by rw [Nat.add_assoc]; exact hce j v hj
   have C0 : wr.cell? ⟨bc, oc + k * 7, none⟩ = some (.int .i64 x.at_.1) := by have h0 := hall 0 _ rfl; simpa using h0
   have C1 := hall 1 _ rfl
   have C2 := hall 2 _ rfl
   have C3 := hall 3 _ rfl
   have C4 := hall 4 _ rfl
   have C5 := hall 5 _ rfl
   have C6 := hall 6 _ rfl
   obtain ⟨c0, i, v, a, b, e1, hv, ha, hb, ra, rb, hat, hpos, hA, hiv, hL⟩ := lead_at HSL.out hcm
   have HN := Lib.hid (show (cs.take (k + 1)).flatMap (leadX l) = (cs.take k).flatMap (leadX l) ++ leadX l x from lead_next hx)
   have HLX := Lib.hid hL
   have hm := List.mem_of_getElem? hv
   have hvl := HSL.out.few v hm
   have hval := HSL.out.val v hm
   have hokx : ok x.at_ := by rw [hat]; exact (val_mem hval b (List.mem_of_getElem? hb)).1
   have hcn : c0 < n := by have := (List.getElem?_eq_some_iff.1 hv).1; have := HLN.out; omega
   have hil : i + 1 < v.length := (List.getElem?_eq_some_iff.1 hb).1
   have hpa := HSL.out.pits v hm a (List.mem_of_getElem? ha) ra
   have hpb := HSL.out.pits v hm b (List.mem_of_getElem? hb) rb
   have rVr := HV.out.under (inv.low hB hmo)
   have hBr : B ≤ wr.heap.size := by have := inv.gb.size; omega
   obtain ⟨bv, ov, A', n', c', rfl, hbv, cv, rv, hn', hvn⟩ := rVr.voice hBr (Below.refl _ _) hcn hv
   obtain ⟨be, oe, rfl, hbe, hcb⟩ := rv.ev hBr (Below.refl _ _) (show i + 1 < n' by omega) hb
   obtain ⟨-, -, -, -, E4, E5, E6, -, -, -⟩ := ten hcb
   have qb := fun W (hW : Below wr.heap.size wr W) => binE_any (some ⟨be, oe, none⟩) n' c' v x.at_ B W (rv.below hBr hW) (Nat.le_trans hBr hW.size) (by omega) hval hokx
   rw [hpos, hA, decide_eq_true rfl] at qb
   have hya := evA_nat hv ha
   have qo := fun W (hW : Below wr.heap.size wr W) => of_ok (some ⟨bv, ov, none⟩) n c l B W (rVr.below hBr hW) (Nat.le_trans hBr hW.size) hya
   have qf := fun W (hW : Below wr.heap.size wr W) => free_ok (some ⟨bv, ov, none⟩) n c l B W (rVr.below hBr hW) (Nat.le_trans hBr hW.size) hya
   have HTr : Tabs wr := HTB1.out.gb HTM.out hg1
   have qw := fun W (hW : Below wr.heap.size wr W) => btw_ok a.pit b.pit hpa hpb W (HTr.kept hW)
   obtain ⟨m, hm1⟩ : ∃ m, m = i + 1 := ⟨_, rfl⟩
   rw [← hm1] at qb E4 E5 E6 hil
   have a1 : (m : Int) - 1 = (i : Int) := by omega
   have a2 : IntKind.i64.wrap (i : Int) = (i : Int) := IntWalk.i64_in _ (by omega)
   have a3n : m < n' := by omega
   have a3 : (m : Int) < (n' : Int) := by omega
   have a4 : ((m : Int) == 0) = false := by simp; omega
   have a5 : (c0 : Int) < (n : Int) := by omega
   have a6 : i ≤ 2000 := by omega
   have HM1 := Lib.hid hm1
   clear hm1
   obtain ⟨at0, xc, xt, xb, xs, xk⟩ := x
   obtain ⟨t0, t1⟩ := at0
   simp only at e1 C0 C1 C2 C3 C4 C5 C6 qb HLX hokx
   subst e1
   have hk0 := inv.gb.size
   by_cases hkd : xk = 3
   ·have hkb : (xk != 3) = false := by simp [hkd]
    have C7 := Lib.hid (show leadX l ⟨(t0, t1), (c0 : Int), xt, xb, xs, xk⟩ = if freeB l ((c0 : Int), (i : Int)) = true ∧ (btw a.pit b.pit).2 = 2 then [((c0 : Int), (i : Int))] else [] from HLX.out.trans (by simp [hkd]))
    clear hkd HLX hL hrd hall hce hx HTr hcb hokx
    go_wp2_with fail
    obtain ⟨w5, hw5⟩ : ∃ z, z = wr.alloc (.cells #[.int .i64 t0, .int .i64 t1, .int .i64 (c0 : Int), .int .i64 xt, .int .i64 xb, .int .i64 xs, .int .i64 xk] 126) := ⟨_, rfl⟩
    have B5 : Blk w5 wr.heap.size 126 #[.int .i64 t0, .int .i64 t1, .int .i64 (c0 : Int), .int .i64 xt, .int .i64 xb, .int .i64 xs, .int .i64 xk] := by rw [hw5]; exact Blk.new _ _ _
    have k5 : Below wr.heap.size wr w5 := by rw [hw5]; exact below_alloc (Below.refl _ _) _
    rw [← hw5]
    obtain ⟨g7, hg7⟩ : ∃ z, z = wr.heap.size := ⟨_, rfl⟩
    rw [← hg7] at B5 ⊢
    have hg7m : mo < g7 := by omega
    have cB := B5.cell
    have zB := B5.lt
    have cv5 := (k5.cell (p := ⟨bv, ov + c0, none⟩) hbv).trans cv
    have lv5 : bv < w5.heap.size := by have := k5.size; omega
    clear hw5 hg7 C0 C1 C2 C3 C4 C5 C6
    go_wp2_with fail
    refine wp_region_calm (by kernel_rfl) (by kernel_rfl) ?_
    repeat (go_big_quiet_step ((go_at_call 86; with_reducible exact calm_call (qb _ (below_call k5 (Calm.h _))))))
    refine wpQuiet_nil ?_
    intro w6 g6
    have k6 := below_call k5 g6
    have B6 := B5.kept g6
    clear cB zB qb cv5 lv5
    have cB := B6.cell
    have zB := B6.lt
    go_wp2_with fail
    obtain ⟨wv, hwv⟩ : ∃ z, z = w6.alloc (.cells #[.int .i64 (c0 : Int), .int .i64 (i : Int)] 61) := ⟨_, rfl⟩
    have B10 : Blk wv w6.heap.size 61 #[.int .i64 (c0 : Int), .int .i64 (i : Int)] := by rw [hwv]; exact Blk.new _ _ _
    have kv : Below wr.heap.size wr wv := by rw [hwv]; exact below_alloc k6 _
    have B7 : Blk wv g7 126 #[.int .i64 t0, .int .i64 t1, .int .i64 (c0 : Int), .int .i64 xt, .int .i64 xb, .int .i64 xs, .int .i64 xk] := by rw [hwv]; exact B6.alloc _
    rw [← hwv]
    obtain ⟨g10, hg10⟩ : ∃ z, z = w6.heap.size := ⟨_, rfl⟩
    rw [← hg10] at B10 ⊢
    have hvs := kv.size
    have l7 := B7.lt
    have l10 := B10.lt
    have D2 := B7.cell 2
    have P0 := B10.cell 0
    have P1 := B10.cell 1
    have V0 := (kv.cell (p := ⟨bv, ov + c0, none⟩) hbv).trans cv
    have F4 := (kv.cell (p := ⟨be, oe + m * 10 + 4, none⟩) hbe).trans E4
    have F5 := (kv.cell (p := ⟨be, oe + m * 10 + 5, none⟩) hbe).trans E5
    have F6 := (kv.cell (p := ⟨be, oe + m * 10 + 6, none⟩) hbe).trans E6
    have lbv : bv < wv.heap.size := by omega
    have lbe : be < wv.heap.size := by omega
    simp only [List.getElem?_toArray, List.getElem?_cons_zero, List.getElem?_cons_succ] at D2 P0 P1
    have HB10 := Lib.hid B10
    have KV := Lib.hid kv
    obtain ⟨⟨y0, y1⟩, ⟨y2, y3⟩, ⟨y4, y5, y6⟩, ry, y8, y9⟩ := a
    obtain ⟨⟨z0, z1⟩, ⟨z2, z3⟩, ⟨z4, z5, z6⟩, rz, z8, z9⟩ := b
    simp only at F4 F5 F6 qw qo
    rw [show (cE ⟨(y0, y1), (y2, y3), (y4, y5, y6), ry, y8, y9⟩).toArray = #[.int .i64 y0, .int .i64 y1, .int .i64 y2, .int .i64 y3, .int .i64 y4, .int .i64 y5, .int .i64 y6, .bool ry, .int .i64 y8, .int .i64 y9] from rfl] at qo
    have hf2 : ∀ (w : World), (Instr.field 49 (.agg #[.int .i64 y0, .int .i64 y1, .int .i64 y2, .int .i64 y3, .int .i64 y4, .int .i64 y5, .int .i64 y6, .bool ry, .int .i64 y8, .int .i64 y9]) 2).run Tryz.prog w = .ok (.agg #[.int .i64 y4, .int .i64 y5, .int .i64 y6]) w := fun _ => by kernel_rfl
    have C7 := Lib.hid (show leadX l ⟨(t0, t1), (c0 : Int), xt, xb, xs, xk⟩ = if freeB l ((c0 : Int), (i : Int)) = true ∧ (btw (y4, y5, y6) (z4, z5, z6)).2 = 2 then [((c0 : Int), (i : Int))] else [] from C7.out)
    obtain ⟨⟨st, hf⟩, hsh⟩ : ∃ z, z = btw (y4, y5, y6) (z4, z5, z6) := ⟨_, rfl⟩
    rw [← hsh] at qw C7
    simp only at qw
    clear hsh hwv hg10 B5 B6 B7 B10 cB zB g6 k6 k5 E4 E5 E6 cv hbv hbe hvs kv
    apply share
    ·intro main
     have sT := Lib.hid (show ∀ w, Below wv.heap.size wv w → (∀ o, w.cell? ⟨g7, o, none⟩ = wv.cell? ⟨g7, o, none⟩) ∧ (∀ o, w.cell? ⟨g10, o, none⟩ = wv.cell? ⟨g10, o, none⟩) ∧ w.cell? ⟨bv, ov + c0, none⟩ = wv.cell? ⟨bv, ov + c0, none⟩ ∧ ∀ o, w.cell? ⟨be, o, none⟩ = wv.cell? ⟨be, o, none⟩ from fun w h => ⟨fun o => h.cell (p := ⟨g7, o, none⟩) l7, fun o => h.cell (p := ⟨g10, o, none⟩) l10, h.cell (p := ⟨bv, ov + c0, none⟩) lbv, fun o => h.cell (p := ⟨be, o, none⟩) lbe⟩)
     refine wp_region_held (S := fun w' => Below wv.heap.size wv w') (by kernel_rfl) ?_
     have hHeld : Below wv.heap.size wv wv.drew := (Below.refl _ _).drew
     show wpAnyH _ _ _ _ _ _ _ _ wv.drew
     refine wpAnyH_take (i := 0) (oi := _) (v := ?_) rfl (by kernel_rfl) (by kernel_rfl) (by kernel_rfl) (fun _ _ _ h => h) (Or.inl ⟨by rfl, ?_⟩) hHeld ?_
     rotate_left 1
     ·(intro w hS; (try dsimp only at hS); obtain ⟨h1, h2, h3, h4⟩ := sT.out w hS; clear hS; go_simp; try with_reducible rfl)
     simp only [Act.put]
     refine wpAnyH_take (i := 1) (oi := _) (v := ?_) rfl (by kernel_rfl) (by kernel_rfl) (by kernel_rfl) (fun _ _ _ h => h) (Or.inl ⟨by rfl, ?_⟩) hHeld ?_
     rotate_left 1
     ·(intro w hS; (try dsimp only at hS); obtain ⟨h1, h2, h3, h4⟩ := sT.out w hS; clear hS; go_simp; try with_reducible rfl)
     simp only [Act.put]
     refine wpAnyH_take (i := 4) (oi := _) (v := ?_) rfl (by kernel_rfl) (by kernel_rfl) (by kernel_rfl) (fun _ _ _ h => h) (Or.inl ⟨by rfl, ?_⟩) hHeld ?_
     rotate_left 1
     ·(intro w hS; (try dsimp only at hS); obtain ⟨h1, h2, h3, h4⟩ := sT.out w hS; clear hS; go_simp; try with_reducible rfl)
     simp only [Act.put]
     refine wpAnyH_take (i := 5) (oi := _) (v := ?_) rfl (by kernel_rfl) (by kernel_rfl) (by kernel_rfl) (fun _ _ _ h => h) (Or.inl ⟨by rfl, ?_⟩) hHeld ?_
     rotate_left 1
     ·(intro w hS; (try dsimp only at hS); obtain ⟨h1, h2, h3, h4⟩ := sT.out w hS; clear hS; go_simp; try with_reducible rfl)
     simp only [Act.put]
     refine wpAnyH_take (i := 6) (oi := _) (v := ?_) rfl (by kernel_rfl) (by kernel_rfl) (by kernel_rfl) (fun _ _ _ h => h) (Or.inl ⟨by rfl, ?_⟩) hHeld ?_
     rotate_left 1
     ·(intro w hS; (try dsimp only at hS); obtain ⟨h1, h2, h3, h4⟩ := sT.out w hS; clear hS; go_simp; try with_reducible rfl)
     simp only [Act.put]
     refine wpAnyH_take (i := 7) (oi := _) (v := ?_) rfl (by kernel_rfl) (by kernel_rfl) (by kernel_rfl) (fun _ _ _ h => h) (Or.inl ⟨by rfl, ?_⟩) hHeld ?_
     rotate_left 1
     ·(intro w hS; (try dsimp only at hS); obtain ⟨h1, h2, h3, h4⟩ := sT.out w hS; clear hS; go_simp; try with_reducible rfl)
     simp only [Act.put]
     refine wpAnyH_take (i := 8) (oi := _) (v := ?_) rfl (by kernel_rfl) (by kernel_rfl) (by kernel_rfl) (fun _ _ _ h => h) (Or.inl ⟨by rfl, ?_⟩) hHeld ?_
     rotate_left 1
     ·(intro w hS; (try dsimp only at hS); obtain ⟨h1, h2, h3, h4⟩ := sT.out w hS; clear hS; go_simp; try with_reducible rfl)
     simp only [Act.put]
     refine wpAnyH_take (i := 9) (oi := _) (v := ?_) rfl (by kernel_rfl) (by kernel_rfl) (by kernel_rfl) (fun _ _ _ h => h) (Or.inl ⟨by rfl, ?_⟩) hHeld ?_
     rotate_left 1
     ·(intro w hS; (try dsimp only at hS); obtain ⟨h1, h2, h3, h4⟩ := sT.out w hS; clear hS; go_simp; try with_reducible rfl)
     simp only [Act.put]
     refine wpAnyH_take (i := 10) (oi := _) (v := ?_) rfl (by kernel_rfl) (by kernel_rfl) (by kernel_rfl) (fun _ _ _ h => h) (Or.inl ⟨by rfl, ?_⟩) hHeld ?_
     rotate_left 1
     ·(intro w hS; (try dsimp only at hS); obtain ⟨h1, h2, h3, h4⟩ := sT.out w hS; clear hS; go_simp; try with_reducible rfl)
     simp only [Act.put]
     refine wpAnyH_take (i := 11) (oi := _) (v := ?_) rfl (by kernel_rfl) (by kernel_rfl) (by kernel_rfl) (fun _ _ _ h => h) (Or.inl ⟨by rfl, ?_⟩) hHeld ?_
     rotate_left 1
     ·(intro w hS; (try dsimp only at hS); obtain ⟨h1, h2, h3, h4⟩ := sT.out w hS; clear hS; go_simp; try with_reducible rfl)
     simp only [Act.put]
     refine wpAnyH_take (i := 12) (oi := _) (v := ?_) rfl (by kernel_rfl) (by kernel_rfl) (by kernel_rfl) (fun _ _ _ h => h) (Or.inl ⟨by rfl, ?_⟩) hHeld ?_
     rotate_left 1
     ·(intro w hS; (try dsimp only at hS); obtain ⟨h1, h2, h3, h4⟩ := sT.out w hS; clear hS; go_simp; try with_reducible rfl)
     simp only [Act.put]
     refine wpAnyH_ready (rs := [2,17]) (by kernel_rfl) (by simp) ?_
     refine AllReadyH.cons (o := _) rfl (fun K hK => ?_) (AllReadyH.cons (o := _) rfl (fun K hK => ?_) (AllReadyH.nil))
     ·rw [if_pos (by rfl)]
      go_simp
      refine Calls.mono (qo _ (below_call KV.out ((Below.refl wv.heap.size wv).drew))) ?_
      rintro e1 we1 ⟨rfl, hbe1⟩
      have hH1 := below_call ((Below.refl wv.heap.size wv).drew) hbe1
      refine hK.out _ _ hH1 (fun hHeld => ?_)
      clear hK
      refine wpAnyH_take (i := 3) (oi := _) (v := ?_) rfl (by kernel_rfl) (by kernel_rfl) (by kernel_rfl) (fun _ _ _ h => h) (Or.inl ⟨by rfl, ?_⟩) hHeld ?_
      rotate_left 1
      ·(intro w hS; (try dsimp only at hS); obtain ⟨h1, h2, h3, h4⟩ := sT.out w hS; clear hS; go_simp; try with_reducible rfl)
      simp only [Act.put]
      refine wpAnyH_ready (rs := [13,17]) (by kernel_rfl) (by simp) ?_
      refine AllReadyH.cons (o := _) rfl (fun K hK => ?_) (AllReadyH.cons (o := _) rfl (fun K hK => ?_) (AllReadyH.nil))
      ·rw [if_pos (by rfl)]
       go_simp
       refine Calls.mono (qw _ (below_call KV.out hH1)) ?_
       rintro e2 we2 ⟨rfl, hbe2⟩
       have hH2 := below_call hH1 hbe2
       refine hK.out _ _ hH2 (fun hHeld => ?_)
       clear hK
       refine wpAnyH_take (i := 14) (oi := _) (v := ?_) rfl (by kernel_rfl) (by kernel_rfl) (by kernel_rfl) (fun _ _ _ h => h) (Or.inl ⟨by rfl, ?_⟩) hHeld ?_
       rotate_left 1
       ·(intro w hS; (try dsimp only at hS); obtain ⟨h1, h2, h3, h4⟩ := sT.out w hS; clear hS; go_simp; try with_reducible rfl)
       simp only [Act.put]
       refine wpAnyH_take (i := 15) (oi := _) (v := ?_) rfl (by kernel_rfl) (by kernel_rfl) (by kernel_rfl) (fun _ _ _ h => h) (Or.inl ⟨by rfl, ?_⟩) hHeld ?_
       rotate_left 1
       ·(intro w hS; (try dsimp only at hS); obtain ⟨h1, h2, h3, h4⟩ := sT.out w hS; clear hS; go_simp; try with_reducible rfl)
       simp only [Act.put]
       refine wpAnyH_take (i := 16) (oi := _) (v := ?_) rfl (by kernel_rfl) (by kernel_rfl) (by kernel_rfl) (fun _ _ _ h => h) (Or.inl ⟨by rfl, ?_⟩) hHeld ?_
       rotate_left 1
       ·(intro w hS; (try dsimp only at hS); obtain ⟨h1, h2, h3, h4⟩ := sT.out w hS; clear hS; go_simp; try with_reducible rfl)
       simp only [Act.put]
       refine wpAnyH_ready (rs := [17]) (by kernel_rfl) (by simp) ?_
       refine AllReadyH.cons (o := _) rfl (fun K hK => ?_) (AllReadyH.nil)
       rw [if_pos (by rfl)]
       go_simp
       have hH3 := below_alloc hH2 (.cells #[.int .i64 0, .int .i64 0] 131)
       refine hK.out _ _ hH3 (fun hHeld => ?_)
       clear hK
       have bk3 : Blk (we2.alloc (.cells #[.int .i64 0, .int .i64 0] 131)) we2.heap.size 131 #[.int .i64 0, .int .i64 0] := Blk.new _ _ _
       refine wpAnyH_ready (rs := [18]) (by kernel_rfl) (by simp) ?_
       refine AllReadyH.cons (o := _) rfl (fun K hK => ?_) (AllReadyH.nil)
       rw [if_pos (by rfl)]
       go_simp
       have hz1 := hH2.size
       have hH4 := below_alloc hH2 (.cells #[.int .i64 st, .int .i64 hf] 131)
       refine hK.out _ _ hH4 (fun hHeld => ?_)
       clear hK
       have bx3 := Blk.new we2 131 #[.int .i64 st, .int .i64 hf]
       refine wpAnyH_ready (rs := [19]) (by kernel_rfl) (by simp) ?_
       refine AllReadyH.cons (o := _) rfl (fun K hK => ?_) (AllReadyH.nil)
       rw [if_pos (by rfl)]
       go_simp
       refine hK.out _ _ hH4 (fun hHeld => ?_)
       clear hK
       refine wpAnyH_done (by kernel_rfl) ?_ _
       obtain ⟨w9, hw9⟩ := name_world hH4
       rw [← hw9] at hH4 bx3 ⊢
       obtain ⟨gx, hgx⟩ : ∃ z, z = we2.heap.size := ⟨_, rfl⟩
       rw [← hgx] at bx3 ⊢
       have hle2 : wv.heap.size ≤ gx := by rw [hgx]; have := hH2.size; omega
       clear hw9 hgx
       revert hle2
       revert bx3
       revert gx
       revert hH4
       revert w9
       exact main.out
      ·rw [if_pos (by rfl)]
       go_simp
       have hH2 := below_alloc hH1 (.cells #[.int .i64 0, .int .i64 0] 131)
       refine hK.out _ _ hH2 (fun hHeld => ?_)
       clear hK
       have bk2 : Blk (we1.alloc (.cells #[.int .i64 0, .int .i64 0] 131)) we1.heap.size 131 #[.int .i64 0, .int .i64 0] := Blk.new _ _ _
       refine wpAnyH_ready (rs := [13]) (by kernel_rfl) (by simp) ?_
       refine AllReadyH.cons (o := _) rfl (fun K hK => ?_) (AllReadyH.nil)
       rw [if_pos (by rfl)]
       go_simp
       refine Calls.mono (qw _ (below_call KV.out hH2)) ?_
       rintro e3 we3 ⟨rfl, hbe3⟩
       have hH3 := below_call hH2 hbe3
       have bk3 := bk2.kept hbe3
       refine hK.out _ _ hH3 (fun hHeld => ?_)
       clear hK
       refine wpAnyH_take (i := 14) (oi := _) (v := ?_) rfl (by kernel_rfl) (by kernel_rfl) (by kernel_rfl) (fun _ _ _ h => h) (Or.inl ⟨by rfl, ?_⟩) hHeld ?_
       rotate_left 1
       ·(intro w hS; (try dsimp only at hS); obtain ⟨h1, h2, h3, h4⟩ := sT.out w hS; clear hS; go_simp; try with_reducible rfl)
       simp only [Act.put]
       refine wpAnyH_take (i := 15) (oi := _) (v := ?_) rfl (by kernel_rfl) (by kernel_rfl) (by kernel_rfl) (fun _ _ _ h => h) (Or.inl ⟨by rfl, ?_⟩) hHeld ?_
       rotate_left 1
       ·(intro w hS; (try dsimp only at hS); obtain ⟨h1, h2, h3, h4⟩ := sT.out w hS; clear hS; go_simp; try with_reducible rfl)
       simp only [Act.put]
       refine wpAnyH_take (i := 16) (oi := _) (v := ?_) rfl (by kernel_rfl) (by kernel_rfl) (by kernel_rfl) (fun _ _ _ h => h) (Or.inl ⟨by rfl, ?_⟩) hHeld ?_
       rotate_left 1
       ·(intro w hS; (try dsimp only at hS); obtain ⟨h1, h2, h3, h4⟩ := sT.out w hS; clear hS; go_simp; try with_reducible rfl)
       simp only [Act.put]
       refine wpAnyH_ready (rs := [18]) (by kernel_rfl) (by simp) ?_
       refine AllReadyH.cons (o := _) rfl (fun K hK => ?_) (AllReadyH.nil)
       rw [if_pos (by rfl)]
       have lx := bk3.lt
       have cx0 := bk3.cell 0
       have cx1 := bk3.cell 1
       have fx0 := bk3.frozen 0
       have fx1 := bk3.frozen 1
       simp only [List.getElem?_toArray, List.getElem?_cons_zero, List.getElem?_cons_succ] at cx0 cx1
       go_simp
       have hH4 : Below wv.heap.size wv ((we3.setCell ⟨we1.heap.size, 0, none⟩ (.int .i64 st)).setCell ⟨we1.heap.size, 1, none⟩ (.int .i64 hf)) := (Below.setCell (Below.setCell hH3 (by show wv.heap.size ≤ _; have hq := hH1.size; omega) _) (by show wv.heap.size ≤ _; have hq := hH1.size; omega) _)
       refine hK.out _ _ hH4 (fun hHeld => ?_)
       clear hK
       have bx3 : Blk ((we3.setCell ⟨we1.heap.size, 0, none⟩ (.int .i64 st)).setCell ⟨we1.heap.size, 1, none⟩ (.int .i64 hf)) (we1.heap.size) 131 #[.int .i64 st, .int .i64 hf] := Blk.set_to (Blk.set_to bk3 rfl) rfl
       refine wpAnyH_ready (rs := [19]) (by kernel_rfl) (by simp) ?_
       refine AllReadyH.cons (o := _) rfl (fun K hK => ?_) (AllReadyH.nil)
       rw [if_pos (by rfl)]
       go_simp
       refine hK.out _ _ hH4 (fun hHeld => ?_)
       clear hK
       refine wpAnyH_done (by kernel_rfl) ?_ _
       obtain ⟨w9, hw9⟩ := name_world hH4
       rw [← hw9] at hH4 bx3 ⊢
       obtain ⟨gx, hgx⟩ : ∃ z, z = we1.heap.size := ⟨_, rfl⟩
       rw [← hgx] at bx3 ⊢
       have hle2 : wv.heap.size ≤ gx := by rw [hgx]; have hq := hH1.size; omega
       clear hw9 hgx
       revert hle2
       revert bx3
       revert gx
       revert hH4
       revert w9
       exact main.out
     ·rw [if_pos (by rfl)]
      go_simp
      have hH1 := below_alloc ((Below.refl wv.heap.size wv).drew) (.cells #[.int .i64 0, .int .i64 0] 131)
      refine hK.out _ _ hH1 (fun hHeld => ?_)
      clear hK
      have bk1 : Blk (wv.drew.alloc (.cells #[.int .i64 0, .int .i64 0] 131)) wv.heap.size 131 #[.int .i64 0, .int .i64 0] := Blk.new _ _ _
      refine wpAnyH_ready (rs := [2]) (by kernel_rfl) (by simp) ?_
      refine AllReadyH.cons (o := _) rfl (fun K hK => ?_) (AllReadyH.nil)
      rw [if_pos (by rfl)]
      go_simp
      refine Calls.mono (qo _ (below_call KV.out hH1)) ?_
      rintro e2 we2 ⟨rfl, hbe2⟩
      have hH2 := below_call hH1 hbe2
      have bk2 := bk1.kept hbe2
      refine hK.out _ _ hH2 (fun hHeld => ?_)
      clear hK
      refine wpAnyH_take (i := 3) (oi := _) (v := ?_) rfl (by kernel_rfl) (by kernel_rfl) (by kernel_rfl) (fun _ _ _ h => h) (Or.inl ⟨by rfl, ?_⟩) hHeld ?_
      rotate_left 1
      ·(intro w hS; (try dsimp only at hS); obtain ⟨h1, h2, h3, h4⟩ := sT.out w hS; clear hS; go_simp; try with_reducible rfl)
      simp only [Act.put]
      refine wpAnyH_ready (rs := [13]) (by kernel_rfl) (by simp) ?_
      refine AllReadyH.cons (o := _) rfl (fun K hK => ?_) (AllReadyH.nil)
      rw [if_pos (by rfl)]
      go_simp
      refine Calls.mono (qw _ (below_call KV.out hH2)) ?_
      rintro e3 we3 ⟨rfl, hbe3⟩
      have hH3 := below_call hH2 hbe3
      have bk3 := bk2.kept hbe3
      refine hK.out _ _ hH3 (fun hHeld => ?_)
      clear hK
      refine wpAnyH_take (i := 14) (oi := _) (v := ?_) rfl (by kernel_rfl) (by kernel_rfl) (by kernel_rfl) (fun _ _ _ h => h) (Or.inl ⟨by rfl, ?_⟩) hHeld ?_
      rotate_left 1
      ·(intro w hS; (try dsimp only at hS); obtain ⟨h1, h2, h3, h4⟩ := sT.out w hS; clear hS; go_simp; try with_reducible rfl)
      simp only [Act.put]
      refine wpAnyH_take (i := 15) (oi := _) (v := ?_) rfl (by kernel_rfl) (by kernel_rfl) (by kernel_rfl) (fun _ _ _ h => h) (Or.inl ⟨by rfl, ?_⟩) hHeld ?_
      rotate_left 1
      ·(intro w hS; (try dsimp only at hS); obtain ⟨h1, h2, h3, h4⟩ := sT.out w hS; clear hS; go_simp; try with_reducible rfl)
      simp only [Act.put]
      refine wpAnyH_take (i := 16) (oi := _) (v := ?_) rfl (by kernel_rfl) (by kernel_rfl) (by kernel_rfl) (fun _ _ _ h => h) (Or.inl ⟨by rfl, ?_⟩) hHeld ?_
      rotate_left 1
      ·(intro w hS; (try dsimp only at hS); obtain ⟨h1, h2, h3, h4⟩ := sT.out w hS; clear hS; go_simp; try with_reducible rfl)
      simp only [Act.put]
      refine wpAnyH_ready (rs := [18]) (by kernel_rfl) (by simp) ?_
      refine AllReadyH.cons (o := _) rfl (fun K hK => ?_) (AllReadyH.nil)
      rw [if_pos (by rfl)]
      have lx := bk3.lt
      have cx0 := bk3.cell 0
      have cx1 := bk3.cell 1
      have fx0 := bk3.frozen 0
      have fx1 := bk3.frozen 1
      simp only [List.getElem?_toArray, List.getElem?_cons_zero, List.getElem?_cons_succ] at cx0 cx1
      go_simp
      have hH4 : Below wv.heap.size wv ((we3.setCell ⟨wv.heap.size, 0, none⟩ (.int .i64 st)).setCell ⟨wv.heap.size, 1, none⟩ (.int .i64 hf)) := (Below.setCell (Below.setCell hH3 (by show wv.heap.size ≤ _; exact Nat.le_refl _) _) (by show wv.heap.size ≤ _; exact Nat.le_refl _) _)
      refine hK.out _ _ hH4 (fun hHeld => ?_)
      clear hK
      have bx3 : Blk ((we3.setCell ⟨wv.heap.size, 0, none⟩ (.int .i64 st)).setCell ⟨wv.heap.size, 1, none⟩ (.int .i64 hf)) (wv.heap.size) 131 #[.int .i64 st, .int .i64 hf] := Blk.set_to (Blk.set_to bk3 rfl) rfl
      refine wpAnyH_ready (rs := [19]) (by kernel_rfl) (by simp) ?_
      refine AllReadyH.cons (o := _) rfl (fun K hK => ?_) (AllReadyH.nil)
      rw [if_pos (by rfl)]
      go_simp
      refine hK.out _ _ hH4 (fun hHeld => ?_)
      clear hK
      refine wpAnyH_done (by kernel_rfl) ?_ _
      obtain ⟨w9, hw9⟩ := name_world hH4
      rw [← hw9] at hH4 bx3 ⊢
      obtain ⟨gx, hgx⟩ : ∃ z, z = wv.heap.size := ⟨_, rfl⟩
      rw [← hgx] at bx3 ⊢
      have hle2 : wv.heap.size ≤ gx := by rw [hgx]; exact Nat.le_refl _
      clear hw9 hgx
      revert hle2
      revert bx3
      revert gx
      revert hH4
      revert w9
      exact main.out
    intro w9 hB9 gx bx9 hle
    have k9 := below_call KV.out hB9
    have bp9 := HB10.out.kept hB9
    clear D2 P0 P1 V0 F4 F5 F6 l7 l10 qo qw
    have hwz := KV.out.size
    have cP := bp9.cell
    have zP := bp9.lt
    have cX := bx9.cell
    have zX := bx9.lt
    have inv9 := inv.call k9
    have hg9 := Gb.call hg1 k9
    have HNO := Lib.hid (fun (wq : World) (hbq : Below w9.heap.size w9 wq) (h0 : leadX l ⟨(t0, t1), (c0 : Int), xt, xb, xs, xk⟩ = []) => show w1.grownBy wq (some mo) ∧ RInv w wq db ob ib pd dn mo no' (ylds dn 1 1 f ((cs.take (k + 1)).flatMap (leadX l))) 1 by rw [HN.out, h0, List.append_nil]; exact ⟨Gb.call hg9 hbq, inv9.call hbq⟩)
    obtain ⟨fb, hfb⟩ : ∃ z, z = freeB l ((c0 : Int), (i : Int)) := ⟨_, rfl⟩
    rw [← hfb] at qf C7
    clear hfb hg1 inv
    go_wp2_with fail
    refine (qf _ (by repeat (first | with_reducible (first | exact Below.refl _ _ | assumption | refine below_drewN ?_ _ | refine Below.drew ?_ | refine below_alloc ?_ _) | (with_reducible refine Below.setCell ?_ ?_ _; rotate_left; ((try simp only); omega))))).mono ?_
    rintro e2 w10 ⟨rfl, hb10⟩
    have bp10 := bp9.kept hb10
    have bx10 := bx9.kept hb10
    clear cP zP cX zX qf
    have cP := bp10.cell
    have zP := bp10.lt
    have cX := bx10.cell
    have zX := bx10.lt
    cases fb with
    | false =>
     have R := Lib.hid (fun wq hbq => HNO.out wq hbq (C7.out.trans (if_neg (by simp))))
     clear HNO C7
     go_wp2
     go_roundg gh
     case measure => omega
     case rel => exact ⟨k + 1, no', by omega, by go_num, by omega, (R.out _ (by repeat (first | with_reducible (first | exact Below.refl _ _ | assumption | refine below_drewN ?_ _ | refine Below.drew ?_ | refine below_alloc ?_ _) | (with_reducible refine Below.setCell ?_ ?_ _; rotate_left; ((try simp only); omega))))).1, (R.out _ (by repeat (first | with_reducible (first | exact Below.refl _ _ | assumption | refine below_drewN ?_ _ | refine Below.drew ?_ | refine below_alloc ?_ _) | (with_reducible refine Below.setCell ?_ ?_ _; rotate_left; ((try simp only); omega))))).2⟩
    | true =>
    by_cases h2 : hf = 2
    ·have h2b : (hf == 2) = true := by simpa using h2
     have h0 := C7.out.trans (if_pos ⟨rfl, h2⟩)
     have hn3 : no' ≤ 100000000 := by omega
     have qy := fun W (hW : Below w9.heap.size w9 W) => yield_ok (inv9.ys.call hW) hn3 (by omega) ((c0 : Int), (i : Int)) (by unfold okI; simp only; omega) 1
     simp only at qy
     have HY9 := Lib.hid (fun (w11 : World) (hy : YS w11 db ob ib pd dn mo (no' + 1) (yld dn 1 1 (ylds dn 1 1 f ((cs.take k).flatMap (leadX l))) ((c0 : Int), (i : Int))) 1) (hg : w10.grownBy w11 (some mo)) => show w1.grownBy w11 (some mo) ∧ RInv w w11 db ob ib pd dn mo (no' + 1) (ylds dn 1 1 f ((cs.take (k + 1)).flatMap (leadX l))) 1 by
      rw [HN.out, h0, ylds_append]
      exact ⟨Gb.tr (Gb.call hg9 hb10) hg, hy, Gb.tr (inv9.call hb10).gb hg⟩)
     clear h0 C7 HNO h2
     go_wp2_with fail
     refine (qy _ (by repeat (first | with_reducible (first | exact Below.refl _ _ | assumption | refine below_drewN ?_ _ | refine Below.drew ?_ | refine below_alloc ?_ _) | (with_reducible refine Below.setCell ?_ ?_ _; rotate_left; ((try simp only); omega))))).mono ?_
     rintro e3 w11 ⟨rfl, hY, hG⟩
     go_wp2
     go_roundg gh
     case measure => omega
     case rel => exact ⟨k + 1, no' + 1, by omega, by go_num, by omega, (HY9.out _ hY hG).1, (HY9.out _ hY hG).2⟩
    ·have h2b : (hf == 2) = false := by simpa using h2
     have R := Lib.hid (fun wq hbq => HNO.out wq hbq (C7.out.trans (if_neg (fun h => h2 h.2))))
     clear HNO C7 h2
     go_wp2
     go_roundg gh
     case measure => omega
     case rel => exact ⟨k + 1, no', by omega, by go_num, by omega, (R.out _ (by repeat (first | with_reducible (first | exact Below.refl _ _ | assumption | refine below_drewN ?_ _ | refine Below.drew ?_ | refine below_alloc ?_ _) | (with_reducible refine Below.setCell ?_ ?_ _; rotate_left; ((try simp only); omega))))).1, (R.out _ (by repeat (first | with_reducible (first | exact Below.refl _ _ | assumption | refine below_drewN ?_ _ | refine Below.drew ?_ | refine below_alloc ?_ _) | (with_reducible refine Below.setCell ?_ ?_ _; rotate_left; ((try simp only); omega))))).2⟩
   ·have hkb : (xk != 3) = true := by simpa using hkd
    have h0 : leadX l ⟨(t0, t1), (c0 : Int), xt, xb, xs, xk⟩ = [] := HLX.out.trans (if_neg (fun h => hkd h.1))
    have R := Lib.hid (fun (w9 : World) (hb9 : Below wr.heap.size wr w9) => show w1.grownBy w9 (some mo) ∧ RInv w w9 db ob ib pd dn mo no' (ylds dn 1 1 f ((cs.take (k + 1)).flatMap (leadX l))) 1 by rw [HN.out, h0, List.append_nil]; exact ⟨Gb.call hg1 hb9, inv.call hb9⟩)
    clear h0 hkd HLX qb qo qf qw hL hrd hall hce hx HTr inv hg1 hcb
    go_wp2
    go_roundg gh
    case measure => omega
    case rel => exact ⟨k + 1, no', by omega, by go_num, by omega, (R.out _ (by repeat (first | with_reducible (first | exact Below.refl _ _ | assumption | refine below_drewN ?_ _ | refine Below.drew ?_ | refine below_alloc ?_ _) | (with_reducible refine Below.setCell ?_ ?_ _; rotate_left; ((try simp only); omega))))).1, (R.out _ (by repeat (first | with_reducible (first | exact Below.refl _ _ | assumption | refine below_drewN ?_ _ | refine Below.drew ?_ | refine below_alloc ?_ _) | (with_reducible refine Below.setCell ?_ ?_ _; rotate_left; ((try simp only); omega))))).2⟩
end Go.Proofs.YtpkmiegccfhpnaaGreatDoor
namespace Go.Proofs.YtpkmiegccfhpnaaGreatDoor
open Go.RowKit Go.Shelf Go.Lib Go.Sort
def Grw (w w' : World) : Prop := ∃ q os, w' = grow (w.drewN q) os
theorem Grw.refl (w : World) : Grw w w := ⟨0, #[], by rw [grow_empty]; rfl⟩
theorem Grw.alloc {w W : World} (h : Grw w W) (o : Obj) : Grw w (W.alloc o) := by
  obtain ⟨q, os, rfl⟩ := h
  exact ⟨q, os ++ #[o], by rw [alloc_eq_grow, grow_grow]⟩
theorem Grw.drewN {w W : World} (h : Grw w W) (n : Nat) : Grw w (W.drewN n) := by
  obtain ⟨q, os, rfl⟩ := h
  refine ⟨q + n, os, ?_⟩
  show ({ (grow (w.drewN q) os) with drawn := w.drawn + q + n } : World) = { (grow (w.drewN q) os) with drawn := w.drawn + (q + n) }
  rw [Nat.add_assoc]
theorem Grw.drew {w W : World} (h : Grw w W) : Grw w W.drew := h.drewN 1
theorem Grw.tr {w W V : World} (h : Grw w W) (k : Grw W V) : Grw w V := by
  obtain ⟨q, os, rfl⟩ := k
  obtain ⟨p, ps, e⟩ := h.drewN q
  exact ⟨p, ps ++ os, by rw [e, grow_grow]⟩
theorem Grw.below {w W : World} (h : Grw w W) : Go.RowKit.Below w.heap.size w W := by
  obtain ⟨q, os, rfl⟩ := h
  exact ⟨rfl, rfl, rfl, by rw [size_grow]; exact Nat.le_add_right _ _, fun i hi => heap_grow_old (w.drewN q) os hi⟩
section
variable {α : Type} [Inhabited α]
theorem flatK_list (enc : α → List Value) (k : Nat) (hk : ∀ x, (enc x).length = k) (l : List α) : (flatK enc k l.toArray).toList = l.flatMap enc := by
  apply List.ext_getElem?
  intro t
  by_cases ht : t < l.length * k
  · have hs : t < (flatK enc k l.toArray).size := by rw [size_flatK]; simpa using ht
    have k0 : 0 < k := by rcases Nat.eq_zero_or_pos k with h | h; · subst h; simp at ht
                          · exact h
    have hq : t / k < l.length := Nat.div_lt_of_lt_mul (by rwa [Nat.mul_comm] at ht)
    have hr : t % k < k := Nat.mod_lt _ k0
    rw [Array.getElem?_toList, Array.getElem?_eq_getElem hs]
    have e1 := get_flatK enc k l.toArray t (by simpa using ht)
    rw [getElem!_pos _ t hs] at e1
    have hx : l[t / k]? = some l[t / k] := List.getElem?_eq_getElem hq
    have e2 := flat_get enc k hk l (t / k) (t % k) l[t / k] hx hr
    rw [Nat.div_add_mod' t k] at e2
    rw [e1, e2]
    have e3 : l.toArray[t / k]! = l[t / k] := by rw [getElem!_pos l.toArray (t / k) (by simpa using hq)]; simp
    rw [e3]
    have hlen : t % k < (enc l[t / k]).length := by rw [hk]; exact hr
    rw [getElem!_pos (enc l[t / k]) (t % k) hlen, List.getElem?_eq_getElem hlen]
  · have e1 : (flatK enc k l.toArray).toList[t]? = none := List.getElem?_eq_none (by rw [Array.length_toList, size_flatK]; simpa using ht)
    have e2 : (l.flatMap enc)[t]? = none := List.getElem?_eq_none (by rw [flat_len enc k hk]; omega)
    rw [e1, e2]
theorem heap_sortedK (enc : α → List Value) (k : Nat) {w : World} {g n : Nat} {os : Array Obj} {cur : Array Value} {e : TypeId} {fr : Nat × Nat} (d : Array α) (hb : w.heap[g]? = some (.cells cur e fr)) :
    (sortWorldK enc k w g 0 n d os).heap[g]? = some (.cells (putCells id 0 (flatK enc k d) cur) e fr) := by
  have hg : g < w.heap.size := (Array.getElem?_eq_some_iff.1 hb).1
  unfold sortWorldK
  rw [heap_grow_old _ _ (by simpa [putRowK, putRow, mapBlock, Sort.ahead] using hg)]
  simp [putRowK, putRow, mapBlock, Sort.ahead, Array.getElem?_modify, hb, onCells]
theorem grownBy_sortedK (enc : α → List Value) (k : Nat) {w : World} {g n : Nat} {os : Array Obj} (d : Array α) : w.grownBy (sortWorldK enc k w g 0 n d os) (some g) := by
  unfold sortWorldK
  refine ⟨rfl, rfl, rfl, by simp [putRowK, putRow, mapBlock, Sort.ahead], fun j hj hne => ?_⟩
  rw [heap_grow_old _ _ (by simpa [putRowK, putRow, mapBlock, Sort.ahead] using hj)]
  have : g ≠ j := fun e => hne (by rw [e])
  simp [putRowK, putRow, mapBlock, Sort.ahead, Array.getElem?_modify, this]
theorem take_putCells_id (cur ts : Array Value) (h : ts.size ≤ cur.size) : (putCells id 0 ts cur).toList.take ts.size = ts.toList := by
  apply List.ext_getElem?
  intro j
  by_cases hj : j < ts.size
  · rw [List.getElem?_take_of_lt hj, Array.getElem?_toList]
    simp [putCells, hj, show j < cur.size by omega]
  · rw [List.getElem?_take_eq_none (by omega), List.getElem?_eq_none (by simp; omega)]
theorem swo_lex {β : Type} {f g : β → β → Bool} (hf : SWO f) (hg : SWO g) : SWO (fun x y => f x y || (!f y x && g x y)) where
  irrefl x := by simp [hf.irrefl, hg.irrefl]
  trans x y z h1 h2 := by
    have a := hf.trans x y z
    have b := hf.ntrans x z y
    have c := hf.ntrans y x z
    have d := hg.trans x y z
    have e := hf.trans z y x
    have e2 := hf.ntrans z y x
    have a2 := hf.trans y z x
    have a3 := hf.trans z x y
    cases h3 : f x y <;> cases h4 : f y x <;> cases h5 : f y z <;> cases h6 : f z y <;> cases h7 : f x z <;> cases h8 : f z x <;> simp_all
  ntrans x y z h1 h2 := by
    have a := hf.trans x y z
    have b := hf.ntrans x y z
    have c := hf.ntrans y x z
    have c2 := hf.ntrans x z y
    have d := hg.ntrans x y z
    have e := hf.trans z y x
    have e2 := hf.ntrans z y x
    have a2 := hf.trans y z x
    have a3 := hf.trans z x y
    have a4 := hf.trans y x z
    have a5 := hf.trans x z y
    have b1 := hf.ntrans z x y
    have b2 := hf.ntrans y z x
    cases h3 : f x y <;> cases h4 : f y x <;> cases h5 : f y z <;> cases h6 : f z y <;> cases h7 : f x z <;> cases h8 : f z x <;> simp_all
theorem sort_row {P : Program} {ρ : Ren} (L : SlLaysF0.n6 P ρ) (k : Nat) (aE : ∀ w, (isAgg (ρ.t 24)).run P w = .ok true w) (zE : ∀ w, (Go.sizeOf (ρ.t 24)).run P w = .ok k w) (enc : α → List Value) (hk : ∀ x, (enc x).length = k) (h1 : ∀ x, ∀ v ∈ enc x, v.oneCell' = true) (cf : α → α → Int) (hO : SWO (ltOf cf)) (g : Nat)
    (eg : ∀ args w, (callFunc g args).run P w = .ok (.enter g args) w) (hcmp : ∀ x y W, Calls P g #[.agg (enc x).toArray, .agg (enc y).toArray] W fun e w' => e = .returned (.int .i64 (cf x y)) ∧ Grw W w')
    (l : List α) (u : Value) (base : Nat) (e : TypeId) (w : World) (h : w.ownsRow base e k u l.length (l.flatMap enc)) (hsz : l.length < 4611686018427387904) :
    Calls P (ρ.f 6) #[u, .func (.func g) #[] #[]] w fun e' w' => e' = .returned (.tuple #[]) ∧ ∃ l' : List α, l'.Perm l ∧ l'.Pairwise (fun x y => ltOf cf y x = false) ∧ w'.ownsRow base e k u l.length (l'.flatMap enc) ∧ w.grownBy w' u.ownBlock := by
  have h0 := h
  obtain ⟨hlen, hh⟩ := h
  rcases hh with ⟨rfl, hz⟩ | ⟨b, cap, cur, rfl, hb, hcell, hnc, hcm, hcs, htk⟩
  · rw [hz]
    have hl : l = [] := List.eq_nil_of_length_eq_zero hz
    subst hl
    refine (AnyF.slices_SortFunc_none L none 0 _ w).mono ?_
    rintro e' w' ⟨rfl, rfl⟩
    exact ⟨rfl, [], .refl _, List.Pairwise.nil, h0, ⟨rfl, rfl, rfl, Nat.le_refl _, fun _ _ _ => rfl⟩⟩
  · have hbl : b < w.heap.size := (Array.getElem?_eq_some_iff.1 hcell).1
    have hfl := flatK_list enc k hk l
    have hH : HoldsK enc k w b 0 l.toArray := by
      intro j hj
      rw [Nat.zero_add]
      have hj2 : j < l.length * k := by simpa using hj
      refine ⟨?_, h0.frozenAt j⟩
      rw [h0.cellAt j hj2, ← hfl, Array.getElem?_toList, Array.getElem?_eq_getElem hj, getElem!_pos _ j hj]
      rfl
    have hC : CmpLays P g #[] enc k cf b 0 l.toArray.size w := fun m os dk _ x y => (hcmp x y _).mono fun e' w' ⟨he, hg⟩ => ⟨he, hg⟩
    have hS := AnyQ.slices_SortFunc L k aE zE enc hk h1 cf hO g #[] b 0 cap l.toArray w eg hC hH hbl (by simpa using hsz)
    rw [List.size_toArray] at hS
    refine hS.mono ?_
    rintro e' w' ⟨rfl, d', n, os, hp, hs, rfl⟩
    obtain ⟨p1, p2, p3⟩ := hp
    have p1 : d'.size = l.length := by simpa using p1
    have q1 : d'.extract 0 l.length = d' := by rw [← p1]; simp
    have q2 : l.toArray.extract 0 l.length = l.toArray := by simp
    rw [q1, q2] at p3
    have hd : d'.toList.toArray = d' := by simp
    refine ⟨rfl, d'.toList, by simpa using p3, ?_, ?_, grownBy_sortedK enc k d'⟩
    · rw [List.pairwise_iff_getElem]
      intro i j hi hj hij
      have hi' : i < d'.size := by simpa using hi
      have hj' : j < d'.size := by simpa using hj
      have := hs i j (Nat.zero_le _) hij (by omega)
      rw [getElem!_pos d' i hi', getElem!_pos d' j hj'] at this
      simpa using this
    · have hf2 := flatK_list enc k hk d'.toList
      rw [hd] at hf2
      have hsz2 : (flatK enc k d').size = l.length * k := by rw [size_flatK, p1]
      refine ⟨by rw [flat_len enc k hk]; simp [p1], .inr ⟨b, cap, _, rfl, hb, heap_sortedK enc k d' hcell, hnc, hcm, by simp [putCells, hcs], ?_⟩⟩
      rw [← hsz2, take_putCells_id _ _ (by rw [hsz2, hcs]; exact Nat.mul_le_mul_right k hnc), hf2]
end
end Go.Proofs.YtpkmiegccfhpnaaGreatDoor
namespace Go.Proofs.YtpkmiegccfhpnaaGreatDoor
theorem mem_plc {l : List (List Ev)} {p : Plc} : p ∈ plcL l ↔ ∃ (i j : Nat) (v : List Ev), p = ((i : Int), (j : Int)) ∧ l[i]? = some v ∧ j < v.length := by
 unfold plcL
 simp only [List.mem_flatMap, List.mem_map, List.mem_range]
 constructor
 ·rintro ⟨i, hi, j, hj, rfl⟩
  obtain ⟨v, hv⟩ := get_some hi
  rw [getD_at hv] at hj
  exact ⟨i, j, v, rfl, hv, hj⟩
 ·rintro ⟨i, j, v, rfl, hv, hj⟩
  exact ⟨i, (List.getElem?_eq_some_iff.1 hv).1, j, by rw [getD_at hv]; exact hj, rfl⟩
def lessP (p q : Plc) : Prop := p.1 < q.1 ∨ (p.1 = q.1 ∧ p.2 < q.2)
theorem plc_sorted (l : List (List Ev)) : (plcL l).Pairwise lessP := by
 unfold plcL
 rw [List.pairwise_flatMap]
 refine ⟨fun i _ => ?_, ?_⟩
 ·rw [List.pairwise_map]
  refine List.Pairwise.imp ?_ List.pairwise_lt_range
  intro a b h
  exact .inr ⟨rfl, by show (a : Int) < (b : Int); omega⟩
 ·refine List.Pairwise.imp ?_ List.pairwise_lt_range
  intro a b h x hx y hy
  obtain ⟨j, _, rfl⟩ := List.mem_map.1 hx
  obtain ⟨k, _, rfl⟩ := List.mem_map.1 hy
  exact .inl (by show (a : Int) < (b : Int); omega)
def FicOK (l : List (List Ev)) (f : Plc → Option Fic) : Prop := ∀ p y, f p = some y → p ∈ plcL l ∧ y.1 = p.1 ∧ y.2.1 = p.2
theorem mem_listF {l : List (List Ev)} {f : Plc → Option Fic} {y : Fic} : y ∈ listF l f ↔ ∃ p ∈ plcL l, f p = some y := by unfold listF; rw [List.mem_filterMap]
theorem listF_sorted {l : List (List Ev)} {f : Plc → Option Fic} (h : FicOK l f) : (listF l f).Pairwise lessF := by
 unfold listF
 rw [List.pairwise_filterMap]
 refine List.Pairwise.imp ?_ (plc_sorted l)
 intro p q hpq y hy z hz
 obtain ⟨_, a1, a2⟩ := h p y hy
 obtain ⟨_, b1, b2⟩ := h q z hz
 unfold lessP at hpq
 unfold lessF
 omega
theorem lessF_irr (a : Fic) : ¬ lessF a a := by unfold lessF; omega
theorem lessF_asym {a b : Fic} (h : lessF a b) : ¬ lessF b a := by unfold lessF at *; omega
theorem eq_of_orders : ∀ {L M : List Fic}, L.Perm M → L.Pairwise (fun x y => ¬ lessF y x) → M.Pairwise lessF → L = M := by
 intro L
 induction L with
 | nil => intro M hp _ _; exact (List.nil_perm.1 hp).symm
 | cons x L ih =>
  intro M hp h1 h2
  cases M with
  | nil => exact absurd hp (by simp)
  | cons y M =>
   rw [List.pairwise_cons] at h1 h2
   have hxy : x = y := by
    rcases List.mem_cons.1 (hp.mem_iff.1 List.mem_cons_self) with e | hx
    ·exact e
    ·rcases List.mem_cons.1 (hp.symm.mem_iff.1 List.mem_cons_self) with e | hy
     ·exact e.symm
     ·exact absurd (h2.1 x hx) (h1.1 y hy)
   subst hxy
   rw [ih (List.perm_cons x |>.1 hp) h1.2 h2.2]
def PartF (f : Plc → Option Fic) (ps : List (Plc × Fic)) : Prop := (ps.map (·.1)).Nodup ∧ ∀ p ∈ ps, f p.1 = some p.2
def AllF (f : Plc → Option Fic) (ps : List (Plc × Fic)) : Prop := PartF f ps ∧ ∀ x, f x ≠ none → x ∈ ps.map (·.1)
theorem nodup_map_of {α β : Type} {g : α → β} : ∀ {L : List α}, L.Nodup → (∀ a ∈ L, ∀ b ∈ L, g a = g b → a = b) → (L.map g).Nodup
 | [], _, _ => List.nodup_nil
 | a :: L, h, hi => by
  rw [List.nodup_cons] at h
  rw [List.map_cons, List.nodup_cons]
  refine ⟨fun hm => ?_, nodup_map_of h.2 (fun x hx y hy => hi x (List.mem_cons_of_mem _ hx) y (List.mem_cons_of_mem _ hy))⟩
  obtain ⟨b, hb, e⟩ := List.mem_map.1 hm
  have := hi b (List.mem_cons_of_mem _ hb) a List.mem_cons_self e
  subst this
  exact h.1 hb
theorem nodup_of_map {α β : Type} {g : α → β} : ∀ {L : List α}, (L.map g).Nodup → L.Nodup
 | [], _ => List.nodup_nil
 | a :: L, h => by
  rw [List.map_cons, List.nodup_cons] at h
  rw [List.nodup_cons]
  exact ⟨fun hm => h.1 (List.mem_map.2 ⟨a, hm, rfl⟩), nodup_of_map h.2⟩
theorem len_of_sub {α : Type} [DecidableEq α] : ∀ {L M : List α}, L.Nodup → (∀ x ∈ L, x ∈ M) → L.length ≤ M.length
 | [], _, _, _ => Nat.zero_le _
 | a :: L, M, h, hs => by
  rw [List.nodup_cons] at h
  have ha := hs a List.mem_cons_self
  have h1 := len_of_sub (M := M.erase a) h.2 fun x hx => (List.mem_erase_of_ne (by rintro rfl; exact h.1 hx)).2 (hs x (List.mem_cons_of_mem _ hx))
  have h2 := List.length_erase_of_mem ha
  have h3 := List.length_pos_of_mem ha
  rw [List.length_cons]
  omega
theorem PartF.few {l : List (List Ev)} {f : Plc → Option Fic} {ps : List (Plc × Fic)} (h : PartF f ps) (hf : FicOK l f) : ps.length ≤ (plcL l).length := by
 have h1 : (ps.map (·.1)).length ≤ (plcL l).length := by
  refine len_of_sub h.1 fun p hp => ?_
  obtain ⟨x, hx, rfl⟩ := List.mem_map.1 hp
  exact (hf _ _ (h.2 x hx)).1
 simpa using h1
theorem AllF.perm {l : List (List Ev)} {f : Plc → Option Fic} {ps : List (Plc × Fic)} (h : AllF f ps) (hf : FicOK l f) : (ps.map (·.2)).Perm (listF l f) := by
 have n1 : (ps.map (·.2)).Nodup := by
  refine nodup_map_of (nodup_of_map h.1.1) ?_
  rintro ⟨a, x⟩ ha ⟨b, y⟩ hb e
  have h1 := hf _ _ (h.1.2 _ ha)
  have h2 := hf _ _ (h.1.2 _ hb)
  simp only at e h1 h2
  subst e
  have : a = b := Prod.ext (by rw [← h1.2.1, h2.2.1]) (by rw [← h1.2.2, h2.2.2])
  subst this
  rfl
 have n2 : (listF l f).Nodup := by
  refine List.Pairwise.imp ?_ (listF_sorted hf)
  rintro a b hab rfl
  exact lessF_irr a hab
 refine (List.perm_ext_iff_of_nodup n1 n2).2 fun y => ?_
 rw [mem_listF, List.mem_map]
 constructor
 ·rintro ⟨⟨p, z⟩, hp, rfl⟩
  exact ⟨p, (hf _ _ (h.1.2 _ hp)).1, h.1.2 _ hp⟩
 ·rintro ⟨p, hp, hy⟩
  obtain ⟨⟨q, z⟩, hq, rfl⟩ := List.mem_map.1 (h.2 p (by rw [hy]; simp))
  have := h.1.2 _ hq
  simp only at this hy
  rw [this] at hy
  cases hy
  exact ⟨_, hq, rfl⟩
theorem listF_len (l : List (List Ev)) (f : Plc → Option Fic) : (listF l f).length ≤ (plcL l).length := List.length_filterMap_le _ _
end Go.Proofs.YtpkmiegccfhpnaaGreatDoor
namespace Go.Proofs.YtpkmiegccfhpnaaGreatDoor
open Go.RowKit
def cFic (x : Fic) : List Value := [.int .i64 x.1, .int .i64 x.2.1, .int .i64 x.2.2.1, .int .i64 x.2.2.2]
def csFic (l : List Fic) : List Value := l.flatMap cFic
theorem csFic_append (l m : List Fic) : csFic (l ++ m) = csFic l ++ csFic m := by unfold csFic; rw [List.flatMap_append]
theorem one_cFic (x : Fic) : ∀ u ∈ cFic x, u.oneCell' = true := by
 intro u hu
 simp [cFic] at hu
 rcases hu with rfl | rfl | rfl | rfl <;> rfl
theorem one_csFic (l : List Fic) : ∀ u ∈ csFic l, u.oneCell' = true := by
 intro u hu
 obtain ⟨t, _, ht⟩ := List.mem_flatMap.1 hu
 exact one_cFic t u ht
theorem fic_info : (Tryz.prog.info? 39).map (fun i => (i.zero, i.size, i.bytes)) = some (some (.agg #[.int .i64 0, .int .i64 0, .int .i64 0, .int .i64 0]), 4, 32) := by kernel_rfl
end Go.Proofs.YtpkmiegccfhpnaaGreatDoor
namespace Go.Proofs.YtpkmiegccfhpnaaGreatDoor
open Go.RowKit Go.Sort
structure Grn (W : World) where
 val : World
 h : Grw W val
instance grn_some (W : World) : Nonempty (Grn W) := ⟨⟨W, Grw.refl _⟩⟩
@[go_sem] theorem Grn.cell {W : World} (q : Grn W) (b o : Nat) (h : b < W.heap.size) : q.val.cell? ⟨b, o, none⟩ = W.cell? ⟨b, o, none⟩ := q.h.below.cell (p := ⟨b, o, none⟩) h
@[go_sem] theorem Grn.frozen {W : World} (q : Grn W) (b o : Nat) (h : b < W.heap.size) : q.val.frozen? ⟨b, o, none⟩ = W.frozen? ⟨b, o, none⟩ := q.h.below.frozen (p := ⟨b, o, none⟩) h
theorem grn_call {P : Program} {f : FuncId} {args : Array Value} {W : World} {q : Grn W} {v : Value}
  (h : Calls P f args q.val fun e w'' => e = .returned v ∧ Grw q.val w'') : Calls P f args q.val fun e w'' => e = .returned v ∧ ∃ q' : Grn W, w'' = q'.val :=
 h.mono fun _ w'' ⟨he, hb⟩ => ⟨he, ⟨w'', q.h.tr hb⟩, rfl⟩
theorem wp_region_grn_tail {P : Program} {id : Nat} {Q : Exit → Act → World → Prop} {a : Act} {w : World} {l : List Oper} (n : Nat) (hm : P.follows .mixedOrders = true) (hB : Region.lexTailB .any l.toArray n = true)
  (h : wpQuiet P l.toArray (fun w' => ∃ q : Grn w, w' = q.val) (fun a' => ∀ w', Grw w w' → wpList P l.toArray Q (l.drop n) a' w') (l.take n) a) : (Code.region id l.toArray true).wp P Q a w := by
 simp only [Region.lexTailB, Bool.and_eq_true, decide_eq_true_eq] at hB
 obtain ⟨⟨⟨⟨hsel, hn⟩, hs⟩, hc⟩, hlex⟩ := hB
 have hn' : n < l.length := by simpa using hn
 have htl : (l.take n).length = n := by simp; omega
 have hdl : (l.drop n).length = l.toArray.size - n := by simp
 have inv0 : HeadInv .any l.toArray n (Array.replicate l.toArray.size false) :=
  ⟨by simp, fun j oj _ hl => (by rw [getD_replicate_false] at hl; cases hl), fun t _ ht => getD_in (by simpa using ht) (getD_replicate_false _ _)⟩
 have H := headQ_lex (md := .any) (C := fun w' => ∃ q : Grn w, w' = q.val) (g := l.toArray.size - n) hsel hs hc hn (l.take n) 0 _ a
  (fun j hj => by
   have hj' : j < n := by rw [htl] at hj; exact hj
   simp [hj']) (by simpa using htl) inv0 (by rw [htl]; exact hlex) h
 refine wp_region_any hm ?_
 have := any_of_headQ (Q' := Q) (g := l.toArray.size - n) (fun s' a' w' hw' hL => by
  obtain ⟨q, rfl⟩ := hw'
  have := wpAny_of_seq (md := .any) (Q' := Q) (l.drop n) n s' a' q.val (fun j => by simp [List.getElem?_drop]) (by rw [hdl]; exact hL.1) (hL.2 _ q.h)
  rwa [hdl] at this) _ _ _ { w with drawn := w.drawn + 1 } ⟨⟨w.drew, (Grw.refl _).drew⟩, rfl⟩ H
 rw [htl, show n + (l.toArray.size - n) = l.toArray.size by omega] at this
 exact this
theorem isNaN_w (a : Int) (w : World) : Calls Tryz.prog 50 #[.int .i64 a] w fun e w' => e = .returned (.bool false) ∧ w' = w := by
 go_enter Tryz.func50, Tryz.ntmps50
 go_wp2
 go_ret
 exact ⟨by simp, rfl⟩
theorem cmpI_w (a b : Int) (w : World) : Calls Tryz.prog 32 #[.int .i64 a, .int .i64 b] w fun e w' => e = .returned (.int .i64 (cmp3 a b)) ∧ w' = w := by
 go_enter Tryz.func32, Tryz.ntmps32
 go_wp2_with fail
 refine (isNaN_w a _).mono ?_
 rintro e w1 ⟨rfl, rfl⟩
 go_wp2_with fail
 refine (isNaN_w b _).mono ?_
 rintro e w2 ⟨rfl, rfl⟩
 by_cases c1 : a < b
 ·have E := Lib.hid (show cmp3 a b = -1 by unfold cmp3; rw [if_pos c1])
  go_wp2
  go_ret
  rw [E.out]
  exact ⟨rfl, rfl⟩
 ·by_cases c2 : b < a
  ·have E := Lib.hid (show cmp3 a b = 1 by unfold cmp3; rw [if_neg c1, if_pos c2])
   go_wp2
   go_ret
   rw [E.out]
   exact ⟨rfl, rfl⟩
  ·have E := Lib.hid (show cmp3 a b = 0 by unfold cmp3; rw [if_neg c1, if_neg c2])
   go_wp2
   go_ret
   rw [E.out]
   exact ⟨rfl, rfl⟩
theorem or_w (A : Option Addr) (n c : Nat) (l : List Int) (B : Nat) (w : World) (h : Reads w B 1 A n (csN l)) (hB : B ≤ w.heap.size) (hn : n ≤ 1000) :
  Calls Tryz.prog 31 #[.slice A n c] w fun e w' => e = .returned (.int .i64 (orS l)) ∧ w' = w := by
 have HL := Lib.hid (show l.length = n from h.len (size := 1) (l := l) (f := cI) (fun _ => rfl) (by decide))
 go_enter Tryz.func31, Tryz.ntmps31
 go_wp2
 go_loopg [5, 8] n (fun g _ i wr => ∃ k : Nat, k + g = n ∧ i = .int .i64 k ∧ Hid (wr = w) ∧ Hid (orS (l.drop k) = orS l))
 case atStart => exact ⟨0, by omega, by simp, Lib.hid rfl, Lib.hid rfl⟩
 case round =>
  obtain ⟨k, hkg, rfl, kr, hE⟩ := hrel
  cases gk with
  | zero =>
   obtain rfl : k = n := by omega
   have d0 : ¬ ((k : Int) < (k : Int)) := by omega
   have E := Lib.hid (show orS l = 0 by rw [← hE.out, List.drop_of_length_le (by have := HL.out; omega)]; rfl)
   go_wp2
   go_ret
   rw [E.out]
   exact ⟨rfl, kr.out⟩
  | succ g =>
   have hk : k < n := by omega
   have hk' : (k : Int) < (n : Int) := by omega
   obtain ⟨x, hx⟩ := get_some (l := l) (k := k) (by have := HL.out; omega)
   obtain ⟨b, off, hA, hb, hc⟩ := Reads.elem (f := cI) (fun _ => rfl) h hk hx
   have hD : l.drop k = x :: l.drop (k + 1) := by
    have := List.drop_eq_getElem_cons (i := k) (l := l) (by have := HL.out; omega)
    rw [this, (List.getElem?_eq_some_iff.1 hx).2]
   have HD := Lib.hid (show (if x ≠ 0 then x else orS (l.drop (k + 1))) = orS l by rw [← hE.out, hD]; rfl)
   have c0 : wr.cell? ⟨b, off + k, none⟩ = some (.int .i64 x) := by rw [kr.out]; have := hc 0 _ rfl; simpa using this
   have hbw : b < wr.heap.size := by rw [kr.out]; omega
   subst hA
   clear hc hD hx hE
   by_cases hz : x = 0
   ·have HN := Lib.hid (show orS (l.drop (k + 1)) = orS l by rw [← HD.out, if_neg (fun h => h hz)])
    have f0 : (x != 0) = false := by simp [hz]
    go_wp2
    go_roundg g
    case measure => omega
    case rel => exact ⟨k + 1, by omega, by go_num, kr, HN⟩
   ·have HN := Lib.hid (show orS l = x by rw [← HD.out, if_pos hz])
    have f0 : (x != 0) = true := by simp [hz]
    go_wp2
    go_ret
    rw [HN.out]
    exact ⟨rfl, kr.out⟩
theorem check_w (n d : Int) (w : World) :
  Calls Tryz.prog 131 #[.agg #[.int .i64 n, .int .i64 d]] w fun e w' => e = .returned (.int .i64 (chk n d)) ∧ Grw w w' := by
 go_enter Tryz.func131, Tryz.ntmps131
 go_wp2_with (go_at_call 132; refine (divisor_any _ _ _ (by omega) (by omega) (by omega) (by omega)).mono ?_; rintro e w' ⟨rfl, nq, rfl⟩)
 all_goals
  go_ret
  refine ⟨ret_int ?_, ?_⟩
  ·unfold chk; (repeat' split) <;> first | rfl | omega
  ·repeat (first | with_reducible (first | exact Grw.refl _ | assumption | refine Grw.drewN ?_ _ | refine Grw.drew ?_ | refine Grw.alloc ?_ _))
theorem first_w (A : Option Addr) (n c : Nat) (l : List (Int × Int)) (B : Nat) (w : World) (h : Reads w B 2 A n (csT l)) (hB : B ≤ w.heap.size) (hn : n ≤ 9223372036854775807) :
  Calls Tryz.prog 100 #[.slice A n c] w fun e w' => e = .returned (.int .i64 (firstS l)) ∧ Grw w w' := by
 have hl : l.length = n := h.len (f := cT) (fun _ => rfl) (by omega)
 have HL := Lib.hid hl; clear hl
 go_enter Tryz.func100, Tryz.ntmps100
 go_wp2
 go_loopw [4, 5, 8] (fun _ _ i wr => ∃ k : Nat, k ≤ n ∧ i = .int .i64 k ∧ Hid (firstS (l.drop k) = firstS l) ∧ Grw w wr) (fun _ _ i _ => n - (intOf i).toNat)
 case atStart => exact ⟨0, by omega, rfl, rfl, Grw.refl _⟩
 case round =>
  obtain ⟨k, hk, rfl, hs, hg⟩ := hrel
  have hb := hg.below
  by_cases hlt : k < n
  ·obtain ⟨⟨p, q⟩, hx⟩ := get_some (l := l) (k := k) (by have := HL.out; omega)
   have HD := Lib.hid (drop_get hx)
   obtain ⟨b, off, rfl, hab, hc⟩ := h.elem (f := cT) (fun _ => rfl) hlt hx
   have c0 := hc 0 _ rfl
   have c1 := hc 1 _ rfl
   rw [← hb.cell (by simp; omega)] at c0 c1
   simp only [Nat.add_zero, ← Nat.add_assoc] at c0 c1
   clear hc hx
   go_wp2_with (go_at_call 131; refine (check_w _ _ _).mono ?_; rintro e w1 ⟨rfl, hg1⟩; have hb1 := hg1.below)
   ·go_ret
    have hne : (chk p q != 0) = true := by assumption
    refine ⟨ret_int ?_, ?_⟩
    ·rw [← hs.out, HD.out, firstS_bad (by simpa using hne)]
    ·exact (hg.alloc _).tr hg1
   ·go_roundw
    case rel =>
     have hne : (chk p q != 0) = false := by assumption
     refine ⟨k + 1, by omega, by go_num, ?_, (hg.alloc _).tr hg1⟩
     have h1 := hs.out
     rw [HD.out, firstS_next (by simpa using hne)] at h1
     exact h1
    case measure => simp [intOf]; omega
  ·go_wp2
   go_ret
   refine ⟨ret_int ?_, hg⟩
   rw [← hs.out, List.drop_eq_nil_of_le (by have := HL.out; omega)]; rfl
theorem first_two_w (a a' b b' : Int) (w : World) (t : TypeId) (g : Nat) (hg : g = w.heap.size) :
  Calls Tryz.prog 100 #[.slice (some ⟨g, 0, none⟩) 2 2] (w.alloc (.cells #[.int .i64 a, .int .i64 a', .int .i64 b, .int .i64 b'] t)) fun e w' => e = .returned (.int .i64 (both (a, a') (b, b'))) ∧ Grw (w.alloc (.cells #[.int .i64 a, .int .i64 a', .int .i64 b, .int .i64 b'] t)) w' := by
 have h := first_w (some ⟨g, 0, none⟩) 2 2 [(a, a'), (b, b')] _ (w.alloc (.cells #[.int .i64 a, .int .i64 a', .int .i64 b, .int .i64 b'] t)) (Reads.newAt _ _ _ _ _ _ hg rfl) (by simp; omega) (by omega)
 rw [firstS_two] at h
 exact h
theorem scmp_w (a b : Int × Int) (w : World) :
  Calls Tryz.prog 102 #[.agg #[.int .i64 a.1, .int .i64 a.2], .agg #[.int .i64 b.1, .int .i64 b.2]] w fun e w' => e = .returned (.tuple #[.int .i64 (cmpS a b).1, .int .i64 (cmpS a b).2]) ∧ Grw w w' := by
 obtain ⟨a, a'⟩ := a
 obtain ⟨b, b'⟩ := b
 by_cases hz : both (a, a') (b, b') = 0
 ·obtain ⟨⟨a1, a2, a3, a4, a5⟩, ⟨b1, b2, b3, b4, b5⟩⟩ := both_ok hz
  simp only at a1 a2 a3 a4 a5 b1 b2 b3 b4 b5
  have m1 := mul_bd a1 (show 0 ≤ b' by omega) a2 b4
  have m2 := mul_bd b1 (show 0 ≤ a' by omega) b2 a4
  have m3 := mul_bd (show 0 ≤ a' by omega) (show 0 ≤ b' by omega) a4 b4
  have m4 : 1 ≤ a' * b' := by have := Int.mul_le_mul a3 b3 (by omega) (by omega); omega
  have A5 := Lib.hid a5; have B5 := Lib.hid b5; clear a5 b5
  go_enter Tryz.func102, Tryz.ntmps102
  go_wp2_with ((go_at_call 100; refine (first_two_w _ _ _ _ _ _ _ (by simp)).mono ?_; rintro e w1 ⟨rfl, hg1⟩; have hb1 := hg1.below; have hc1 := (bcell hb1).1; have hf1 := (bcell hb1).2))
  all_goals
   go_ret2
   refine ⟨?_, ?_⟩
   ·unfold cmpS sgn; rw [if_neg (by rw [hz]; exact fun h => h rfl)]; simp only; (repeat' split) <;> first | rfl | omega
   ·refine Grw.tr ?_ hg1
    repeat (first | with_reducible (first | exact Grw.refl _ | assumption | refine Grw.drewN ?_ _ | refine Grw.drew ?_ | refine Grw.alloc ?_ _))
 ·go_enter Tryz.func102, Tryz.ntmps102
  go_wp2_with ((go_at_call 100; refine (first_two_w _ _ _ _ _ _ _ (by simp)).mono ?_; rintro e w1 ⟨rfl, hg1⟩; have hb1 := hg1.below; have hc1 := (bcell hb1).1; have hf1 := (bcell hb1).2))
  go_ret2
  refine ⟨?_, ?_⟩
  ·unfold cmpS; rw [if_pos hz]; rfl
  ·refine Grw.tr ?_ hg1
   repeat (first | with_reducible (first | exact Grw.refl _ | assumption | refine Grw.drewN ?_ _ | refine Grw.drew ?_ | refine Grw.alloc ?_ _))
theorem ord_w (a b : Int × Int) (w : World) :
  Calls Tryz.prog 119 #[.agg #[.int .i64 a.1, .int .i64 a.2], .agg #[.int .i64 b.1, .int .i64 b.2]] w fun e w' => e = .returned (.int .i64 (cmpS a b).1) ∧ Grw w w' := by
 have q := fun W => scmp_w a b W
 obtain ⟨a, a'⟩ := a
 obtain ⟨b, b'⟩ := b
 obtain ⟨⟨r, s⟩, hr⟩ : ∃ z, z = cmpS (a, a') (b, b') := ⟨_, rfl⟩
 rw [← hr] at q ⊢
 simp only at q ⊢
 clear hr
 go_enter Tryz.func119, Tryz.ntmps119
 go_wp2_with fail
 refine (q _).mono ?_
 rintro e w1 ⟨rfl, hg1⟩
 go_wp2
 go_ret
 refine ⟨rfl, Grw.tr ?_ hg1⟩
 repeat (first | with_reducible (first | exact Grw.refl _ | assumption | refine Grw.drewN ?_ _ | refine Grw.drew ?_ | refine Grw.alloc ?_ _))
def cmpCad (x y : Cad) : Int := orS [(cmpS x.at_ y.at_).1, cmp3 x.c y.c, cmp3 x.t y.t]
theorem ford_w (x y : Cad) (w : World) : Calls Tryz.prog 118 #[.agg (cCad x).toArray, .agg (cCad y).toArray] w fun e w' => e = .returned (.int .i64 (cmpCad x y)) ∧ Grw w w' := by
 obtain ⟨⟨x1, x2⟩, x3, x4, x5, x6, x7⟩ := x
 obtain ⟨⟨y1, y2⟩, y3, y4, y5, y6, y7⟩ := y
 have E := Lib.hid (show cmpCad ⟨(x1, x2), x3, x4, x5, x6, x7⟩ ⟨(y1, y2), y3, y4, y5, y6, y7⟩ = orS [(cmpS (x1, x2) (y1, y2)).1, cmp3 x3 y3, cmp3 x4 y4] from rfl)
 show Calls Tryz.prog 118 #[.agg #[.int .i64 x1, .int .i64 x2, .int .i64 x3, .int .i64 x4, .int .i64 x5, .int .i64 x6, .int .i64 x7], .agg #[.int .i64 y1, .int .i64 y2, .int .i64 y3, .int .i64 y4, .int .i64 y5, .int .i64 y6, .int .i64 y7]] w fun e w' => e = .returned (.int .i64 (cmpCad ⟨(x1, x2), x3, x4, x5, x6, x7⟩ ⟨(y1, y2), y3, y4, y5, y6, y7⟩)) ∧ Grw w w'
 have q := fun W => ord_w (x1, x2) (y1, y2) W
 obtain ⟨r, hr⟩ : ∃ z, z = (cmpS (x1, x2) (y1, y2)).1 := ⟨_, rfl⟩
 rw [← hr] at q E
 simp only at q
 clear hr
 go_enter Tryz.func118, Tryz.ntmps118
 go_wp2_with fail
 obtain ⟨wq, hwq⟩ : ∃ z, z = (w.alloc (.cells #[.int .i64 x1, .int .i64 x2, .int .i64 x3, .int .i64 x4, .int .i64 x5, .int .i64 x6, .int .i64 x7] 126)).alloc (.cells #[.int .i64 y1, .int .i64 y2, .int .i64 y3, .int .i64 y4, .int .i64 y5, .int .i64 y6, .int .i64 y7] 126) := ⟨_, rfl⟩
 have ba : Blk wq w.heap.size 126 #[.int .i64 x1, .int .i64 x2, .int .i64 x3, .int .i64 x4, .int .i64 x5, .int .i64 x6, .int .i64 x7] := by rw [hwq]; exact (Blk.new _ _ _).alloc _
 have bb : Blk wq (w.heap.size + 1) 126 #[.int .i64 y1, .int .i64 y2, .int .i64 y3, .int .i64 y4, .int .i64 y5, .int .i64 y6, .int .i64 y7] := by rw [hwq]; exact Blk.newAt _ _ _ _ (by simp)
 have kq : Grw w wq := by rw [hwq]; repeat (first | with_reducible (first | exact Grw.refl _ | assumption | refine Grw.drewN ?_ _ | refine Grw.drew ?_ | refine Grw.alloc ?_ _))
 rw [← hwq]
 have la := ba.lt
 have lb := bb.lt
 have a0 := ba.cell 0
 have a1 := ba.cell 1
 have a2 := ba.cell 2
 have a3 := ba.cell 3
 have b0 := bb.cell 0
 have b1 := bb.cell 1
 have b2 := bb.cell 2
 have b3 := bb.cell 3
 simp only [List.getElem?_toArray, List.getElem?_cons_zero, List.getElem?_cons_succ] at a0 a1 a2 a3 b0 b1 b2 b3
 clear hwq
 refine wp_region_grn_tail 15 (by kernel_rfl) (by kernel_rfl) ?_
 simp only [List.take_succ_cons, List.take_zero, List.drop_succ_cons, List.drop_zero]
 repeat (go_big_quiet_step ((first | (go_at_call 32; with_reducible exact grn_call ((cmpI_w _ _ _).mono fun _ _ h => ⟨h.1, h.2 ▸ Grw.refl _⟩)) | (go_at_call 119; with_reducible exact grn_call (q _)))))
 refine wpQuiet_nil ?_
 intro w7 hg7
 have k7 := kq.tr hg7
 go_wp2_with fail
 refine Calls.mono (or_w (some ⟨w7.heap.size, 0, none⟩) 3 3 [r, cmp3 x3 y3, cmp3 x4 y4] (w7.heap.size + 1) _ (Reads.newAt _ _ _ 3 1 _ rfl rfl) (by simp) (by omega)) ?_
 rintro e w8 ⟨rfl, rfl⟩
 go_wp2
 go_ret
 rw [E.out]
 exact ⟨rfl, k7.alloc _⟩
def cmpFic (x y : Fic) : Int := orS [cmp3 x.1 y.1, cmp3 x.2.1 y.2.1]
theorem sord_w (x y : Fic) (w : World) : Calls Tryz.prog 62 #[.agg (cFic x).toArray, .agg (cFic y).toArray] w fun e w' => e = .returned (.int .i64 (cmpFic x y)) ∧ Grw w w' := by
 obtain ⟨x1, x2, x3, x4⟩ := x
 obtain ⟨y1, y2, y3, y4⟩ := y
 have E := Lib.hid (show cmpFic (x1, x2, x3, x4) (y1, y2, y3, y4) = orS [cmp3 x1 y1, cmp3 x2 y2] from rfl)
 show Calls Tryz.prog 62 #[.agg #[.int .i64 x1, .int .i64 x2, .int .i64 x3, .int .i64 x4], .agg #[.int .i64 y1, .int .i64 y2, .int .i64 y3, .int .i64 y4]] w fun e w' => e = .returned (.int .i64 (cmpFic (x1, x2, x3, x4) (y1, y2, y3, y4))) ∧ Grw w w'
 go_enter Tryz.func62, Tryz.ntmps62
 go_wp2_with fail
 obtain ⟨wq, hwq⟩ : ∃ z, z = (w.alloc (.cells #[.int .i64 x1, .int .i64 x2, .int .i64 x3, .int .i64 x4] 39)).alloc (.cells #[.int .i64 y1, .int .i64 y2, .int .i64 y3, .int .i64 y4] 39) := ⟨_, rfl⟩
 have ba : Blk wq w.heap.size 39 #[.int .i64 x1, .int .i64 x2, .int .i64 x3, .int .i64 x4] := by rw [hwq]; exact (Blk.new _ _ _).alloc _
 have bb : Blk wq (w.heap.size + 1) 39 #[.int .i64 y1, .int .i64 y2, .int .i64 y3, .int .i64 y4] := by rw [hwq]; exact Blk.newAt _ _ _ _ (by simp)
 have kq : Grw w wq := by rw [hwq]; repeat (first | with_reducible (first | exact Grw.refl _ | assumption | refine Grw.drewN ?_ _ | refine Grw.drew ?_ | refine Grw.alloc ?_ _))
 rw [← hwq]
 have la := ba.lt
 have lb := bb.lt
 have a0 := ba.cell 0
 have a1 := ba.cell 1
 have b0 := bb.cell 0
 have b1 := bb.cell 1
 simp only [List.getElem?_toArray, List.getElem?_cons_zero, List.getElem?_cons_succ] at a0 a1 b0 b1
 clear hwq
 refine wp_region_grn_tail 10 (by kernel_rfl) (by kernel_rfl) ?_
 simp only [List.take_succ_cons, List.take_zero, List.drop_succ_cons, List.drop_zero]
 repeat (go_big_quiet_step ((go_at_call 32; with_reducible exact grn_call ((cmpI_w _ _ _).mono fun _ _ h => ⟨h.1, h.2 ▸ Grw.refl _⟩))))
 refine wpQuiet_nil ?_
 intro w7 hg7
 have k7 := kq.tr hg7
 go_wp2_with fail
 refine Calls.mono (or_w (some ⟨w7.heap.size, 0, none⟩) 2 2 [cmp3 x1 y1, cmp3 x2 y2] (w7.heap.size + 1) _ (Reads.newAt _ _ _ 2 1 _ rfl rfl) (by simp) (by omega)) ?_
 rintro e w8 ⟨rfl, rfl⟩
 go_wp2
 go_ret
 rw [E.out]
 exact ⟨rfl, k7.alloc _⟩
/-! ### The orders -/
theorem cmpFic_lt (x y : Fic) : ltOf cmpFic x y = decide (lessF x y) := by
 unfold ltOf cmpFic
 rw [decide_eq_decide]
 unfold lessF orS orS orS cmp3
 (repeat' split) <;> omega
theorem swo_fic : SWO (ltOf cmpFic) where
 irrefl x := by rw [cmpFic_lt]; exact decide_eq_false (lessF_irr x)
 trans x y z h1 h2 := by
  rw [cmpFic_lt, decide_eq_true_eq] at *
  unfold lessF at *; omega
 ntrans x y z h1 h2 := by
  rw [cmpFic_lt, decide_eq_false_iff_not] at *
  unfold lessF at *; omega
abbrev CadV := { x : Cad // ok x.at_ }
instance : Inhabited CadV := ⟨⟨⟨(0, 1), 0, 0, 0, 0, 0⟩, ok_zero⟩⟩
def cmpCadV (x y : CadV) : Int := cmpCad x.1 y.1
theorem swo_time : SWO (fun x y : CadV => decide (ltT x.1.at_ y.1.at_)) where
 irrefl _ := decide_eq_false (ltT_irr _)
 trans x y z h1 h2 := decide_eq_true (ltT_trans x.2 y.2 z.2 (of_decide_eq_true h1) (of_decide_eq_true h2))
 ntrans x y z h1 h2 := decide_eq_false (leT_trans z.2 y.2 x.2 (of_decide_eq_false h2) (of_decide_eq_false h1))
theorem swo_int {α : Type} (f : α → Int) : SWO (fun x y => decide (f x < f y)) where
 irrefl x := by simp
 trans x y z h1 h2 := by simp only [decide_eq_true_eq] at *; omega
 ntrans x y z h1 h2 := by simp only [decide_eq_false_iff_not] at *; omega
theorem cmpCad_lt (x y : CadV) : ltOf cmpCadV x y = (decide (ltT x.1.at_ y.1.at_) || (!decide (ltT y.1.at_ x.1.at_) && (decide (x.1.c < y.1.c) || (!decide (y.1.c < x.1.c) && decide (x.1.t < y.1.t))))) := by
 unfold ltOf cmpCadV cmpCad
 rw [cmp_ok x.2 y.2]
 rw [Bool.eq_iff_iff]
 simp only [decide_eq_true_eq, Bool.or_eq_true, Bool.and_eq_true, Bool.not_eq_true', decide_eq_false_iff_not]
 unfold orS orS orS orS cmp3 sgn ltT
 (repeat' split) <;> omega
theorem swo_cad : SWO (ltOf cmpCadV) := by
 have h := swo_lex swo_time (swo_lex (swo_int (fun x : CadV => x.1.c)) (swo_int (fun x : CadV => x.1.t)))
 rw [show ltOf cmpCadV = _ from funext fun x => funext fun y => cmpCad_lt x y]
 exact h
end Go.Proofs.YtpkmiegccfhpnaaGreatDoor
