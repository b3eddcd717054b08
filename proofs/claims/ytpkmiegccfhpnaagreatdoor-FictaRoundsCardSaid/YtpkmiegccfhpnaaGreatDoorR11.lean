/- Parts of the proof of LawRounds31: FiTri, FiTris. -/
import Derived.Test.YtpkmiegccfhpnaaGreatDoorR10
set_option maxRecDepth 100000
set_option maxHeartbeats 16000000
namespace Go.Proofs.YtpkmiegccfhpnaaGreatDoor
open Go.RowKit Go.Maps
theorem set10 {W : World} {g : Nat} {t : TypeId} {z0 z1 z2 z3 z4 z5 z6 z7 z8 z9 v0 v1 v2 v3 v4 v5 v6 v7 v8 v9 : Value} (h : Blk W g t #[z0, z1, z2, z3, z4, z5, z6, z7, z8, z9]) :
  Blk ((((((((((W.setCell ⟨g, 0, none⟩ v0).setCell ⟨g, 1, none⟩ v1).setCell ⟨g, 2, none⟩ v2).setCell ⟨g, 3, none⟩ v3).setCell ⟨g, 4, none⟩ v4).setCell ⟨g, 5, none⟩ v5).setCell ⟨g, 6, none⟩ v6).setCell ⟨g, 7, none⟩ v7).setCell ⟨g, 8, none⟩ v8).setCell ⟨g, 9, none⟩ v9) g t #[v0, v1, v2, v3, v4, v5, v6, v7, v8, v9] := by
 have h0 : Blk (W.setCell ⟨g, 0, none⟩ v0) g t #[v0, z1, z2, z3, z4, z5, z6, z7, z8, z9] := Blk.set_to h rfl
 have h1 : Blk ((W.setCell ⟨g, 0, none⟩ v0).setCell ⟨g, 1, none⟩ v1) g t #[v0, v1, z2, z3, z4, z5, z6, z7, z8, z9] := Blk.set_to h0 rfl
 have h2 : Blk (((W.setCell ⟨g, 0, none⟩ v0).setCell ⟨g, 1, none⟩ v1).setCell ⟨g, 2, none⟩ v2) g t #[v0, v1, v2, z3, z4, z5, z6, z7, z8, z9] := Blk.set_to h1 rfl
 have h3 : Blk ((((W.setCell ⟨g, 0, none⟩ v0).setCell ⟨g, 1, none⟩ v1).setCell ⟨g, 2, none⟩ v2).setCell ⟨g, 3, none⟩ v3) g t #[v0, v1, v2, v3, z4, z5, z6, z7, z8, z9] := Blk.set_to h2 rfl
 have h4 : Blk (((((W.setCell ⟨g, 0, none⟩ v0).setCell ⟨g, 1, none⟩ v1).setCell ⟨g, 2, none⟩ v2).setCell ⟨g, 3, none⟩ v3).setCell ⟨g, 4, none⟩ v4) g t #[v0, v1, v2, v3, v4, z5, z6, z7, z8, z9] := Blk.set_to h3 rfl
 have h5 : Blk ((((((W.setCell ⟨g, 0, none⟩ v0).setCell ⟨g, 1, none⟩ v1).setCell ⟨g, 2, none⟩ v2).setCell ⟨g, 3, none⟩ v3).setCell ⟨g, 4, none⟩ v4).setCell ⟨g, 5, none⟩ v5) g t #[v0, v1, v2, v3, v4, v5, z6, z7, z8, z9] := Blk.set_to h4 rfl
 have h6 : Blk (((((((W.setCell ⟨g, 0, none⟩ v0).setCell ⟨g, 1, none⟩ v1).setCell ⟨g, 2, none⟩ v2).setCell ⟨g, 3, none⟩ v3).setCell ⟨g, 4, none⟩ v4).setCell ⟨g, 5, none⟩ v5).setCell ⟨g, 6, none⟩ v6) g t #[v0, v1, v2, v3, v4, v5, v6, z7, z8, z9] := Blk.set_to h5 rfl
 have h7 : Blk ((((((((W.setCell ⟨g, 0, none⟩ v0).setCell ⟨g, 1, none⟩ v1).setCell ⟨g, 2, none⟩ v2).setCell ⟨g, 3, none⟩ v3).setCell ⟨g, 4, none⟩ v4).setCell ⟨g, 5, none⟩ v5).setCell ⟨g, 6, none⟩ v6).setCell ⟨g, 7, none⟩ v7) g t #[v0, v1, v2, v3, v4, v5, v6, v7, z8, z9] := Blk.set_to h6 rfl
 have h8 : Blk (((((((((W.setCell ⟨g, 0, none⟩ v0).setCell ⟨g, 1, none⟩ v1).setCell ⟨g, 2, none⟩ v2).setCell ⟨g, 3, none⟩ v3).setCell ⟨g, 4, none⟩ v4).setCell ⟨g, 5, none⟩ v5).setCell ⟨g, 6, none⟩ v6).setCell ⟨g, 7, none⟩ v7).setCell ⟨g, 8, none⟩ v8) g t #[v0, v1, v2, v3, v4, v5, v6, v7, v8, z9] := Blk.set_to h7 rfl
 have h9 : Blk ((((((((((W.setCell ⟨g, 0, none⟩ v0).setCell ⟨g, 1, none⟩ v1).setCell ⟨g, 2, none⟩ v2).setCell ⟨g, 3, none⟩ v3).setCell ⟨g, 4, none⟩ v4).setCell ⟨g, 5, none⟩ v5).setCell ⟨g, 6, none⟩ v6).setCell ⟨g, 7, none⟩ v7).setCell ⟨g, 8, none⟩ v8).setCell ⟨g, 9, none⟩ v9) g t #[v0, v1, v2, v3, v4, v5, v6, v7, v8, v9] := Blk.set_to h8 rfl
 exact h9
theorem far10 {W : World} {g b : Nat} {t : TypeId} {cs : Array Value} {v0 v1 v2 v3 v4 v5 v6 v7 v8 v9 : Value} (hne : g ≠ b) (h : Blk W g t cs) :
  Blk ((((((((((W.setCell ⟨b, 0, none⟩ v0).setCell ⟨b, 1, none⟩ v1).setCell ⟨b, 2, none⟩ v2).setCell ⟨b, 3, none⟩ v3).setCell ⟨b, 4, none⟩ v4).setCell ⟨b, 5, none⟩ v5).setCell ⟨b, 6, none⟩ v6).setCell ⟨b, 7, none⟩ v7).setCell ⟨b, 8, none⟩ v8).setCell ⟨b, 9, none⟩ v9) g t cs :=
 Blk.far_ hne (Blk.far_ hne (Blk.far_ hne (Blk.far_ hne (Blk.far_ hne (Blk.far_ hne (Blk.far_ hne (Blk.far_ hne (Blk.far_ hne (Blk.far_ hne h)))))))))
theorem neg_none {l : List (List Ev)} {a : Nat} {e : Int} (h : e < 0) : evA l ((a : Int), e) = none := by unfold evA; rw [if_pos (.inr h)]
theorem on_ev {l : List (List Ev)} (hl : SetV l) {t : Tm} (ht : ok t) {a : Nat} (ha : a < l.length) : onS (l.getD a []) t = -1 ∨ ∃ (j : Nat) (x : Ev), onS (l.getD a []) t = (j : Int) ∧ evA l ((a : Int), (j : Int)) = some x ∧ (x.rest = false → pchk x.pit = 0) ∧ j ≤ 2000 := by
 obtain ⟨v, hv⟩ := get_some ha
 have hm := List.mem_of_getElem? hv
 rw [getD_at hv]
 rcases on_char (hl.val v hm) ht with ⟨j, x, hx, _, e⟩ | e
 ·exact .inr ⟨j, x, e, evA_nat hv hx, hl.pits v hm x (List.mem_of_getElem? hx), by have h1 := hl.few v hm; have h2 := (List.getElem?_eq_some_iff.1 hx).1; omega⟩
 ·exact .inl e
theorem triP_none {l : List (List Ev)} {t : Tm} {a b : Nat} (h : evA l ((a : Int), onS (l.getD a []) t) = none ∨ evA l ((b : Int), onS (l.getD b []) t) = none) : triP l t a b = [] := by
 unfold triP
 rcases h with h | h
 ·rw [h]
 ·rw [h]; split <;> simp_all
theorem triP_some {l : List (List Ev)} {t : Tm} {a b i j : Nat} {x y : Ev} (ha : onS (l.getD a []) t = (i : Int)) (hb : onS (l.getD b []) t = (j : Int)) (hx : evA l ((a : Int), (i : Int)) = some x) (hy : evA l ((b : Int), (j : Int)) = some y) :
  triP l t a b = if x.rest = true ∨ y.rest = true then [] else if triQ x.pit y.pit = 1 then [((a : Int), (i : Int))] else if triQ x.pit y.pit = 2 then [((b : Int), (j : Int))] else [] := by
 unfold triP
 rw [ha, hb, hx, hy]
theorem flat_ok {p : Pit3} (h : pchk p = 0) : pchk (flat p) = 0 := by
 have := pchk_ok h
 unfold pchk flat
 rw [if_neg (by simp only; omega)]
theorem triQ_1 {p q : Pit3} (h : kindP p q ≠ 4) : triQ p q = 0 := by unfold triQ; rw [if_pos h]
theorem triQ_2 {p q : Pit3} (h : flatN p q 6 = 0) (h2 : flatN p q 2 = 0) : triQ p q = 0 := by
 have : triN p q = 0 := by unfold triN; rw [if_neg (by simp [h]), h2]
 unfold triQ
 rw [this]; split <;> simp
theorem triN_6 {p q : Pit3} (h : flatN p q 6 ≠ 0) : triN p q = flatN p q 6 := by unfold triN; rw [if_pos h]
theorem triN_2 {p q : Pit3} (h : flatN p q 6 = 0) : triN p q = flatN p q 2 := by unfold triN; rw [if_neg (by simp [h])]
theorem triQ_x {p q : Pit3} (h : kindP p q = 4) (hN : triN p q = 1) : triQ p q = if kindP (flat p) q ≠ 4 then 1 else 0 := by unfold triQ; rw [if_neg (by simp [h]), hN]; rfl
theorem triQ_y {p q : Pit3} (h : kindP p q = 4) (hN : triN p q = 2) : triQ p q = if kindP p (flat q) ≠ 4 then 2 else 0 := by unfold triQ; rw [if_neg (by simp [h]), hN]; rfl
theorem flatN_bd (p q : Pit3) (s : Int) : flatN p q s = 0 ∨ flatN p q s = 1 ∨ flatN p q s = 2 := by unfold flatN; (repeat' split) <;> simp
theorem kind_two {p q : Pit3} (hp : pchk p = 0) (hq : pchk q = 0) : kindE p q = (kindP p q, 0) := by
 unfold kindE bothP
 rw [hp, hq]
 rfl
def YRet (db ob ib : Nat) (pd : Option Nat) (dn : Plc → Option Fic) (mo no : Nat) (r : Int) (w : World) (f : Plc → Option Fic) (e : Ending) (w' : World) : Prop :=
 e = .returned (.tuple #[]) ∧ YS w' db ob ib pd dn mo no f r ∧ w.grownBy w' (some mo)
theorem YRet.none {w w' : World} {db ob ib mo no : Nat} {pd : Option Nat} {dn f : Plc → Option Fic} {r al : Int} (h : YS w db ob ib pd dn mo no f r) (hb : Below w.heap.size w w') (L : List Plc) (hL : L = []) : YRet db ob ib pd dn mo (no + 1) r w (ylds dn r al f L) (.returned (.tuple #[])) w' := by
 subst hL
 have h' := h.call hb
 exact ⟨rfl, ⟨h'.dbox, h'.done, h'.apart, h'.obox, h'.out.mono (by omega), h'.ibox⟩, Gb.of_below hb⟩
theorem YRet.yes {w w1 w2 : World} {db ob ib mo no : Nat} {pd : Option Nat} {dn f : Plc → Option Fic} {r al : Int} (hb : Below w.heap.size w w1) (p : Plc) (h2 : YS w2 db ob ib pd dn mo (no + 1) (yld dn r al f p) r) (hg : w1.grownBy w2 (some mo)) (L : List Plc) (hL : L = [p]) : YRet db ob ib pd dn mo (no + 1) r w (ylds dn r al f L) (.returned (.tuple #[])) w2 := by
 subst hL
 exact ⟨rfl, h2, (Gb.of_below hb).tr hg⟩
theorem tritone_ok {w : World} {db ob ib mo no : Nat} {pd : Option Nat} {dn f : Plc → Option Fic} (h : YS w db ob ib pd dn mo no f 2) (hno : no ≤ 100000000) (A : Option Addr) (n c : Nat) (l : List (List Ev)) (B : Nat) (hV : ReadsV w B A n l) (hB : B ≤ w.heap.size) (hl : SetV l) (hT : Tabs w)
  (t : Tm) (ht : ok t) (d0 d1 : Int) (be oe ce : Nat) (hbe : be < w.heap.size) (hev : ∀ k : Nat, k < n → w.cell? ⟨be, oe + k, none⟩ = some (.int .i64 (onS (l.getD k []) t))) (a b : Nat) (hab : a < b) (hbn : b < n) :
  Calls Tryz.prog 89 #[.slice A n c, .agg #[.int .i64 t.1, .int .i64 t.2, .int .i64 d0, .int .i64 d1, .slice (some ⟨be, oe, none⟩) n ce], .int .i64 (a : Int), .int .i64 (b : Int), .func (.func 66) #[] #[.pointer (some ⟨db, 0, none⟩), .pointer (some ⟨ob, 0, none⟩), .pointer (some ⟨ib, 0, none⟩)]] w
   fun e w' => YRet db ob ib pd dn mo (no + 1) 2 w (ylds dn 2 (-1) f (triP l t a b)) e w' := by
 have hn8 : n ≤ 8 := by have := hl.len; have := hV.len; omega
 have hln := hV.len
 have ea := hev a (by omega)
 have eb := hev b hbn
 have la : (a : Int) < (n : Int) := by omega
 have lb : (b : Int) < (n : Int) := by omega
 have HH := Lib.hid h
 have ha := on_ev hl ht (a := a) (by omega)
 have hb := on_ev hl ht (a := b) (by omega)
 obtain ⟨t0, t1⟩ := t
 simp only
 rcases ha with ha | ⟨i, x, ha, hx, px, hi2⟩
 ·have E := Lib.hid (triP_none (l := l) (t := (t0, t1)) (a := a) (b := b) (.inl (neg_none (by omega))))
  rw [ha] at ea
  clear h hV hB hl hT ht hev hab hbn hn8 hln hb ha eb
  go_enter Tryz.func89, Tryz.ntmps89
  go_wp2
  refine bodyPost_end (results_none rfl _ _ _) rfl ?_
  exact YRet.none HH.out (by repeat (first | with_reducible (first | exact Below.refl _ _ | assumption | refine below_drewN ?_ _ | refine Below.drew ?_ | refine below_alloc ?_ _) | (with_reducible refine Below.setCell ?_ ?_ _; rotate_left; ((try simp only); omega)))) _ E.out
 ·rcases hb with hb | ⟨j, y, hb, hy, py, hj2⟩
  ·have E := Lib.hid (triP_none (l := l) (t := (t0, t1)) (a := a) (b := b) (.inr (neg_none (by omega))))
   rw [ha] at ea
   rw [hb] at eb
   clear h hV hB hl hT ht hev hab hbn hn8 hln ha hb px hx
   go_enter Tryz.func89, Tryz.ntmps89
   go_wp2
   refine bodyPost_end (results_none rfl _ _ _) rfl ?_
   exact YRet.none HH.out (by repeat (first | with_reducible (first | exact Below.refl _ _ | assumption | refine below_drewN ?_ _ | refine Below.drew ?_ | refine below_alloc ?_ _) | (with_reducible refine Below.setCell ?_ ?_ _; rotate_left; ((try simp only); omega)))) _ E.out
  ·have E := Lib.hid (triP_some ha hb hx hy)
   rw [ha] at ea
   rw [hb] at eb
   obtain ⟨⟨x0, x1⟩, ⟨x2, x3⟩, ⟨x4, x5, x6⟩, rx, x8, x9⟩ := x
   obtain ⟨⟨y0, y1⟩, ⟨y2, y3⟩, ⟨y4, y5, y6⟩, ry, y8, y9⟩ := y
   have ni : ¬ ((i : Int) < 0) := by omega
   have nj : ¬ ((j : Int) < 0) := by omega
   have HV := Lib.hid hV
   have HT := Lib.hid hT
   clear h hV hl hT ht hev ha hb
   go_enter Tryz.func89, Tryz.ntmps89
   go_wp2
   go_region
   go_wp2_with fail
   obtain ⟨wv, hwv⟩ : ∃ z, z = ((w.alloc (.cells #[.int .i64 t0, .int .i64 t1, .int .i64 d0, .int .i64 d1, .slice (some ⟨be, oe, none⟩) n ce] 85)).alloc (.cells #[.int .i64 (a : Int), .int .i64 (i : Int), .int .i64 (b : Int), .int .i64 (j : Int)] 164)).drew := ⟨_, rfl⟩
   have kv : Below w.heap.size w wv := by rw [hwv]; repeat (first | with_reducible (first | exact Below.refl _ _ | assumption | refine below_drewN ?_ _ | refine Below.drew ?_ | refine below_alloc ?_ _) | (with_reducible refine Below.setCell ?_ ?_ _; rotate_left; ((try simp only); omega)))
   have bp : Blk wv (w.heap.size + 1) 164 #[.int .i64 (a : Int), .int .i64 (i : Int), .int .i64 (b : Int), .int .i64 (j : Int)] := by rw [hwv]; exact Blk.drew (Blk.newAt _ _ _ _ (by simp))
   rw [← hwv]
   obtain ⟨gp, hgp⟩ : ∃ z, z = w.heap.size + 1 := ⟨_, rfl⟩
   rw [← hgp] at bp ⊢
   have lp := bp.lt
   have p0 := bp.cell 0
   have p1 := bp.cell 1
   have p2 := bp.cell 2
   have p3 := bp.cell 3
   simp only [List.getElem?_toArray, List.getElem?_cons_zero, List.getElem?_cons_succ] at p0 p1 p2 p3
   have q1 := fun W (hW : Below wv.heap.size wv W) => of_ok A n c l B W (HV.out.below hB (below_call kv hW)) (Nat.le_trans hB (below_call kv hW).size) hx
   have q2 := fun W (hW : Below wv.heap.size wv W) => of_ok A n c l B W (HV.out.below hB (below_call kv hW)) (Nat.le_trans hB (below_call kv hW).size) hy
   rw [show (cE ⟨(x0, x1), (x2, x3), (x4, x5, x6), rx, x8, x9⟩).toArray = #[.int .i64 x0, .int .i64 x1, .int .i64 x2, .int .i64 x3, .int .i64 x4, .int .i64 x5, .int .i64 x6, .bool rx, .int .i64 x8, .int .i64 x9] from rfl] at q1
   rw [show (cE ⟨(y0, y1), (y2, y3), (y4, y5, y6), ry, y8, y9⟩).toArray = #[.int .i64 y0, .int .i64 y1, .int .i64 y2, .int .i64 y3, .int .i64 y4, .int .i64 y5, .int .i64 y6, .bool ry, .int .i64 y8, .int .i64 y9] from rfl] at q2
   have KV := Lib.hid kv
   have BP := Lib.hid bp
   clear hwv hgp ea eb kv bp hbe
   apply share
   ·intro main
    go_region_held3 (fun w' => w'.cell? ⟨gp, 0, none⟩ = some (.int .i64 (a : Int)) ∧ w'.cell? ⟨gp, 1, none⟩ = some (.int .i64 (i : Int)) ∧ w'.cell? ⟨gp, 2, none⟩ = some (.int .i64 (b : Int)) ∧ w'.cell? ⟨gp, 3, none⟩ = some (.int .i64 (j : Int)) ∧ Below wv.heap.size wv w') ((refine (fun hb => ⟨(hb.cell (p := ⟨_, _, none⟩) lp).trans p0, (hb.cell (p := ⟨_, _, none⟩) lp).trans p1, (hb.cell (p := ⟨_, _, none⟩) lp).trans p2, (hb.cell (p := ⟨_, _, none⟩) lp).trans p3, hb⟩) ?_; repeat (first | with_reducible (first | exact Below.refl _ _ | exact hBe | exact hBd | exact (show _ ∧ _ ∧ _ ∧ _ ∧ Below wv.heap.size wv _ by assumption).2.2.2.2 | refine Below.drew ?_ | refine below_alloc ?_ _) | (with_reducible refine Below.setCell ?_ ?_ _; rotate_left; (first | (have hz := hBd.size; have hz' := hBe.size; show wv.heap.size ≤ _; simp only; omega) | (have hz := hBd.size; show wv.heap.size ≤ _; simp only; omega) | (show wv.heap.size ≤ _; simp only; omega)))))) (first | (go_at_call 49; (with_reducible refine (q1 _ (show _ ∧ _ ∧ _ ∧ _ ∧ Below wv.heap.size wv _ by assumption).2.2.2.2).mono ?_); rintro e wd ⟨rfl, hbd⟩; have hBd := below_call (show _ ∧ _ ∧ _ ∧ _ ∧ Below wv.heap.size wv _ by assumption).2.2.2.2 hbd; have hcd := (bcell hbd).1; have hfd := (bcell hbd).2; (try (refine lay_blk hbd (wv.heap.size) (t := 49) (cs := #[.int .i64 0, .int .i64 0, .int .i64 0, .int .i64 0, .int .i64 0, .int .i64 0, .int .i64 0, .bool false, .int .i64 0, .int .i64 0]) ?_ ?_; (focus ((repeat (first | with_reducible exact Blk.new _ _ _ | (with_reducible refine Blk.newAt _ _ _ _ ?_; first | rfl | (simp; done)) | with_reducible (first | apply Blk.alloc | apply Blk.drewN | apply Blk.drew | assumption | apply Blk.kept (hb := hbd)))); done)); intro lzP lcP lfP lbP)); (try (refine lay_blk hbd (wv.heap.size + 1) (t := 49) (cs := #[.int .i64 0, .int .i64 0, .int .i64 0, .int .i64 0, .int .i64 0, .int .i64 0, .int .i64 0, .bool false, .int .i64 0, .int .i64 0]) ?_ ?_; (focus ((repeat (first | with_reducible exact Blk.new _ _ _ | (with_reducible refine Blk.newAt _ _ _ _ ?_; first | rfl | (simp; done)) | with_reducible (first | apply Blk.alloc | apply Blk.drewN | apply Blk.drew | assumption | apply Blk.kept (hb := hbd)))); done)); intro lzQ lcQ lfQ lbQ))) | (go_at_call 49; (with_reducible refine (q2 _ (show _ ∧ _ ∧ _ ∧ _ ∧ Below wv.heap.size wv _ by assumption).2.2.2.2).mono ?_); rintro e we ⟨rfl, hbe⟩; have hBe := below_call (show _ ∧ _ ∧ _ ∧ _ ∧ Below wv.heap.size wv _ by assumption).2.2.2.2 hbe; have hce := (bcell hbe).1; have hfe := (bcell hbe).2; (try (refine lay_blk hbe (wv.heap.size) (t := 49) (cs := #[.int .i64 0, .int .i64 0, .int .i64 0, .int .i64 0, .int .i64 0, .int .i64 0, .int .i64 0, .bool false, .int .i64 0, .int .i64 0]) ?_ ?_; (focus ((repeat (first | with_reducible exact Blk.new _ _ _ | (with_reducible refine Blk.newAt _ _ _ _ ?_; first | rfl | (simp; done)) | with_reducible (first | apply Blk.alloc | apply Blk.drewN | apply Blk.drew | assumption | apply Blk.kept (hb := hbd)))); done)); intro lzR lcR lfR lbR)); (try (refine lay_blk hbe (wv.heap.size + 1) (t := 49) (cs := #[.int .i64 0, .int .i64 0, .int .i64 0, .int .i64 0, .int .i64 0, .int .i64 0, .int .i64 0, .bool false, .int .i64 0, .int .i64 0]) ?_ ?_; (focus ((repeat (first | with_reducible exact Blk.new _ _ _ | (with_reducible refine Blk.newAt _ _ _ _ ?_; first | rfl | (simp; done)) | with_reducible (first | apply Blk.alloc | apply Blk.drewN | apply Blk.drew | assumption | apply Blk.kept (hb := hbd)))); done)); intro lzS lcS lfS lbS)); (try (refine lay_blk hbe (wd.heap.size) (t := 49) (cs := #[.int .i64 0, .int .i64 0, .int .i64 0, .int .i64 0, .int .i64 0, .int .i64 0, .int .i64 0, .bool false, .int .i64 0, .int .i64 0]) ?_ ?_; (focus ((repeat (first | with_reducible exact Blk.new _ _ _ | (with_reducible refine Blk.newAt _ _ _ _ ?_; first | rfl | (simp; done)) | with_reducible (first | apply Blk.alloc | apply Blk.drewN | apply Blk.drew | assumption | apply Blk.kept (hb := hbd)))); done)); intro lzT lcT lfT lbT)); (try (refine lay_blk hbe (wd.heap.size + 1) (t := 49) (cs := #[.int .i64 0, .int .i64 0, .int .i64 0, .int .i64 0, .int .i64 0, .int .i64 0, .int .i64 0, .bool false, .int .i64 0, .int .i64 0]) ?_ ?_; (focus ((repeat (first | with_reducible exact Blk.new _ _ _ | (with_reducible refine Blk.newAt _ _ _ _ ?_; first | rfl | (simp; done)) | with_reducible (first | apply Blk.alloc | apply Blk.drewN | apply Blk.drew | assumption | apply Blk.kept (hb := hbd)))); done)); intro lzU lcU lfU lbU))))
    ·have hB5 := (show _ ∧ _ ∧ _ ∧ _ ∧ Below wv.heap.size wv _ by assumption).2.2.2.2
     have hz1 := hbd.size
     have hz2 := hbe.size
     simp at hz1 hz2
     obtain ⟨wx, hwx⟩ := name_world hB5
     rw [← hwx] at hB5 ⊢
     have hne : we.heap.size ≠ we.heap.size + 1 := by omega
     have BU : Blk wx (we.heap.size) 49 #[.int .i64 x0, .int .i64 x1, .int .i64 x2, .int .i64 x3, .int .i64 x4, .int .i64 x5, .int .i64 x6, .bool rx, .int .i64 x8, .int .i64 x9] := by rw [hwx]; exact Blk.alloc (Blk.new _ _ _) _
     have BV : Blk wx (we.heap.size + 1) 49 #[.int .i64 y0, .int .i64 y1, .int .i64 y2, .int .i64 y3, .int .i64 y4, .int .i64 y5, .int .i64 y6, .bool ry, .int .i64 y8, .int .i64 y9] := by rw [hwx]; exact Blk.newAt _ _ _ _ (by simp)
     obtain ⟨gU, hgU⟩ : ∃ z, z = we.heap.size := ⟨_, rfl⟩
     obtain ⟨gV, hgV⟩ : ∃ z, z = we.heap.size + 1 := ⟨_, rfl⟩
     rw [← hgV] at hne BV ⊢
     rw [← hgU] at hne BU ⊢
     have lU : wv.heap.size ≤ gU := by omega
     have lV : wv.heap.size ≤ gV := by omega
     clear hgU hgV hwx
     revert hne
     revert lV
     revert BV
     revert lU
     revert BU
     revert gV
     revert gU
     revert hB5
     revert wx
     exact main.out
    ·have hB5 := (show _ ∧ _ ∧ _ ∧ _ ∧ Below wv.heap.size wv _ by assumption).2.2.2.2
     have hz1 := hbd.size
     have hz2 := hbe.size
     simp at hz1 hz2
     obtain ⟨wx, hwx⟩ := name_world hB5
     rw [← hwx] at hB5 ⊢
     have hne : we.heap.size + 1 ≠ we.heap.size := by omega
     exact main.out wx hB5 (we.heap.size + 1) (we.heap.size) (by rw [hwx]; exact Blk.newAt _ _ _ _ (by simp)) (by omega) (by rw [hwx]; exact Blk.alloc (Blk.new _ _ _) _) (by omega) hne
    ·have hB5 := (show _ ∧ _ ∧ _ ∧ _ ∧ Below wv.heap.size wv _ by assumption).2.2.2.2
     have hz1 := hbd.size
     have hz2 := hbe.size
     simp at hz1 hz2
     obtain ⟨wx, hwx⟩ := name_world hB5
     rw [← hwx] at hB5 ⊢
     have hne : wd.heap.size ≠ we.heap.size := by omega
     exact main.out wx hB5 (wd.heap.size) (we.heap.size) (by rw [hwx]; exact Blk.alloc (set10 (by assumption)) _) (by omega) (by rw [hwx]; exact Blk.newAt _ _ _ _ (by simp)) (by omega) hne
    ·have hB5 := (show _ ∧ _ ∧ _ ∧ _ ∧ Below wv.heap.size wv _ by assumption).2.2.2.2
     have hz1 := hbd.size
     have hz2 := hbe.size
     simp at hz1 hz2
     obtain ⟨wx, hwx⟩ := name_world hB5
     rw [← hwx] at hB5 ⊢
     have hne : wd.heap.size ≠ wd.heap.size + 1 := by omega
     exact main.out wx hB5 (wd.heap.size) (wd.heap.size + 1) (by rw [hwx]; exact far10 hne (set10 (by assumption))) (by omega) (by rw [hwx]; exact set10 (far10 hne.symm (by assumption))) (by omega) hne
    ·have hB5 := (show _ ∧ _ ∧ _ ∧ _ ∧ Below wv.heap.size wv _ by assumption).2.2.2.2
     have hz1 := hbd.size
     have hz2 := hbe.size
     simp at hz1 hz2
     obtain ⟨wx, hwx⟩ := name_world hB5
     rw [← hwx] at hB5 ⊢
     have hne : we.heap.size ≠ wd.heap.size := by omega
     exact main.out wx hB5 (we.heap.size) (wd.heap.size) (by rw [hwx]; exact Blk.newAt _ _ _ _ (by simp)) (by omega) (by rw [hwx]; exact Blk.alloc (set10 (by assumption)) _) (by omega) hne
    ·have hB5 := (show _ ∧ _ ∧ _ ∧ _ ∧ Below wv.heap.size wv _ by assumption).2.2.2.2
     have hz1 := hbd.size
     have hz2 := hbe.size
     simp at hz1 hz2
     obtain ⟨wx, hwx⟩ := name_world hB5
     rw [← hwx] at hB5 ⊢
     have hne : wd.heap.size + 1 ≠ wd.heap.size := by omega
     exact main.out wx hB5 (wd.heap.size + 1) (wd.heap.size) (by rw [hwx]; exact far10 hne (set10 (by assumption))) (by omega) (by rw [hwx]; exact set10 (far10 hne.symm (by assumption))) (by omega) hne
    ·have hB5 := (show _ ∧ _ ∧ _ ∧ _ ∧ Below wv.heap.size wv _ by assumption).2.2.2.2
     have hz1 := hbd.size
     have hz2 := hbe.size
     simp at hz1 hz2
     obtain ⟨wx, hwx⟩ := name_world hB5
     rw [← hwx] at hB5 ⊢
     have hne : wv.heap.size ≠ we.heap.size := by omega
     exact main.out wx hB5 (wv.heap.size) (we.heap.size) (by rw [hwx]; exact Blk.alloc (set10 (by assumption)) _) (by omega) (by rw [hwx]; exact Blk.newAt _ _ _ _ (by simp)) (by omega) hne
    ·have hB5 := (show _ ∧ _ ∧ _ ∧ _ ∧ Below wv.heap.size wv _ by assumption).2.2.2.2
     have hz1 := hbd.size
     have hz2 := hbe.size
     simp at hz1 hz2
     obtain ⟨wx, hwx⟩ := name_world hB5
     rw [← hwx] at hB5 ⊢
     have hne : wv.heap.size ≠ wd.heap.size := by omega
     exact main.out wx hB5 (wv.heap.size) (wd.heap.size) (by rw [hwx]; exact far10 hne (set10 (by assumption))) (by omega) (by rw [hwx]; exact set10 (far10 hne.symm (by assumption))) (by omega) hne
    ·have hB5 := (show _ ∧ _ ∧ _ ∧ _ ∧ Below wv.heap.size wv _ by assumption).2.2.2.2
     have hz1 := hbd.size
     have hz2 := hbe.size
     simp at hz1 hz2
     obtain ⟨wx, hwx⟩ := name_world hB5
     rw [← hwx] at hB5 ⊢
     have hne : wv.heap.size ≠ wv.heap.size + 1 := by omega
     exact main.out wx hB5 (wv.heap.size) (wv.heap.size + 1) (by rw [hwx]; exact far10 hne (set10 (by assumption))) (by omega) (by rw [hwx]; exact set10 (far10 hne.symm (by assumption))) (by omega) hne
    ·have hB5 := (show _ ∧ _ ∧ _ ∧ _ ∧ Below wv.heap.size wv _ by assumption).2.2.2.2
     have hz1 := hbd.size
     have hz2 := hbe.size
     simp at hz1 hz2
     obtain ⟨wx, hwx⟩ := name_world hB5
     rw [← hwx] at hB5 ⊢
     have hne : we.heap.size ≠ wv.heap.size := by omega
     exact main.out wx hB5 (we.heap.size) (wv.heap.size) (by rw [hwx]; exact Blk.newAt _ _ _ _ (by simp)) (by omega) (by rw [hwx]; exact Blk.alloc (set10 (by assumption)) _) (by omega) hne
    ·have hB5 := (show _ ∧ _ ∧ _ ∧ _ ∧ Below wv.heap.size wv _ by assumption).2.2.2.2
     have hz1 := hbd.size
     have hz2 := hbe.size
     simp at hz1 hz2
     obtain ⟨wx, hwx⟩ := name_world hB5
     rw [← hwx] at hB5 ⊢
     have hne : wd.heap.size ≠ wv.heap.size := by omega
     exact main.out wx hB5 (wd.heap.size) (wv.heap.size) (by rw [hwx]; exact far10 hne (set10 (by assumption))) (by omega) (by rw [hwx]; exact set10 (far10 hne.symm (by assumption))) (by omega) hne
    ·have hB5 := (show _ ∧ _ ∧ _ ∧ _ ∧ Below wv.heap.size wv _ by assumption).2.2.2.2
     have hz1 := hbd.size
     have hz2 := hbe.size
     simp at hz1 hz2
     obtain ⟨wx, hwx⟩ := name_world hB5
     rw [← hwx] at hB5 ⊢
     have hne : wv.heap.size + 1 ≠ wv.heap.size := by omega
     exact main.out wx hB5 (wv.heap.size + 1) (wv.heap.size) (by rw [hwx]; exact far10 hne (set10 (by assumption))) (by omega) (by rw [hwx]; exact set10 (far10 hne.symm (by assumption))) (by omega) hne
   intro wx K5 gU gV BU lU BV lV hne
   have kx := below_call KV.out K5
   have bpx := BP.out.kept K5
   have hne' := hne.symm
   have lgU : w.heap.size ≤ gU := by have := KV.out.size; omega
   have lgV : w.heap.size ≤ gV := by have := KV.out.size; omega
   have gpu : gp ≠ gU := by omega
   have gpv : gp ≠ gV := by omega
   clear K5 lU lV q1 q2 p0 p1 p2 p3 lp BP KV
   cases rx with
   | true =>
    have E := Lib.hid (E.out.trans (if_pos (.inl rfl)))
    have cU := BU.cell
    have zU := BU.lt
    clear BU BV bpx
    go_wp2
    refine bodyPost_end (results_none rfl _ _ _) rfl ?_
    exact YRet.none HH.out (by repeat (first | with_reducible (first | exact Below.refl _ _ | assumption | refine below_drewN ?_ _ | refine Below.drew ?_ | refine below_alloc ?_ _) | (with_reducible refine Below.setCell ?_ ?_ _; rotate_left; ((try simp only); omega)))) _ E.out
   | false =>
   cases ry with
   | true =>
    have E := Lib.hid (E.out.trans (if_pos (.inr rfl)))
    have cU := BU.cell
    have zU := BU.lt
    have cV := BV.cell
    have zV := BV.lt
    clear BU BV bpx
    go_wp2
    refine bodyPost_end (results_none rfl _ _ _) rfl ?_
    exact YRet.none HH.out (by repeat (first | with_reducible (first | exact Below.refl _ _ | assumption | refine below_drewN ?_ _ | refine Below.drew ?_ | refine below_alloc ?_ _) | (with_reducible refine Below.setCell ?_ ?_ _; rotate_left; ((try simp only); omega)))) _ E.out
   | false =>
   have E := Lib.hid (E.out.trans (if_neg (by simp)))
   have hpx := px rfl
   have hpy := py rfl
   have qk := fun W (hW : Below w.heap.size w W) => Kind_any (x4, x5, x6) (y4, y5, y6) W (HT.out.kept hW)
   have qk1 := fun W (hW : Below w.heap.size w W) => Kind_any (x4, x5, -1) (y4, y5, y6) W (HT.out.kept hW)
   have qk2 := fun W (hW : Below w.heap.size w W) => Kind_any (x4, x5, x6) (y4, y5, -1) W (HT.out.kept hW)
   rw [kind_two hpx hpy] at qk
   rw [kind_two (p := (x4, x5, -1)) (flat_ok hpx) hpy] at qk1
   rw [kind_two (q := (y4, y5, -1)) hpx (flat_ok hpy)] at qk2
   have qf := fun s W (hW : Below w.heap.size w W) => flattened_ok A n c l B W (HV.out.below hB hW) (Nat.le_trans hB hW.size) hx hy rfl rfl s
   clear px py hx hy
   simp only at qk qk1 qk2 qf
   have E := Lib.hid (show triP l (t0, t1) a b = if triQ (x4, x5, x6) (y4, y5, y6) = 1 then [((a : Int), (i : Int))] else if triQ (x4, x5, x6) (y4, y5, y6) = 2 then [((b : Int), (j : Int))] else [] from E.out)
   have HQ1 := Lib.hid (fun (h : kindP (x4, x5, x6) (y4, y5, y6) = 4) (hN : triN (x4, x5, x6) (y4, y5, y6) = 1) => show triQ (x4, x5, x6) (y4, y5, y6) = if kindP (x4, x5, -1) (y4, y5, y6) ≠ 4 then 1 else 0 from triQ_x h hN)
   have HQ2 := Lib.hid (fun (h : kindP (x4, x5, x6) (y4, y5, y6) = 4) (hN : triN (x4, x5, x6) (y4, y5, y6) = 2) => show triQ (x4, x5, x6) (y4, y5, y6) = if kindP (x4, x5, x6) (y4, y5, -1) ≠ 4 then 2 else 0 from triQ_y h hN)
   obtain ⟨K1, hK1⟩ : ∃ z, z = kindP (x4, x5, -1) (y4, y5, y6) := ⟨_, rfl⟩
   obtain ⟨K2, hK2⟩ : ∃ z, z = kindP (x4, x5, x6) (y4, y5, -1) := ⟨_, rfl⟩
   rw [← hK1] at qk1 HQ1
   rw [← hK2] at qk2 HQ2
   clear hK1 hK2
   have cU := BU.cell
   have zU := BU.lt
   have cV := BV.cell
   have zV := BV.lt
   have fU := BU.frozen
   have fV := BV.frozen
   have cp := bpx.cell
   have zp := bpx.lt
   go_wp2_with fail
   refine (qk _ (by repeat (first | with_reducible (first | exact Below.refl _ _ | assumption | refine below_drewN ?_ _ | refine Below.drew ?_ | refine below_alloc ?_ _) | (with_reducible refine Below.setCell ?_ ?_ _; rotate_left; ((try simp only); omega))))).mono ?_
   rintro e w1 ⟨rfl, hb1⟩
   have k1 := below_call kx hb1
   have u1 := BU.kept hb1
   have v1 := BV.kept hb1
   have bp1 := bpx.kept hb1
   clear cU zU cV zV fU fV cp zp BU BV bpx hb1 kx qk
   have cU := u1.cell
   have zU := u1.lt
   have cV := v1.cell
   have zV := v1.lt
   have fU := u1.frozen
   have fV := v1.frozen
   have cp := bp1.cell
   have zp := bp1.lt
   by_cases hk : kindP (x4, x5, x6) (y4, y5, y6) = 4
   ·have hkb : (kindP (x4, x5, x6) (y4, y5, y6) != 4) = false := by simp [hk]
    have hba : ((b : Int) == (a : Int)) = false := by simp; omega
    rcases flatN_bd (x4, x5, x6) (y4, y5, y6) 6 with h6 | h6 | h6
    ·have q6 : ∀ W, Below w.heap.size w W → Calls Tryz.prog 124 #[.slice A n c, .agg #[.int .i64 (a : Int), .int .i64 (i : Int), .int .i64 (b : Int), .int .i64 (j : Int)], .int .i64 6] W fun e w' => e = .returned (.tuple #[.agg #[.int .i64 0, .int .i64 0], .bool false]) ∧ Below W.heap.size W w' := fun W hW => by
      have := qf 6 W hW
      rw [h6] at this
      exact this
     rcases flatN_bd (x4, x5, x6) (y4, y5, y6) 2 with h2 | h2 | h2
     ·have q2 : ∀ W, Below w.heap.size w W → Calls Tryz.prog 124 #[.slice A n c, .agg #[.int .i64 (a : Int), .int .i64 (i : Int), .int .i64 (b : Int), .int .i64 (j : Int)], .int .i64 2] W fun e w' => e = .returned (.tuple #[.agg #[.int .i64 0, .int .i64 0], .bool false]) ∧ Below W.heap.size W w' := fun W hW => by
       have := qf 2 W hW
       rw [h2] at this
       exact this
      go_wp2_with fail
      refine (q6 _ (by repeat (first | with_reducible (first | exact Below.refl _ _ | assumption | refine below_drewN ?_ _ | refine Below.drew ?_ | refine below_alloc ?_ _) | (with_reducible refine Below.setCell ?_ ?_ _; rotate_left; ((try simp only); omega))))).mono ?_
      rintro e w2 ⟨rfl, hb2⟩
      have k2 : Below w.heap.size w w2 := below_call (by repeat (first | with_reducible (first | exact Below.refl _ _ | assumption | refine below_drewN ?_ _ | refine Below.drew ?_ | refine below_alloc ?_ _) | (with_reducible refine Below.setCell ?_ ?_ _; rotate_left; ((try simp only); omega)))) hb2
      have u2 := u1.kept hb2
      have v2 := v1.kept hb2
      have bp2 := bp1.kept hb2
      have l2 : w.heap.size ≤ w2.heap.size := k2.size
      clear cU zU cV zV fU fV cp zp
      have cU := u2.cell
      have zU := u2.lt
      have cV := v2.cell
      have zV := v2.lt
      have fU := u2.frozen
      have fV := v2.frozen
      have cp := bp2.cell
      have zp := bp2.lt
      clear q6
      go_wp2_with fail
      refine (q2 _ (by repeat (first | with_reducible (first | exact Below.refl _ _ | assumption | refine below_drewN ?_ _ | refine Below.drew ?_ | refine below_alloc ?_ _) | (with_reducible refine Below.setCell ?_ ?_ _; rotate_left; ((try simp only); omega))))).mono ?_
      rintro e w3 ⟨rfl, hb3⟩
      have k3 : Below w.heap.size w w3 := below_call (by repeat (first | with_reducible (first | exact Below.refl _ _ | assumption | refine below_drewN ?_ _ | refine Below.drew ?_ | refine below_alloc ?_ _) | (with_reducible refine Below.setCell ?_ ?_ _; rotate_left; ((try simp only); omega)))) hb3
      have b15 : Blk w3 w2.heap.size 61 #[.int .i64 0, .int .i64 0] := by
       refine Blk.kept ?_ hb3
       repeat (first | with_reducible (first | exact u1 | exact v1 | exact bp1 | exact u2 | exact v2 | exact bp2 | exact b15 | exact Blk.new _ _ _) | (with_reducible refine Blk.newAt _ _ _ _ ?_; first | rfl | (simp; done)) | with_reducible (first | apply Blk.alloc | apply Blk.drewN | apply Blk.drew | apply Blk.set_to) | (with_reducible apply Blk.far_; (simp only [ne_eq]; omega)) | rfl)
      have c15 := b15.cell
      have z15 := b15.lt
      have f15 := b15.frozen
      clear q2 cU zU cV zV fU fV cp zp
      have E := Lib.hid (E.out.trans (by rw [triQ_2 h6 h2] <;> try rfl))
      clear hk h6 h2 HQ1 HQ2 qf qk1 qk2
      go_wp2
      refine bodyPost_end (results_none rfl _ _ _) rfl ?_
      exact YRet.none HH.out (by repeat (first | with_reducible (first | exact Below.refl _ _ | assumption | refine below_drewN ?_ _ | refine Below.drew ?_ | refine below_alloc ?_ _) | (with_reducible refine Below.setCell ?_ ?_ _; rotate_left; ((try simp only); omega)))) _ E.out
     ·have q2 : ∀ W, Below w.heap.size w W → Calls Tryz.prog 124 #[.slice A n c, .agg #[.int .i64 (a : Int), .int .i64 (i : Int), .int .i64 (b : Int), .int .i64 (j : Int)], .int .i64 2] W fun e w' => e = .returned (.tuple #[.agg #[.int .i64 (a : Int), .int .i64 (i : Int)], .bool true]) ∧ Below W.heap.size W w' := fun W hW => by
       have := qf 2 W hW
       rw [h2] at this
       exact this
      go_wp2_with fail
      refine (q6 _ (by repeat (first | with_reducible (first | exact Below.refl _ _ | assumption | refine below_drewN ?_ _ | refine Below.drew ?_ | refine below_alloc ?_ _) | (with_reducible refine Below.setCell ?_ ?_ _; rotate_left; ((try simp only); omega))))).mono ?_
      rintro e w2 ⟨rfl, hb2⟩
      have k2 : Below w.heap.size w w2 := below_call (by repeat (first | with_reducible (first | exact Below.refl _ _ | assumption | refine below_drewN ?_ _ | refine Below.drew ?_ | refine below_alloc ?_ _) | (with_reducible refine Below.setCell ?_ ?_ _; rotate_left; ((try simp only); omega)))) hb2
      have u2 := u1.kept hb2
      have v2 := v1.kept hb2
      have bp2 := bp1.kept hb2
      have l2 : w.heap.size ≤ w2.heap.size := k2.size
      clear cU zU cV zV fU fV cp zp
      have cU := u2.cell
      have zU := u2.lt
      have cV := v2.cell
      have zV := v2.lt
      have fU := u2.frozen
      have fV := v2.frozen
      have cp := bp2.cell
      have zp := bp2.lt
      clear q6
      go_wp2_with fail
      refine (q2 _ (by repeat (first | with_reducible (first | exact Below.refl _ _ | assumption | refine below_drewN ?_ _ | refine Below.drew ?_ | refine below_alloc ?_ _) | (with_reducible refine Below.setCell ?_ ?_ _; rotate_left; ((try simp only); omega))))).mono ?_
      rintro e w3 ⟨rfl, hb3⟩
      have k3 : Below w.heap.size w w3 := below_call (by repeat (first | with_reducible (first | exact Below.refl _ _ | assumption | refine below_drewN ?_ _ | refine Below.drew ?_ | refine below_alloc ?_ _) | (with_reducible refine Below.setCell ?_ ?_ _; rotate_left; ((try simp only); omega)))) hb3
      have u3 : Blk w3 gU 49 #[.int .i64 x0, .int .i64 x1, .int .i64 x2, .int .i64 x3, .int .i64 x4, .int .i64 x5, .int .i64 x6, .bool false, .int .i64 x8, .int .i64 x9] := by
       refine Blk.kept ?_ hb3
       repeat (first | with_reducible (first | exact u1 | exact v1 | exact bp1 | exact u2 | exact v2 | exact bp2 | exact b15 | exact Blk.new _ _ _) | (with_reducible refine Blk.newAt _ _ _ _ ?_; first | rfl | (simp; done)) | with_reducible (first | apply Blk.alloc | apply Blk.drewN | apply Blk.drew | apply Blk.set_to) | (with_reducible apply Blk.far_; (simp only [ne_eq]; omega)) | rfl)
      have v3 : Blk w3 gV 49 #[.int .i64 y0, .int .i64 y1, .int .i64 y2, .int .i64 y3, .int .i64 y4, .int .i64 y5, .int .i64 y6, .bool false, .int .i64 y8, .int .i64 y9] := by
       refine Blk.kept ?_ hb3
       repeat (first | with_reducible (first | exact u1 | exact v1 | exact bp1 | exact u2 | exact v2 | exact bp2 | exact b15 | exact Blk.new _ _ _) | (with_reducible refine Blk.newAt _ _ _ _ ?_; first | rfl | (simp; done)) | with_reducible (first | apply Blk.alloc | apply Blk.drewN | apply Blk.drew | apply Blk.set_to) | (with_reducible apply Blk.far_; (simp only [ne_eq]; omega)) | rfl)
      have bp3 : Blk w3 gp 164 #[.int .i64 (a : Int), .int .i64 (i : Int), .int .i64 (b : Int), .int .i64 (j : Int)] := by
       refine Blk.kept ?_ hb3
       repeat (first | with_reducible (first | exact u1 | exact v1 | exact bp1 | exact u2 | exact v2 | exact bp2 | exact b15 | exact Blk.new _ _ _) | (with_reducible refine Blk.newAt _ _ _ _ ?_; first | rfl | (simp; done)) | with_reducible (first | apply Blk.alloc | apply Blk.drewN | apply Blk.drew | apply Blk.set_to) | (with_reducible apply Blk.far_; (simp only [ne_eq]; omega)) | rfl)
      have b15 : Blk w3 w2.heap.size 61 #[.int .i64 0, .int .i64 0] := by
       refine Blk.kept ?_ hb3
       repeat (first | with_reducible (first | exact u1 | exact v1 | exact bp1 | exact u2 | exact v2 | exact bp2 | exact b15 | exact Blk.new _ _ _) | (with_reducible refine Blk.newAt _ _ _ _ ?_; first | rfl | (simp; done)) | with_reducible (first | apply Blk.alloc | apply Blk.drewN | apply Blk.drew | apply Blk.set_to) | (with_reducible apply Blk.far_; (simp only [ne_eq]; omega)) | rfl)
      have c15 := b15.cell
      have z15 := b15.lt
      have f15 := b15.frozen
      have nu : w2.heap.size ≠ gU := by omega
      have nv : w2.heap.size ≠ gV := by omega
      have np : w2.heap.size ≠ gp := by omega
      clear cU zU cV zV fU fV cp zp
      have cU := u3.cell
      have zU := u3.lt
      have cV := v3.cell
      have zV := v3.lt
      have fU := u3.frozen
      have fV := v3.frozen
      have cp := bp3.cell
      have zp := bp3.lt
      clear q2
      go_wp2_with fail
      refine (qk1 _ (by repeat (first | with_reducible (first | exact Below.refl _ _ | assumption | refine below_drewN ?_ _ | refine Below.drew ?_ | refine below_alloc ?_ _) | (with_reducible refine Below.setCell ?_ ?_ _; rotate_left; ((try simp only); omega))))).mono ?_
      rintro e w4 ⟨rfl, hb4⟩
      have k4 : Below w.heap.size w w4 := below_call (by repeat (first | with_reducible (first | exact Below.refl _ _ | assumption | refine below_drewN ?_ _ | refine Below.drew ?_ | refine below_alloc ?_ _) | (with_reducible refine Below.setCell ?_ ?_ _; rotate_left; ((try simp only); omega)))) hb4
      have b16 : Blk w4 (w2.heap.size) 61 #[.int .i64 (a : Int), .int .i64 (i : Int)] := by
       refine Blk.kept ?_ hb4
       repeat (first | with_reducible (first | exact u1 | exact v1 | exact bp1 | exact u2 | exact v2 | exact bp2 | exact b15 | exact Blk.new _ _ _) | (with_reducible refine Blk.newAt _ _ _ _ ?_; first | rfl | (simp; done)) | with_reducible (first | apply Blk.alloc | apply Blk.drewN | apply Blk.drew | apply Blk.set_to) | (with_reducible apply Blk.far_; (simp only [ne_eq]; omega)) | rfl)
      have c16 := b16.cell
      have z16 := b16.lt
      clear cU zU cV zV fU fV cp zp
      have HT3 := Lib.hid (HQ1.out hk (by rw [triN_2 h6, h2]))
      by_cases hk1 : K1 = 4
      ·have hkb1 : (K1 != 4) = false := by simp [hk1]
       have E := Lib.hid (show triP l (t0, t1) a b = [] from E.out.trans (by rw [HT3.out]; simp [hk1]))
       clear hk1 HT3 HQ1 HQ2 qf qk1 qk2 hk
       go_wp2
       refine bodyPost_end (results_none rfl _ _ _) rfl ?_
       exact YRet.none HH.out (by repeat (first | with_reducible (first | exact Below.refl _ _ | assumption | refine below_drewN ?_ _ | refine Below.drew ?_ | refine below_alloc ?_ _) | (with_reducible refine Below.setCell ?_ ?_ _; rotate_left; ((try simp only); omega)))) _ E.out
      ·have hkb1 : (K1 != 4) = true := by simpa using hk1
       have E := Lib.hid (show triP l (t0, t1) a b = [((a : Int), (i : Int))] from E.out.trans (by rw [HT3.out, if_pos hk1] <;> try rfl))
       have qy := fun W (hW : Below w.heap.size w W) => yield_ok (HH.out.call hW) hno (by omega) ((a : Int), (i : Int)) (by unfold okI; simp only; omega) (-1)
       simp only at qy
       clear hk1 HT3 HQ1 HQ2 qf qk1 qk2 hk
       go_wp2_with fail
       refine (qy _ (by repeat (first | with_reducible (first | exact Below.refl _ _ | assumption | refine below_drewN ?_ _ | refine Below.drew ?_ | refine below_alloc ?_ _) | (with_reducible refine Below.setCell ?_ ?_ _; rotate_left; ((try simp only); omega))))).mono ?_
       rintro e w9 ⟨rfl, hY, hG⟩
       go_wp2
       refine bodyPost_end (results_none rfl _ _ _) rfl ?_
       exact YRet.yes k4 _ hY hG _ E.out
     ·have q2 : ∀ W, Below w.heap.size w W → Calls Tryz.prog 124 #[.slice A n c, .agg #[.int .i64 (a : Int), .int .i64 (i : Int), .int .i64 (b : Int), .int .i64 (j : Int)], .int .i64 2] W fun e w' => e = .returned (.tuple #[.agg #[.int .i64 (b : Int), .int .i64 (j : Int)], .bool true]) ∧ Below W.heap.size W w' := fun W hW => by
       have := qf 2 W hW
       rw [h2] at this
       exact this
      go_wp2_with fail
      refine (q6 _ (by repeat (first | with_reducible (first | exact Below.refl _ _ | assumption | refine below_drewN ?_ _ | refine Below.drew ?_ | refine below_alloc ?_ _) | (with_reducible refine Below.setCell ?_ ?_ _; rotate_left; ((try simp only); omega))))).mono ?_
      rintro e w2 ⟨rfl, hb2⟩
      have k2 : Below w.heap.size w w2 := below_call (by repeat (first | with_reducible (first | exact Below.refl _ _ | assumption | refine below_drewN ?_ _ | refine Below.drew ?_ | refine below_alloc ?_ _) | (with_reducible refine Below.setCell ?_ ?_ _; rotate_left; ((try simp only); omega)))) hb2
      have u2 := u1.kept hb2
      have v2 := v1.kept hb2
      have bp2 := bp1.kept hb2
      have l2 : w.heap.size ≤ w2.heap.size := k2.size
      clear cU zU cV zV fU fV cp zp
      have cU := u2.cell
      have zU := u2.lt
      have cV := v2.cell
      have zV := v2.lt
      have fU := u2.frozen
      have fV := v2.frozen
      have cp := bp2.cell
      have zp := bp2.lt
      clear q6
      go_wp2_with fail
      refine (q2 _ (by repeat (first | with_reducible (first | exact Below.refl _ _ | assumption | refine below_drewN ?_ _ | refine Below.drew ?_ | refine below_alloc ?_ _) | (with_reducible refine Below.setCell ?_ ?_ _; rotate_left; ((try simp only); omega))))).mono ?_
      rintro e w3 ⟨rfl, hb3⟩
      have k3 : Below w.heap.size w w3 := below_call (by repeat (first | with_reducible (first | exact Below.refl _ _ | assumption | refine below_drewN ?_ _ | refine Below.drew ?_ | refine below_alloc ?_ _) | (with_reducible refine Below.setCell ?_ ?_ _; rotate_left; ((try simp only); omega)))) hb3
      have u3 : Blk w3 gU 49 #[.int .i64 x0, .int .i64 x1, .int .i64 x2, .int .i64 x3, .int .i64 x4, .int .i64 x5, .int .i64 x6, .bool false, .int .i64 x8, .int .i64 x9] := by
       refine Blk.kept ?_ hb3
       repeat (first | with_reducible (first | exact u1 | exact v1 | exact bp1 | exact u2 | exact v2 | exact bp2 | exact b15 | exact Blk.new _ _ _) | (with_reducible refine Blk.newAt _ _ _ _ ?_; first | rfl | (simp; done)) | with_reducible (first | apply Blk.alloc | apply Blk.drewN | apply Blk.drew | apply Blk.set_to) | (with_reducible apply Blk.far_; (simp only [ne_eq]; omega)) | rfl)
      have v3 : Blk w3 gV 49 #[.int .i64 y0, .int .i64 y1, .int .i64 y2, .int .i64 y3, .int .i64 y4, .int .i64 y5, .int .i64 y6, .bool false, .int .i64 y8, .int .i64 y9] := by
       refine Blk.kept ?_ hb3
       repeat (first | with_reducible (first | exact u1 | exact v1 | exact bp1 | exact u2 | exact v2 | exact bp2 | exact b15 | exact Blk.new _ _ _) | (with_reducible refine Blk.newAt _ _ _ _ ?_; first | rfl | (simp; done)) | with_reducible (first | apply Blk.alloc | apply Blk.drewN | apply Blk.drew | apply Blk.set_to) | (with_reducible apply Blk.far_; (simp only [ne_eq]; omega)) | rfl)
      have bp3 : Blk w3 gp 164 #[.int .i64 (a : Int), .int .i64 (i : Int), .int .i64 (b : Int), .int .i64 (j : Int)] := by
       refine Blk.kept ?_ hb3
       repeat (first | with_reducible (first | exact u1 | exact v1 | exact bp1 | exact u2 | exact v2 | exact bp2 | exact b15 | exact Blk.new _ _ _) | (with_reducible refine Blk.newAt _ _ _ _ ?_; first | rfl | (simp; done)) | with_reducible (first | apply Blk.alloc | apply Blk.drewN | apply Blk.drew | apply Blk.set_to) | (with_reducible apply Blk.far_; (simp only [ne_eq]; omega)) | rfl)
      have b15 : Blk w3 w2.heap.size 61 #[.int .i64 0, .int .i64 0] := by
       refine Blk.kept ?_ hb3
       repeat (first | with_reducible (first | exact u1 | exact v1 | exact bp1 | exact u2 | exact v2 | exact bp2 | exact b15 | exact Blk.new _ _ _) | (with_reducible refine Blk.newAt _ _ _ _ ?_; first | rfl | (simp; done)) | with_reducible (first | apply Blk.alloc | apply Blk.drewN | apply Blk.drew | apply Blk.set_to) | (with_reducible apply Blk.far_; (simp only [ne_eq]; omega)) | rfl)
      have c15 := b15.cell
      have z15 := b15.lt
      have f15 := b15.frozen
      have nu : w2.heap.size ≠ gU := by omega
      have nv : w2.heap.size ≠ gV := by omega
      have np : w2.heap.size ≠ gp := by omega
      clear cU zU cV zV fU fV cp zp
      have cU := u3.cell
      have zU := u3.lt
      have cV := v3.cell
      have zV := v3.lt
      have fU := u3.frozen
      have fV := v3.frozen
      have cp := bp3.cell
      have zp := bp3.lt
      clear q2
      go_wp2_with fail
      refine (qk2 _ (by repeat (first | with_reducible (first | exact Below.refl _ _ | assumption | refine below_drewN ?_ _ | refine Below.drew ?_ | refine below_alloc ?_ _) | (with_reducible refine Below.setCell ?_ ?_ _; rotate_left; ((try simp only); omega))))).mono ?_
      rintro e w4 ⟨rfl, hb4⟩
      have k4 : Below w.heap.size w w4 := below_call (by repeat (first | with_reducible (first | exact Below.refl _ _ | assumption | refine below_drewN ?_ _ | refine Below.drew ?_ | refine below_alloc ?_ _) | (with_reducible refine Below.setCell ?_ ?_ _; rotate_left; ((try simp only); omega)))) hb4
      have b16 : Blk w4 (w2.heap.size) 61 #[.int .i64 (b : Int), .int .i64 (j : Int)] := by
       refine Blk.kept ?_ hb4
       repeat (first | with_reducible (first | exact u1 | exact v1 | exact bp1 | exact u2 | exact v2 | exact bp2 | exact b15 | exact Blk.new _ _ _) | (with_reducible refine Blk.newAt _ _ _ _ ?_; first | rfl | (simp; done)) | with_reducible (first | apply Blk.alloc | apply Blk.drewN | apply Blk.drew | apply Blk.set_to) | (with_reducible apply Blk.far_; (simp only [ne_eq]; omega)) | rfl)
      have c16 := b16.cell
      have z16 := b16.lt
      clear cU zU cV zV fU fV cp zp
      have HT3 := Lib.hid (HQ2.out hk (by rw [triN_2 h6, h2]))
      by_cases hk1 : K2 = 4
      ·have hkb1 : (K2 != 4) = false := by simp [hk1]
       have E := Lib.hid (show triP l (t0, t1) a b = [] from E.out.trans (by rw [HT3.out]; simp [hk1]))
       clear hk1 HT3 HQ1 HQ2 qf qk1 qk2 hk
       go_wp2
       refine bodyPost_end (results_none rfl _ _ _) rfl ?_
       exact YRet.none HH.out (by repeat (first | with_reducible (first | exact Below.refl _ _ | assumption | refine below_drewN ?_ _ | refine Below.drew ?_ | refine below_alloc ?_ _) | (with_reducible refine Below.setCell ?_ ?_ _; rotate_left; ((try simp only); omega)))) _ E.out
      ·have hkb1 : (K2 != 4) = true := by simpa using hk1
       have E := Lib.hid (show triP l (t0, t1) a b = [((b : Int), (j : Int))] from E.out.trans (by rw [HT3.out, if_pos hk1] <;> try rfl))
       have qy := fun W (hW : Below w.heap.size w W) => yield_ok (HH.out.call hW) hno (by omega) ((b : Int), (j : Int)) (by unfold okI; simp only; omega) (-1)
       simp only at qy
       clear hk1 HT3 HQ1 HQ2 qf qk1 qk2 hk
       go_wp2_with fail
       refine (qy _ (by repeat (first | with_reducible (first | exact Below.refl _ _ | assumption | refine below_drewN ?_ _ | refine Below.drew ?_ | refine below_alloc ?_ _) | (with_reducible refine Below.setCell ?_ ?_ _; rotate_left; ((try simp only); omega))))).mono ?_
       rintro e w9 ⟨rfl, hY, hG⟩
       go_wp2
       refine bodyPost_end (results_none rfl _ _ _) rfl ?_
       exact YRet.yes k4 _ hY hG _ E.out
    ·have q6 : ∀ W, Below w.heap.size w W → Calls Tryz.prog 124 #[.slice A n c, .agg #[.int .i64 (a : Int), .int .i64 (i : Int), .int .i64 (b : Int), .int .i64 (j : Int)], .int .i64 6] W fun e w' => e = .returned (.tuple #[.agg #[.int .i64 (a : Int), .int .i64 (i : Int)], .bool true]) ∧ Below W.heap.size W w' := fun W hW => by
      have := qf 6 W hW
      rw [h6] at this
      exact this
     go_wp2_with fail
     refine (q6 _ (by repeat (first | with_reducible (first | exact Below.refl _ _ | assumption | refine below_drewN ?_ _ | refine Below.drew ?_ | refine below_alloc ?_ _) | (with_reducible refine Below.setCell ?_ ?_ _; rotate_left; ((try simp only); omega))))).mono ?_
     rintro e w2 ⟨rfl, hb2⟩
     have k2 : Below w.heap.size w w2 := below_call (by repeat (first | with_reducible (first | exact Below.refl _ _ | assumption | refine below_drewN ?_ _ | refine Below.drew ?_ | refine below_alloc ?_ _) | (with_reducible refine Below.setCell ?_ ?_ _; rotate_left; ((try simp only); omega)))) hb2
     have u2 := u1.kept hb2
     have v2 := v1.kept hb2
     have bp2 := bp1.kept hb2
     have l2 : w.heap.size ≤ w2.heap.size := k2.size
     clear cU zU cV zV fU fV cp zp
     have cU := u2.cell
     have zU := u2.lt
     have cV := v2.cell
     have zV := v2.lt
     have fU := u2.frozen
     have fV := v2.frozen
     have cp := bp2.cell
     have zp := bp2.lt
     clear q6
     go_wp2_with fail
     refine (qk1 _ (by repeat (first | with_reducible (first | exact Below.refl _ _ | assumption | refine below_drewN ?_ _ | refine Below.drew ?_ | refine below_alloc ?_ _) | (with_reducible refine Below.setCell ?_ ?_ _; rotate_left; ((try simp only); omega))))).mono ?_
     rintro e w3 ⟨rfl, hb3⟩
     have k3 : Below w.heap.size w w3 := below_call (by repeat (first | with_reducible (first | exact Below.refl _ _ | assumption | refine below_drewN ?_ _ | refine Below.drew ?_ | refine below_alloc ?_ _) | (with_reducible refine Below.setCell ?_ ?_ _; rotate_left; ((try simp only); omega)))) hb3
     have b16 : Blk w3 (w2.heap.size) 61 #[.int .i64 (a : Int), .int .i64 (i : Int)] := by
      refine Blk.kept ?_ hb3
      repeat (first | with_reducible (first | exact u1 | exact v1 | exact bp1 | exact u2 | exact v2 | exact bp2 | exact b15 | exact Blk.new _ _ _) | (with_reducible refine Blk.newAt _ _ _ _ ?_; first | rfl | (simp; done)) | with_reducible (first | apply Blk.alloc | apply Blk.drewN | apply Blk.drew | apply Blk.set_to) | (with_reducible apply Blk.far_; (simp only [ne_eq]; omega)) | rfl)
     have c16 := b16.cell
     have z16 := b16.lt
     clear cU zU cV zV fU fV cp zp
     have HT3 := Lib.hid (HQ1.out hk (by rw [triN_6 (by rw [h6]; decide), h6]))
     by_cases hk1 : K1 = 4
     ·have hkb1 : (K1 != 4) = false := by simp [hk1]
      have E := Lib.hid (show triP l (t0, t1) a b = [] from E.out.trans (by rw [HT3.out]; simp [hk1]))
      clear hk1 HT3 HQ1 HQ2 qf qk1 qk2 hk
      go_wp2
      refine bodyPost_end (results_none rfl _ _ _) rfl ?_
      exact YRet.none HH.out (by repeat (first | with_reducible (first | exact Below.refl _ _ | assumption | refine below_drewN ?_ _ | refine Below.drew ?_ | refine below_alloc ?_ _) | (with_reducible refine Below.setCell ?_ ?_ _; rotate_left; ((try simp only); omega)))) _ E.out
     ·have hkb1 : (K1 != 4) = true := by simpa using hk1
      have E := Lib.hid (show triP l (t0, t1) a b = [((a : Int), (i : Int))] from E.out.trans (by rw [HT3.out, if_pos hk1] <;> try rfl))
      have qy := fun W (hW : Below w.heap.size w W) => yield_ok (HH.out.call hW) hno (by omega) ((a : Int), (i : Int)) (by unfold okI; simp only; omega) (-1)
      simp only at qy
      clear hk1 HT3 HQ1 HQ2 qf qk1 qk2 hk
      go_wp2_with fail
      refine (qy _ (by repeat (first | with_reducible (first | exact Below.refl _ _ | assumption | refine below_drewN ?_ _ | refine Below.drew ?_ | refine below_alloc ?_ _) | (with_reducible refine Below.setCell ?_ ?_ _; rotate_left; ((try simp only); omega))))).mono ?_
      rintro e w9 ⟨rfl, hY, hG⟩
      go_wp2
      refine bodyPost_end (results_none rfl _ _ _) rfl ?_
      exact YRet.yes k3 _ hY hG _ E.out
    ·have q6 : ∀ W, Below w.heap.size w W → Calls Tryz.prog 124 #[.slice A n c, .agg #[.int .i64 (a : Int), .int .i64 (i : Int), .int .i64 (b : Int), .int .i64 (j : Int)], .int .i64 6] W fun e w' => e = .returned (.tuple #[.agg #[.int .i64 (b : Int), .int .i64 (j : Int)], .bool true]) ∧ Below W.heap.size W w' := fun W hW => by
      have := qf 6 W hW
      rw [h6] at this
      exact this
     go_wp2_with fail
     refine (q6 _ (by repeat (first | with_reducible (first | exact Below.refl _ _ | assumption | refine below_drewN ?_ _ | refine Below.drew ?_ | refine below_alloc ?_ _) | (with_reducible refine Below.setCell ?_ ?_ _; rotate_left; ((try simp only); omega))))).mono ?_
     rintro e w2 ⟨rfl, hb2⟩
     have k2 : Below w.heap.size w w2 := below_call (by repeat (first | with_reducible (first | exact Below.refl _ _ | assumption | refine below_drewN ?_ _ | refine Below.drew ?_ | refine below_alloc ?_ _) | (with_reducible refine Below.setCell ?_ ?_ _; rotate_left; ((try simp only); omega)))) hb2
     have u2 := u1.kept hb2
     have v2 := v1.kept hb2
     have bp2 := bp1.kept hb2
     have l2 : w.heap.size ≤ w2.heap.size := k2.size
     clear cU zU cV zV fU fV cp zp
     have cU := u2.cell
     have zU := u2.lt
     have cV := v2.cell
     have zV := v2.lt
     have fU := u2.frozen
     have fV := v2.frozen
     have cp := bp2.cell
     have zp := bp2.lt
     clear q6
     go_wp2_with fail
     refine (qk2 _ (by repeat (first | with_reducible (first | exact Below.refl _ _ | assumption | refine below_drewN ?_ _ | refine Below.drew ?_ | refine below_alloc ?_ _) | (with_reducible refine Below.setCell ?_ ?_ _; rotate_left; ((try simp only); omega))))).mono ?_
     rintro e w3 ⟨rfl, hb3⟩
     have k3 : Below w.heap.size w w3 := below_call (by repeat (first | with_reducible (first | exact Below.refl _ _ | assumption | refine below_drewN ?_ _ | refine Below.drew ?_ | refine below_alloc ?_ _) | (with_reducible refine Below.setCell ?_ ?_ _; rotate_left; ((try simp only); omega)))) hb3
     have b16 : Blk w3 (w2.heap.size) 61 #[.int .i64 (b : Int), .int .i64 (j : Int)] := by
      refine Blk.kept ?_ hb3
      repeat (first | with_reducible (first | exact u1 | exact v1 | exact bp1 | exact u2 | exact v2 | exact bp2 | exact b15 | exact Blk.new _ _ _) | (with_reducible refine Blk.newAt _ _ _ _ ?_; first | rfl | (simp; done)) | with_reducible (first | apply Blk.alloc | apply Blk.drewN | apply Blk.drew | apply Blk.set_to) | (with_reducible apply Blk.far_; (simp only [ne_eq]; omega)) | rfl)
     have c16 := b16.cell
     have z16 := b16.lt
     clear cU zU cV zV fU fV cp zp
     have HT3 := Lib.hid (HQ2.out hk (by rw [triN_6 (by rw [h6]; decide), h6]))
     by_cases hk1 : K2 = 4
     ·have hkb1 : (K2 != 4) = false := by simp [hk1]
      have E := Lib.hid (show triP l (t0, t1) a b = [] from E.out.trans (by rw [HT3.out]; simp [hk1]))
      clear hk1 HT3 HQ1 HQ2 qf qk1 qk2 hk
      go_wp2
      refine bodyPost_end (results_none rfl _ _ _) rfl ?_
      exact YRet.none HH.out (by repeat (first | with_reducible (first | exact Below.refl _ _ | assumption | refine below_drewN ?_ _ | refine Below.drew ?_ | refine below_alloc ?_ _) | (with_reducible refine Below.setCell ?_ ?_ _; rotate_left; ((try simp only); omega)))) _ E.out
     ·have hkb1 : (K2 != 4) = true := by simpa using hk1
      have E := Lib.hid (show triP l (t0, t1) a b = [((b : Int), (j : Int))] from E.out.trans (by rw [HT3.out, if_pos hk1] <;> try rfl))
      have qy := fun W (hW : Below w.heap.size w W) => yield_ok (HH.out.call hW) hno (by omega) ((b : Int), (j : Int)) (by unfold okI; simp only; omega) (-1)
      simp only at qy
      clear hk1 HT3 HQ1 HQ2 qf qk1 qk2 hk
      go_wp2_with fail
      refine (qy _ (by repeat (first | with_reducible (first | exact Below.refl _ _ | assumption | refine below_drewN ?_ _ | refine Below.drew ?_ | refine below_alloc ?_ _) | (with_reducible refine Below.setCell ?_ ?_ _; rotate_left; ((try simp only); omega))))).mono ?_
      rintro e w9 ⟨rfl, hY, hG⟩
      go_wp2
      refine bodyPost_end (results_none rfl _ _ _) rfl ?_
      exact YRet.yes k3 _ hY hG _ E.out
   ·have hkb : (kindP (x4, x5, x6) (y4, y5, y6) != 4) = true := by simpa using hk
    have E := Lib.hid (E.out.trans (by rw [triQ_1 hk] <;> try rfl))
    clear hk HQ1 HQ2 qf qk1 qk2
    go_wp2
    refine bodyPost_end (results_none rfl _ _ _) rfl ?_
    exact YRet.none HH.out (by repeat (first | with_reducible (first | exact Below.refl _ _ | assumption | refine below_drewN ?_ _ | refine Below.drew ?_ | refine below_alloc ?_ _) | (with_reducible refine Below.setCell ?_ ?_ _; rotate_left; ((try simp only); omega)))) _ E.out
theorem triR_low (l : List (List Ev)) (t : Tm) (a : Nat) : triR l t a (a + 1) = [] := by
 unfold triR
 rw [List.flatMap_eq_nil_iff]
 intro b hb
 rw [if_neg (by have := List.mem_range.1 hb; omega)]
theorem triR_next (l : List (List Ev)) (t : Tm) {a k : Nat} (h : a < k) : triR l t a (k + 1) = triR l t a k ++ triP l t a k := by unfold triR; rw [flat_succ, if_pos h]
theorem triV_next (l : List (List Ev)) (t : Tm) (k : Nat) : triV l t (k + 1) = triV l t k ++ triR l t k l.length := by unfold triV; rw [flat_succ]
theorem triS_next (l : List (List Ev)) (k : Nat) : triS l (k + 1) = triS l k ++ triV l (mAt (momS l) k) l.length := by unfold triS; rw [flat_succ]
theorem OwnS.sl_ {W : World} {base n K c : Nat} {S : Option Addr} {l : List (List Ev)} (h : OwnS W base (.slice S K c) ((List.range K).map (slOf l (momS l)))) (hn : l.length = n) (h0 : 0 < n) {k : Nat} (hk : k < K) :
  ∃ (bs os be oe ce : Nat) (t d0 d1 : _), t = mAt (momS l) k ∧ S = some ⟨bs, os, none⟩ ∧ bs < W.heap.size ∧ be < W.heap.size ∧ W.cell? ⟨bs, os + k * 5, none⟩ = some (.int .i64 t.1) ∧ W.cell? ⟨bs, os + k * 5 + 1, none⟩ = some (.int .i64 t.2) ∧
   W.cell? ⟨bs, os + k * 5 + 2, none⟩ = some (.int .i64 d0) ∧ W.cell? ⟨bs, os + k * 5 + 3, none⟩ = some (.int .i64 d1) ∧ W.cell? ⟨bs, os + k * 5 + 4, none⟩ = some (.slice (some ⟨be, oe, none⟩) n ce) ∧
   ∀ i : Nat, i < n → W.cell? ⟨be, oe + i, none⟩ = some (.int .i64 (onS (l.getD i []) t)) := by
 obtain ⟨A, c', e, hr⟩ := h.reads
 rw [List.length_map, List.length_range] at e hr
 cases e
 have hg : ((List.range K).map (slOf l (momS l)))[k]? = some (slOf l (momS l) k) := by rw [List.getElem?_map, List.getElem?_range hk]; rfl
 obtain ⟨bs, os, p, q, ce, hS, hbs, hq, hre, c0, c1, c2, c3, c4⟩ := hr.el (Nat.le_refl _) (Below.refl _ _) hk hg
 have hqn : q = n := by rw [← hq]; show (l.map _).length = n; rw [List.length_map]; exact hn
 subst hqn
 obtain ⟨v0, hv0⟩ := get_some (l := l) (k := 0) (by omega)
 obtain ⟨be, oe, hp, hbe, _⟩ := Reads.elem (f := cI) (fun _ => rfl) hre (k := 0) h0 (x := onS v0 (mAt (momS l) k)) (by show (l.map _)[0]? = _; rw [List.getElem?_map, hv0]; rfl)
 subst hp
 refine ⟨bs, os, be, oe, ce, _, _, _, rfl, hS, hbs, hbe, c0, c1, c2, c3, c4, fun i hi => ?_⟩
 obtain ⟨v, hv⟩ := get_some (l := l) (k := i) (by omega)
 obtain ⟨be', oe', hp', _, hce⟩ := Reads.elem (f := cI) (fun _ => rfl) hre (k := i) hi (x := onS v (mAt (momS l) k)) (by show (l.map _)[i]? = _; rw [List.getElem?_map, hv]; rfl)
 cases hp'
 have h0 := hce 0 _ rfl
 rw [getD_at hv]
 simpa using h0
structure RInv (w wr : World) (db ob ib : Nat) (pd : Option Nat) (dn : Plc → Option Fic) (mo no : Nat) (f : Plc → Option Fic) (r : Int) : Prop where
 ys : YS wr db ob ib pd dn mo no f r
 gb : w.grownBy wr (some mo)
theorem RInv.call {w wr wx : World} {db ob ib mo no : Nat} {pd : Option Nat} {dn f : Plc → Option Fic} {r : Int} (h : RInv w wr db ob ib pd dn mo no f r) (hb : Below wr.heap.size wr wx) : RInv w wx db ob ib pd dn mo no f r := ⟨h.ys.call hb, Gb.call h.gb hb⟩
theorem RInv.next {w wr wx : World} {db ob ib mo no no' : Nat} {pd : Option Nat} {dn f f' : Plc → Option Fic} {r : Int} (h : RInv w wr db ob ib pd dn mo no f r) (hy : YS wx db ob ib pd dn mo no' f' r) (hg : wr.grownBy wx (some mo)) : RInv w wx db ob ib pd dn mo no' f' r := ⟨hy, Gb.tr h.gb hg⟩
theorem RInv.low {w wr : World} {db ob ib mo no n : Nat} {pd : Option Nat} {dn f : Plc → Option Fic} {r : Int} (h : RInv w wr db ob ib pd dn mo no f r) (hn : n ≤ mo) (hm : mo < w.heap.size) : Below n w wr := Gb.below h.gb hn (by omega)
theorem Reads.under {w W : World} {B size n : Nat} {A : Option Addr} {xs : List Value} (h : Reads w B size A n xs) (hb : Below B w W) : Reads W B size A n xs := h.keep fun _ _ hp => hb.cell (by simp; omega)
theorem ReadsV.under {w W : World} {B n : Nat} {A : Option Addr} {l : List (List Ev)} (h : ReadsV w B A n l) (hb : Below B w W) : ReadsV W B A n l := by
 obtain ⟨ds, h1, h2, h3⟩ := h
 exact ⟨ds, h1, h2.under hb, fun k d v hd hv => ⟨(h3 k d v hd hv).1.under hb, (h3 k d v hd hv).2⟩⟩
theorem cell_gb {W W' : World} {mo no : Nat} {γ β : Type} {K : TypeId} {G : KeyG γ K} {T : ElemT β} {f : γ → Option β} (hm : TMap W G T mo no f) (hg : W.grownBy W' (some mo)) {g o : Nat} {v : Value} (h : W.cell? ⟨g, o, none⟩ = some v) : W'.cell? ⟨g, o, none⟩ = some v := by
 have hl := lt_of_cell h
 have hne : g ≠ mo := by
  rintro rfl
  obtain ⟨D, ⟨es, clock, hblk, _⟩, _⟩ := hm
  simp [World.cell?, hblk] at h
 rw [World.cell?_of_block (a := ⟨g, o, none⟩) (hg.block g hl (fun e => hne (Option.some.inj e)))]
 exact h
theorem Tabs.gb {W W' : World} {mo no : Nat} {γ β : Type} {K : TypeId} {G : KeyG γ K} {T : ElemT β} {f : γ → Option β} (h : Tabs W) (hm : TMap W G T mo no f) (hg : W.grownBy W' (some mo)) : Tabs W' := by
 constructor <;> (intro k hk; first | exact cell_gb hm hg (h.half k hk) | exact cell_gb hm hg (h.size k hk) | exact cell_gb hm hg (h.kind k hk))
theorem tritones_ok {w : World} {db ob ib mo no : Nat} {pd : Option Nat} {dn f : Plc → Option Fic} (h : YS w db ob ib pd dn mo no f 2) (hno : no ≤ 1000000) (A : Option Addr) (n c : Nat) (l : List (List Ev)) (B : Nat) (hV : ReadsV w B A n l) (hB : B ≤ mo) (hl : SetV l) (hs : (slicesE l).2 = 0) (hT : Tabs w) :
  Calls Tryz.prog 64 #[.slice A n c, .func (.func 66) #[] #[.pointer (some ⟨db, 0, none⟩), .pointer (some ⟨ob, 0, none⟩), .pointer (some ⟨ib, 0, none⟩)]] w
   fun e w' => e = .returned (.tuple #[]) ∧ ∃ no', no' ≤ no + 3000000 ∧ RInv w w' db ob ib pd dn mo no' (ylds dn 2 (-1) f (triL l)) 2 := by
 have hmo := h.out.lt
 obtain ⟨hz, hsl⟩ := slicesE_ok hs
 have hbig := mom_big hz
 have hLN := hV.len
 have hn8 : n ≤ 8 := by have := hl.len; omega
 have HOK := Lib.hid (fun k (hk : k < (momS l).length) => ok_mAt (set_facts hz).2.2.2.2 hk)
 have qs := slices_any A n c l B w hV (by omega) (by omega)
 rw [hsl] at qs
 obtain ⟨K, hK⟩ : ∃ z, z = (momS l).length - 1 := ⟨_, rfl⟩
 rw [← hK] at qs
 have HK := Lib.hid hK
 have hK2 : K ≤ 32000 := by omega
 have HL0 := Lib.hid (show 0 < K → 0 < n by
  intro hk
  rcases Nat.eq_zero_or_pos n with h0 | h0
  ·have : l = [] := List.length_eq_zero_iff.1 (by omega)
   subst this
   have : (momS ([] : List (List Ev))).length = 0 := rfl
   omega
  ·exact h0)
 have HE := Lib.hid (show triS l K = triL l by rw [hK]; rfl)
 have HLN := Lib.hid hLN
 have HV := Lib.hid hV
 have HT := Lib.hid hT
 have HY := Lib.hid h
 have HSL := Lib.hid hl
 simp only at qs
 clear h hV hl hs hT hz hsl hbig hK hLN
 go_enter Tryz.func64, Tryz.ntmps64
 go_wp2_with fail
 refine qs.mono ?_
 rintro e w1 ⟨v, rfl, ho, hb1⟩
 obtain ⟨S, cS, rfl, -⟩ := ho.reads
 rw [List.length_map, List.length_range] at ho ⊢
 have inv0 : RInv w w1 db ob ib pd dn mo no f 2 := ⟨HY.out.call hb1, Gb.of_below hb1⟩
 have HO := Lib.hid ho
 have h1s := hb1.size
 clear qs ho hb1
 go_wp2_with fail
 go_loopg [7, 8, 9, 17, 23] K (fun gh _ _ _ i _ wr => ∃ (k no' : Nat), k + gh = K ∧ i = .int .i64 (k : Int) ∧ no' ≤ no + k * 64 ∧ w1.grownBy wr (some mo) ∧ RInv w wr db ob ib pd dn mo no' (ylds dn 2 (-1) f (triS l k)) 2)
 case atStart => exact ⟨0, no, by omega, by simp, by omega, Gb.refl _ _, inv0⟩
 case round =>
  clear inv0
  obtain ⟨k, no', hkg, rfl, hno', hg1, inv⟩ := hrel
  have wk : IntKind.i64.wrap ((k : Int) + 1) = (k : Int) + 1 := IntWalk.i64_in _ (by omega)
  cases gk with
  | zero =>
   have hk : k = K := by omega
   subst hk
   have d0 : ¬ ((k : Int) < (k : Int)) := by omega
   go_wp2
   refine bodyPost_end (results_none rfl _ _ _) rfl ?_
   rw [← HE.out]
   exact ⟨rfl, no', by omega, inv⟩
  | succ gh =>
   have hkK : k < K := by omega
   have d0 : (k : Int) < (K : Int) := by omega
   obtain ⟨bs, os, be, oe, ce, ⟨t0, t1⟩, s0, s1, ht, rfl, hbs, hbe, c0, c1, c2, c3, c4, y0⟩ := (HO.out.gb hg1 (by omega)).sl_ HLN.out (HL0.out (by omega)) hkK
   have HTM := Lib.hid (show ok (t0, t1) by rw [ht]; exact HOK.out k (by have := HK.out; omega))
   have HS1 := Lib.hid (show triS l (k + 1) = triS l k ++ triV l (t0, t1) n by rw [triS_next, ← ht, HLN.out])
   have HYO := Lib.hid y0
   simp only at c0 c1
   clear ht y0
   go_wp2_with fail
   obtain ⟨w5, hw5⟩ : ∃ x, x = wr.alloc (.cells #[.int .i64 t0, .int .i64 t1, .int .i64 s0, .int .i64 s1, .slice (some ⟨be, oe, none⟩) n ce] 85) := ⟨_, rfl⟩
   have B5 : Blk w5 wr.heap.size 85 #[.int .i64 t0, .int .i64 t1, .int .i64 s0, .int .i64 s1, .slice (some ⟨be, oe, none⟩) n ce] := by rw [hw5]; exact Blk.new _ _ _
   have k5 : Below wr.heap.size wr w5 := by rw [hw5]; exact below_alloc (Below.refl _ _) _
   have inv5 := inv.call k5
   have g5 := Gb.call hg1 k5
   have i5 := inv.gb
   have y5 := fun i hi => (k5.cell (p := ⟨be, oe + i, none⟩) hbe).trans (HYO.out i hi)
   have lb5 : be < w5.heap.size := by have := k5.size; omega
   rw [← hw5]
   obtain ⟨xb, hxb⟩ : ∃ x, x = wr.heap.size := ⟨_, rfl⟩
   rw [← hxb] at B5 ⊢
   have hxw : mo < xb := by rw [hxb]; have := inv.gb.size; omega
   have HY5 := Lib.hid (And.intro inv5.ys.out y5)
   clear hw5 hxb c0 c1 c2 c3 c4 hbs hbe HYO inv hg1 k5 i5 y5
   go_wp2_with fail
   go_loopg [8, 9, 23] n (fun g2 _ _ i wy => ∃ (a no' : Nat), a + g2 = n ∧ i = .int .i64 (a : Int) ∧ no' ≤ no + k * 64 + a * 8 ∧ w1.grownBy wy (some mo) ∧ w5.grownBy wy (some mo) ∧ Blk wy xb 85 #[.int .i64 t0, .int .i64 t1, .int .i64 s0, .int .i64 s1, .slice (some ⟨be, oe, none⟩) n ce] ∧ RInv w wy db ob ib pd dn mo no' (ylds dn 2 (-1) f (triS l k ++ triV l (t0, t1) a)) 2)
   case atStart => exact ⟨0, no', by omega, by simp, by omega, g5, Gb.refl _ _, B5, by simpa [triV] using inv5⟩
   case round =>
    clear inv5 g5 B5
    obtain ⟨a, no', hag, rfl, hno', hg1, hg5, BX, inv⟩ := hrel
    have wa : IntKind.i64.wrap ((a : Int) + 1) = (a : Int) + 1 := IntWalk.i64_in _ (by omega)
    cases gk with
    | zero =>
     have ha : a = n := by omega
     have d1 : ¬ ((a : Int) < (n : Int)) := by omega
     subst ha
     go_wp2
     go_roundg gh
     case measure => omega
     case rel => exact ⟨k + 1, no', by omega, by go_num, by omega, hg1, by rw [HS1.out]; exact inv⟩
    | succ g2 =>
     have han : a < n := by omega
     have d1 : (a : Int) < (n : Int) := by omega
     have HV1 := Lib.hid (show triV l (t0, t1) (a + 1) = triV l (t0, t1) a ++ triR l (t0, t1) a n by rw [triV_next, HLN.out])
     go_wp2_with fail
     go_loopg [9] (n - (a + 1)) (fun g3 x wz => ∃ (b no' : Nat), b + g3 = n ∧ a < b ∧ x = .int .i64 (b : Int) ∧ no' ≤ no + k * 64 + a * 8 + b ∧ w1.grownBy wz (some mo) ∧ w5.grownBy wz (some mo) ∧ Blk wz xb 85 #[.int .i64 t0, .int .i64 t1, .int .i64 s0, .int .i64 s1, .slice (some ⟨be, oe, none⟩) n ce] ∧ RInv w wz db ob ib pd dn mo no' (ylds dn 2 (-1) f (triS l k ++ triV l (t0, t1) a ++ triR l (t0, t1) a b)) 2)
     case atStart => exact ⟨a + 1, no', by omega, by omega, by go_num, by omega, hg1, hg5, BX, by rw [triR_low, List.append_nil]; exact inv⟩
     case round =>
      clear inv BX hg1 hg5
      obtain ⟨b, no', hbg, hab, rfl, hno', hg1, hg5, BX, inv⟩ := hrel
      have wb : IntKind.i64.wrap ((b : Int) + 1) = (b : Int) + 1 := IntWalk.i64_in _ (by omega)
      cases gk with
      | zero =>
       have hb : b = n := by omega
       have d2 : ¬ ((b : Int) < (n : Int)) := by omega
       subst hb
       go_wp2
       go_roundg g2
       case measure => omega
       case rel => exact ⟨a + 1, no', by omega, by go_num, by omega, hg1, hg5, BX, by rw [HV1.out, ← List.append_assoc]; exact inv⟩
      | succ g3 =>
       have hbn : b < n := by omega
       have d2 : (b : Int) < (n : Int) := by omega
       have HR1 := Lib.hid (triR_next l (t0, t1) hab)
       have hb5 : be < wr.heap.size := by have := hg5.size; omega
       have q := tritone_ok inv.ys (by omega) A n c l B (HV.out.under (inv.low hB hmo)) (by have := inv.gb.size; omega) HSL.out (HT.out.gb HY.out.out inv.gb) (t0, t1) HTM.out s0 s1 be oe ce hb5 (fun i hi => cell_gb HY5.out.1 hg5 (HY5.out.2 i hi)) a b hab hbn
       simp only at q
       have x0 := BX.cell 0
       have x1 := BX.cell 1
       have x2 := BX.cell 2
       have x3 := BX.cell 3
       have x4 := BX.cell 4
       have xl := BX.lt
       simp only [List.getElem?_toArray, List.getElem?_cons_zero, List.getElem?_cons_succ] at x0 x1 x2 x3 x4
       go_wp2_with fail
       refine q.mono ?_
       rintro e w9 ⟨rfl, hy, hg9⟩
       have inv9 := inv.next hy hg9
       have h91 := Gb.tr hg1 hg9
       have h95 := Gb.tr hg5 hg9
       have BY := BX.gb hg9 (by omega)
       rw [← ylds_append] at inv9
       clear q x0 x1 x2 x3 x4 xl inv hy hg9 hg1 hg5 BX
       go_wp2
       go_roundg g3
       case measure => omega
       case rel => exact ⟨b + 1, no' + 1, by omega, by omega, by go_num, by omega, h91, h95, BY, by rw [HR1.out, ← List.append_assoc]; exact inv9⟩
end Go.Proofs.YtpkmiegccfhpnaaGreatDoor
