/- Parts of the proofs of layer 31: FiTri. -/
import Derived.Test.YtpkmiegccfhpnaaGreatDoorK13
import Derived.Test.YtpkmiegccfhpnaaGreatDoorK07
namespace Go.Proofs.YtpkmiegccfhpnaaGreatDoor
open Go.RowKit Go.Maps
theorem set10 {W : World} {g : Nat} {t : TypeId} {z0 z1 z2 z3 z4 z5 z6 z7 z8 z9 v0 v1 v2 v3 v4 v5 v6 v7 v8 v9 : Value} (h : Blk W g t #[z0, z1, z2, z3, z4, z5, z6, z7, z8, z9]) :
    Blk ((((((((((W.setCell ⟨g, 0, none⟩ v0).setCell ⟨g, 1, none⟩ v1).setCell ⟨g, 2, none⟩ v2).setCell ⟨g, 3, none⟩ v3).setCell ⟨g, 4, none⟩ v4).setCell ⟨g, 5, none⟩ v5).setCell ⟨g, 6, none⟩ v6).setCell ⟨g, 7, none⟩ v7).setCell ⟨g, 8, none⟩ v8).setCell ⟨g, 9, none⟩ v9) g t #[v0, v1, v2, v3, v4, v5, v6, v7, v8, v9] := by
  have h0 : Blk (W.setCell ⟨g, 0, none⟩ v0) g t #[v0, z1, z2, z3, z4, z5, z6, z7, z8, z9] := Blk.set_to h rfl
  have h1 : Blk ((W.setCell ⟨g, 0, none⟩ v0).setCell ⟨g, 1, none⟩ v1) g t #[v0, v1, z2, z3, z4, z5, z6, z7, z8, z9] := Blk.set_to h0 rfl
  have h2 : Blk (((W.setCell ⟨g, 0, none⟩ v0).setCell ⟨g, 1, none⟩ v1).setCell ⟨g, 2, none⟩ v2) g t #[v0, v1, v2, z3, z4, z5, z6, z7, z8, z9] := Blk.set_to h1 rfl
  have h3 : Blk ((((W.setCell ⟨g, 0, none⟩ v0).setCell ⟨g, 1, none⟩ v1).setCell ⟨g, 2, none⟩ v2).setCell ⟨g, 3, none⟩ v3) g t #[v0, v1, v2, v3, z4, z5, z6, z7, z8, z9] := Blk.set_to h2 rfl
  have h4 : Blk (((((W.setCell ⟨g, 0, none⟩ v0).setCell ⟨g, 1, none⟩ v1).setCell ⟨g, 2, none⟩ v2).setCell ⟨g, 3, none⟩ v3).setCell ⟨g, 4, none⟩ v4) g t #[v0, v1, v2, v3, v4, z5, z6, z7, z8, z9] := Blk.set_to h3 rfl
  have h5 : Blk ((((((W.setCell ⟨g, 0, none⟩ v0).setCell ⟨g, 1, none⟩ v1).setCell ⟨g, 2, none⟩ v2).setCell ⟨g, 3, none⟩ v3).setCell ⟨g, 4, none⟩ v4).setCell ⟨g, 5, none⟩ v5) g t #[v0, v1, v2, v3, v4, v5, z6, z7, z8, z9] := Blk.set_to h4 rfl
  have h6 : Blk (((((((W.setCell ⟨g, 0, none⟩ v0).setCell ⟨g, 1, none⟩ v1).setCell ⟨g, 2, none⟩ v2).setCell ⟨g, 3, none⟩ v3).setCell ⟨g, 4, none⟩ v4).setCell ⟨g, 5, none⟩ v5).setCell ⟨g, 6, none⟩ v6) g t #[v0, v1, v2, v3, v4, v5, v6, z7, z8, z9] := Blk.set_to h5 rfl
  have h7 : Blk ((((((((W.setCell ⟨g, 0, none⟩ v0).setCell ⟨g, 1, none⟩ v1).setCell ⟨g, 2, none⟩ v2).setCell ⟨g, 3, none⟩ v3).setCell ⟨g, 4, none⟩ v4).setCell ⟨g, 5, none⟩ v5).setCell ⟨g, 6, none⟩ v6).setCell ⟨g, 7, none⟩ v7) g t #[v0, v1, v2, v3, v4, v5, v6, v7, z8, z9] := Blk.set_to h6 rfl
  have h8 : Blk (((((((((W.setCell ⟨g, 0, none⟩ v0).setCell ⟨g, 1, none⟩ v1).setCell ⟨g, 2, none⟩ v2).setCell ⟨g, 3, none⟩ v3).setCell ⟨g, 4, none⟩ v4).setCell ⟨g, 5, none⟩ v5).setCell ⟨g, 6, none⟩ v6).setCell ⟨g, 7, none⟩ v7).setCell ⟨g, 8, none⟩ v8) g t #[v0, v1, v2, v3, v4, v5, v6, v7, v8, z9] := Blk.set_to h7 rfl
  have h9 : Blk ((((((((((W.setCell ⟨g, 0, none⟩ v0).setCell ⟨g, 1, none⟩ v1).setCell ⟨g, 2, none⟩ v2).setCell ⟨g, 3, none⟩ v3).setCell ⟨g, 4, none⟩ v4).setCell ⟨g, 5, none⟩ v5).setCell ⟨g, 6, none⟩ v6).setCell ⟨g, 7, none⟩ v7).setCell ⟨g, 8, none⟩ v8).setCell ⟨g, 9, none⟩ v9) g t #[v0, v1, v2, v3, v4, v5, v6, v7, v8, v9] := Blk.set_to h8 rfl
  exact h9
theorem far10 {W : World} {g b : Nat} {t : TypeId} {cs : Array Value} {v0 v1 v2 v3 v4 v5 v6 v7 v8 v9 : Value} (hne : g ≠ b) (h : Blk W g t cs) :
    Blk ((((((((((W.setCell ⟨b, 0, none⟩ v0).setCell ⟨b, 1, none⟩ v1).setCell ⟨b, 2, none⟩ v2).setCell ⟨b, 3, none⟩ v3).setCell ⟨b, 4, none⟩ v4).setCell ⟨b, 5, none⟩ v5).setCell ⟨b, 6, none⟩ v6).setCell ⟨b, 7, none⟩ v7).setCell ⟨b, 8, none⟩ v8).setCell ⟨b, 9, none⟩ v9) g t cs :=
  Blk.far_ hne (Blk.far_ hne (Blk.far_ hne (Blk.far_ hne (Blk.far_ hne (Blk.far_ hne (Blk.far_ hne (Blk.far_ hne (Blk.far_ hne (Blk.far_ hne h)))))))))
theorem neg_none {l : List (List Ev)} {a : Nat} {e : Int} (h : e < 0) : evA l ((a : Int), e) = none := by unfold evA; rw [if_pos (.inr h)]
/-- Where voice a is at a time. -/
theorem on_ev {l : List (List Ev)} (hl : SetV l) {t : Tm} (ht : ok t) {a : Nat} (ha : a < l.length) : onS (l.getD a []) t = -1 ∨ ∃ (j : Nat) (x : Ev), onS (l.getD a []) t = (j : Int) ∧ evA l ((a : Int), (j : Int)) = some x ∧ (x.rest = false → pchk x.pit = 0) ∧ j ≤ 2000 := by
  obtain ⟨v, hv⟩ := get_some ha
  have hm := List.mem_of_getElem? hv
  rw [getD_at hv]
  rcases on_char (hl.val v hm) ht with ⟨j, x, hx, _, e⟩ | e
  · exact .inr ⟨j, x, e, evA_nat hv hx, hl.pits v hm x (List.mem_of_getElem? hx), by have h1 := hl.few v hm; have h2 := (List.getElem?_eq_some_iff.1 hx).1; omega⟩
  · exact .inl e
theorem triP_none {l : List (List Ev)} {t : Tm} {a b : Nat} (h : evA l ((a : Int), onS (l.getD a []) t) = none ∨ evA l ((b : Int), onS (l.getD b []) t) = none) : triP l t a b = [] := by
  unfold triP
  rcases h with h | h
  · rw [h]
  · rw [h]; split <;> simp_all
theorem triP_some {l : List (List Ev)} {t : Tm} {a b i j : Nat} {x y : Ev} (ha : onS (l.getD a []) t = (i : Int)) (hb : onS (l.getD b []) t = (j : Int)) (hx : evA l ((a : Int), (i : Int)) = some x) (hy : evA l ((b : Int), (j : Int)) = some y) :
    triP l t a b = if x.rest = true ∨ y.rest = true then [] else if triQ x.pit y.pit = 1 then [((a : Int), (i : Int))] else if triQ x.pit y.pit = 2 then [((b : Int), (j : Int))] else [] := by
  unfold triP
  rw [ha, hb, hx, hy]
theorem flat_ok {p : Pit3} (h : pchk p = 0) : pchk (flat p) = 0 := by
  have := pchk_ok h
  unfold pchk flat
  rw [if_neg (by simp only; omega)]
theorem triQ_1 {p q : Pit3} (h : kindP p q ≠ 4) : triQ p q = 0 := by unfold triQ; rw [if_pos h]
theorem triQ_2 {p q : Pit3} (h : flatN p q 6 = 0) (h2 : flatN p q 2 = 0) : triQ p q = 0 := by
  have : triN p q = 0 := by unfold triN; rw [if_neg (by simp [h]), h2]
  unfold triQ
  rw [this]; split <;> simp
theorem triN_6 {p q : Pit3} (h : flatN p q 6 ≠ 0) : triN p q = flatN p q 6 := by unfold triN; rw [if_pos h]
theorem triN_2 {p q : Pit3} (h : flatN p q 6 = 0) : triN p q = flatN p q 2 := by unfold triN; rw [if_neg (by simp [h])]
theorem triQ_x {p q : Pit3} (h : kindP p q = 4) (hN : triN p q = 1) : triQ p q = if kindP (flat p) q ≠ 4 then 1 else 0 := by unfold triQ; rw [if_neg (by simp [h]), hN]; rfl
theorem triQ_y {p q : Pit3} (h : kindP p q = 4) (hN : triN p q = 2) : triQ p q = if kindP p (flat q) ≠ 4 then 2 else 0 := by unfold triQ; rw [if_neg (by simp [h]), hN]; rfl
theorem flatN_bd (p q : Pit3) (s : Int) : flatN p q s = 0 ∨ flatN p q s = 1 ∨ flatN p q s = 2 := by unfold flatN; (repeat' split) <;> simp
/-- A kind with its error. -/
theorem kind_two {p q : Pit3} (hp : pchk p = 0) (hq : pchk q = 0) : kindE p q = (kindP p q, 0) := by
  unfold kindE bothP
  rw [hp, hq]
  rfl
/-- What a rule of a round hands back. -/
def YRet (db ob ib : Nat) (pd : Option Nat) (dn : Plc → Option Fic) (mo no : Nat) (r : Int) (w : World) (f : Plc → Option Fic) (e : Ending) (w' : World) : Prop :=
  e = .returned (.tuple #[]) ∧ YS w' db ob ib pd dn mo no f r ∧ w.grownBy w' (some mo)
theorem YRet.none {w w' : World} {db ob ib mo no : Nat} {pd : Option Nat} {dn f : Plc → Option Fic} {r al : Int} (h : YS w db ob ib pd dn mo no f r) (hb : Below w.heap.size w w') (L : List Plc) (hL : L = []) : YRet db ob ib pd dn mo (no + 1) r w (ylds dn r al f L) (.returned (.tuple #[])) w' := by
  subst hL
  have h' := h.call hb
  exact ⟨rfl, ⟨h'.dbox, h'.done, h'.apart, h'.obox, h'.out.mono (by omega), h'.ibox⟩, Gb.of_below hb⟩
theorem YRet.yes {w w1 w2 : World} {db ob ib mo no : Nat} {pd : Option Nat} {dn f : Plc → Option Fic} {r al : Int} (hb : Below w.heap.size w w1) (p : Plc) (h2 : YS w2 db ob ib pd dn mo (no + 1) (yld dn r al f p) r) (hg : w1.grownBy w2 (some mo)) (L : List Plc) (hL : L = [p]) : YRet db ob ib pd dn mo (no + 1) r w (ylds dn r al f L) (.returned (.tuple #[])) w2 := by
  subst hL
  exact ⟨rfl, h2, (Gb.of_below hb).tr hg⟩
set_option maxRecDepth 100000 in
set_option maxHeartbeats 8000000 in
theorem tritone_ok {w : World} {db ob ib mo no : Nat} {pd : Option Nat} {dn f : Plc → Option Fic} (h : YS w db ob ib pd dn mo no f 2) (hno : no ≤ 100000000) (A : Option Addr) (n c : Nat) (l : List (List Ev)) (B : Nat) (hV : ReadsV w B A n l) (hB : B ≤ w.heap.size) (hl : SetV l) (hT : Tabs w)
    (t : Tm) (ht : ok t) (d0 d1 : Int) (be oe ce : Nat) (hbe : be < w.heap.size) (hev : ∀ k : Nat, k < n → w.cell? ⟨be, oe + k, none⟩ = some (.int .i64 (onS (l.getD k []) t))) (a b : Nat) (hab : a < b) (hbn : b < n) :
    Calls Tryz.prog 89 #[.slice A n c, .agg #[.int .i64 t.1, .int .i64 t.2, .int .i64 d0, .int .i64 d1, .slice (some ⟨be, oe, none⟩) n ce], .int .i64 (a : Int), .int .i64 (b : Int), .func (.func 66) #[] #[.pointer (some ⟨db, 0, none⟩), .pointer (some ⟨ob, 0, none⟩), .pointer (some ⟨ib, 0, none⟩)]] w
      fun e w' => YRet db ob ib pd dn mo (no + 1) 2 w (ylds dn 2 (-1) f (triP l t a b)) e w' := by
  have hn8 : n ≤ 8 := by have := hl.len; have := hV.len; omega
  have hln := hV.len
  have ea := hev a (by omega)
  have eb := hev b hbn
  have la : (a : Int) < (n : Int) := by omega
  have lb : (b : Int) < (n : Int) := by omega
  have HH := Lib.hid h
  have ha := on_ev hl ht (a := a) (by omega)
  have hb := on_ev hl ht (a := b) (by omega)
  obtain ⟨t0, t1⟩ := t
  simp only
  rcases ha with ha | ⟨i, x, ha, hx, px, hi2⟩
  · have E := Lib.hid (triP_none (l := l) (t := (t0, t1)) (a := a) (b := b) (.inl (neg_none (by omega))))
    rw [ha] at ea
    clear h hV hB hl hT ht hev hab hbn hn8 hln hb ha eb
    go_enter Tryz.func89, Tryz.ntmps89
    go_wp2
    refine bodyPost_end (results_none rfl _ _ _) rfl ?_
    exact YRet.none HH.out (by repeat (first | with_reducible exact Below.refl _ _ | with_reducible assumption | with_reducible refine below_drewN ?_ _ | with_reducible refine Below.drew ?_ | with_reducible refine below_alloc ?_ _ | (with_reducible refine Below.setCell ?_ ?_ _; rotate_left; ((try simp only); omega)))) _ E.out
  · rcases hb with hb | ⟨j, y, hb, hy, py, hj2⟩
    · have E := Lib.hid (triP_none (l := l) (t := (t0, t1)) (a := a) (b := b) (.inr (neg_none (by omega))))
      rw [ha] at ea
      rw [hb] at eb
      clear h hV hB hl hT ht hev hab hbn hn8 hln ha hb px hx
      go_enter Tryz.func89, Tryz.ntmps89
      go_wp2
      refine bodyPost_end (results_none rfl _ _ _) rfl ?_
      exact YRet.none HH.out (by repeat (first | with_reducible exact Below.refl _ _ | with_reducible assumption | with_reducible refine below_drewN ?_ _ | with_reducible refine Below.drew ?_ | with_reducible refine below_alloc ?_ _ | (with_reducible refine Below.setCell ?_ ?_ _; rotate_left; ((try simp only); omega)))) _ E.out
    · have E := Lib.hid (triP_some ha hb hx hy)
      rw [ha] at ea
      rw [hb] at eb
      obtain ⟨⟨x0, x1⟩, ⟨x2, x3⟩, ⟨x4, x5, x6⟩, rx, x8, x9⟩ := x
      obtain ⟨⟨y0, y1⟩, ⟨y2, y3⟩, ⟨y4, y5, y6⟩, ry, y8, y9⟩ := y
      have ni : ¬ ((i : Int) < 0) := by omega
      have nj : ¬ ((j : Int) < 0) := by omega
      have HV := Lib.hid hV
      have HT := Lib.hid hT
      clear h hV hl hT ht hev ha hb
      go_enter Tryz.func89, Tryz.ntmps89
      go_wp2
      go_region
      go_wp2_with fail
      obtain ⟨wv, hwv⟩ : ∃ z, z = ((w.alloc (.cells #[.int .i64 t0, .int .i64 t1, .int .i64 d0, .int .i64 d1, .slice (some ⟨be, oe, none⟩) n ce] 85)).alloc (.cells #[.int .i64 (a : Int), .int .i64 (i : Int), .int .i64 (b : Int), .int .i64 (j : Int)] 164)).drew := ⟨_, rfl⟩
      have kv : Below w.heap.size w wv := by rw [hwv]; repeat (first | with_reducible exact Below.refl _ _ | with_reducible assumption | with_reducible refine below_drewN ?_ _ | with_reducible refine Below.drew ?_ | with_reducible refine below_alloc ?_ _ | (with_reducible refine Below.setCell ?_ ?_ _; rotate_left; ((try simp only); omega)))
      have bp : Blk wv (w.heap.size + 1) 164 #[.int .i64 (a : Int), .int .i64 (i : Int), .int .i64 (b : Int), .int .i64 (j : Int)] := by rw [hwv]; exact Blk.drew (Blk.newAt _ _ _ _ (by simp))
      rw [← hwv]
      obtain ⟨gp, hgp⟩ : ∃ z, z = w.heap.size + 1 := ⟨_, rfl⟩
      rw [← hgp] at bp ⊢
      have lp := bp.lt
      have p0 := bp.cell 0
      have p1 := bp.cell 1
      have p2 := bp.cell 2
      have p3 := bp.cell 3
      simp only [List.getElem?_toArray, List.getElem?_cons_zero, List.getElem?_cons_succ] at p0 p1 p2 p3
      have q1 := fun W (hW : Below wv.heap.size wv W) => of_ok A n c l B W (HV.out.below hB (below_call kv hW)) (Nat.le_trans hB (below_call kv hW).size) hx
      have q2 := fun W (hW : Below wv.heap.size wv W) => of_ok A n c l B W (HV.out.below hB (below_call kv hW)) (Nat.le_trans hB (below_call kv hW).size) hy
      rw [show (cE ⟨(x0, x1), (x2, x3), (x4, x5, x6), rx, x8, x9⟩).toArray = #[.int .i64 x0, .int .i64 x1, .int .i64 x2, .int .i64 x3, .int .i64 x4, .int .i64 x5, .int .i64 x6, .bool rx, .int .i64 x8, .int .i64 x9] from rfl] at q1
      rw [show (cE ⟨(y0, y1), (y2, y3), (y4, y5, y6), ry, y8, y9⟩).toArray = #[.int .i64 y0, .int .i64 y1, .int .i64 y2, .int .i64 y3, .int .i64 y4, .int .i64 y5, .int .i64 y6, .bool ry, .int .i64 y8, .int .i64 y9] from rfl] at q2
      have KV := Lib.hid kv
      have BP := Lib.hid bp
      clear hwv hgp ea eb kv bp hbe
      apply share
      · intro main
        go_region_held3 (fun w' => w'.cell? ⟨gp, 0, none⟩ = some (.int .i64 (a : Int)) ∧ w'.cell? ⟨gp, 1, none⟩ = some (.int .i64 (i : Int)) ∧ w'.cell? ⟨gp, 2, none⟩ = some (.int .i64 (b : Int)) ∧ w'.cell? ⟨gp, 3, none⟩ = some (.int .i64 (j : Int)) ∧ Below wv.heap.size wv w') ((refine (fun hb => ⟨(hb.cell (p := ⟨_, _, none⟩) lp).trans p0, (hb.cell (p := ⟨_, _, none⟩) lp).trans p1, (hb.cell (p := ⟨_, _, none⟩) lp).trans p2, (hb.cell (p := ⟨_, _, none⟩) lp).trans p3, hb⟩) ?_; repeat (first | with_reducible exact Below.refl _ _ | with_reducible exact hBe | with_reducible exact hBd | with_reducible exact (show _ ∧ _ ∧ _ ∧ _ ∧ Below wv.heap.size wv _ by assumption).2.2.2.2 | with_reducible refine Below.drew ?_ | with_reducible refine below_alloc ?_ _ | (with_reducible refine Below.setCell ?_ ?_ _; rotate_left; (first | (have hz := hBd.size; have hz' := hBe.size; show wv.heap.size ≤ _; simp only; omega) | (have hz := hBd.size; show wv.heap.size ≤ _; simp only; omega) | (show wv.heap.size ≤ _; simp only; omega)))))) (first | (go_at_call 49; (with_reducible refine (q1 _ (show _ ∧ _ ∧ _ ∧ _ ∧ Below wv.heap.size wv _ by assumption).2.2.2.2).mono ?_); rintro e wd ⟨rfl, hbd⟩; have hBd := below_call (show _ ∧ _ ∧ _ ∧ _ ∧ Below wv.heap.size wv _ by assumption).2.2.2.2 hbd; have hcd := (bcell hbd).1; have hfd := (bcell hbd).2; (try (refine lay_blk hbd (wv.heap.size) (t := 49) (cs := #[.int .i64 0, .int .i64 0, .int .i64 0, .int .i64 0, .int .i64 0, .int .i64 0, .int .i64 0, .bool false, .int .i64 0, .int .i64 0]) ?_ ?_; (focus ((repeat (first | with_reducible exact Blk.new _ _ _ | (with_reducible refine Blk.newAt _ _ _ _ ?_; first | rfl | (simp; done)) | with_reducible apply Blk.alloc | with_reducible apply Blk.drewN | with_reducible apply Blk.drew | with_reducible assumption | with_reducible apply Blk.kept (hb := hbd))); done)); intro lzP lcP lfP lbP)); (try (refine lay_blk hbd (wv.heap.size + 1) (t := 49) (cs := #[.int .i64 0, .int .i64 0, .int .i64 0, .int .i64 0, .int .i64 0, .int .i64 0, .int .i64 0, .bool false, .int .i64 0, .int .i64 0]) ?_ ?_; (focus ((repeat (first | with_reducible exact Blk.new _ _ _ | (with_reducible refine Blk.newAt _ _ _ _ ?_; first | rfl | (simp; done)) | with_reducible apply Blk.alloc | with_reducible apply Blk.drewN | with_reducible apply Blk.drew | with_reducible assumption | with_reducible apply Blk.kept (hb := hbd))); done)); intro lzQ lcQ lfQ lbQ))) | (go_at_call 49; (with_reducible refine (q2 _ (show _ ∧ _ ∧ _ ∧ _ ∧ Below wv.heap.size wv _ by assumption).2.2.2.2).mono ?_); rintro e we ⟨rfl, hbe⟩; have hBe := below_call (show _ ∧ _ ∧ _ ∧ _ ∧ Below wv.heap.size wv _ by assumption).2.2.2.2 hbe; have hce := (bcell hbe).1; have hfe := (bcell hbe).2; (try (refine lay_blk hbe (wv.heap.size) (t := 49) (cs := #[.int .i64 0, .int .i64 0, .int .i64 0, .int .i64 0, .int .i64 0, .int .i64 0, .int .i64 0, .bool false, .int .i64 0, .int .i64 0]) ?_ ?_; (focus ((repeat (first | with_reducible exact Blk.new _ _ _ | (with_reducible refine Blk.newAt _ _ _ _ ?_; first | rfl | (simp; done)) | with_reducible apply Blk.alloc | with_reducible apply Blk.drewN | with_reducible apply Blk.drew | with_reducible assumption | with_reducible apply Blk.kept (hb := hbd))); done)); intro lzR lcR lfR lbR)); (try (refine lay_blk hbe (wv.heap.size + 1) (t := 49) (cs := #[.int .i64 0, .int .i64 0, .int .i64 0, .int .i64 0, .int .i64 0, .int .i64 0, .int .i64 0, .bool false, .int .i64 0, .int .i64 0]) ?_ ?_; (focus ((repeat (first | with_reducible exact Blk.new _ _ _ | (with_reducible refine Blk.newAt _ _ _ _ ?_; first | rfl | (simp; done)) | with_reducible apply Blk.alloc | with_reducible apply Blk.drewN | with_reducible apply Blk.drew | with_reducible assumption | with_reducible apply Blk.kept (hb := hbd))); done)); intro lzS lcS lfS lbS)); (try (refine lay_blk hbe (wd.heap.size) (t := 49) (cs := #[.int .i64 0, .int .i64 0, .int .i64 0, .int .i64 0, .int .i64 0, .int .i64 0, .int .i64 0, .bool false, .int .i64 0, .int .i64 0]) ?_ ?_; (focus ((repeat (first | with_reducible exact Blk.new _ _ _ | (with_reducible refine Blk.newAt _ _ _ _ ?_; first | rfl | (simp; done)) | with_reducible apply Blk.alloc | with_reducible apply Blk.drewN | with_reducible apply Blk.drew | with_reducible assumption | with_reducible apply Blk.kept (hb := hbd))); done)); intro lzT lcT lfT lbT)); (try (refine lay_blk hbe (wd.heap.size + 1) (t := 49) (cs := #[.int .i64 0, .int .i64 0, .int .i64 0, .int .i64 0, .int .i64 0, .int .i64 0, .int .i64 0, .bool false, .int .i64 0, .int .i64 0]) ?_ ?_; (focus ((repeat (first | with_reducible exact Blk.new _ _ _ | (with_reducible refine Blk.newAt _ _ _ _ ?_; first | rfl | (simp; done)) | with_reducible apply Blk.alloc | with_reducible apply Blk.drewN | with_reducible apply Blk.drew | with_reducible assumption | with_reducible apply Blk.kept (hb := hbd))); done)); intro lzU lcU lfU lbU))))
        · have hB5 := (show _ ∧ _ ∧ _ ∧ _ ∧ Below wv.heap.size wv _ by assumption).2.2.2.2
          have hz1 := hbd.size
          have hz2 := hbe.size
          simp at hz1 hz2
          obtain ⟨wx, hwx⟩ := name_world hB5
          rw [← hwx] at hB5 ⊢
          have hne : we.heap.size ≠ we.heap.size + 1 := by omega
          have BU : Blk wx (we.heap.size) 49 #[.int .i64 x0, .int .i64 x1, .int .i64 x2, .int .i64 x3, .int .i64 x4, .int .i64 x5, .int .i64 x6, .bool rx, .int .i64 x8, .int .i64 x9] := by rw [hwx]; exact Blk.alloc (Blk.new _ _ _) _
          have BV : Blk wx (we.heap.size + 1) 49 #[.int .i64 y0, .int .i64 y1, .int .i64 y2, .int .i64 y3, .int .i64 y4, .int .i64 y5, .int .i64 y6, .bool ry, .int .i64 y8, .int .i64 y9] := by rw [hwx]; exact Blk.newAt _ _ _ _ (by simp)
          obtain ⟨gU, hgU⟩ : ∃ z, z = we.heap.size := ⟨_, rfl⟩
          obtain ⟨gV, hgV⟩ : ∃ z, z = we.heap.size + 1 := ⟨_, rfl⟩
          rw [← hgV] at hne BV ⊢
          rw [← hgU] at hne BU ⊢
          have lU : wv.heap.size ≤ gU := by omega
          have lV : wv.heap.size ≤ gV := by omega
          clear hgU hgV hwx
          revert hne
          revert lV
          revert BV
          revert lU
          revert BU
          revert gV
          revert gU
          revert hB5
          revert wx
          exact main.out
        · have hB5 := (show _ ∧ _ ∧ _ ∧ _ ∧ Below wv.heap.size wv _ by assumption).2.2.2.2
          have hz1 := hbd.size
          have hz2 := hbe.size
          simp at hz1 hz2
          obtain ⟨wx, hwx⟩ := name_world hB5
          rw [← hwx] at hB5 ⊢
          have hne : we.heap.size + 1 ≠ we.heap.size := by omega
          have BU : Blk wx (we.heap.size + 1) 49 #[.int .i64 x0, .int .i64 x1, .int .i64 x2, .int .i64 x3, .int .i64 x4, .int .i64 x5, .int .i64 x6, .bool rx, .int .i64 x8, .int .i64 x9] := by rw [hwx]; exact Blk.newAt _ _ _ _ (by simp)
          have BV : Blk wx (we.heap.size) 49 #[.int .i64 y0, .int .i64 y1, .int .i64 y2, .int .i64 y3, .int .i64 y4, .int .i64 y5, .int .i64 y6, .bool ry, .int .i64 y8, .int .i64 y9] := by rw [hwx]; exact Blk.alloc (Blk.new _ _ _) _
          obtain ⟨gU, hgU⟩ : ∃ z, z = we.heap.size + 1 := ⟨_, rfl⟩
          obtain ⟨gV, hgV⟩ : ∃ z, z = we.heap.size := ⟨_, rfl⟩
          rw [← hgU] at hne BU ⊢
          rw [← hgV] at hne BV ⊢
          have lU : wv.heap.size ≤ gU := by omega
          have lV : wv.heap.size ≤ gV := by omega
          clear hgU hgV hwx
          revert hne
          revert lV
          revert BV
          revert lU
          revert BU
          revert gV
          revert gU
          revert hB5
          revert wx
          exact main.out
        · have hB5 := (show _ ∧ _ ∧ _ ∧ _ ∧ Below wv.heap.size wv _ by assumption).2.2.2.2
          have hz1 := hbd.size
          have hz2 := hbe.size
          simp at hz1 hz2
          obtain ⟨wx, hwx⟩ := name_world hB5
          rw [← hwx] at hB5 ⊢
          have hne : wd.heap.size ≠ we.heap.size := by omega
          have BU : Blk wx (wd.heap.size) 49 #[.int .i64 x0, .int .i64 x1, .int .i64 x2, .int .i64 x3, .int .i64 x4, .int .i64 x5, .int .i64 x6, .bool rx, .int .i64 x8, .int .i64 x9] := by rw [hwx]; exact Blk.alloc (set10 (by assumption)) _
          have BV : Blk wx (we.heap.size) 49 #[.int .i64 y0, .int .i64 y1, .int .i64 y2, .int .i64 y3, .int .i64 y4, .int .i64 y5, .int .i64 y6, .bool ry, .int .i64 y8, .int .i64 y9] := by rw [hwx]; exact Blk.newAt _ _ _ _ (by simp)
          obtain ⟨gU, hgU⟩ : ∃ z, z = wd.heap.size := ⟨_, rfl⟩
          obtain ⟨gV, hgV⟩ : ∃ z, z = we.heap.size := ⟨_, rfl⟩
          rw [← hgU] at hne BU ⊢
          rw [← hgV] at hne BV ⊢
          have lU : wv.heap.size ≤ gU := by omega
          have lV : wv.heap.size ≤ gV := by omega
          clear hgU hgV hwx
          revert hne
          revert lV
          revert BV
          revert lU
          revert BU
          revert gV
          revert gU
          revert hB5
          revert wx
          exact main.out
        · have hB5 := (show _ ∧ _ ∧ _ ∧ _ ∧ Below wv.heap.size wv _ by assumption).2.2.2.2
          have hz1 := hbd.size
          have hz2 := hbe.size
          simp at hz1 hz2
          obtain ⟨wx, hwx⟩ := name_world hB5
          rw [← hwx] at hB5 ⊢
          have hne : wd.heap.size ≠ wd.heap.size + 1 := by omega
          have BU : Blk wx (wd.heap.size) 49 #[.int .i64 x0, .int .i64 x1, .int .i64 x2, .int .i64 x3, .int .i64 x4, .int .i64 x5, .int .i64 x6, .bool rx, .int .i64 x8, .int .i64 x9] := by rw [hwx]; exact far10 hne (set10 (by assumption))
          have BV : Blk wx (wd.heap.size + 1) 49 #[.int .i64 y0, .int .i64 y1, .int .i64 y2, .int .i64 y3, .int .i64 y4, .int .i64 y5, .int .i64 y6, .bool ry, .int .i64 y8, .int .i64 y9] := by rw [hwx]; exact set10 (far10 hne.symm (by assumption))
          obtain ⟨gU, hgU⟩ : ∃ z, z = wd.heap.size := ⟨_, rfl⟩
          obtain ⟨gV, hgV⟩ : ∃ z, z = wd.heap.size + 1 := ⟨_, rfl⟩
          rw [← hgV] at hne BV ⊢
          rw [← hgU] at hne BU ⊢
          have lU : wv.heap.size ≤ gU := by omega
          have lV : wv.heap.size ≤ gV := by omega
          clear hgU hgV hwx
          revert hne
          revert lV
          revert BV
          revert lU
          revert BU
          revert gV
          revert gU
          revert hB5
          revert wx
          exact main.out
        · have hB5 := (show _ ∧ _ ∧ _ ∧ _ ∧ Below wv.heap.size wv _ by assumption).2.2.2.2
          have hz1 := hbd.size
          have hz2 := hbe.size
          simp at hz1 hz2
          obtain ⟨wx, hwx⟩ := name_world hB5
          rw [← hwx] at hB5 ⊢
          have hne : we.heap.size ≠ wd.heap.size := by omega
          have BU : Blk wx (we.heap.size) 49 #[.int .i64 x0, .int .i64 x1, .int .i64 x2, .int .i64 x3, .int .i64 x4, .int .i64 x5, .int .i64 x6, .bool rx, .int .i64 x8, .int .i64 x9] := by rw [hwx]; exact Blk.newAt _ _ _ _ (by simp)
          have BV : Blk wx (wd.heap.size) 49 #[.int .i64 y0, .int .i64 y1, .int .i64 y2, .int .i64 y3, .int .i64 y4, .int .i64 y5, .int .i64 y6, .bool ry, .int .i64 y8, .int .i64 y9] := by rw [hwx]; exact Blk.alloc (set10 (by assumption)) _
          obtain ⟨gU, hgU⟩ : ∃ z, z = we.heap.size := ⟨_, rfl⟩
          obtain ⟨gV, hgV⟩ : ∃ z, z = wd.heap.size := ⟨_, rfl⟩
          rw [← hgU] at hne BU ⊢
          rw [← hgV] at hne BV ⊢
          have lU : wv.heap.size ≤ gU := by omega
          have lV : wv.heap.size ≤ gV := by omega
          clear hgU hgV hwx
          revert hne
          revert lV
          revert BV
          revert lU
          revert BU
          revert gV
          revert gU
          revert hB5
          revert wx
          exact main.out
        · have hB5 := (show _ ∧ _ ∧ _ ∧ _ ∧ Below wv.heap.size wv _ by assumption).2.2.2.2
          have hz1 := hbd.size
          have hz2 := hbe.size
          simp at hz1 hz2
          obtain ⟨wx, hwx⟩ := name_world hB5
          rw [← hwx] at hB5 ⊢
          have hne : wd.heap.size + 1 ≠ wd.heap.size := by omega
          have BU : Blk wx (wd.heap.size + 1) 49 #[.int .i64 x0, .int .i64 x1, .int .i64 x2, .int .i64 x3, .int .i64 x4, .int .i64 x5, .int .i64 x6, .bool rx, .int .i64 x8, .int .i64 x9] := by rw [hwx]; exact far10 hne (set10 (by assumption))
          have BV : Blk wx (wd.heap.size) 49 #[.int .i64 y0, .int .i64 y1, .int .i64 y2, .int .i64 y3, .int .i64 y4, .int .i64 y5, .int .i64 y6, .bool ry, .int .i64 y8, .int .i64 y9] := by rw [hwx]; exact set10 (far10 hne.symm (by assumption))
          obtain ⟨gU, hgU⟩ : ∃ z, z = wd.heap.size + 1 := ⟨_, rfl⟩
          obtain ⟨gV, hgV⟩ : ∃ z, z = wd.heap.size := ⟨_, rfl⟩
          rw [← hgU] at hne BU ⊢
          rw [← hgV] at hne BV ⊢
          have lU : wv.heap.size ≤ gU := by omega
          have lV : wv.heap.size ≤ gV := by omega
          clear hgU hgV hwx
          revert hne
          revert lV
          revert BV
          revert lU
          revert BU
          revert gV
          revert gU
          revert hB5
          revert wx
          exact main.out
        · have hB5 := (show _ ∧ _ ∧ _ ∧ _ ∧ Below wv.heap.size wv _ by assumption).2.2.2.2
          have hz1 := hbd.size
          have hz2 := hbe.size
          simp at hz1 hz2
          obtain ⟨wx, hwx⟩ := name_world hB5
          rw [← hwx] at hB5 ⊢
          have hne : wv.heap.size ≠ we.heap.size := by omega
          have BU : Blk wx (wv.heap.size) 49 #[.int .i64 x0, .int .i64 x1, .int .i64 x2, .int .i64 x3, .int .i64 x4, .int .i64 x5, .int .i64 x6, .bool rx, .int .i64 x8, .int .i64 x9] := by rw [hwx]; exact Blk.alloc (set10 (by assumption)) _
          have BV : Blk wx (we.heap.size) 49 #[.int .i64 y0, .int .i64 y1, .int .i64 y2, .int .i64 y3, .int .i64 y4, .int .i64 y5, .int .i64 y6, .bool ry, .int .i64 y8, .int .i64 y9] := by rw [hwx]; exact Blk.newAt _ _ _ _ (by simp)
          obtain ⟨gU, hgU⟩ : ∃ z, z = wv.heap.size := ⟨_, rfl⟩
          obtain ⟨gV, hgV⟩ : ∃ z, z = we.heap.size := ⟨_, rfl⟩
          rw [← hgU] at hne BU ⊢
          rw [← hgV] at hne BV ⊢
          have lU : wv.heap.size ≤ gU := by omega
          have lV : wv.heap.size ≤ gV := by omega
          clear hgU hgV hwx
          revert hne
          revert lV
          revert BV
          revert lU
          revert BU
          revert gV
          revert gU
          revert hB5
          revert wx
          exact main.out
        · have hB5 := (show _ ∧ _ ∧ _ ∧ _ ∧ Below wv.heap.size wv _ by assumption).2.2.2.2
          have hz1 := hbd.size
          have hz2 := hbe.size
          simp at hz1 hz2
          obtain ⟨wx, hwx⟩ := name_world hB5
          rw [← hwx] at hB5 ⊢
          have hne : wv.heap.size ≠ wd.heap.size := by omega
          have BU : Blk wx (wv.heap.size) 49 #[.int .i64 x0, .int .i64 x1, .int .i64 x2, .int .i64 x3, .int .i64 x4, .int .i64 x5, .int .i64 x6, .bool rx, .int .i64 x8, .int .i64 x9] := by rw [hwx]; exact far10 hne (set10 (by assumption))
          have BV : Blk wx (wd.heap.size) 49 #[.int .i64 y0, .int .i64 y1, .int .i64 y2, .int .i64 y3, .int .i64 y4, .int .i64 y5, .int .i64 y6, .bool ry, .int .i64 y8, .int .i64 y9] := by rw [hwx]; exact set10 (far10 hne.symm (by assumption))
          obtain ⟨gU, hgU⟩ : ∃ z, z = wv.heap.size := ⟨_, rfl⟩
          obtain ⟨gV, hgV⟩ : ∃ z, z = wd.heap.size := ⟨_, rfl⟩
          rw [← hgU] at hne BU ⊢
          rw [← hgV] at hne BV ⊢
          have lU : wv.heap.size ≤ gU := by omega
          have lV : wv.heap.size ≤ gV := by omega
          clear hgU hgV hwx
          revert hne
          revert lV
          revert BV
          revert lU
          revert BU
          revert gV
          revert gU
          revert hB5
          revert wx
          exact main.out
        · have hB5 := (show _ ∧ _ ∧ _ ∧ _ ∧ Below wv.heap.size wv _ by assumption).2.2.2.2
          have hz1 := hbd.size
          have hz2 := hbe.size
          simp at hz1 hz2
          obtain ⟨wx, hwx⟩ := name_world hB5
          rw [← hwx] at hB5 ⊢
          have hne : wv.heap.size ≠ wv.heap.size + 1 := by omega
          have BU : Blk wx (wv.heap.size) 49 #[.int .i64 x0, .int .i64 x1, .int .i64 x2, .int .i64 x3, .int .i64 x4, .int .i64 x5, .int .i64 x6, .bool rx, .int .i64 x8, .int .i64 x9] := by rw [hwx]; exact far10 hne (set10 (by assumption))
          have BV : Blk wx (wv.heap.size + 1) 49 #[.int .i64 y0, .int .i64 y1, .int .i64 y2, .int .i64 y3, .int .i64 y4, .int .i64 y5, .int .i64 y6, .bool ry, .int .i64 y8, .int .i64 y9] := by rw [hwx]; exact set10 (far10 hne.symm (by assumption))
          obtain ⟨gU, hgU⟩ : ∃ z, z = wv.heap.size := ⟨_, rfl⟩
          obtain ⟨gV, hgV⟩ : ∃ z, z = wv.heap.size + 1 := ⟨_, rfl⟩
          rw [← hgV] at hne BV ⊢
          rw [← hgU] at hne BU ⊢
          have lU : wv.heap.size ≤ gU := by omega
          have lV : wv.heap.size ≤ gV := by omega
          clear hgU hgV hwx
          revert hne
          revert lV
          revert BV
          revert lU
          revert BU
          revert gV
          revert gU
          revert hB5
          revert wx
          exact main.out
        · have hB5 := (show _ ∧ _ ∧ _ ∧ _ ∧ Below wv.heap.size wv _ by assumption).2.2.2.2
          have hz1 := hbd.size
          have hz2 := hbe.size
          simp at hz1 hz2
          obtain ⟨wx, hwx⟩ := name_world hB5
          rw [← hwx] at hB5 ⊢
          have hne : we.heap.size ≠ wv.heap.size := by omega
          have BU : Blk wx (we.heap.size) 49 #[.int .i64 x0, .int .i64 x1, .int .i64 x2, .int .i64 x3, .int .i64 x4, .int .i64 x5, .int .i64 x6, .bool rx, .int .i64 x8, .int .i64 x9] := by rw [hwx]; exact Blk.newAt _ _ _ _ (by simp)
          have BV : Blk wx (wv.heap.size) 49 #[.int .i64 y0, .int .i64 y1, .int .i64 y2, .int .i64 y3, .int .i64 y4, .int .i64 y5, .int .i64 y6, .bool ry, .int .i64 y8, .int .i64 y9] := by rw [hwx]; exact Blk.alloc (set10 (by assumption)) _
          obtain ⟨gU, hgU⟩ : ∃ z, z = we.heap.size := ⟨_, rfl⟩
          obtain ⟨gV, hgV⟩ : ∃ z, z = wv.heap.size := ⟨_, rfl⟩
          rw [← hgU] at hne BU ⊢
          rw [← hgV] at hne BV ⊢
          have lU : wv.heap.size ≤ gU := by omega
          have lV : wv.heap.size ≤ gV := by omega
          clear hgU hgV hwx
          revert hne
          revert lV
          revert BV
          revert lU
          revert BU
          revert gV
          revert gU
          revert hB5
          revert wx
          exact main.out
        · have hB5 := (show _ ∧ _ ∧ _ ∧ _ ∧ Below wv.heap.size wv _ by assumption).2.2.2.2
          have hz1 := hbd.size
          have hz2 := hbe.size
          simp at hz1 hz2
          obtain ⟨wx, hwx⟩ := name_world hB5
          rw [← hwx] at hB5 ⊢
          have hne : wd.heap.size ≠ wv.heap.size := by omega
          have BU : Blk wx (wd.heap.size) 49 #[.int .i64 x0, .int .i64 x1, .int .i64 x2, .int .i64 x3, .int .i64 x4, .int .i64 x5, .int .i64 x6, .bool rx, .int .i64 x8, .int .i64 x9] := by rw [hwx]; exact far10 hne (set10 (by assumption))
          have BV : Blk wx (wv.heap.size) 49 #[.int .i64 y0, .int .i64 y1, .int .i64 y2, .int .i64 y3, .int .i64 y4, .int .i64 y5, .int .i64 y6, .bool ry, .int .i64 y8, .int .i64 y9] := by rw [hwx]; exact set10 (far10 hne.symm (by assumption))
          obtain ⟨gU, hgU⟩ : ∃ z, z = wd.heap.size := ⟨_, rfl⟩
          obtain ⟨gV, hgV⟩ : ∃ z, z = wv.heap.size := ⟨_, rfl⟩
          rw [← hgU] at hne BU ⊢
          rw [← hgV] at hne BV ⊢
          have lU : wv.heap.size ≤ gU := by omega
          have lV : wv.heap.size ≤ gV := by omega
          clear hgU hgV hwx
          revert hne
          revert lV
          revert BV
          revert lU
          revert BU
          revert gV
          revert gU
          revert hB5
          revert wx
          exact main.out
        · have hB5 := (show _ ∧ _ ∧ _ ∧ _ ∧ Below wv.heap.size wv _ by assumption).2.2.2.2
          have hz1 := hbd.size
          have hz2 := hbe.size
          simp at hz1 hz2
          obtain ⟨wx, hwx⟩ := name_world hB5
          rw [← hwx] at hB5 ⊢
          have hne : wv.heap.size + 1 ≠ wv.heap.size := by omega
          have BU : Blk wx (wv.heap.size + 1) 49 #[.int .i64 x0, .int .i64 x1, .int .i64 x2, .int .i64 x3, .int .i64 x4, .int .i64 x5, .int .i64 x6, .bool rx, .int .i64 x8, .int .i64 x9] := by rw [hwx]; exact far10 hne (set10 (by assumption))
          have BV : Blk wx (wv.heap.size) 49 #[.int .i64 y0, .int .i64 y1, .int .i64 y2, .int .i64 y3, .int .i64 y4, .int .i64 y5, .int .i64 y6, .bool ry, .int .i64 y8, .int .i64 y9] := by rw [hwx]; exact set10 (far10 hne.symm (by assumption))
          obtain ⟨gU, hgU⟩ : ∃ z, z = wv.heap.size + 1 := ⟨_, rfl⟩
          obtain ⟨gV, hgV⟩ : ∃ z, z = wv.heap.size := ⟨_, rfl⟩
          rw [← hgU] at hne BU ⊢
          rw [← hgV] at hne BV ⊢
          have lU : wv.heap.size ≤ gU := by omega
          have lV : wv.heap.size ≤ gV := by omega
          clear hgU hgV hwx
          revert hne
          revert lV
          revert BV
          revert lU
          revert BU
          revert gV
          revert gU
          revert hB5
          revert wx
          exact main.out
      intro wx K5 gU gV BU lU BV lV hne
      have kx := below_call KV.out K5
      have bpx := BP.out.kept K5
      have hne' := hne.symm
      have lgU : w.heap.size ≤ gU := by have := KV.out.size; omega
      have lgV : w.heap.size ≤ gV := by have := KV.out.size; omega
      have gpu : gp ≠ gU := by omega
      have gpv : gp ≠ gV := by omega
      clear K5 lU lV q1 q2 p0 p1 p2 p3 lp BP KV
      cases rx with
      | true =>
        have E := Lib.hid (E.out.trans (if_pos (.inl rfl)))
        have cU := BU.cell
        have zU := BU.lt
        clear BU BV bpx
        go_wp2
        refine bodyPost_end (results_none rfl _ _ _) rfl ?_
        exact YRet.none HH.out (by repeat (first | with_reducible exact Below.refl _ _ | with_reducible assumption | with_reducible refine below_drewN ?_ _ | with_reducible refine Below.drew ?_ | with_reducible refine below_alloc ?_ _ | (with_reducible refine Below.setCell ?_ ?_ _; rotate_left; ((try simp only); omega)))) _ E.out
      | false =>
      cases ry with
      | true =>
        have E := Lib.hid (E.out.trans (if_pos (.inr rfl)))
        have cU := BU.cell
        have zU := BU.lt
        have cV := BV.cell
        have zV := BV.lt
        clear BU BV bpx
        go_wp2
        refine bodyPost_end (results_none rfl _ _ _) rfl ?_
        exact YRet.none HH.out (by repeat (first | with_reducible exact Below.refl _ _ | with_reducible assumption | with_reducible refine below_drewN ?_ _ | with_reducible refine Below.drew ?_ | with_reducible refine below_alloc ?_ _ | (with_reducible refine Below.setCell ?_ ?_ _; rotate_left; ((try simp only); omega)))) _ E.out
      | false =>
      have E := Lib.hid (E.out.trans (if_neg (by simp)))
      have hpx := px rfl
      have hpy := py rfl
      have qk := fun W (hW : Below w.heap.size w W) => Kind_any (x4, x5, x6) (y4, y5, y6) W (HT.out.kept hW)
      have qk1 := fun W (hW : Below w.heap.size w W) => Kind_any (x4, x5, -1) (y4, y5, y6) W (HT.out.kept hW)
      have qk2 := fun W (hW : Below w.heap.size w W) => Kind_any (x4, x5, x6) (y4, y5, -1) W (HT.out.kept hW)
      rw [kind_two hpx hpy] at qk
      rw [kind_two (p := (x4, x5, -1)) (flat_ok hpx) hpy] at qk1
      rw [kind_two (q := (y4, y5, -1)) hpx (flat_ok hpy)] at qk2
      have qf := fun s W (hW : Below w.heap.size w W) => flattened_ok A n c l B W (HV.out.below hB hW) (Nat.le_trans hB hW.size) hx hy rfl rfl s
      clear px py hx hy
      simp only at qk qk1 qk2 qf
      have E := Lib.hid (show triP l (t0, t1) a b = if triQ (x4, x5, x6) (y4, y5, y6) = 1 then [((a : Int), (i : Int))] else if triQ (x4, x5, x6) (y4, y5, y6) = 2 then [((b : Int), (j : Int))] else [] from E.out)
      have HQ1 := Lib.hid (fun (h : kindP (x4, x5, x6) (y4, y5, y6) = 4) (hN : triN (x4, x5, x6) (y4, y5, y6) = 1) => show triQ (x4, x5, x6) (y4, y5, y6) = if kindP (x4, x5, -1) (y4, y5, y6) ≠ 4 then 1 else 0 from triQ_x h hN)
      have HQ2 := Lib.hid (fun (h : kindP (x4, x5, x6) (y4, y5, y6) = 4) (hN : triN (x4, x5, x6) (y4, y5, y6) = 2) => show triQ (x4, x5, x6) (y4, y5, y6) = if kindP (x4, x5, x6) (y4, y5, -1) ≠ 4 then 2 else 0 from triQ_y h hN)
      obtain ⟨K1, hK1⟩ : ∃ z, z = kindP (x4, x5, -1) (y4, y5, y6) := ⟨_, rfl⟩
      obtain ⟨K2, hK2⟩ : ∃ z, z = kindP (x4, x5, x6) (y4, y5, -1) := ⟨_, rfl⟩
      rw [← hK1] at qk1 HQ1
      rw [← hK2] at qk2 HQ2
      clear hK1 hK2
      have cU := BU.cell
      have zU := BU.lt
      have cV := BV.cell
      have zV := BV.lt
      have fU := BU.frozen
      have fV := BV.frozen
      have cp := bpx.cell
      have zp := bpx.lt
      go_wp2_with fail
      refine (qk _ (by repeat (first | with_reducible exact Below.refl _ _ | with_reducible assumption | with_reducible refine below_drewN ?_ _ | with_reducible refine Below.drew ?_ | with_reducible refine below_alloc ?_ _ | (with_reducible refine Below.setCell ?_ ?_ _; rotate_left; ((try simp only); omega))))).mono ?_
      rintro e w1 ⟨rfl, hb1⟩
      have k1 := below_call kx hb1
      have u1 := BU.kept hb1
      have v1 := BV.kept hb1
      have bp1 := bpx.kept hb1
      clear cU zU cV zV fU fV cp zp BU BV bpx hb1 kx qk
      have cU := u1.cell
      have zU := u1.lt
      have cV := v1.cell
      have zV := v1.lt
      have fU := u1.frozen
      have fV := v1.frozen
      have cp := bp1.cell
      have zp := bp1.lt
      by_cases hk : kindP (x4, x5, x6) (y4, y5, y6) = 4
      · have hkb : (kindP (x4, x5, x6) (y4, y5, y6) != 4) = false := by simp [hk]
        have hba : ((b : Int) == (a : Int)) = false := by simp; omega
        rcases flatN_bd (x4, x5, x6) (y4, y5, y6) 6 with h6 | h6 | h6
        · have q6 : ∀ W, Below w.heap.size w W → Calls Tryz.prog 124 #[.slice A n c, .agg #[.int .i64 (a : Int), .int .i64 (i : Int), .int .i64 (b : Int), .int .i64 (j : Int)], .int .i64 6] W fun e w' => e = .returned (.tuple #[.agg #[.int .i64 0, .int .i64 0], .bool false]) ∧ Below W.heap.size W w' := fun W hW => by
            have := qf 6 W hW
            rw [h6] at this
            exact this
          rcases flatN_bd (x4, x5, x6) (y4, y5, y6) 2 with h2 | h2 | h2
          · have q2 : ∀ W, Below w.heap.size w W → Calls Tryz.prog 124 #[.slice A n c, .agg #[.int .i64 (a : Int), .int .i64 (i : Int), .int .i64 (b : Int), .int .i64 (j : Int)], .int .i64 2] W fun e w' => e = .returned (.tuple #[.agg #[.int .i64 0, .int .i64 0], .bool false]) ∧ Below W.heap.size W w' := fun W hW => by
              have := qf 2 W hW
              rw [h2] at this
              exact this
            go_wp2_with fail
            refine (q6 _ (by repeat (first | with_reducible exact Below.refl _ _ | with_reducible assumption | with_reducible refine below_drewN ?_ _ | with_reducible refine Below.drew ?_ | with_reducible refine below_alloc ?_ _ | (with_reducible refine Below.setCell ?_ ?_ _; rotate_left; ((try simp only); omega))))).mono ?_
            rintro e w2 ⟨rfl, hb2⟩
            have k2 : Below w.heap.size w w2 := below_call (by repeat (first | with_reducible exact Below.refl _ _ | with_reducible assumption | with_reducible refine below_drewN ?_ _ | with_reducible refine Below.drew ?_ | with_reducible refine below_alloc ?_ _ | (with_reducible refine Below.setCell ?_ ?_ _; rotate_left; ((try simp only); omega)))) hb2
            have u2 := u1.kept hb2
            have v2 := v1.kept hb2
            have bp2 := bp1.kept hb2
            have l2 : w.heap.size ≤ w2.heap.size := k2.size
            clear cU zU cV zV fU fV cp zp
            have cU := u2.cell
            have zU := u2.lt
            have cV := v2.cell
            have zV := v2.lt
            have fU := u2.frozen
            have fV := v2.frozen
            have cp := bp2.cell
            have zp := bp2.lt
            clear q6
            go_wp2_with fail
            refine (q2 _ (by repeat (first | with_reducible exact Below.refl _ _ | with_reducible assumption | with_reducible refine below_drewN ?_ _ | with_reducible refine Below.drew ?_ | with_reducible refine below_alloc ?_ _ | (with_reducible refine Below.setCell ?_ ?_ _; rotate_left; ((try simp only); omega))))).mono ?_
            rintro e w3 ⟨rfl, hb3⟩
            have k3 : Below w.heap.size w w3 := below_call (by repeat (first | with_reducible exact Below.refl _ _ | with_reducible assumption | with_reducible refine below_drewN ?_ _ | with_reducible refine Below.drew ?_ | with_reducible refine below_alloc ?_ _ | (with_reducible refine Below.setCell ?_ ?_ _; rotate_left; ((try simp only); omega)))) hb3
            have b15 : Blk w3 w2.heap.size 61 #[.int .i64 0, .int .i64 0] := by
              refine Blk.kept ?_ hb3
              repeat (first | with_reducible exact u1 | with_reducible exact v1 | with_reducible exact bp1 | with_reducible exact u2 | with_reducible exact v2 | with_reducible exact bp2 | with_reducible exact b15 | with_reducible exact Blk.new _ _ _ | (with_reducible refine Blk.newAt _ _ _ _ ?_; first | rfl | (simp; done)) | with_reducible apply Blk.alloc | with_reducible apply Blk.drewN | with_reducible apply Blk.drew | with_reducible apply Blk.set_to | (with_reducible apply Blk.far_; (simp only [ne_eq]; omega)) | rfl)
            have c15 := b15.cell
            have z15 := b15.lt
            have f15 := b15.frozen
            clear q2 cU zU cV zV fU fV cp zp
            have E := Lib.hid (E.out.trans (by rw [triQ_2 h6 h2] <;> try rfl))
            clear hk h6 h2 HQ1 HQ2 qf qk1 qk2
            go_wp2
            refine bodyPost_end (results_none rfl _ _ _) rfl ?_
            exact YRet.none HH.out (by repeat (first | with_reducible exact Below.refl _ _ | with_reducible assumption | with_reducible refine below_drewN ?_ _ | with_reducible refine Below.drew ?_ | with_reducible refine below_alloc ?_ _ | (with_reducible refine Below.setCell ?_ ?_ _; rotate_left; ((try simp only); omega)))) _ E.out
          · have q2 : ∀ W, Below w.heap.size w W → Calls Tryz.prog 124 #[.slice A n c, .agg #[.int .i64 (a : Int), .int .i64 (i : Int), .int .i64 (b : Int), .int .i64 (j : Int)], .int .i64 2] W fun e w' => e = .returned (.tuple #[.agg #[.int .i64 (a : Int), .int .i64 (i : Int)], .bool true]) ∧ Below W.heap.size W w' := fun W hW => by
              have := qf 2 W hW
              rw [h2] at this
              exact this
            go_wp2_with fail
            refine (q6 _ (by repeat (first | with_reducible exact Below.refl _ _ | with_reducible assumption | with_reducible refine below_drewN ?_ _ | with_reducible refine Below.drew ?_ | with_reducible refine below_alloc ?_ _ | (with_reducible refine Below.setCell ?_ ?_ _; rotate_left; ((try simp only); omega))))).mono ?_
            rintro e w2 ⟨rfl, hb2⟩
            have k2 : Below w.heap.size w w2 := below_call (by repeat (first | with_reducible exact Below.refl _ _ | with_reducible assumption | with_reducible refine below_drewN ?_ _ | with_reducible refine Below.drew ?_ | with_reducible refine below_alloc ?_ _ | (with_reducible refine Below.setCell ?_ ?_ _; rotate_left; ((try simp only); omega)))) hb2
            have u2 := u1.kept hb2
            have v2 := v1.kept hb2
            have bp2 := bp1.kept hb2
            have l2 : w.heap.size ≤ w2.heap.size := k2.size
            clear cU zU cV zV fU fV cp zp
            have cU := u2.cell
            have zU := u2.lt
            have cV := v2.cell
            have zV := v2.lt
            have fU := u2.frozen
            have fV := v2.frozen
            have cp := bp2.cell
            have zp := bp2.lt
            clear q6
            go_wp2_with fail
            refine (q2 _ (by repeat (first | with_reducible exact Below.refl _ _ | with_reducible assumption | with_reducible refine below_drewN ?_ _ | with_reducible refine Below.drew ?_ | with_reducible refine below_alloc ?_ _ | (with_reducible refine Below.setCell ?_ ?_ _; rotate_left; ((try simp only); omega))))).mono ?_
            rintro e w3 ⟨rfl, hb3⟩
            have k3 : Below w.heap.size w w3 := below_call (by repeat (first | with_reducible exact Below.refl _ _ | with_reducible assumption | with_reducible refine below_drewN ?_ _ | with_reducible refine Below.drew ?_ | with_reducible refine below_alloc ?_ _ | (with_reducible refine Below.setCell ?_ ?_ _; rotate_left; ((try simp only); omega)))) hb3
            have u3 : Blk w3 gU 49 #[.int .i64 x0, .int .i64 x1, .int .i64 x2, .int .i64 x3, .int .i64 x4, .int .i64 x5, .int .i64 x6, .bool false, .int .i64 x8, .int .i64 x9] := by
              refine Blk.kept ?_ hb3
              repeat (first | with_reducible exact u1 | with_reducible exact v1 | with_reducible exact bp1 | with_reducible exact u2 | with_reducible exact v2 | with_reducible exact bp2 | with_reducible exact b15 | with_reducible exact Blk.new _ _ _ | (with_reducible refine Blk.newAt _ _ _ _ ?_; first | rfl | (simp; done)) | with_reducible apply Blk.alloc | with_reducible apply Blk.drewN | with_reducible apply Blk.drew | with_reducible apply Blk.set_to | (with_reducible apply Blk.far_; (simp only [ne_eq]; omega)) | rfl)
            have v3 : Blk w3 gV 49 #[.int .i64 y0, .int .i64 y1, .int .i64 y2, .int .i64 y3, .int .i64 y4, .int .i64 y5, .int .i64 y6, .bool false, .int .i64 y8, .int .i64 y9] := by
              refine Blk.kept ?_ hb3
              repeat (first | with_reducible exact u1 | with_reducible exact v1 | with_reducible exact bp1 | with_reducible exact u2 | with_reducible exact v2 | with_reducible exact bp2 | with_reducible exact b15 | with_reducible exact Blk.new _ _ _ | (with_reducible refine Blk.newAt _ _ _ _ ?_; first | rfl | (simp; done)) | with_reducible apply Blk.alloc | with_reducible apply Blk.drewN | with_reducible apply Blk.drew | with_reducible apply Blk.set_to | (with_reducible apply Blk.far_; (simp only [ne_eq]; omega)) | rfl)
            have bp3 : Blk w3 gp 164 #[.int .i64 (a : Int), .int .i64 (i : Int), .int .i64 (b : Int), .int .i64 (j : Int)] := by
              refine Blk.kept ?_ hb3
              repeat (first | with_reducible exact u1 | with_reducible exact v1 | with_reducible exact bp1 | with_reducible exact u2 | with_reducible exact v2 | with_reducible exact bp2 | with_reducible exact b15 | with_reducible exact Blk.new _ _ _ | (with_reducible refine Blk.newAt _ _ _ _ ?_; first | rfl | (simp; done)) | with_reducible apply Blk.alloc | with_reducible apply Blk.drewN | with_reducible apply Blk.drew | with_reducible apply Blk.set_to | (with_reducible apply Blk.far_; (simp only [ne_eq]; omega)) | rfl)
            have b15 : Blk w3 w2.heap.size 61 #[.int .i64 0, .int .i64 0] := by
              refine Blk.kept ?_ hb3
              repeat (first | with_reducible exact u1 | with_reducible exact v1 | with_reducible exact bp1 | with_reducible exact u2 | with_reducible exact v2 | with_reducible exact bp2 | with_reducible exact b15 | with_reducible exact Blk.new _ _ _ | (with_reducible refine Blk.newAt _ _ _ _ ?_; first | rfl | (simp; done)) | with_reducible apply Blk.alloc | with_reducible apply Blk.drewN | with_reducible apply Blk.drew | with_reducible apply Blk.set_to | (with_reducible apply Blk.far_; (simp only [ne_eq]; omega)) | rfl)
            have c15 := b15.cell
            have z15 := b15.lt
            have f15 := b15.frozen
            have nu : w2.heap.size ≠ gU := by omega
            have nv : w2.heap.size ≠ gV := by omega
            have np : w2.heap.size ≠ gp := by omega
            clear cU zU cV zV fU fV cp zp
            have cU := u3.cell
            have zU := u3.lt
            have cV := v3.cell
            have zV := v3.lt
            have fU := u3.frozen
            have fV := v3.frozen
            have cp := bp3.cell
            have zp := bp3.lt
            clear q2
            go_wp2_with fail
            refine (qk1 _ (by repeat (first | with_reducible exact Below.refl _ _ | with_reducible assumption | with_reducible refine below_drewN ?_ _ | with_reducible refine Below.drew ?_ | with_reducible refine below_alloc ?_ _ | (with_reducible refine Below.setCell ?_ ?_ _; rotate_left; ((try simp only); omega))))).mono ?_
            rintro e w4 ⟨rfl, hb4⟩
            have k4 : Below w.heap.size w w4 := below_call (by repeat (first | with_reducible exact Below.refl _ _ | with_reducible assumption | with_reducible refine below_drewN ?_ _ | with_reducible refine Below.drew ?_ | with_reducible refine below_alloc ?_ _ | (with_reducible refine Below.setCell ?_ ?_ _; rotate_left; ((try simp only); omega)))) hb4
            have b16 : Blk w4 (w2.heap.size) 61 #[.int .i64 (a : Int), .int .i64 (i : Int)] := by
              refine Blk.kept ?_ hb4
              repeat (first | with_reducible exact u1 | with_reducible exact v1 | with_reducible exact bp1 | with_reducible exact u2 | with_reducible exact v2 | with_reducible exact bp2 | with_reducible exact b15 | with_reducible exact Blk.new _ _ _ | (with_reducible refine Blk.newAt _ _ _ _ ?_; first | rfl | (simp; done)) | with_reducible apply Blk.alloc | with_reducible apply Blk.drewN | with_reducible apply Blk.drew | with_reducible apply Blk.set_to | (with_reducible apply Blk.far_; (simp only [ne_eq]; omega)) | rfl)
            have c16 := b16.cell
            have z16 := b16.lt
            clear cU zU cV zV fU fV cp zp
            have HT3 := Lib.hid (HQ1.out hk (by rw [triN_2 h6, h2]))
            by_cases hk1 : K1 = 4
            · have hkb1 : (K1 != 4) = false := by simp [hk1]
              have E := Lib.hid (show triP l (t0, t1) a b = [] from E.out.trans (by rw [HT3.out]; simp [hk1]))
              clear hk1 HT3 HQ1 HQ2 qf qk1 qk2 hk
              go_wp2
              refine bodyPost_end (results_none rfl _ _ _) rfl ?_
              exact YRet.none HH.out (by repeat (first | with_reducible exact Below.refl _ _ | with_reducible assumption | with_reducible refine below_drewN ?_ _ | with_reducible refine Below.drew ?_ | with_reducible refine below_alloc ?_ _ | (with_reducible refine Below.setCell ?_ ?_ _; rotate_left; ((try simp only); omega)))) _ E.out
            · have hkb1 : (K1 != 4) = true := by simpa using hk1
              have E := Lib.hid (show triP l (t0, t1) a b = [((a : Int), (i : Int))] from E.out.trans (by rw [HT3.out, if_pos hk1] <;> try rfl))
              have qy := fun W (hW : Below w.heap.size w W) => yield_ok (HH.out.call hW) hno (by omega) ((a : Int), (i : Int)) (by unfold okI; simp only; omega) (-1)
              simp only at qy
              clear hk1 HT3 HQ1 HQ2 qf qk1 qk2 hk
              go_wp2_with fail
              refine (qy _ (by repeat (first | with_reducible exact Below.refl _ _ | with_reducible assumption | with_reducible refine below_drewN ?_ _ | with_reducible refine Below.drew ?_ | with_reducible refine below_alloc ?_ _ | (with_reducible refine Below.setCell ?_ ?_ _; rotate_left; ((try simp only); omega))))).mono ?_
              rintro e w9 ⟨rfl, hY, hG⟩
              go_wp2
              refine bodyPost_end (results_none rfl _ _ _) rfl ?_
              exact YRet.yes k4 _ hY hG _ E.out
          · have q2 : ∀ W, Below w.heap.size w W → Calls Tryz.prog 124 #[.slice A n c, .agg #[.int .i64 (a : Int), .int .i64 (i : Int), .int .i64 (b : Int), .int .i64 (j : Int)], .int .i64 2] W fun e w' => e = .returned (.tuple #[.agg #[.int .i64 (b : Int), .int .i64 (j : Int)], .bool true]) ∧ Below W.heap.size W w' := fun W hW => by
              have := qf 2 W hW
              rw [h2] at this
              exact this
            go_wp2_with fail
            refine (q6 _ (by repeat (first | with_reducible exact Below.refl _ _ | with_reducible assumption | with_reducible refine below_drewN ?_ _ | with_reducible refine Below.drew ?_ | with_reducible refine below_alloc ?_ _ | (with_reducible refine Below.setCell ?_ ?_ _; rotate_left; ((try simp only); omega))))).mono ?_
            rintro e w2 ⟨rfl, hb2⟩
            have k2 : Below w.heap.size w w2 := below_call (by repeat (first | with_reducible exact Below.refl _ _ | with_reducible assumption | with_reducible refine below_drewN ?_ _ | with_reducible refine Below.drew ?_ | with_reducible refine below_alloc ?_ _ | (with_reducible refine Below.setCell ?_ ?_ _; rotate_left; ((try simp only); omega)))) hb2
            have u2 := u1.kept hb2
            have v2 := v1.kept hb2
            have bp2 := bp1.kept hb2
            have l2 : w.heap.size ≤ w2.heap.size := k2.size
            clear cU zU cV zV fU fV cp zp
            have cU := u2.cell
            have zU := u2.lt
            have cV := v2.cell
            have zV := v2.lt
            have fU := u2.frozen
            have fV := v2.frozen
            have cp := bp2.cell
            have zp := bp2.lt
            clear q6
            go_wp2_with fail
            refine (q2 _ (by repeat (first | with_reducible exact Below.refl _ _ | with_reducible assumption | with_reducible refine below_drewN ?_ _ | with_reducible refine Below.drew ?_ | with_reducible refine below_alloc ?_ _ | (with_reducible refine Below.setCell ?_ ?_ _; rotate_left; ((try simp only); omega))))).mono ?_
            rintro e w3 ⟨rfl, hb3⟩
            have k3 : Below w.heap.size w w3 := below_call (by repeat (first | with_reducible exact Below.refl _ _ | with_reducible assumption | with_reducible refine below_drewN ?_ _ | with_reducible refine Below.drew ?_ | with_reducible refine below_alloc ?_ _ | (with_reducible refine Below.setCell ?_ ?_ _; rotate_left; ((try simp only); omega)))) hb3
            have u3 : Blk w3 gU 49 #[.int .i64 x0, .int .i64 x1, .int .i64 x2, .int .i64 x3, .int .i64 x4, .int .i64 x5, .int .i64 x6, .bool false, .int .i64 x8, .int .i64 x9] := by
              refine Blk.kept ?_ hb3
              repeat (first | with_reducible exact u1 | with_reducible exact v1 | with_reducible exact bp1 | with_reducible exact u2 | with_reducible exact v2 | with_reducible exact bp2 | with_reducible exact b15 | with_reducible exact Blk.new _ _ _ | (with_reducible refine Blk.newAt _ _ _ _ ?_; first | rfl | (simp; done)) | with_reducible apply Blk.alloc | with_reducible apply Blk.drewN | with_reducible apply Blk.drew | with_reducible apply Blk.set_to | (with_reducible apply Blk.far_; (simp only [ne_eq]; omega)) | rfl)
            have v3 : Blk w3 gV 49 #[.int .i64 y0, .int .i64 y1, .int .i64 y2, .int .i64 y3, .int .i64 y4, .int .i64 y5, .int .i64 y6, .bool false, .int .i64 y8, .int .i64 y9] := by
              refine Blk.kept ?_ hb3
              repeat (first | with_reducible exact u1 | with_reducible exact v1 | with_reducible exact bp1 | with_reducible exact u2 | with_reducible exact v2 | with_reducible exact bp2 | with_reducible exact b15 | with_reducible exact Blk.new _ _ _ | (with_reducible refine Blk.newAt _ _ _ _ ?_; first | rfl | (simp; done)) | with_reducible apply Blk.alloc | with_reducible apply Blk.drewN | with_reducible apply Blk.drew | with_reducible apply Blk.set_to | (with_reducible apply Blk.far_; (simp only [ne_eq]; omega)) | rfl)
            have bp3 : Blk w3 gp 164 #[.int .i64 (a : Int), .int .i64 (i : Int), .int .i64 (b : Int), .int .i64 (j : Int)] := by
              refine Blk.kept ?_ hb3
              repeat (first | with_reducible exact u1 | with_reducible exact v1 | with_reducible exact bp1 | with_reducible exact u2 | with_reducible exact v2 | with_reducible exact bp2 | with_reducible exact b15 | with_reducible exact Blk.new _ _ _ | (with_reducible refine Blk.newAt _ _ _ _ ?_; first | rfl | (simp; done)) | with_reducible apply Blk.alloc | with_reducible apply Blk.drewN | with_reducible apply Blk.drew | with_reducible apply Blk.set_to | (with_reducible apply Blk.far_; (simp only [ne_eq]; omega)) | rfl)
            have b15 : Blk w3 w2.heap.size 61 #[.int .i64 0, .int .i64 0] := by
              refine Blk.kept ?_ hb3
              repeat (first | with_reducible exact u1 | with_reducible exact v1 | with_reducible exact bp1 | with_reducible exact u2 | with_reducible exact v2 | with_reducible exact bp2 | with_reducible exact b15 | with_reducible exact Blk.new _ _ _ | (with_reducible refine Blk.newAt _ _ _ _ ?_; first | rfl | (simp; done)) | with_reducible apply Blk.alloc | with_reducible apply Blk.drewN | with_reducible apply Blk.drew | with_reducible apply Blk.set_to | (with_reducible apply Blk.far_; (simp only [ne_eq]; omega)) | rfl)
            have c15 := b15.cell
            have z15 := b15.lt
            have f15 := b15.frozen
            have nu : w2.heap.size ≠ gU := by omega
            have nv : w2.heap.size ≠ gV := by omega
            have np : w2.heap.size ≠ gp := by omega
            clear cU zU cV zV fU fV cp zp
            have cU := u3.cell
            have zU := u3.lt
            have cV := v3.cell
            have zV := v3.lt
            have fU := u3.frozen
            have fV := v3.frozen
            have cp := bp3.cell
            have zp := bp3.lt
            clear q2
            go_wp2_with fail
            refine (qk2 _ (by repeat (first | with_reducible exact Below.refl _ _ | with_reducible assumption | with_reducible refine below_drewN ?_ _ | with_reducible refine Below.drew ?_ | with_reducible refine below_alloc ?_ _ | (with_reducible refine Below.setCell ?_ ?_ _; rotate_left; ((try simp only); omega))))).mono ?_
            rintro e w4 ⟨rfl, hb4⟩
            have k4 : Below w.heap.size w w4 := below_call (by repeat (first | with_reducible exact Below.refl _ _ | with_reducible assumption | with_reducible refine below_drewN ?_ _ | with_reducible refine Below.drew ?_ | with_reducible refine below_alloc ?_ _ | (with_reducible refine Below.setCell ?_ ?_ _; rotate_left; ((try simp only); omega)))) hb4
            have b16 : Blk w4 (w2.heap.size) 61 #[.int .i64 (b : Int), .int .i64 (j : Int)] := by
              refine Blk.kept ?_ hb4
              repeat (first | with_reducible exact u1 | with_reducible exact v1 | with_reducible exact bp1 | with_reducible exact u2 | with_reducible exact v2 | with_reducible exact bp2 | with_reducible exact b15 | with_reducible exact Blk.new _ _ _ | (with_reducible refine Blk.newAt _ _ _ _ ?_; first | rfl | (simp; done)) | with_reducible apply Blk.alloc | with_reducible apply Blk.drewN | with_reducible apply Blk.drew | with_reducible apply Blk.set_to | (with_reducible apply Blk.far_; (simp only [ne_eq]; omega)) | rfl)
            have c16 := b16.cell
            have z16 := b16.lt
            clear cU zU cV zV fU fV cp zp
            have HT3 := Lib.hid (HQ2.out hk (by rw [triN_2 h6, h2]))
            by_cases hk1 : K2 = 4
            · have hkb1 : (K2 != 4) = false := by simp [hk1]
              have E := Lib.hid (show triP l (t0, t1) a b = [] from E.out.trans (by rw [HT3.out]; simp [hk1]))
              clear hk1 HT3 HQ1 HQ2 qf qk1 qk2 hk
              go_wp2
              refine bodyPost_end (results_none rfl _ _ _) rfl ?_
              exact YRet.none HH.out (by repeat (first | with_reducible exact Below.refl _ _ | with_reducible assumption | with_reducible refine below_drewN ?_ _ | with_reducible refine Below.drew ?_ | with_reducible refine below_alloc ?_ _ | (with_reducible refine Below.setCell ?_ ?_ _; rotate_left; ((try simp only); omega)))) _ E.out
            · have hkb1 : (K2 != 4) = true := by simpa using hk1
              have E := Lib.hid (show triP l (t0, t1) a b = [((b : Int), (j : Int))] from E.out.trans (by rw [HT3.out, if_pos hk1] <;> try rfl))
              have qy := fun W (hW : Below w.heap.size w W) => yield_ok (HH.out.call hW) hno (by omega) ((b : Int), (j : Int)) (by unfold okI; simp only; omega) (-1)
              simp only at qy
              clear hk1 HT3 HQ1 HQ2 qf qk1 qk2 hk
              go_wp2_with fail
              refine (qy _ (by repeat (first | with_reducible exact Below.refl _ _ | with_reducible assumption | with_reducible refine below_drewN ?_ _ | with_reducible refine Below.drew ?_ | with_reducible refine below_alloc ?_ _ | (with_reducible refine Below.setCell ?_ ?_ _; rotate_left; ((try simp only); omega))))).mono ?_
              rintro e w9 ⟨rfl, hY, hG⟩
              go_wp2
              refine bodyPost_end (results_none rfl _ _ _) rfl ?_
              exact YRet.yes k4 _ hY hG _ E.out
        · have q6 : ∀ W, Below w.heap.size w W → Calls Tryz.prog 124 #[.slice A n c, .agg #[.int .i64 (a : Int), .int .i64 (i : Int), .int .i64 (b : Int), .int .i64 (j : Int)], .int .i64 6] W fun e w' => e = .returned (.tuple #[.agg #[.int .i64 (a : Int), .int .i64 (i : Int)], .bool true]) ∧ Below W.heap.size W w' := fun W hW => by
            have := qf 6 W hW
            rw [h6] at this
            exact this
          go_wp2_with fail
          refine (q6 _ (by repeat (first | with_reducible exact Below.refl _ _ | with_reducible assumption | with_reducible refine below_drewN ?_ _ | with_reducible refine Below.drew ?_ | with_reducible refine below_alloc ?_ _ | (with_reducible refine Below.setCell ?_ ?_ _; rotate_left; ((try simp only); omega))))).mono ?_
          rintro e w2 ⟨rfl, hb2⟩
          have k2 : Below w.heap.size w w2 := below_call (by repeat (first | with_reducible exact Below.refl _ _ | with_reducible assumption | with_reducible refine below_drewN ?_ _ | with_reducible refine Below.drew ?_ | with_reducible refine below_alloc ?_ _ | (with_reducible refine Below.setCell ?_ ?_ _; rotate_left; ((try simp only); omega)))) hb2
          have u2 := u1.kept hb2
          have v2 := v1.kept hb2
          have bp2 := bp1.kept hb2
          have l2 : w.heap.size ≤ w2.heap.size := k2.size
          clear cU zU cV zV fU fV cp zp
          have cU := u2.cell
          have zU := u2.lt
          have cV := v2.cell
          have zV := v2.lt
          have fU := u2.frozen
          have fV := v2.frozen
          have cp := bp2.cell
          have zp := bp2.lt
          clear q6
          go_wp2_with fail
          refine (qk1 _ (by repeat (first | with_reducible exact Below.refl _ _ | with_reducible assumption | with_reducible refine below_drewN ?_ _ | with_reducible refine Below.drew ?_ | with_reducible refine below_alloc ?_ _ | (with_reducible refine Below.setCell ?_ ?_ _; rotate_left; ((try simp only); omega))))).mono ?_
          rintro e w3 ⟨rfl, hb3⟩
          have k3 : Below w.heap.size w w3 := below_call (by repeat (first | with_reducible exact Below.refl _ _ | with_reducible assumption | with_reducible refine below_drewN ?_ _ | with_reducible refine Below.drew ?_ | with_reducible refine below_alloc ?_ _ | (with_reducible refine Below.setCell ?_ ?_ _; rotate_left; ((try simp only); omega)))) hb3
          have b16 : Blk w3 (w2.heap.size) 61 #[.int .i64 (a : Int), .int .i64 (i : Int)] := by
            refine Blk.kept ?_ hb3
            repeat (first | with_reducible exact u1 | with_reducible exact v1 | with_reducible exact bp1 | with_reducible exact u2 | with_reducible exact v2 | with_reducible exact bp2 | with_reducible exact b15 | with_reducible exact Blk.new _ _ _ | (with_reducible refine Blk.newAt _ _ _ _ ?_; first | rfl | (simp; done)) | with_reducible apply Blk.alloc | with_reducible apply Blk.drewN | with_reducible apply Blk.drew | with_reducible apply Blk.set_to | (with_reducible apply Blk.far_; (simp only [ne_eq]; omega)) | rfl)
          have c16 := b16.cell
          have z16 := b16.lt
          clear cU zU cV zV fU fV cp zp
          have HT3 := Lib.hid (HQ1.out hk (by rw [triN_6 (by rw [h6]; decide), h6]))
          by_cases hk1 : K1 = 4
          · have hkb1 : (K1 != 4) = false := by simp [hk1]
            have E := Lib.hid (show triP l (t0, t1) a b = [] from E.out.trans (by rw [HT3.out]; simp [hk1]))
            clear hk1 HT3 HQ1 HQ2 qf qk1 qk2 hk
            go_wp2
            refine bodyPost_end (results_none rfl _ _ _) rfl ?_
            exact YRet.none HH.out (by repeat (first | with_reducible exact Below.refl _ _ | with_reducible assumption | with_reducible refine below_drewN ?_ _ | with_reducible refine Below.drew ?_ | with_reducible refine below_alloc ?_ _ | (with_reducible refine Below.setCell ?_ ?_ _; rotate_left; ((try simp only); omega)))) _ E.out
          · have hkb1 : (K1 != 4) = true := by simpa using hk1
            have E := Lib.hid (show triP l (t0, t1) a b = [((a : Int), (i : Int))] from E.out.trans (by rw [HT3.out, if_pos hk1] <;> try rfl))
            have qy := fun W (hW : Below w.heap.size w W) => yield_ok (HH.out.call hW) hno (by omega) ((a : Int), (i : Int)) (by unfold okI; simp only; omega) (-1)
            simp only at qy
            clear hk1 HT3 HQ1 HQ2 qf qk1 qk2 hk
            go_wp2_with fail
            refine (qy _ (by repeat (first | with_reducible exact Below.refl _ _ | with_reducible assumption | with_reducible refine below_drewN ?_ _ | with_reducible refine Below.drew ?_ | with_reducible refine below_alloc ?_ _ | (with_reducible refine Below.setCell ?_ ?_ _; rotate_left; ((try simp only); omega))))).mono ?_
            rintro e w9 ⟨rfl, hY, hG⟩
            go_wp2
            refine bodyPost_end (results_none rfl _ _ _) rfl ?_
            exact YRet.yes k3 _ hY hG _ E.out
        · have q6 : ∀ W, Below w.heap.size w W → Calls Tryz.prog 124 #[.slice A n c, .agg #[.int .i64 (a : Int), .int .i64 (i : Int), .int .i64 (b : Int), .int .i64 (j : Int)], .int .i64 6] W fun e w' => e = .returned (.tuple #[.agg #[.int .i64 (b : Int), .int .i64 (j : Int)], .bool true]) ∧ Below W.heap.size W w' := fun W hW => by
            have := qf 6 W hW
            rw [h6] at this
            exact this
          go_wp2_with fail
          refine (q6 _ (by repeat (first | with_reducible exact Below.refl _ _ | with_reducible assumption | with_reducible refine below_drewN ?_ _ | with_reducible refine Below.drew ?_ | with_reducible refine below_alloc ?_ _ | (with_reducible refine Below.setCell ?_ ?_ _; rotate_left; ((try simp only); omega))))).mono ?_
          rintro e w2 ⟨rfl, hb2⟩
          have k2 : Below w.heap.size w w2 := below_call (by repeat (first | with_reducible exact Below.refl _ _ | with_reducible assumption | with_reducible refine below_drewN ?_ _ | with_reducible refine Below.drew ?_ | with_reducible refine below_alloc ?_ _ | (with_reducible refine Below.setCell ?_ ?_ _; rotate_left; ((try simp only); omega)))) hb2
          have u2 := u1.kept hb2
          have v2 := v1.kept hb2
          have bp2 := bp1.kept hb2
          have l2 : w.heap.size ≤ w2.heap.size := k2.size
          clear cU zU cV zV fU fV cp zp
          have cU := u2.cell
          have zU := u2.lt
          have cV := v2.cell
          have zV := v2.lt
          have fU := u2.frozen
          have fV := v2.frozen
          have cp := bp2.cell
          have zp := bp2.lt
          clear q6
          go_wp2_with fail
          refine (qk2 _ (by repeat (first | with_reducible exact Below.refl _ _ | with_reducible assumption | with_reducible refine below_drewN ?_ _ | with_reducible refine Below.drew ?_ | with_reducible refine below_alloc ?_ _ | (with_reducible refine Below.setCell ?_ ?_ _; rotate_left; ((try simp only); omega))))).mono ?_
          rintro e w3 ⟨rfl, hb3⟩
          have k3 : Below w.heap.size w w3 := below_call (by repeat (first | with_reducible exact Below.refl _ _ | with_reducible assumption | with_reducible refine below_drewN ?_ _ | with_reducible refine Below.drew ?_ | with_reducible refine below_alloc ?_ _ | (with_reducible refine Below.setCell ?_ ?_ _; rotate_left; ((try simp only); omega)))) hb3
          have b16 : Blk w3 (w2.heap.size) 61 #[.int .i64 (b : Int), .int .i64 (j : Int)] := by
            refine Blk.kept ?_ hb3
            repeat (first | with_reducible exact u1 | with_reducible exact v1 | with_reducible exact bp1 | with_reducible exact u2 | with_reducible exact v2 | with_reducible exact bp2 | with_reducible exact b15 | with_reducible exact Blk.new _ _ _ | (with_reducible refine Blk.newAt _ _ _ _ ?_; first | rfl | (simp; done)) | with_reducible apply Blk.alloc | with_reducible apply Blk.drewN | with_reducible apply Blk.drew | with_reducible apply Blk.set_to | (with_reducible apply Blk.far_; (simp only [ne_eq]; omega)) | rfl)
          have c16 := b16.cell
          have z16 := b16.lt
          clear cU zU cV zV fU fV cp zp
          have HT3 := Lib.hid (HQ2.out hk (by rw [triN_6 (by rw [h6]; decide), h6]))
          by_cases hk1 : K2 = 4
          · have hkb1 : (K2 != 4) = false := by simp [hk1]
            have E := Lib.hid (show triP l (t0, t1) a b = [] from E.out.trans (by rw [HT3.out]; simp [hk1]))
            clear hk1 HT3 HQ1 HQ2 qf qk1 qk2 hk
            go_wp2
            refine bodyPost_end (results_none rfl _ _ _) rfl ?_
            exact YRet.none HH.out (by repeat (first | with_reducible exact Below.refl _ _ | with_reducible assumption | with_reducible refine below_drewN ?_ _ | with_reducible refine Below.drew ?_ | with_reducible refine below_alloc ?_ _ | (with_reducible refine Below.setCell ?_ ?_ _; rotate_left; ((try simp only); omega)))) _ E.out
          · have hkb1 : (K2 != 4) = true := by simpa using hk1
            have E := Lib.hid (show triP l (t0, t1) a b = [((b : Int), (j : Int))] from E.out.trans (by rw [HT3.out, if_pos hk1] <;> try rfl))
            have qy := fun W (hW : Below w.heap.size w W) => yield_ok (HH.out.call hW) hno (by omega) ((b : Int), (j : Int)) (by unfold okI; simp only; omega) (-1)
            simp only at qy
            clear hk1 HT3 HQ1 HQ2 qf qk1 qk2 hk
            go_wp2_with fail
            refine (qy _ (by repeat (first | with_reducible exact Below.refl _ _ | with_reducible assumption | with_reducible refine below_drewN ?_ _ | with_reducible refine Below.drew ?_ | with_reducible refine below_alloc ?_ _ | (with_reducible refine Below.setCell ?_ ?_ _; rotate_left; ((try simp only); omega))))).mono ?_
            rintro e w9 ⟨rfl, hY, hG⟩
            go_wp2
            refine bodyPost_end (results_none rfl _ _ _) rfl ?_
            exact YRet.yes k3 _ hY hG _ E.out
      · have hkb : (kindP (x4, x5, x6) (y4, y5, y6) != 4) = true := by simpa using hk
        have E := Lib.hid (E.out.trans (by rw [triQ_1 hk] <;> try rfl))
        clear hk HQ1 HQ2 qf qk1 qk2
        go_wp2
        refine bodyPost_end (results_none rfl _ _ _) rfl ?_
        exact YRet.none HH.out (by repeat (first | with_reducible exact Below.refl _ _ | with_reducible assumption | with_reducible refine below_drewN ?_ _ | with_reducible refine Below.drew ?_ | with_reducible refine below_alloc ?_ _ | (with_reducible refine Below.setCell ?_ ?_ _; rotate_left; ((try simp only); omega)))) _ E.out
end Go.Proofs.YtpkmiegccfhpnaaGreatDoor
