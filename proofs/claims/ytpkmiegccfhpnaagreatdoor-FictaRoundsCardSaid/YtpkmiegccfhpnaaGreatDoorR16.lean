/- Parts of the proof of LawRounds31: FiSim, FiAllM, FiAll, FiApi, FiChk. -/
import Derived.Test.YtpkmiegccfhpnaaGreatDoorR15
set_option maxRecDepth 100000
set_option maxHeartbeats 16000000
namespace Go.Proofs.YtpkmiegccfhpnaaGreatDoor
/-! ### Settings without their alterations -/
def sk (x : Ev) : Ev := altE 0 x
def skL (l : List (List Ev)) : List (List Ev) := l.map (List.map sk)
theorem sk_alt (a : Int) (x : Ev) : sk (altE a x) = sk x := rfl
theorem map_modify_same {α β : Type} (g : α → β) (f : α → α) (h : ∀ x, g (f x) = g x) : ∀ (l : List α) (k : Nat), (l.modify k f).map g = l.map g
 | [], k => by cases k <;> rfl
 | x :: l, 0 => by show (f x :: l).map g = _; simp [h]
 | x :: l, k + 1 => by rw [List.modify_succ_cons, List.map_cons, List.map_cons, map_modify_same g f h l k]
theorem skL_setA (l : List (List Ev)) (y : Fic) : skL (setA l y) = skL l := by
 unfold skL setA
 exact map_modify_same _ _ (fun v => map_modify_same sk _ (sk_alt _) v _) l _
theorem skL_withL (l : List (List Ev)) (L : List Fic) : skL (withL l L) = skL l := by
 induction L generalizing l with
 | nil => rfl
 | cons y L ih => show skL (withL (setA l y) L) = _; rw [ih, skL_setA]
theorem momV_sk (v : List Ev) : ∀ o, momV o (v.map sk) = momV o v := by
 induction v with
 | nil => intro o; rfl
 | cons x v ih => intro o; exact ih _
theorem momS_sk (l : List (List Ev)) : momS (skL l) = momS l := by
 unfold momS skL
 have key : ∀ (l : List (List Ev)) o, (l.map (List.map sk)).foldl momV o = l.foldl momV o := by
  intro l
  induction l with
  | nil => intro o; rfl
  | cons v l ih => intro o; show (l.map (List.map sk)).foldl momV (momV o (v.map sk)) = _; rw [momV_sk, ih]; rfl
 exact key l []
theorem skL_mom {l l' : List (List Ev)} (h : skL l = skL l') : momS l = momS l' := by rw [← momS_sk, h, momS_sk]
theorem skL_len {l l' : List (List Ev)} (h : skL l = skL l') : l.length = l'.length := by
 have := congrArg List.length h
 simpa [skL] using this
theorem skL_voice {l l' : List (List Ev)} (h : skL l = skL l') (i : Nat) : (l.getD i []).map sk = (l'.getD i []).map sk := by
 have key : ∀ l : List (List Ev), (skL l).getD i [] = (l.getD i []).map sk := fun l => by
  unfold skL
  simp only [List.getD, List.getElem?_map]
  cases l[i]? <;> rfl
 rw [← key, h, key]
theorem skL_vlen {l l' : List (List Ev)} (h : skL l = skL l') (i : Nat) : (l.getD i []).length = (l'.getD i []).length := by
 have := congrArg List.length (skL_voice h i)
 simpa using this
theorem skL_plc {l l' : List (List Ev)} (h : skL l = skL l') : plcL l = plcL l' := by
 unfold plcL
 rw [skL_len h]
 congr 1
 funext v
 rw [skL_vlen h]
/-! ### Events by their places -/
theorem evA_nat' (l : List (List Ev)) (i j : Nat) : evA l ((i : Int), (j : Int)) = (l.getD i [])[j]? := by
 unfold evA
 rw [if_neg (by simp only; omega)]
 simp only [Int.toNat_natCast]
theorem evA_plc {l : List (List Ev)} {p : Plc} : p ∈ plcL l ↔ ∃ x, evA l p = some x := by
 rw [mem_plc]
 constructor
 ·rintro ⟨i, j, v, rfl, hv, hj⟩
  exact ⟨v[j], by rw [evA_nat', getD_at hv]; exact List.getElem?_eq_getElem hj⟩
 ·rintro ⟨x, hx⟩
  obtain ⟨i, j, v, rfl, hv, hj⟩ := evA_some hx
  exact ⟨i, j, v, rfl, hv, (List.getElem?_eq_some_iff.1 hj).1⟩
theorem getD_setA (l : List (List Ev)) (y : Fic) (i : Nat) : (setA l y).getD i [] = if y.1.toNat = i then (l.getD i []).modify y.2.1.toNat (altE y.2.2.1) else l.getD i [] := by
 simp only [List.getD, setA_at]
 by_cases h : y.1.toNat = i
 ·rw [if_pos h, if_pos h]
  cases l[i]? with
  | none => cases y.2.1.toNat <;> rfl
  | some v => rfl
 ·rw [if_neg h, if_neg h]
theorem evA_setA (l : List (List Ev)) (y : Fic) (h1 : 0 ≤ y.1) (h2 : 0 ≤ y.2.1) (p : Plc) : evA (setA l y) p = if (y.1, y.2.1) = p then (evA l p).map (altE y.2.2.1) else evA l p := by
 by_cases hp : p.1 < 0 ∨ p.2 < 0
 ·unfold evA
  rw [if_pos hp, if_pos hp]
  split <;> rfl
 ·obtain ⟨i, j, rfl⟩ : ∃ i j : Nat, p = ((i : Int), (j : Int)) := ⟨p.1.toNat, p.2.toNat, by obtain ⟨a, b⟩ := p; simp only at hp ⊢; rw [Prod.mk.injEq]; omega⟩
  rw [evA_nat', evA_nat', getD_setA]
  by_cases hi : y.1.toNat = i
  ·rw [if_pos hi, List.getElem?_modify]
   by_cases hj : y.2.1.toNat = j
   ·rw [if_pos (by rw [Prod.mk.injEq]; omega)]
    cases (l.getD i [])[j]? <;> simp [hj]
   ·rw [if_neg (by rw [Prod.mk.injEq]; omega)]
    cases (l.getD i [])[j]? <;> simp [hj]
  ·rw [if_neg hi, if_neg (by rw [Prod.mk.injEq]; omega)]
def nonneg (L : List Fic) : Prop := ∀ y ∈ L, 0 ≤ y.1 ∧ 0 ≤ y.2.1
def foldAlt (p : Plc) (L : List Fic) (x : Ev) : Ev := L.foldl (fun x y => if (y.1, y.2.1) = p then altE y.2.2.1 x else x) x
theorem evA_withL {L : List Fic} : ∀ {l : List (List Ev)} (_ : nonneg L) (p : Plc), evA (withL l L) p = (evA l p).map (foldAlt p L) := by
 induction L with
 | nil => intro l _ p; show evA l p = (evA l p).map id; simp
 | cons y L ih =>
  intro l h p
  obtain ⟨h1, h2⟩ := h y List.mem_cons_self
  show evA (withL (setA l y) L) p = _
  rw [ih (fun z hz => h z (List.mem_cons_of_mem _ hz)), evA_setA l y h1 h2]
  split
  ·rename_i e
   rw [Option.map_map]
   congr 1
   funext x
   show foldAlt p L (altE y.2.2.1 x) = L.foldl _ (if (y.1, y.2.1) = p then altE y.2.2.1 x else x)
   rw [if_pos e]; rfl
  ·rename_i e
   congr 1
   funext x
   show foldAlt p L x = L.foldl _ (if (y.1, y.2.1) = p then altE y.2.2.1 x else x)
   rw [if_neg e]; rfl
def altBy (o : Option Fic) (x : Ev) : Ev := match o with
 | some y => altE y.2.2.1 x
 | none => x
theorem fold_none {p : Plc} : ∀ {L : List Fic} (x : Ev), (∀ y ∈ L, (y.1, y.2.1) ≠ p) → foldAlt p L x = x
 | [], _, _ => rfl
 | y :: L, x, h => by
  show foldAlt p L (if (y.1, y.2.1) = p then altE y.2.2.1 x else x) = x
  rw [if_neg (h y List.mem_cons_self)]
  exact fold_none x (fun z hz => h z (List.mem_cons_of_mem _ hz))
theorem fold_some {p : Plc} {y : Fic} : ∀ {L : List Fic} (x : Ev), (∀ z ∈ L, (z.1, z.2.1) = p → z = y) → y ∈ L → (y.1, y.2.1) = p → foldAlt p L x = altE y.2.2.1 x
 | [], _, _, h, _ => by cases h
 | z :: L, x, h, hm, hp => by
  show foldAlt p L (if (z.1, z.2.1) = p then altE z.2.2.1 x else x) = _
  by_cases hy : y ∈ L
  ·rw [fold_some _ (fun u hu => h u (List.mem_cons_of_mem _ hu)) hy hp]
   split <;> rfl
  ·have hzy : y = z := (List.mem_cons.1 hm).resolve_right hy
   subst hzy
   rw [if_pos hp, fold_none]
   intro u hu e
   exact hy (h u (List.mem_cons_of_mem _ hu) e ▸ hu)
theorem FicOK.nonneg {l : List (List Ev)} {f : Plc → Option Fic} (h : FicOK l f) : nonneg (listF l f) := by
 intro y hy
 obtain ⟨p, hp, hf⟩ := mem_listF.1 hy
 obtain ⟨_, h1, h2⟩ := h p y hf
 obtain ⟨i, j, v, rfl, _⟩ := mem_plc.1 hp
 simp only at h1 h2
 omega
theorem evA_list {l m : List (List Ev)} {f : Plc → Option Fic} (h : FicOK l f) (p : Plc) : evA (withL m (listF l f)) p = (evA m p).map (altBy (f p)) := by
 rw [evA_withL h.nonneg]
 congr 1
 funext x
 cases hf : f p with
 | none =>
  refine fold_none x fun y hy e => ?_
  obtain ⟨q, hq, hfy⟩ := mem_listF.1 hy
  obtain ⟨_, h1, h2⟩ := h q y hfy
  have : q = p := by rw [← e]; exact Prod.ext h1.symm h2.symm
  rw [this, hf] at hfy
  cases hfy
 | some y =>
  obtain ⟨hp, h1, h2⟩ := h p y hf
  refine fold_some x (fun z hz e => ?_) (mem_listF.2 ⟨p, hp, hf⟩) (Prod.ext h1 h2)
  obtain ⟨q, hq, hfz⟩ := mem_listF.1 hz
  obtain ⟨_, g1, g2⟩ := h q z hfz
  have : q = p := by rw [← e]; exact Prod.ext g1.symm g2.symm
  rw [this, hf] at hfz
  cases hfz; rfl
theorem ext_ev {l l' : List (List Ev)} (h : l.length = l'.length) (he : ∀ p, evA l p = evA l' p) : l = l' := by
 apply List.ext_getElem?
 intro i
 rcases Nat.lt_or_ge i l.length with hi | hi
 ·obtain ⟨v, hv⟩ := get_some hi
  obtain ⟨v', hv'⟩ := get_some (l := l') (k := i) (by omega)
  rw [hv, hv']
  congr 1
  apply List.ext_getElem?
  intro j
  have := he ((i : Int), (j : Int))
  rw [evA_nat', evA_nat', getD_at hv, getD_at hv'] at this
  exact this
 ·rw [List.getElem?_eq_none hi, List.getElem?_eq_none (by omega)]
/-! ### Valid settings -/
theorem one_alt {t d : Tm} {p0 p1 p2 sg ps a : Int} (ha : -1 ≤ a ∧ a ≤ 1) (h : oneS ⟨t, d, (p0, p1, p2), false, sg, ps⟩ = 0) : oneS ⟨t, d, (p0, p1, a), false, sg, ps⟩ = 0 := by
 unfold oneS at h ⊢
 dsimp only at h ⊢
 have hp : pchk (p0, p1, p2) = 0 → pchk (p0, p1, a) = 0 := by
  unfold pchk
  dsimp only
  intro h4
  split at h4
  ·cases h4
  ·rw [if_neg (by omega)]
 split at h
 ·rename_i c; exact absurd h c
 ·rename_i c1
  rw [if_neg c1]
  split at h
  ·rename_i c; exact absurd h c
  ·rename_i c2
   rw [if_neg c2]
   split at h
   ·cases h
   ·rename_i c3
    rw [if_neg c3]
    split at h
    ·cases h
    ·rw [if_neg (fun hh => by cases hh.1)]
     split at h
     ·rename_i c; exact absurd h c.2
     ·rename_i c5
      rw [if_neg (fun hh => hh.2 (hp (by
       by_cases c6 : pchk (p0, p1, p2) = 0
       ·exact c6
       ·exact absurd ⟨rfl, c6⟩ c5)))]
      exact h
theorem step_alt {now : Tm} {x : Ev} {a : Int} (hr : x.rest = false) (ha : -1 ≤ a ∧ a ≤ 1) (h : stepS now x = 0) : stepS now (altE a x) = 0 := by
 unfold stepS at h ⊢
 have h1 : oneS x = 0 := by
  by_cases h0 : oneS x = 0
  ·exact h0
  ·rw [if_pos h0] at h; exact absurd h h0
 have h2 : oneS (altE a x) = 0 := by
  obtain ⟨t, d, ⟨p0, p1, p2⟩, rs, sg, ps⟩ := x
  simp only at hr
  subst hr
  exact one_alt ha h1
 rw [if_neg (fun h => h h1)] at h
 rw [if_neg (fun h => h h2)]
 exact h
theorem checkFrom_alt {a : Int} (ha : -1 ≤ a ∧ a ≤ 1) : ∀ (v : List Ev) (k : Nat) (x : Ev) (now : Tm) (i : Int), v[k]? = some x → x.rest = false → (checkFrom now i v).1 = 0 → (checkFrom now i (v.modify k (altE a))).1 = 0
 | [], _, _, _, _, h, _, _ => by simp at h
 | y :: v, k, x, now, i, hx, hr, h => by
  have hs : stepS now y = 0 := by
   unfold checkFrom at h
   by_cases h0 : stepS now y = 0
   ·exact h0
   ·rw [if_pos h0] at h; exact absurd h h0
  have hn : (checkFrom (nextS y) (i + 1) v).1 = 0 := by
   unfold checkFrom at h
   rwa [if_neg (fun h => h hs)] at h
  cases k with
  | zero =>
   simp at hx
   subst hx
   show (checkFrom now i (altE a y :: v)).1 = 0
   unfold checkFrom
   rw [if_neg (fun h => h (step_alt hr ha hs))]
   exact hn
  | succ k =>
   rw [List.modify_succ_cons]
   unfold checkFrom
   rw [if_neg (fun h => h hs)]
   exact checkFrom_alt ha v k x _ _ (by simpa using hx) hr hn
theorem check_alt {v : List Ev} {k : Nat} {x : Ev} {a : Int} (ha : -1 ≤ a ∧ a ≤ 1) (hx : v[k]? = some x) (hr : x.rest = false) (h : (checkS v).1 = 0) : (checkS (v.modify k (altE a))).1 = 0 := by
 unfold checkS at h ⊢
 rw [List.length_modify]
 split at h
 ·cases h
 ·rw [if_neg ‹_›]
  exact checkFrom_alt ha v k x _ _ hx hr h
theorem SetV.setA_ {l : List (List Ev)} (h : SetV l) {y : Fic} {x : Ev} (hx : evA l (y.1, y.2.1) = some x) (hr : x.rest = false) (ha : -1 ≤ y.2.2.1 ∧ y.2.2.1 ≤ 1) : SetV (setA l y) := by
 refine ⟨by rw [setA_len]; exact h.len, fun v hv => ?_⟩
 obtain ⟨i, hi⟩ := List.getElem?_of_mem hv
 rw [setA_at] at hi
 split at hi
 ·rename_i e
  obtain ⟨v0, h0, rfl⟩ := Option.map_eq_some_iff.1 hi
  obtain ⟨i', j', v', hp, hv', hj'⟩ := evA_some hx
  rw [Prod.mk.injEq] at hp
  have : i' = i := by omega
  subst this
  rw [hv'] at h0
  cases h0
  exact check_alt ha (by rw [show y.2.1.toNat = j' by omega]; exact hj') hr (h.chk _ (List.mem_of_getElem? hv'))
 ·exact h.chk v (List.mem_of_getElem? hi)
theorem SetV.with_ {L : List Fic} : ∀ {l : List (List Ev)} (_ : SetV l) (_ : ∀ y ∈ L, (∃ x, evA l (y.1, y.2.1) = some x ∧ x.rest = false) ∧ (-1 ≤ y.2.2.1 ∧ y.2.2.1 ≤ 1)), SetV (withL l L) := by
 induction L with
 | nil => intro l h _; exact h
 | cons y L ih =>
  intro l h hy
  obtain ⟨⟨x, hx, hr⟩, ha⟩ := hy y List.mem_cons_self
  refine ih (l := setA l y) (h.setA_ hx hr ha) fun z hz => ?_
  obtain ⟨⟨u, hu, hur⟩, hza⟩ := hy z (List.mem_cons_of_mem _ hz)
  obtain ⟨i, j, v, hp, _⟩ := evA_some hx
  rw [Prod.mk.injEq] at hp
  refine ⟨?_, hza⟩
  rw [evA_setA l y (by omega) (by omega), hu]
  split
  ·exact ⟨_, rfl, hur⟩
  ·exact ⟨u, rfl, hur⟩
theorem SetV.chkA {l : List (List Ev)} (h : SetV l) : (checkA l).1 = 0 := by
 unfold checkA
 rw [if_neg (by have := h.len; omega)]
 have key : ∀ (l : List (List Ev)) (i : Int), (∀ v ∈ l, (checkS v).1 = 0) → (chkV i l).1 = 0 := by
  intro l
  induction l with
  | nil => intro i _; rfl
  | cons v l ih =>
   intro i hv
   rw [chkV_next (hv v List.mem_cons_self)]
   exact ih _ (fun u hu => hv u (List.mem_cons_of_mem _ hu))
 exact key l 0 h.chk
theorem set_of_slices {l : List (List Ev)} (h : (slicesE l).2 = 0) : SetV l := by
 obtain ⟨hz, _⟩ := slicesE_ok h
 exact ⟨(checkA_all hz).1, (checkA_all hz).2⟩
theorem slices_sk {l l' : List (List Ev)} (hs : skL l = skL l') (h : (slicesE l).2 = 0) (h' : SetV l') : (slicesE l').2 = 0 := by
 obtain ⟨hz, _⟩ := slicesE_ok h
 have hm := skL_mom hs
 unfold slicesE at h ⊢
 rw [if_neg (fun h0 => h0 hz)] at h
 rw [if_neg (fun h0 => h0 h'.chkA), ← hm]
 split at h
 ·rename_i h0; exact absurd h h0
 ·rename_i h0; rw [if_neg h0]
/-! ### A round proposes free notes alone -/
theorem freeB_ev {l : List (List Ev)} {p : Plc} (h : freeB l p = true) : ∃ x, evA l p = some x ∧ x.rest = false ∧ x.pit.2.2 = 0 := by
 unfold freeB at h
 split at h
 ·rename_i x hx
  rw [Bool.and_eq_true, decide_eq_true_eq] at h
  exact ⟨x, hx, by simpa using h.1, h.2⟩
 ·cases h
theorem ev_free {l : List (List Ev)} {p : Plc} {x : Ev} (hx : evA l p = some x) (hr : x.rest = false) (ha : x.pit.2.2 = 0) : freeB l p = true := by rw [free_ev hx, hr, ha]; rfl
theorem lead_free {l : List (List Ev)} {p : Plc} (h : leadB l p = true) : freeB l p = true := by unfold leadB at h; rw [Bool.and_eq_true] at h; exact h.1
theorem flatN_one {p q : Pit3} {s : Int} (h : flatN p q s = 1) : p.1 = s ∧ p.2.2 = 0 := by
 unfold flatN at h
 split at h
 ·assumption
 ·split at h <;> cases h
theorem flatN_two {p q : Pit3} {s : Int} (h : flatN p q s = 2) : q.1 = s ∧ q.2.2 = 0 := by
 unfold flatN at h
 split at h
 ·cases h
 ·split at h
  ·assumption
  ·cases h
theorem triN_one {p q : Pit3} (h : triN p q = 1) : (p.1 = 6 ∨ p.1 = 2) ∧ p.2.2 = 0 := by
 unfold triN at h
 split at h
 ·have := flatN_one h; exact ⟨.inl this.1, this.2⟩
 ·have := flatN_one h; exact ⟨.inr this.1, this.2⟩
theorem triN_two {p q : Pit3} (h : triN p q = 2) : (q.1 = 6 ∨ q.1 = 2) ∧ q.2.2 = 0 := by
 unfold triN at h
 split at h
 ·have := flatN_two h; exact ⟨.inl this.1, this.2⟩
 ·have := flatN_two h; exact ⟨.inr this.1, this.2⟩
theorem flatN_le (p q : Pit3) (s : Int) : flatN p q s ≤ 2 := by unfold flatN; (repeat' split) <;> omega
theorem triN_le (p q : Pit3) : triN p q ≤ 2 := by unfold triN; split <;> exact flatN_le _ _ _
theorem triQ_one {p q : Pit3} (h : triQ p q = 1) : (p.1 = 6 ∨ p.1 = 2) ∧ p.2.2 = 0 := by
 unfold triQ at h
 split at h
 ·cases h
 ·split at h
  ·cases h
  ·split at h
   ·exact triN_one ‹_›
   ·split at h <;> cases h
theorem triQ_two {p q : Pit3} (h : triQ p q = 2) : (q.1 = 6 ∨ q.1 = 2) ∧ q.2.2 = 0 := by
 unfold triQ at h
 split at h
 ·cases h
 ·split at h
  ·cases h
  ·split at h
   ·split at h <;> cases h
   ·have h0 : ¬ triN p q = 0 := by assumption
    have h1 : ¬ triN p q = 1 := by assumption
    have := triN_le p q
    exact triN_two (p := p) (by omega)
theorem triP_mem {l : List (List Ev)} {t : Tm} {a b : Nat} {p : Plc} (h : p ∈ triP l t a b) : ∃ x, evA l p = some x ∧ x.rest = false ∧ x.pit.2.2 = 0 ∧ (x.pit.1 = 6 ∨ x.pit.1 = 2) := by
 unfold triP at h
 split at h
 ·rename_i x y hx hy
  split at h
  ·cases h
  ·rename_i hr
   have hrx : x.rest = false := by cases hh : x.rest; rfl; exact absurd (.inl hh) hr
   have hry : y.rest = false := by cases hh : y.rest; rfl; exact absurd (.inr hh) hr
   split at h
   ·rw [List.mem_singleton.1 h]; exact ⟨x, hx, hrx, (triQ_one ‹_›).2, (triQ_one ‹_›).1⟩
   ·split at h
    ·rw [List.mem_singleton.1 h]; exact ⟨y, hy, hry, (triQ_two ‹_›).2, (triQ_two ‹_›).1⟩
    ·cases h
 ·cases h
theorem triL_mem {l : List (List Ev)} {p : Plc} (h : p ∈ triL l) : ∃ (t : Tm) (a b : Nat), a < b ∧ b < l.length ∧ p ∈ triP l t a b := by
 unfold triL triS triV triR at h
 simp only [List.mem_flatMap, List.mem_range] at h
 obtain ⟨i, _, a, _, b, hb, h⟩ := h
 split at h
 ·exact ⟨_, a, b, ‹_›, hb, h⟩
 ·cases h
theorem supL_mem {l : List (List Ev)} {p : Plc} (h : p ∈ supL l) : ∃ (v e : Nat) (a b c : Ev), p = ((v : Int), (e : Int)) ∧ 1 ≤ e ∧ (l.getD v [])[e - 1]? = some a ∧ (l.getD v [])[e]? = some b ∧ (l.getD v [])[e + 1]? = some c ∧ (a.rest = false ∧ b.rest = false ∧ c.rest = false) ∧ a.pit = c.pit ∧ a.pit.1 = 5 ∧ b.pit.2.2 = 0 ∧ numP b.pit = numP a.pit + 1 := by
 unfold supL supS supV at h
 simp only [List.mem_flatMap, List.mem_range] at h
 obtain ⟨v, _, e, _, h⟩ := h
 unfold supP at h
 split at h
 ·rename_i a b c ha hb hc
  split at h
  ·rename_i hh
   exact ⟨v, e, a, b, c, List.mem_singleton.1 h, hh.1, ha, hb, hc, hh.2.1, hh.2.2.1, hh.2.2.2.1, hh.2.2.2.2.1, hh.2.2.2.2.2⟩
  ·cases h
 ·cases h
theorem rnd_some' {l : List (List Ev)} {dn : Plc → Option Fic} {p : Plc} {y : Fic} (h : rnd l dn p = some y) : dn p = none ∧ freeB l p = true ∧ y.1 = p.1 ∧ y.2.1 = p.2 ∧
  ((leadB l p = true ∧ y.2.2 = (1, 1)) ∨ (p ∈ triL l ∧ y.2.2 = (-1, 2)) ∨ (p ∈ supL l ∧ y.2.2 = (-1, 3))) := by
 unfold rnd at h
 split at h
 ·cases h
 ·rename_i h0
  have hd : dn p = none := by cases hh : dn p; rfl; rw [hh] at h0; exact absurd rfl h0
  split at h
  ·rename_i h1
   cases h
   exact ⟨hd, lead_free h1, rfl, rfl, .inl ⟨h1, rfl⟩⟩
  ·split at h
   ·rename_i h1
    cases h
    obtain ⟨t, a, b, _, _, h2⟩ := triL_mem h1
    obtain ⟨x, hx, hr, ha, _⟩ := triP_mem h2
    exact ⟨hd, ev_free hx hr ha, rfl, rfl, .inr (.inl ⟨h1, rfl⟩)⟩
   ·split at h
    ·rename_i h1
     cases h
     obtain ⟨v, e, a, b, c, rfl, _, _, hb, _, hr, _, _, hz, _⟩ := supL_mem h1
     exact ⟨hd, ev_free (by rw [evA_nat']; exact hb) hr.2.1 hz, rfl, rfl, .inr (.inr ⟨h1, rfl⟩)⟩
    ·cases h
def OKF (l : List (List Ev)) (f : Plc → Option Fic) : Prop := ∀ p y, f p = some y → freeB l p = true ∧ y.1 = p.1 ∧ y.2.1 = p.2 ∧ (y.2.2.1 = 1 ∨ y.2.2.1 = -1) ∧ (1 ≤ y.2.2.2 ∧ y.2.2.2 ≤ 3)
theorem OKF.fic {l : List (List Ev)} {f : Plc → Option Fic} (h : OKF l f) : FicOK l f := fun p y hy => by
 obtain ⟨h1, h2, h3, _⟩ := h p y hy
 obtain ⟨x, hx, _⟩ := freeB_ev h1
 exact ⟨evA_plc.2 ⟨x, hx⟩, h2, h3⟩
theorem rnd_okf (l : List (List Ev)) (dn : Plc → Option Fic) : OKF l (rnd l dn) := fun p y hy => by
 obtain ⟨_, h2, h3, h4, h5⟩ := rnd_some' hy
 refine ⟨h2, h3, h4, ?_, ?_⟩
 ·rcases h5 with ⟨_, h⟩ | ⟨_, h⟩ | ⟨_, h⟩ <;> rw [h] <;> simp
 ·rcases h5 with ⟨_, h⟩ | ⟨_, h⟩ | ⟨_, h⟩ <;> rw [h] <;> simp
structure Behind (l lk : List (List Ev)) (dn : Plc → Option Fic) : Prop where
 skel : skL lk = skL l
 evs : ∀ p, evA lk p = (evA l p).map (altBy (dn p))
 okf : OKF l dn
theorem Behind.start (l : List (List Ev)) : Behind l l (fun _ => none) := ⟨rfl, fun p => by cases evA l p <;> rfl, fun _ _ h => by cases h⟩
theorem Behind.free {l lk : List (List Ev)} {dn : Plc → Option Fic} (h : Behind l lk dn) (p : Plc) : freeB lk p = (freeB l p && (dn p).isNone) := by
 cases hd : dn p with
 | none =>
  have := h.evs p
  rw [hd] at this
  have e : evA lk p = evA l p := by rw [this]; cases evA l p <;> rfl
  unfold freeB
  rw [e]
  simp
 | some y =>
  obtain ⟨h1, _, _, ha, _⟩ := h.okf p y hd
  obtain ⟨x, hx, hr, _⟩ := freeB_ev h1
  have := h.evs p
  rw [hd, hx] at this
  have hne : ¬ (altBy (some y) x).pit.2.2 = 0 := by show ¬ y.2.2.1 = 0; omega
  rw [free_ev this, decide_eq_false hne]
  simp
theorem Behind.next {l lk : List (List Ev)} {dn : Plc → Option Fic} (h : Behind l lk dn) : Behind l (withL lk (listF lk (rnd lk dn))) (mergeF dn (rnd lk dn)) := by
 refine ⟨by rw [skL_withL]; exact h.skel, fun p => ?_, fun p y hy => ?_⟩
 ·rw [evA_list (rnd_okf lk dn).fic, h.evs, Option.map_map]
  congr 1
  funext x
  unfold mergeF
  cases hr : rnd lk dn p with
  | none => rfl
  | some y =>
   have := (rnd_some' hr).1
   simp only [Function.comp_apply, this]
   rfl
 ·unfold mergeF at hy
  cases hr : rnd lk dn p with
  | none => rw [hr] at hy; exact h.okf p y hy
  | some z =>
   rw [hr] at hy
   cases hy
   obtain ⟨h1, h2⟩ := rnd_okf lk dn p y hr
   rw [h.free p, Bool.and_eq_true] at h1
   exact ⟨h1.1, h2⟩
theorem Behind.is {l lk : List (List Ev)} {dn : Plc → Option Fic} (h : Behind l lk dn) : lk = withL l (listF l dn) := by
 refine ext_ev (by rw [withL_len]; exact skL_len h.skel) fun p => ?_
 rw [h.evs, evA_list h.okf.fic]
theorem Behind.plc {l lk : List (List Ev)} {dn : Plc → Option Fic} (h : Behind l lk dn) : plcL lk = plcL l := skL_plc h.skel
theorem Behind.set {l lk : List (List Ev)} {dn : Plc → Option Fic} (h : Behind l lk dn) (hl : SetV l) : SetV lk := by
 rw [h.is]
 refine hl.with_ fun y hy => ?_
 obtain ⟨p, hp, hf⟩ := mem_listF.1 hy
 obtain ⟨h1, h2, h3, h4, _⟩ := h.okf p y hf
 obtain ⟨x, hx, hr, _⟩ := freeB_ev h1
 refine ⟨⟨x, ?_, hr⟩, by rcases h4 with h4 | h4 <;> rw [h4] <;> omega⟩
 rw [show (y.1, y.2.1) = p from Prod.ext h2 h3]
 exact hx
theorem Behind.sl {l lk : List (List Ev)} {dn : Plc → Option Fic} (h : Behind l lk dn) (hs : (slicesE l).2 = 0) : (slicesE lk).2 = 0 := slices_sk h.skel.symm hs (h.set (set_of_slices hs))
/-! ### All rounds -/
def openN (l : List (List Ev)) (dn : Plc → Option Fic) : Nat := ((plcL l).filter fun p => (dn p).isNone).length
theorem openN_next {l : List (List Ev)} {dn now : Plc → Option Fic} (h : ∀ p y, now p = some y → dn p = none) (hne : listF l now ≠ []) : openN l (mergeF dn now) + 1 ≤ openN l dn := by
 unfold openN
 obtain ⟨y, hy⟩ := List.exists_mem_of_ne_nil _ hne
 obtain ⟨p, hp, hf⟩ := mem_listF.1 hy
 have key : ∀ L : List Plc, (L.filter fun p => ((mergeF dn now) p).isNone).length + (if p ∈ L then 1 else 0) ≤ (L.filter fun p => (dn p).isNone).length := by
  intro L
  induction L with
  | nil => simp
  | cons q L ih =>
   have hq : ((mergeF dn now) q).isNone = true → (dn q).isNone = true := by
    unfold mergeF
    cases hn : now q with
    | none => exact id
    | some z => intro hh; cases hh
   by_cases e : q = p
   ·subst e
    have h1 : (dn q).isNone = true := by rw [h q y hf]; rfl
    have h2 : ((mergeF dn now) q).isNone = false := by unfold mergeF; rw [hf]; rfl
    rw [if_pos List.mem_cons_self]
    simp only [List.filter_cons, h1, h2, if_true, List.length_cons, Bool.false_eq_true, if_false]
    have h3 : (L.filter fun p => ((mergeF dn now) p).isNone).length ≤ (L.filter fun p => (dn p).isNone).length := by
     refine Nat.le_trans ?_ ih; omega
    omega
   ·have h4 : (if p ∈ q :: L then 1 else 0) = (if p ∈ L then 1 else 0) := by
     have : p ∈ q :: L ↔ p ∈ L := by rw [List.mem_cons]; exact ⟨fun h => h.resolve_left (fun h => e h.symm), .inr⟩
     simp only [this]
    rw [h4]
    cases h5 : ((mergeF dn now) q).isNone with
    | true => simp only [List.filter_cons, h5, hq h5, if_true, List.length_cons]; omega
    | false =>
     cases h6 : (dn q).isNone with
     | true => simp only [List.filter_cons, h5, h6, if_true, List.length_cons, Bool.false_eq_true, if_false]; omega
     | false => simp only [List.filter_cons, h5, h6, Bool.false_eq_true, if_false]; exact ih
 have := key (plcL l)
 rw [if_pos hp] at this
 exact this
theorem openN_zero {l lk : List (List Ev)} {dn : Plc → Option Fic} (h : Behind l lk dn) (h0 : openN l dn = 0) : listF lk (rnd lk dn) = [] := by
 rw [List.eq_nil_iff_forall_not_mem]
 intro y hy
 obtain ⟨p, hp, hf⟩ := mem_listF.1 hy
 rw [h.plc] at hp
 have h1 := (rnd_some' hf).1
 unfold openN at h0
 have : p ∈ (plcL l).filter fun p => (dn p).isNone := List.mem_filter.2 ⟨hp, by rw [h1]; rfl⟩
 rw [List.eq_nil_of_length_eq_zero h0] at this
 cases this
theorem listF_nil {l : List (List Ev)} {f : Plc → Option Fic} (h : FicOK l f) (h0 : listF l f = []) : ∀ p, f p = none := fun p => by
 cases hf : f p with
 | none => rfl
 | some y => have := mem_listF.2 ⟨p, (h p y hf).1, hf⟩; rw [h0] at this; cases this
theorem allR_stop {n : Nat} {l : List (List Ev)} {dn : Plc → Option Fic} (h : listF l (rnd l dn) = []) : allR n l dn = (dn, 0) := by
 cases n with
 | zero => rfl
 | succ n => unfold allR; rw [if_pos h]
theorem allR_go {n : Nat} {l : List (List Ev)} {dn : Plc → Option Fic} (h : listF l (rnd l dn) ≠ []) : allR (n + 1) l dn = ((allR n (withL l (listF l (rnd l dn))) (mergeF dn (rnd l dn))).1, (allR n (withL l (listF l (rnd l dn))) (mergeF dn (rnd l dn))).2 + 1) := by
 rw [allR, if_neg h]
theorem allR_spec : ∀ (n : Nat) {l lk : List (List Ev)} {dn : Plc → Option Fic}, Behind l lk dn → openN l dn ≤ n →
  (∃ lF, Behind l lF (allR n lk dn).1 ∧ ∀ p, rnd lF (allR n lk dn).1 p = none) ∧ (allR n lk dn).2 + openN l (allR n lk dn).1 ≤ openN l dn ∧ ((allR n lk dn).2 = 0 → (allR n lk dn).1 = dn) ∧ (∀ p y, dn p = some y → (allR n lk dn).1 p = some y) ∧ ((allR n lk dn).2 ≠ 0 → ∃ p y, dn p = none ∧ (allR n lk dn).1 p = some y)
 | 0, l, lk, dn, h, h0 => by
  have hs := openN_zero h (by omega)
  exact ⟨⟨lk, h, listF_nil (rnd_okf lk dn).fic hs⟩, by show 0 + openN l dn ≤ openN l dn; omega, fun _ => rfl, fun _ _ h => h, fun h => absurd rfl h⟩
 | n + 1, l, lk, dn, h, h0 => by
  by_cases hs : listF lk (rnd lk dn) = []
  ·rw [allR_stop hs]
   exact ⟨⟨lk, h, listF_nil (rnd_okf lk dn).fic hs⟩, by show 0 + openN l dn ≤ openN l dn; omega, fun _ => rfl, fun _ _ h => h, fun h => absurd rfl h⟩
  ·rw [allR_go hs]
   have h1 : openN l (mergeF dn (rnd lk dn)) + 1 ≤ openN l dn := openN_next (fun p y hy => (rnd_some' hy).1) (by
    unfold listF at hs ⊢
    rwa [h.plc] at hs)
   obtain ⟨g1, g2, g3, g4, g5⟩ := allR_spec n h.next (by omega)
   have keep : ∀ p y, mergeF dn (rnd lk dn) p = some y → (allR n (withL lk (listF lk (rnd lk dn))) (mergeF dn (rnd lk dn))).1 p = some y := g4
   refine ⟨g1, by dsimp only; omega, fun hh => absurd hh (by show _ + 1 ≠ 0; omega), fun p y hy => ?_, fun _ => ?_⟩
   ·refine keep p y ?_
    unfold mergeF
    cases hr : rnd lk dn p with
    | none => exact hy
    | some z => rw [(rnd_some' hr).1] at hy; cases hy
   ·obtain ⟨y, hy⟩ := List.exists_mem_of_ne_nil _ hs
    obtain ⟨p, hp, hf⟩ := mem_listF.1 hy
    exact ⟨p, y, (rnd_some' hf).1, keep p y (by unfold mergeF; rw [hf])⟩
theorem openN_start (l : List (List Ev)) : openN l (fun _ => none) = (plcL l).length := by
 unfold openN
 simp
theorem allF_spec (l : List (List Ev)) : (∃ lF, Behind l lF (allF l).1 ∧ ∀ p, rnd lF (allF l).1 p = none) ∧ (allF l).2 ≤ (plcL l).length ∧ ((allF l).2 = 0 ↔ allFi l = []) := by
 obtain ⟨⟨lF, h1, h2⟩, h3, h4, _, h5⟩ := allR_spec (plcL l).length (Behind.start l) (by rw [openN_start]; exact Nat.le_refl _)
 rw [openN_start] at h3
 refine ⟨⟨lF, h1, h2⟩, Nat.le_trans (Nat.le_add_right _ _) h3, fun h => ?_, fun h => ?_⟩
 ·unfold allFi
  rw [show (allF l).1 = fun _ => none from h4 h]
  unfold listF
  rw [List.filterMap_eq_nil_iff]
  exact fun _ _ => rfl
 ·by_cases h0 : (allF l).2 = 0
  ·exact h0
  ·obtain ⟨p, y, _, hy⟩ := h5 h0
   have := listF_nil h1.okf.fic h p
   have hy : (allF l).1 p = some y := hy
   have this : (allF l).1 p = none := this
   rw [hy] at this
   cases this
end Go.Proofs.YtpkmiegccfhpnaaGreatDoor
namespace Go.Proofs.YtpkmiegccfhpnaaGreatDoor
open Go.RowKit Go.Maps
theorem plc_few {l : List (List Ev)} (h : SetV l) : (plcL l).length ≤ 16000 := by
 have key : ∀ k : Nat, k ≤ l.length → ((List.range k).flatMap fun (v : Nat) => (List.range (l.getD v []).length).map fun (e : Nat) => (((v : Int), (e : Int)) : Plc)).length ≤ k * 2000 := by
  intro k
  induction k with
  | zero => intro _; simp
  | succ k ih =>
   intro hk
   obtain ⟨v, hv⟩ := get_some (l := l) (k := k) (by omega)
   have := h.few v (List.mem_of_getElem? hv)
   rw [flat_succ, List.length_append, List.length_map, List.length_range, getD_at hv]
   have := ih (by omega)
   omega
 have h1 := key l.length (Nat.le_refl _)
 have h2 := h.len
 unfold plcL
 omega
theorem plc_okI {l : List (List Ev)} (h : SetV l) {p : Plc} (hp : p ∈ plcL l) : okI p.1 ∧ okI p.2 := by
 obtain ⟨i, j, v, rfl, hv, hj⟩ := mem_plc.1 hp
 have h1 := h.len
 have h2 := h.few v (List.mem_of_getElem? hv)
 have h3 := (List.getElem?_eq_some_iff.1 hv).1
 unfold okI
 simp only
 omega
theorem FicOK.okI_ {l : List (List Ev)} {f : Plc → Option Fic} (h : FicOK l f) (hl : SetV l) : ∀ x, f x ≠ none → okI x.1 ∧ okI x.2 := fun x hx => by
 cases hf : f x with
 | none => exact absurd hf hx
 | some y => exact plc_okI hl (h x y hf).1
theorem Reads.gbm {W W' : World} {B B' size n mo no : Nat} {γ β : Type} {K : TypeId} {G : KeyG γ K} {T : ElemT β} {f : γ → Option β} {A : Option Addr} {xs : List Value} (h : Reads W B size A n xs) (hm : TMap W G T mo no f) (hg : W.grownBy W' (some mo)) (hB : B ≤ B') : Reads W' B' size A n xs := by
 refine ⟨h.1, fun hn => ?_⟩
 obtain ⟨b, off, hA, hb, hc⟩ := h.2 hn
 exact ⟨b, off, hA, by omega, fun j u hj => cell_gb hm hg (hc j u hj)⟩
theorem ReadsV.gbm {W W' : World} {B B' n mo no : Nat} {γ β : Type} {K : TypeId} {G : KeyG γ K} {T : ElemT β} {f : γ → Option β} {A : Option Addr} {l : List (List Ev)} (h : ReadsV W B A n l) (hm : TMap W G T mo no f) (hg : W.grownBy W' (some mo)) (hB : B ≤ B') : ReadsV W' B' A n l := by
 obtain ⟨ds, h1, h2, h3⟩ := h
 exact ⟨ds, h1, h2.gbm hm hg hB, fun k d v hd hv => ⟨(h3 k d v hd hv).1.gbm hm hg hB, (h3 k d v hd hv).2⟩⟩
def ARet (l : List (List Ev)) (w : World) (e : Ending) (w' : World) : Prop :=
 ∃ mo no, e = .returned (.tuple #[.map (some mo), .int .i64 ((allF l).2 : Int)]) ∧ TMap w' keyPlace elemFic mo no (allF l).1 ∧ w.heap.size ≤ mo ∧ Below w.heap.size w w'
theorem all_ok {w : World} (A : Option Addr) (n c : Nat) (l : List (List Ev)) (B : Nat) (hV : ReadsV w B A n l) (hB : B ≤ w.heap.size) (hs : (slicesE l).2 = 0) (hT : Tabs w) :
  Calls Tryz.prog 41 #[.slice A n c] w fun e w' => ARet l w e w' := by
 have hmm := @run_makeMap Tryz.prog
 have hl := set_of_slices hs
 have HV := Lib.hid hV
 have HT := Lib.hid hT
 have HSL := Lib.hid hl
 have HSE := Lib.hid hs
 have HLN := Lib.hid hV.len
 have hfew := plc_few hl
 clear hV hT hl hs
 go_enter Tryz.func41, Tryz.ntmps41
 go_wp2_with fail
 go_step3
 go_wp2_with fail
 go_step3
 go_wp2_with fail
 have kb : Below w.heap.size w (w.alloc (.map #[] 0)) := below_alloc (Below.refl _ _) _
 have tm0 := TMap.made w keyPlace elemFic
 have rv0 := (HV.out.below hB kb).more (Nat.le_trans hB kb.size)
 obtain ⟨w1, hw1⟩ : ∃ z, z = w.alloc (.map #[] 0) := ⟨_, rfl⟩
 rw [← hw1] at kb tm0 rv0 ⊢
 obtain ⟨mo, hmo⟩ : ∃ z, z = w.heap.size := ⟨_, rfl⟩
 have HMO := Lib.hid (show w.heap.size ≤ mo by omega)
 rw [← hmo] at tm0 ⊢
 clear hw1 hmo
 obtain ⟨N, hN⟩ : ∃ z, z = (plcL l).length := ⟨_, rfl⟩
 have hN2 : N ≤ 16000 := by omega
 have HALL := Lib.hid (show allF l = allR N l (fun _ => none) by rw [hN]; rfl)
 have HST := Lib.hid (show openN l (fun _ => none) ≤ N by rw [openN_start, hN]; exact Nat.le_refl _)
 clear hN hfew
 go_loopg [0, 5, 6] N (fun gh u r _ wr => ∃ (k : Nat) (lk : List (List Ev)) (A' : Option Addr) (c' : Nat) (dn : Plc → Option Fic) (no : Nat), u = .slice A' n c' ∧ r = .int .i64 (k : Int) ∧ k + gh = N ∧ Hid (Behind l lk dn) ∧ Hid (openN l dn ≤ gh) ∧ Hid ((allF l).1 = (allR gh lk dn).1 ∧ (allF l).2 = k + (allR gh lk dn).2) ∧ ReadsV wr wr.heap.size A' n lk ∧ TMap wr keyPlace elemFic mo no dn ∧ no ≤ k * 4000000 ∧ Below w.heap.size w wr)
 case atStart => exact ⟨0, l, A, c, fun _ => none, 0, rfl, by simp, by omega, Lib.hid (Behind.start l), HST, Lib.hid ⟨by rw [HALL.out], by rw [HALL.out, Nat.zero_add]⟩, rv0, tm0, by omega, kb⟩
 case round =>
  clear rv0 tm0 kb
  obtain ⟨k, lk, A', c', dn, no, rfl, rfl, hkg, hBe, hOp, hAL, hRV, hTM, hno, hbw⟩ := hrel
  have wk : IntKind.i64.wrap ((k : Int) + 1) = (k : Int) + 1 := IntWalk.i64_in _ (by omega)
  have hsk := hBe.out.sl HSE.out
  have hslk := set_of_slices hsk
  have q := round_ok (.inr ⟨mo, no, rfl, hTM⟩) A' n c' lk wr.heap.size hRV (Nat.le_refl _) hslk hsk (HT.out.kept hbw)
  have HSK := Lib.hid hsk
  have HSLK := Lib.hid hslk
  clear hsk hslk
  go_wp2_with fail
  refine q.mono ?_
  rintro e w2 ⟨mn, nn, rfl, hnn, hmn, hTN, hb2⟩
  have hTM2 := hTM.call hb2
  have hRV2 := (hRV.below (Nat.le_refl _) hb2).more hb2.size
  have hbw2 := below_call hbw hb2
  have hmnw := hTM.lt
  clear q hTM hRV hb2 hbw
  have HFO := Lib.hid (rnd_okf lk dn).fic
  have hnz : (∀ x, keyPlace.ok x → rnd lk dn x = none) → listF lk (rnd lk dn) = [] := fun hall => by
   unfold listF
   rw [List.filterMap_eq_nil_iff]
   exact fun p hp => hall p (plc_okI HSLK.out hp)
  have HNZ := Lib.hid hnz
  have HND := Lib.hid (show ∀ p y, rnd lk dn p = some y → dn p = none from fun p y hy => (rnd_some' hy).1)
  obtain ⟨now, hnow⟩ : ∃ z, z = rnd lk dn := ⟨_, rfl⟩
  have HNOW := Lib.hid hnow
  rw [← hnow] at hTN HFO HNZ HND
  clear hnz hnow
  have HBW0 := Lib.hid hbw2
  go_wp2_with (refine wpList_tlen rfl (.tmp 11) rfl hTN Tryz.underlying71 rfl ?_; intro cn hcn hcz)
  ·have b0 : ((cn : Int) == 0) = true := by assumption
   have hc0 : cn = 0 := by simpa using b0
   have hst := HNZ.out (hcz.1 hc0)
   rw [HNOW.out] at hst
   have HX := Lib.hid (show ARet l w (.returned (.tuple #[.map (some mo), .int .i64 (k : Int)])) w2 from ⟨mo, no, by rw [hAL.out.2, allR_stop hst]; rfl, by rw [hAL.out.1, allR_stop hst]; exact hTM2, HMO.out, hbw2⟩)
   (try rw [Exit.noGoto_ret])
   refine ret_of (by simp [results, Tryz.results41, go_sem, *]; repeat' (first | rfl | apply And.intro)) rfl HX.out
  ·have b0 : ((cn : Int) == 0) = false := by assumption
   have hc0 : ¬ cn = 0 := by simpa using b0
   have hne : listF lk now ≠ [] := fun h => hc0 (hcz.2 fun x _ => listF_nil HFO.out h x)
   obtain ⟨gh, hgh⟩ : ∃ gh, gk = gh + 1 := by
    cases gk with
    | zero => exact absurd (openN_zero hBe.out (by have := hOp.out; omega)) (by rw [← HNOW.out]; exact hne)
    | succ g => exact ⟨g, rfl⟩
   subst hgh
   have HBN := Lib.hid (show Behind l (withL lk (listF lk now)) (mergeF dn now) by rw [HNOW.out]; exact hBe.out.next)
   have HON := Lib.hid (show openN l (mergeF dn now) ≤ gh by
    have h1 := openN_next (l := l) (dn := dn) (now := now) HND.out (by
     unfold listF at hne ⊢
     rwa [hBe.out.plc] at hne)
    have := hOp.out
    omega)
   have HAN := Lib.hid (show (allF l).1 = (allR gh (withL lk (listF lk now)) (mergeF dn now)).1 ∧ (allF l).2 = (k + 1) + (allR gh (withL lk (listF lk now)) (mergeF dn now)).2 by
    have h1 := hAL.out
    rw [allR_go (by rw [← HNOW.out]; exact hne), ← HNOW.out] at h1
    exact ⟨h1.1, by rw [h1.2]; simp only; omega⟩)
   have HIN := Lib.hid (show ∀ y ∈ listF lk now, inF lk y = true from fun y hy => by
    obtain ⟨p, hp, hf⟩ := mem_listF.1 hy
    obtain ⟨_, h1, h2⟩ := HFO.out p y hf
    obtain ⟨i, j, v, rfl, hv, hj⟩ := mem_plc.1 hp
    simp only at h1 h2
    unfold inF
    rw [decide_eq_true_eq, h1, h2, Int.toNat_natCast, getD_at hv]
    have := (List.getElem?_eq_some_iff.1 hv).1
    omega)
   have q2 := copy_any mo mn no nn dn now w2 hTM2 hTN (by omega) (by omega) (HFO.out.okI_ HSLK.out)
   have HTN := Lib.hid hTN
   have HTM := Lib.hid hTM2
   have HRV := Lib.hid hRV2
   have HBW := Lib.hid hbw2
   have hk1 : k < 16000 := by omega
   clear hc0 hcz hne hTN hTM2 hRV2 hbw2
   refine q2.mono ?_
   rintro e w3 ⟨rfl, hTM3, hG3⟩
   have hTN3 := HTN.out.grown hG3 (by intro e; injection e with e; omega)
   have hRV3 := HRV.out.gbm HTM.out hG3 hG3.size
   have hbw3 : Below w.heap.size w w3 := HBW.out.trans (Gb.below hG3 HMO.out (by have := HBW.out.size; omega))
   have q3 := sorted_any mn nn lk now w3 hTN3 (HFO.out.okI_ HSLK.out) HFO.out (by have := plc_few HSLK.out; omega)
   clear q2 hG3 hTN3
   go_wp2_with fail
   refine q3.mono ?_
   rintro e w4 ⟨u, rfl, how, hb4⟩
   obtain ⟨A2, c2, hu2, hr2, _, _⟩ := own_reads how
   subst hu2
   have hTM4 := hTM3.call hb4
   have hRV4 := (hRV3.below (Nat.le_refl _) hb4).more hb4.size
   have hbw4 := below_call hbw3 hb4
   have hLn : n ≤ 8 := by have := HLN.out; have := HSL.out.len; omega
   have q4 := fwith_ok A' n c' lk w4.heap.size w4 hRV4 (Nat.le_refl _) (by omega) (fun v hv => by have := HSLK.out.few v hv; omega) A2 (listF lk now).length c2 (listF lk now) w4.heap.size hr2 (Nat.le_refl _) (by have := listF_len lk now; have := plc_few HSLK.out; omega) HIN.out
   obtain ⟨ls, hls⟩ : ∃ z, z = (listF lk now).length := ⟨_, rfl⟩
   rw [← hls] at q4 ⊢
   clear q3 how hr2 hb4 hTM3 hRV3 hbw3 hls
   go_wp2_with fail
   refine q4.mono ?_
   rintro e w5 ⟨A5, c5, rfl, hRV5, hb5⟩
   have hTM5 := hTM4.call hb5
   have hbw5 := below_call hbw4 hb5
   clear q4 hTM4 hRV4 hbw4 hb5
   go_wp2
   go_roundg gh
   case measure => omega
   case rel => exact ⟨k + 1, _, A5, c5, _, no + nn, rfl, by go_num, by omega, HBN, HON, HAN, hRV5, hTM5, by omega, hbw5⟩
def FRet (L : List Fic) (r : Int) (w : World) (e : Ending) (w' : World) : Prop := ∃ u, e = .returned (.tuple #[u, .int .i64 r]) ∧ w'.ownsRow w.heap.size 39 4 u L.length (csFic L) ∧ Below w.heap.size w w'
theorem FRet.nil_ {r : Int} {w w' : World} (hb : Below w.heap.size w w') : FRet [] r w (.returned (.tuple #[.slice none 0 0, .int .i64 r])) w' := ⟨_, rfl, ⟨rfl, .inl ⟨rfl, rfl⟩⟩, hb⟩
theorem fround_ok {w : World} (A : Option Addr) (n c : Nat) (l : List (List Ev)) (B : Nat) (hV : ReadsV w B A n l) (hB : B ≤ w.heap.size) (hn : n ≤ 1000) (hT : Tabs w) :
  Calls Tryz.prog 23 #[.slice A n c] w fun e w' => FRet (roundE l).1 (roundE l).2 w e w' := by
 have qs := slices_any A n c l B w hV hB (by omega)
 by_cases hs : (slicesE l).2 = 0
 ·have q1 := fun W (hW : Below w.heap.size w W) => round_ok (w := W) (.inl ⟨rfl, rfl⟩) A n c l B (hV.below hB hW) (Nat.le_trans hB hW.size) (set_of_slices hs) hs (hT.kept hW)
  have E := Lib.hid (show roundE l = (listF l (rnd l fun _ => none), 0) by unfold roundE; rw [if_neg (fun h => h hs)]; rfl)
  have hl := set_of_slices hs
  have HO := Lib.hid (rnd_okf l (fun _ => none)).fic
  have HK := Lib.hid (HO.out.okI_ hl)
  have HP := Lib.hid (plc_few hl)
  rw [hs] at qs
  clear hV hT hl hs
  go_enter Tryz.func23, Tryz.ntmps23
  go_wp2_with fail
  refine qs.mono ?_
  rintro e w1 ⟨v, rfl, ho, hb1⟩
  clear qs ho
  go_wp2_with fail
  refine Calls.mono (q1 _ ?_) ?_
  ·repeat (first | with_reducible (first | exact Below.refl _ _ | assumption | refine below_drewN ?_ _ | refine Below.drew ?_ | refine below_alloc ?_ _) | (with_reducible refine Below.setCell ?_ ?_ _; rotate_left; ((try simp only); omega)))
  rintro e w2 ⟨mn, nn, rfl, _, _, hTN, hb2⟩
  have k2 := below_call hb1 hb2
  have q2 := sorted_any mn nn l (rnd l fun _ => none) w2 hTN HK.out HO.out (by have := HP.out; omega)
  clear q1 hTN hb2 hb1
  go_wp2_with fail
  refine q2.mono ?_
  rintro e w3 ⟨u, rfl, how, hb3⟩
  have HX := Lib.hid (show FRet (roundE l).1 (roundE l).2 w (.returned (.tuple #[u, .int .i64 0])) w3 by
   rw [E.out]; exact ⟨u, rfl, own_lower how k2.size, below_call k2 hb3⟩)
  clear q2 how hb3 k2
  go_wp2
  refine ret_of (by simp [results, Tryz.results23, go_sem, *]; repeat' (first | rfl | apply And.intro)) rfl HX.out
 ·have E := Lib.hid (show roundE l = ([], (slicesE l).2) by unfold roundE; rw [if_pos hs])
  obtain ⟨r, hr⟩ : ∃ z, z = (slicesE l).2 := ⟨_, rfl⟩
  rw [← hr] at qs hs E
  have b0 : (r != 0) = true := by simpa using hs
  clear hV hT hr hs
  go_enter Tryz.func23, Tryz.ntmps23
  go_wp2_with fail
  refine qs.mono ?_
  rintro e w1 ⟨v, rfl, ho, hb1⟩
  clear qs ho
  go_wp2
  refine ret_of (by simp [results, Tryz.results23, go_sem, *]; repeat' (first | rfl | apply And.intro)) rfl ?_
  rw [E.out]
  exact FRet.nil_ hb1
theorem fall_ok {w : World} (A : Option Addr) (n c : Nat) (l : List (List Ev)) (B : Nat) (hV : ReadsV w B A n l) (hB : B ≤ w.heap.size) (hn : n ≤ 1000) (hT : Tabs w) :
  Calls Tryz.prog 22 #[.slice A n c] w fun e w' => FRet (allE l).1 (allE l).2 w e w' := by
 have qs := slices_any A n c l B w hV hB (by omega)
 by_cases hs : (slicesE l).2 = 0
 ·have q1 := fun W (hW : Below w.heap.size w W) => all_ok (w := W) A n c l B (hV.below hB hW) (Nat.le_trans hB hW.size) hs (hT.kept hW)
  have E := Lib.hid (show allE l = (listF l (allF l).1, 0) by unfold allE; rw [if_neg (fun h => h hs)]; rfl)
  have hl := set_of_slices hs
  have HO := Lib.hid (show FicOK l (allF l).1 by obtain ⟨⟨lF, h1, _⟩, _⟩ := allF_spec l; exact h1.okf.fic)
  have HK := Lib.hid (HO.out.okI_ hl)
  have HP := Lib.hid (plc_few hl)
  rw [hs] at qs
  obtain ⟨⟨fa, na⟩, hfa⟩ : ∃ z, z = allF l := ⟨_, rfl⟩
  unfold ARet at q1
  rw [← hfa] at q1 HO HK E
  simp only at q1 HO HK E
  clear hV hT hl hs hfa
  go_enter Tryz.func22, Tryz.ntmps22
  go_wp2_with fail
  refine qs.mono ?_
  rintro e w1 ⟨v, rfl, ho, hb1⟩
  clear qs ho
  go_wp2_with fail
  refine Calls.mono (q1 _ ?_) ?_
  ·repeat (first | with_reducible (first | exact Below.refl _ _ | assumption | refine below_drewN ?_ _ | refine Below.drew ?_ | refine below_alloc ?_ _) | (with_reducible refine Below.setCell ?_ ?_ _; rotate_left; ((try simp only); omega)))
  rintro e w2 ⟨mn, nn, rfl, hTN, _, hb2⟩
  have k2 := below_call hb1 hb2
  have q2 := sorted_any mn nn l fa w2 hTN HK.out HO.out (by have := HP.out; omega)
  clear q1 hTN hb2 hb1
  go_wp2_with fail
  refine q2.mono ?_
  rintro e w3 ⟨u, rfl, how, hb3⟩
  have HX := Lib.hid (show FRet (allE l).1 (allE l).2 w (.returned (.tuple #[u, .int .i64 0])) w3 by
   rw [E.out]; exact ⟨u, rfl, own_lower how k2.size, below_call k2 hb3⟩)
  clear q2 how hb3 k2
  go_wp2
  refine ret_of (by simp [results, Tryz.results22, go_sem, *]; repeat' (first | rfl | apply And.intro)) rfl HX.out
 ·have E := Lib.hid (show allE l = ([], (slicesE l).2) by unfold allE; rw [if_pos hs])
  obtain ⟨r, hr⟩ : ∃ z, z = (slicesE l).2 := ⟨_, rfl⟩
  rw [← hr] at qs hs E
  have b0 : (r != 0) = true := by simpa using hs
  clear hV hT hr hs
  go_enter Tryz.func22, Tryz.ntmps22
  go_wp2_with fail
  refine qs.mono ?_
  rintro e w1 ⟨v, rfl, ho, hb1⟩
  clear qs ho
  go_wp2
  refine ret_of (by simp [results, Tryz.results22, go_sem, *]; repeat' (first | rfl | apply And.intro)) rfl ?_
  rw [E.out]
  exact FRet.nil_ hb1
theorem frounds_ok {w : World} (A : Option Addr) (n c : Nat) (l : List (List Ev)) (B : Nat) (hV : ReadsV w B A n l) (hB : B ≤ w.heap.size) (hn : n ≤ 1000) (hT : Tabs w) :
  Calls Tryz.prog 26 #[.slice A n c] w fun e w' => e = .returned (.tuple #[.int .i64 (roundsE l).1, .int .i64 (roundsE l).2]) ∧ Below w.heap.size w w' := by
 have qs := slices_any A n c l B w hV hB (by omega)
 by_cases hs : (slicesE l).2 = 0
 ·have q1 := fun W (hW : Below w.heap.size w W) => all_ok (w := W) A n c l B (hV.below hB hW) (Nat.le_trans hB hW.size) hs (hT.kept hW)
  have E := Lib.hid (show roundsE l = (((allF l).2 : Int), 0) by unfold roundsE; rw [if_neg (fun h => h hs)])
  rw [hs] at qs
  obtain ⟨⟨fa, na⟩, hfa⟩ : ∃ z, z = allF l := ⟨_, rfl⟩
  unfold ARet at q1
  rw [← hfa] at q1 E
  simp only at q1 E
  rw [E.out]
  clear hV hT hs hfa
  go_enter Tryz.func26, Tryz.ntmps26
  go_wp2_with fail
  refine qs.mono ?_
  rintro e w1 ⟨v, rfl, ho, hb1⟩
  clear qs ho
  go_wp2_with fail
  refine Calls.mono (q1 _ ?_) ?_
  ·repeat (first | with_reducible (first | exact Below.refl _ _ | assumption | refine below_drewN ?_ _ | refine Below.drew ?_ | refine below_alloc ?_ _) | (with_reducible refine Below.setCell ?_ ?_ _; rotate_left; ((try simp only); omega)))
  rintro e w2 ⟨mn, nn, rfl, hTN, _, hb2⟩
  have k2 := below_call hb1 hb2
  clear q1 hTN hb2 hb1
  go_wp2
  refine ret_of (by simp [results, Tryz.results26, go_sem, *]; repeat' (first | rfl | apply And.intro)) rfl ⟨rfl, k2⟩
 ·have E := Lib.hid (show roundsE l = (0, (slicesE l).2) by unfold roundsE; rw [if_pos hs])
  obtain ⟨r, hr⟩ : ∃ z, z = (slicesE l).2 := ⟨_, rfl⟩
  rw [← hr] at qs hs E
  have b0 : (r != 0) = true := by simpa using hs
  rw [E.out]
  clear hV hT hr hs
  go_enter Tryz.func26, Tryz.ntmps26
  go_wp2_with fail
  refine qs.mono ?_
  rintro e w1 ⟨v, rfl, ho, hb1⟩
  clear qs ho
  go_wp2
  refine ret_of (by simp [results, Tryz.results26, go_sem, *]; repeat' (first | rfl | apply And.intro)) rfl ⟨rfl, hb1⟩
def prevF (L : List Fic) (k : Nat) : Option Fic := if k = 0 then none else L[k - 1]?
theorem prevF_next {L : List Fic} {k : Nat} {x : Fic} (h : L[k]? = some x) : prevF L (k + 1) = some x := by unfold prevF; rw [if_neg (by omega), Nat.add_sub_cancel]; exact h
theorem chkF_bad {l : List (List Ev)} {p : Option Fic} {x : Fic} {i r : Int} {L : List Fic} (h : oneF l p x = r) (hr : r ≠ 0) : chkF l p i (x :: L) = (r, i) := by unfold chkF; rw [h, if_pos hr]
theorem chkF_next {l : List (List Ev)} {p : Option Fic} {x : Fic} {i : Int} {L : List Fic} (h : oneF l p x = 0) : chkF l p i (x :: L) = chkF l (some x) (i + 1) L := by
 conv => lhs; unfold chkF
 rw [if_neg (fun hh => hh h)]
theorem one_out {l : List (List Ev)} {p : Option Fic} {x : Fic} (h : inF l x = false) : oneF l p x = 2 := by unfold oneF; rw [if_pos h]
theorem one_form {l : List (List Ev)} {p : Option Fic} {x : Fic} (h : inF l x = true) (h2 : freeB l (x.1, x.2.1) = false ∨ (x.2.2.1 ≠ -1 ∧ x.2.2.1 ≠ 1)) : oneF l p x = 3 := by unfold oneF; rw [if_neg (by rw [h]; simp), if_pos h2]
theorem one_kind {l : List (List Ev)} {p : Option Fic} {x : Fic} (h : inF l x = true) (h2 : ¬ (freeB l (x.1, x.2.1) = false ∨ (x.2.2.1 ≠ -1 ∧ x.2.2.1 ≠ 1))) (h3 : x.2.2.2 < 1 ∨ 3 < x.2.2.2) : oneF l p x = 8 := by unfold oneF; rw [if_neg (by rw [h]; simp), if_neg h2, if_pos h3]
theorem one_last {l : List (List Ev)} {p : Option Fic} {x : Fic} (h : inF l x = true) (h2 : ¬ (freeB l (x.1, x.2.1) = false ∨ (x.2.2.1 ≠ -1 ∧ x.2.2.1 ≠ 1))) (h3 : ¬ (x.2.2.2 < 1 ∨ 3 < x.2.2.2)) : oneF l p x = match p with
  | some y => if lessF y x then 0 else 6
  | none => 0 := by unfold oneF; rw [if_neg (by rw [h]; simp), if_neg h2, if_neg h3]; cases p <;> rfl
theorem ord_less (a b c d : Int) : decide (0 ≤ orS [cmp3 a c, cmp3 b d]) = !decide (a < c ∨ a = c ∧ b < d) := by
 unfold orS orS orS cmp3
 rw [Bool.eq_iff_iff]
 simp only [decide_eq_true_eq, Bool.not_eq_true', decide_eq_false_iff_not]
 (repeat' split) <;> omega
theorem fcheck_ok {w : World} (A : Option Addr) (n c : Nat) (l : List (List Ev)) (B : Nat) (hV : ReadsV w B A n l) (hB : B ≤ w.heap.size) (hn : n ≤ 1000) (A2 : Option Addr) (m c2 : Nat) (L : List Fic) (B2 : Nat) (h2 : Reads w B2 4 A2 m (csFic L)) (hB2 : B2 ≤ w.heap.size) (hm : m ≤ 1000000) :
  Calls Tryz.prog 13 #[.slice A n c, .slice A2 m c2] w fun e w' => e = .returned (.tuple #[.int .i64 (checkF l L).1, .int .i64 (checkF l L).2]) ∧ Below w.heap.size w w' := by
 have qs := slices_any A n c l B w hV hB (by omega)
 by_cases hs : (slicesE l).2 = 0
 ·have E := Lib.hid (show checkF l L = chkF l none 0 L by unfold checkF; rw [if_neg (fun h => h hs)])
  rw [hs] at qs
  rw [E.out]
  have HV := Lib.hid hV
  have HR2 := Lib.hid h2
  have HLN := Lib.hid hV.len
  have HLM := Lib.hid (show L.length = m from h2.len (size := 4) (l := L) (f := cFic) (fun _ => rfl) (by decide))
  clear hV h2 hs E
  go_enter Tryz.func13, Tryz.ntmps13
  go_wp2_with fail
  refine qs.mono ?_
  rintro e w1 ⟨v, rfl, ho, hb1⟩
  clear qs ho
  go_wp2_with fail
  go_loopg [8, 9, 20] m (fun gh _ _ i wr => ∃ k : Nat, k + gh = m ∧ i = .int .i64 (k : Int) ∧ Below w.heap.size w wr ∧ Hid (chkF l (prevF L k) (k : Int) (L.drop k) = chkF l none 0 L))
  case atStart => exact ⟨0, by omega, by simp, hb1, Lib.hid rfl⟩
  case round =>
   clear hb1
   obtain ⟨k, hkg, rfl, kr, hE⟩ := hrel
   have wk : IntKind.i64.wrap ((k : Int) + 1) = (k : Int) + 1 := IntWalk.i64_in _ (by omega)
   cases gk with
   | zero =>
    have hk : k = m := by omega
    have d0 : ¬ ((k : Int) < (m : Int)) := by omega
    have HB := Lib.hid (show chkF l none 0 L = (0, 0) by rw [← hE.out, List.drop_of_length_le (by have := HLM.out; omega)]; rfl)
    clear hE hkg hk
    go_wp2
    refine ret_of (by simp [results, Tryz.results13, go_sem, *]; repeat' (first | rfl | apply And.intro)) rfl ⟨?_, kr⟩
    rw [HB.out]
   | succ gh =>
    have hkm : k < m := by omega
    have d0 : (k : Int) < (m : Int) := by omega
    obtain ⟨⟨x1, x2, x3, x4⟩, hx⟩ := get_some (l := L) (k := k) (by have := HLM.out; omega)
    obtain ⟨bf, off, hA2, hbf, hcf⟩ := Reads.elem (f := cFic) (fun _ => rfl) (HR2.out.below hB2 kr) hkm hx
    subst hA2
    have e0 := hcf 0 _ rfl
    have e1 := hcf 1 _ rfl
    have e2 := hcf 2 _ rfl
    have e3 := hcf 3 _ rfl
    simp only [Nat.add_zero, ← Nat.add_assoc] at e0 e1 e2 e3
    have lbf : bf < wr.heap.size := by have := kr.size; omega
    have HD := Lib.hid (drop_get hx)
    have HX := Lib.hid hx
    clear hx hcf
    by_cases c1 : x1 < 0
    ·have HOUT := Lib.hid (show inF l (x1, x2, x3, x4) = false by unfold inF; rw [decide_eq_false]; simp only; omega)
     have t1 : decide (x1 < 0) = true := decide_eq_true c1
     have HB := Lib.hid (show chkF l none 0 L = (2, (k : Int)) by rw [← hE.out, HD.out]; exact chkF_bad (one_out HOUT.out) (by decide))
     clear HOUT
     go_wp2_with fail
     obtain ⟨w5, hw5⟩ : ∃ z, z = wr.alloc (.cells #[.int .i64 x1, .int .i64 x2, .int .i64 x3, .int .i64 x4] 39) := ⟨_, rfl⟩
     have k5 : Below wr.heap.size wr w5 := by rw [hw5]; repeat (first | with_reducible (first | exact Below.refl _ _ | assumption | refine below_drewN ?_ _ | refine Below.drew ?_ | refine below_alloc ?_ _) | (with_reducible refine Below.setCell ?_ ?_ _; rotate_left; ((try simp only); omega)))
     have b5 : Blk w5 wr.heap.size 39 #[.int .i64 x1, .int .i64 x2, .int .i64 x3, .int .i64 x4] := by rw [hw5]; exact Blk.new _ _ _
     have kr5 := below_call kr k5
     rw [← hw5]
     have f0 := b5.cell 0
     have f1 := b5.cell 1
     have lf := b5.lt
     simp only [List.getElem?_toArray, List.getElem?_cons_zero, List.getElem?_cons_succ] at f0 f1
     clear e0 e1 e2 e3 kr
     clear c1
     refine wp_region_calm (by kernel_rfl) (by kernel_rfl) ?_
     repeat (go_big_quiet_step (fail))
     refine wpQuiet_nil ?_
     intro wd gd
     have krd := below_call kr5 gd
     go_wp2
     refine ret_of (by simp [results, Tryz.results13, go_sem, *]; repeat' (first | rfl | apply And.intro)) rfl ⟨?_, by repeat (first | with_reducible (first | exact Below.refl _ _ | assumption | refine below_drewN ?_ _ | refine Below.drew ?_ | refine below_alloc ?_ _) | (with_reducible refine Below.setCell ?_ ?_ _; rotate_left; ((try simp only); omega)))⟩
     rw [HB.out]
    ·have t1 : decide (x1 < 0) = false := decide_eq_false c1
     by_cases c2 : (n : Int) ≤ x1
     ·have HOUT := Lib.hid (show inF l (x1, x2, x3, x4) = false by unfold inF; rw [decide_eq_false]; simp only; have := HLN.out; omega)
      have t2 : decide ((n : Int) ≤ x1) = true := decide_eq_true c2
      have HB := Lib.hid (show chkF l none 0 L = (2, (k : Int)) by rw [← hE.out, HD.out]; exact chkF_bad (one_out HOUT.out) (by decide))
      clear HOUT
      go_wp2_with fail
      obtain ⟨w5, hw5⟩ : ∃ z, z = wr.alloc (.cells #[.int .i64 x1, .int .i64 x2, .int .i64 x3, .int .i64 x4] 39) := ⟨_, rfl⟩
      have k5 : Below wr.heap.size wr w5 := by rw [hw5]; repeat (first | with_reducible (first | exact Below.refl _ _ | assumption | refine below_drewN ?_ _ | refine Below.drew ?_ | refine below_alloc ?_ _) | (with_reducible refine Below.setCell ?_ ?_ _; rotate_left; ((try simp only); omega)))
      have b5 : Blk w5 wr.heap.size 39 #[.int .i64 x1, .int .i64 x2, .int .i64 x3, .int .i64 x4] := by rw [hw5]; exact Blk.new _ _ _
      have kr5 := below_call kr k5
      rw [← hw5]
      have f0 := b5.cell 0
      have f1 := b5.cell 1
      have lf := b5.lt
      simp only [List.getElem?_toArray, List.getElem?_cons_zero, List.getElem?_cons_succ] at f0 f1
      clear e0 e1 e2 e3 kr
      clear c1 c2
      refine wp_region_calm (by kernel_rfl) (by kernel_rfl) ?_
      repeat (go_big_quiet_step (fail))
      refine wpQuiet_nil ?_
      intro wd gd
      have krd := below_call kr5 gd
      go_wp2
      refine ret_of (by simp [results, Tryz.results13, go_sem, *]; repeat' (first | rfl | apply And.intro)) rfl ⟨?_, by repeat (first | with_reducible (first | exact Below.refl _ _ | assumption | refine below_drewN ?_ _ | refine Below.drew ?_ | refine below_alloc ?_ _) | (with_reducible refine Below.setCell ?_ ?_ _; rotate_left; ((try simp only); omega)))⟩
      rw [HB.out]
     ·have t2 : decide ((n : Int) ≤ x1) = false := decide_eq_false c2
      obtain ⟨i, rfl⟩ : ∃ i : Nat, x1 = (i : Int) := ⟨x1.toNat, by omega⟩
      have hin : i < n := by omega
      have hin' : (i : Int) < (n : Int) := by omega
      have t2' : decide (n ≤ i) = false := decide_eq_false (by omega)
      obtain ⟨v, hv⟩ := get_some (l := l) (k := i) (by have := HLN.out; omega)
      obtain ⟨b, ob, A', n', c', rfl, hab, cv, rv, hn', hvn⟩ := HV.out.voice hB kr hin hv
      have HVV := Lib.hid hv
      have HVN := Lib.hid hvn
      clear c1 c2 hv hvn
      by_cases c3 : x2 < 0
      ·have HOUT := Lib.hid (show inF l ((i : Int), x2, x3, x4) = false by unfold inF; rw [decide_eq_false]; simp only; omega)
       have t3 : decide (x2 < 0) = true := decide_eq_true c3
       have HB := Lib.hid (show chkF l none 0 L = (2, (k : Int)) by rw [← hE.out, HD.out]; exact chkF_bad (one_out HOUT.out) (by decide))
       clear HOUT
       go_wp2_with fail
       obtain ⟨w5, hw5⟩ : ∃ z, z = wr.alloc (.cells #[.int .i64 (i : Int), .int .i64 x2, .int .i64 x3, .int .i64 x4] 39) := ⟨_, rfl⟩
       have k5 : Below wr.heap.size wr w5 := by rw [hw5]; repeat (first | with_reducible (first | exact Below.refl _ _ | assumption | refine below_drewN ?_ _ | refine Below.drew ?_ | refine below_alloc ?_ _) | (with_reducible refine Below.setCell ?_ ?_ _; rotate_left; ((try simp only); omega)))
       have b5 : Blk w5 wr.heap.size 39 #[.int .i64 (i : Int), .int .i64 x2, .int .i64 x3, .int .i64 x4] := by rw [hw5]; exact Blk.new _ _ _
       have kr5 := below_call kr k5
       rw [← hw5]
       have f0 := b5.cell 0
       have f1 := b5.cell 1
       have lf := b5.lt
       simp only [List.getElem?_toArray, List.getElem?_cons_zero, List.getElem?_cons_succ] at f0 f1
       clear e0 e1 e2 e3 kr
       clear c3
       refine wp_region_calm (by kernel_rfl) (by kernel_rfl) ?_
       repeat (go_big_quiet_step (fail))
       refine wpQuiet_nil ?_
       intro wd gd
       have krd := below_call kr5 gd
       go_wp2
       refine ret_of (by simp [results, Tryz.results13, go_sem, *]; repeat' (first | rfl | apply And.intro)) rfl ⟨?_, by repeat (first | with_reducible (first | exact Below.refl _ _ | assumption | refine below_drewN ?_ _ | refine Below.drew ?_ | refine below_alloc ?_ _) | (with_reducible refine Below.setCell ?_ ?_ _; rotate_left; ((try simp only); omega)))⟩
       rw [HB.out]
      ·have t3 : decide (x2 < 0) = false := decide_eq_false c3
       by_cases c4 : (n' : Int) ≤ x2
       ·have HOUT := Lib.hid (show inF l ((i : Int), x2, x3, x4) = false by unfold inF; rw [decide_eq_false]; simp only [Int.toNat_natCast]; rw [getD_at HVV.out, HVN.out]; omega)
        have t4 : decide ((n' : Int) ≤ x2) = true := decide_eq_true c4
        have HB := Lib.hid (show chkF l none 0 L = (2, (k : Int)) by rw [← hE.out, HD.out]; exact chkF_bad (one_out HOUT.out) (by decide))
        clear HOUT
        go_wp2_with fail
        obtain ⟨w5, hw5⟩ : ∃ z, z = wr.alloc (.cells #[.int .i64 (i : Int), .int .i64 x2, .int .i64 x3, .int .i64 x4] 39) := ⟨_, rfl⟩
        have k5 : Below wr.heap.size wr w5 := by rw [hw5]; repeat (first | with_reducible (first | exact Below.refl _ _ | assumption | refine below_drewN ?_ _ | refine Below.drew ?_ | refine below_alloc ?_ _) | (with_reducible refine Below.setCell ?_ ?_ _; rotate_left; ((try simp only); omega)))
        have b5 : Blk w5 wr.heap.size 39 #[.int .i64 (i : Int), .int .i64 x2, .int .i64 x3, .int .i64 x4] := by rw [hw5]; exact Blk.new _ _ _
        have kr5 := below_call kr k5
        rw [← hw5]
        have f0 := b5.cell 0
        have f1 := b5.cell 1
        have lf := b5.lt
        simp only [List.getElem?_toArray, List.getElem?_cons_zero, List.getElem?_cons_succ] at f0 f1
        clear e0 e1 e2 e3 kr
        have cv5 := (k5.cell (p := ⟨b, ob + i, none⟩) hab).trans cv
        have lb5 : b < w5.heap.size := by have := k5.size; omega
        clear c3 c4
        refine wp_region_calm (by kernel_rfl) (by kernel_rfl) ?_
        repeat (go_big_quiet_step (fail))
        refine wpQuiet_nil ?_
        intro wd gd
        have krd := below_call kr5 gd
        go_wp2
        refine ret_of (by simp [results, Tryz.results13, go_sem, *]; repeat' (first | rfl | apply And.intro)) rfl ⟨?_, by repeat (first | with_reducible (first | exact Below.refl _ _ | assumption | refine below_drewN ?_ _ | refine Below.drew ?_ | refine below_alloc ?_ _) | (with_reducible refine Below.setCell ?_ ?_ _; rotate_left; ((try simp only); omega)))⟩
        rw [HB.out]
       ·have t4 : decide ((n' : Int) ≤ x2) = false := decide_eq_false c4
        obtain ⟨j, rfl⟩ : ∃ j : Nat, x2 = (j : Int) := ⟨x2.toNat, by omega⟩
        have hjn : j < n' := by omega
        have t4' : decide (n' ≤ j) = false := decide_eq_false (by omega)
        have HIN := Lib.hid (show inF l ((i : Int), (j : Int), x3, x4) = true by unfold inF; rw [decide_eq_true_eq]; simp only [Int.toNat_natCast]; rw [getD_at HVV.out, HVN.out]; have := HLN.out; omega)
        obtain ⟨ev, hev⟩ := get_some (l := v) (k := j) (by have := HVN.out; omega)
        have qf := fun W (hW : Below w.heap.size w W) => free_ok (some ⟨b, ob, none⟩) n c l B W (HV.out.below hB hW) (Nat.le_trans hB hW.size) (evA_nat HVV.out hev)
        have hfd : ∀ d, freeB l ((i : Int), (j : Int)) = d → Hid (freeB l ((i : Int), (j : Int)) = d) := fun _ h => h
        clear c3 c4 hev
        go_wp2_with fail
        obtain ⟨w5, hw5⟩ : ∃ z, z = wr.alloc (.cells #[.int .i64 (i : Int), .int .i64 (j : Int), .int .i64 x3, .int .i64 x4] 39) := ⟨_, rfl⟩
        have k5 : Below wr.heap.size wr w5 := by rw [hw5]; repeat (first | with_reducible (first | exact Below.refl _ _ | assumption | refine below_drewN ?_ _ | refine Below.drew ?_ | refine below_alloc ?_ _) | (with_reducible refine Below.setCell ?_ ?_ _; rotate_left; ((try simp only); omega)))
        have b5 : Blk w5 wr.heap.size 39 #[.int .i64 (i : Int), .int .i64 (j : Int), .int .i64 x3, .int .i64 x4] := by rw [hw5]; exact Blk.new _ _ _
        have kr5 := below_call kr k5
        rw [← hw5]
        have f0 := b5.cell 0
        have f1 := b5.cell 1
        have lf := b5.lt
        have cv5 := (k5.cell (p := ⟨b, ob + i, none⟩) hab).trans cv
        have lb5 : b < w5.heap.size := by have := k5.size; omega
        simp only [List.getElem?_toArray, List.getElem?_cons_zero, List.getElem?_cons_succ] at f0 f1
        clear e0 e1 e2 e3 kr cv hab k5 hw5
        refine wp_region_calm (by kernel_rfl) (by kernel_rfl) ?_
        repeat (go_big_quiet_step (fail))
        refine wpQuiet_nil ?_
        intro wd gd
        have krd := below_call kr5 gd
        have bd := b5.kept gd
        clear f0 f1 lf cv5 lb5 kr5 b5 gd
        have f0 := bd.cell 0
        have f1 := bd.cell 1
        have f2 := bd.cell 2
        have f3 := bd.cell 3
        have lf := bd.lt
        simp only [List.getElem?_toArray, List.getElem?_cons_zero, List.getElem?_cons_succ] at f0 f1 f2 f3
        go_wp2_with fail
        refine Calls.mono (qf _ krd) ?_
        rintro e w6 ⟨rfl, hb6⟩
        have kr6 := below_call krd hb6
        have b6 := bd.kept hb6
        clear f0 f1 f2 f3 lf qf bd krd hb6
        have f0 := b6.cell 0
        have f1 := b6.cell 1
        have f2 := b6.cell 2
        have f3 := b6.cell 3
        have lf := b6.lt
        simp only [List.getElem?_toArray, List.getElem?_cons_zero, List.getElem?_cons_succ] at f0 f1 f2 f3
        obtain ⟨fb, hfb⟩ : ∃ z, z = freeB l ((i : Int), (j : Int)) := ⟨_, rfl⟩
        have HFB := Lib.hid hfb.symm
        rw [← hfb]
        clear hfb
        by_cases g1 : fb = false ∨ (x3 ≠ -1 ∧ x3 ≠ 1)
        ·have HB := Lib.hid (show chkF l none 0 L = (3, (k : Int)) by rw [← hE.out, HD.out]; exact chkF_bad (one_form HIN.out (by simp only; rw [HFB.out]; exact g1)) (by decide))
         have hor : (fb = false) ∨ (fb = true ∧ (x3 != -1) = true ∧ (x3 != 1) = true) := by
          rcases g1 with g1 | g1
          ·exact .inl g1
          ·cases fb
           ·exact .inl rfl
           ·exact .inr ⟨rfl, by simpa using g1.1, by simpa using g1.2⟩
         clear g1
         rcases hor with rfl | ⟨rfl, z1, z2⟩
         ·go_wp2
          refine ret_of (by simp [results, Tryz.results13, go_sem, *]; repeat' (first | rfl | apply And.intro)) rfl ⟨?_, kr6⟩
          rw [HB.out]
         ·go_wp2
          refine ret_of (by simp [results, Tryz.results13, go_sem, *]; repeat' (first | rfl | apply And.intro)) rfl ⟨?_, kr6⟩
          rw [HB.out]
        ·have hg : fb = true ∧ (x3 = -1 ∨ x3 = 1) := by
          cases fb
          ·exact absurd (.inl rfl) g1
          ·exact ⟨rfl, by omega⟩
         obtain ⟨rfl, hx3⟩ := hg
         have HG1 := Lib.hid (show ¬ (freeB l ((i : Int), (j : Int)) = false ∨ (x3 ≠ -1 ∧ x3 ≠ 1)) by rw [HFB.out]; exact g1)
         clear g1
         by_cases g2 : x4 < 1 ∨ 3 < x4
         ·have HB := Lib.hid (show chkF l none 0 L = (8, (k : Int)) by rw [← hE.out, HD.out]; exact chkF_bad (one_kind HIN.out HG1.out g2) (by decide))
          rcases hx3 with rfl | rfl <;>
          ·by_cases g3 : x4 < 1
           ·have t5 : decide (x4 < 1) = true := decide_eq_true g3
            clear g2 g3
            go_wp2
            refine ret_of (by simp [results, Tryz.results13, go_sem, *]; repeat' (first | rfl | apply And.intro)) rfl ⟨?_, kr6⟩
            rw [HB.out]
           ·have t5 : decide (x4 < 1) = false := decide_eq_false g3
            have t6 : decide (3 < x4) = true := decide_eq_true (by omega)
            clear g2 g3
            go_wp2
            refine ret_of (by simp [results, Tryz.results13, go_sem, *]; repeat' (first | rfl | apply And.intro)) rfl ⟨?_, kr6⟩
            rw [HB.out]
         ·have HONE := Lib.hid (one_last (p := prevF L k) HIN.out HG1.out g2)
          have t5 : decide (x4 < 1) = false := decide_eq_false (by omega)
          have t6 : decide (3 < x4) = false := decide_eq_false (by omega)
          clear g2
          by_cases hk0 : k = 0
          ·have HNX := Lib.hid (show chkF l (prevF L (k + 1)) (((k + 1 : Nat)) : Int) (L.drop (k + 1)) = chkF l none 0 L by
            rw [prevF_next HX.out, ← hE.out, HD.out, chkF_next (HONE.out.trans (by rw [hk0]; rfl))]
            rw [show (((k + 1 : Nat)) : Int) = (k : Int) + 1 by omega])
           have t7 : decide (0 < k) = false := decide_eq_false (by omega)
           have t7' : decide ((0 : Int) < (k : Int)) = false := decide_eq_false (by omega)
           clear hk0
           rcases hx3 with rfl | rfl <;>
           ·go_wp2_with fail
            clear f0 f1 f2 f3 lf b6
            refine wp_region_calm (by kernel_rfl) (by kernel_rfl) ?_
            repeat (go_big_quiet_step (fail))
            refine wpQuiet_nil ?_
            intro w7 g7
            have kr7 := below_call kr6 g7
            go_wp2
            go_roundg gh
            case measure => omega
            case rel => exact ⟨k + 1, by omega, by go_num, kr7, HNX⟩
          ·obtain ⟨kp, hkp⟩ : ∃ kp, k = kp + 1 := ⟨k - 1, by omega⟩
           obtain ⟨⟨y1, y2, y3, y4⟩, hy⟩ := get_some (l := L) (k := kp) (by have := HLM.out; omega)
           have HPV := Lib.hid (show prevF L k = some (y1, y2, y3, y4) by unfold prevF; rw [if_neg hk0, hkp]; exact hy)
           obtain ⟨bf', off', hA2, hbf', hcf⟩ := Reads.elem (f := cFic) (fun _ => rfl) (HR2.out.below hB2 kr6) (show kp < m by omega) hy
           cases hA2
           have p0 := hcf 0 _ rfl
           have p1 := hcf 1 _ rfl
           simp only [Nat.add_zero, ← Nat.add_assoc] at p0 p1
           have lbf6 : bf < w6.heap.size := by have := kr6.size; omega
           have wk1 : IntKind.i64.wrap ((k : Int) - 1) = (kp : Int) := by rw [show (k : Int) - 1 = (kp : Int) by omega]; exact IntWalk.i64_in _ (by omega)
           have hkpm : (kp : Int) < (m : Int) := by omega
           have t7 : decide (0 < k) = true := decide_eq_true (by omega)
           have t7' : decide ((0 : Int) < (k : Int)) = true := decide_eq_true (by omega)
           obtain ⟨r, hr⟩ : ∃ z, z = orS [cmp3 y1 (i : Int), cmp3 y2 (j : Int)] := ⟨_, rfl⟩
           have HOR := Lib.hid (show decide (0 ≤ r) = !decide (y1 < (i : Int) ∨ y1 = (i : Int) ∧ y2 < (j : Int)) by rw [hr]; exact ord_less _ _ _ _)
           have qo := fun (W : World) => or_any (some ⟨W.heap.size, 0, none⟩) 2 2 [cmp3 y1 (i : Int), cmp3 y2 (j : Int)] (W.heap.size + 1) (W.alloc (.cells #[.int .i64 (cmp3 y1 (i : Int)), .int .i64 (cmp3 y2 (j : Int))] 3)) (Reads.newAt _ _ _ 2 1 _ rfl rfl) (by simp) (by omega)
           simp only [← hr] at qo
           have HKP := Lib.hid hkp
           clear hcf hy hk0 hr hkp
           by_cases hle : y1 < (i : Int) ∨ y1 = (i : Int) ∧ y2 < (j : Int)
           ·have t8 : decide (0 ≤ r) = false := by rw [HOR.out, decide_eq_true hle]; rfl
            have HNX := Lib.hid (show chkF l (prevF L (k + 1)) (((k + 1 : Nat)) : Int) (L.drop (k + 1)) = chkF l none 0 L by
             rw [prevF_next HX.out, ← hE.out, HD.out, chkF_next (HONE.out.trans (by rw [HPV.out]; exact if_pos hle))]
             rw [show (((k + 1 : Nat)) : Int) = (k : Int) + 1 by omega])
            clear hle
            rcases hx3 with rfl | rfl <;>
            ·go_wp2_with fail
             refine wp_region_calm_tail 21 (by kernel_rfl) (by kernel_rfl) ?_
             simp only [List.take_succ_cons, List.take_zero, List.drop_succ_cons, List.drop_zero]
             repeat (go_big_quiet_step ((go_at_call 32; with_reducible exact calm_call (cmpI_any _ _ _))))
             refine wpQuiet_nil ?_
             intro w7 hb7
             have kr7 := below_call kr6 hb7
             clear f0 f1 f2 f3 lf p0 p1 lbf6 b6 hb7
             go_wp2_with fail
             refine Calls.mono (qo w7) ?_
             rintro e w8 ⟨rfl, hb8⟩
             have kr8 := below_call (below_alloc kr7 (.cells #[.int .i64 (cmp3 y1 (i : Int)), .int .i64 (cmp3 y2 (j : Int))] 3)) hb8
             clear qo hb8
             go_wp2
             go_roundg gh
             case measure => omega
             case rel => exact ⟨k + 1, by omega, by go_num, kr8, HNX⟩
           ·have t8 : decide (0 ≤ r) = true := by rw [HOR.out, decide_eq_false hle]; rfl
            have HB := Lib.hid (show chkF l none 0 L = (6, (k : Int)) by rw [← hE.out, HD.out]; exact chkF_bad (HONE.out.trans (by rw [HPV.out]; exact if_neg hle)) (by decide))
            clear hle
            rcases hx3 with rfl | rfl <;>
            ·go_wp2_with fail
             refine wp_region_calm_tail 21 (by kernel_rfl) (by kernel_rfl) ?_
             simp only [List.take_succ_cons, List.take_zero, List.drop_succ_cons, List.drop_zero]
             repeat (go_big_quiet_step ((go_at_call 32; with_reducible exact calm_call (cmpI_any _ _ _))))
             refine wpQuiet_nil ?_
             intro w7 hb7
             have kr7 := below_call kr6 hb7
             clear f0 f1 f2 f3 lf p0 p1 lbf6 b6 hb7
             go_wp2_with fail
             refine Calls.mono (qo w7) ?_
             rintro e w8 ⟨rfl, hb8⟩
             have kr8 := below_call (below_alloc kr7 (.cells #[.int .i64 (cmp3 y1 (i : Int)), .int .i64 (cmp3 y2 (j : Int))] 3)) hb8
             clear qo hb8
             go_wp2
             refine ret_of (by simp [results, Tryz.results13, go_sem, *]; repeat' (first | rfl | apply And.intro)) rfl ⟨?_, kr8⟩
             rw [HB.out]
 ·have E := Lib.hid (show checkF l L = ((slicesE l).2, 0) by unfold checkF; rw [if_pos hs])
  obtain ⟨r, hr⟩ : ∃ z, z = (slicesE l).2 := ⟨_, rfl⟩
  rw [← hr] at qs hs E
  have b0 : (r != 0) = true := by simpa using hs
  rw [E.out]
  clear hV h2 hr hs
  go_enter Tryz.func13, Tryz.ntmps13
  go_wp2_with fail
  refine qs.mono ?_
  rintro e w1 ⟨v, rfl, ho, hb1⟩
  clear qs ho
  go_wp2
  refine ret_of (by simp [results, Tryz.results13, go_sem, *]; repeat' (first | rfl | apply And.intro)) rfl ⟨rfl, hb1⟩
def VRet (l : List (List Ev)) (r : Int) (w : World) (e : Ending) (w' : World) : Prop := ∃ A m c, e = .returned (.tuple #[.slice A m c, .int .i64 r]) ∧ ReadsV w' w'.heap.size A m l ∧ Below w.heap.size w w'
theorem chkF_in {l : List (List Ev)} : ∀ {L : List Fic} {p : Option Fic} {i : Int}, (chkF l p i L).1 = 0 → ∀ y ∈ L, inF l y = true
 | [], _, _, _, y, hy => by cases hy
 | x :: L, p, i, h, y, hy => by
  have h0 : oneF l p x = 0 := by
   by_cases h0 : oneF l p x = 0
   ·exact h0
   ·rw [chkF_bad rfl h0] at h; exact absurd h h0
  rw [chkF_next h0] at h
  rcases List.mem_cons.1 hy with rfl | hy
  ·cases hi : inF l y with
   | true => rfl
   | false => rw [one_out hi] at h0; cases h0
  ·exact chkF_in h y hy
theorem fapply_ok {w : World} (A : Option Addr) (n c : Nat) (l : List (List Ev)) (B : Nat) (hV : ReadsV w B A n l) (hB : B ≤ w.heap.size) (hn : n ≤ 1000) (A2 : Option Addr) (m c2 : Nat) (L : List Fic) (B2 : Nat) (h2 : Reads w B2 4 A2 m (csFic L)) (hB2 : B2 ≤ w.heap.size) (hm : m ≤ 1000000) :
  Calls Tryz.prog 15 #[.slice A n c, .slice A2 m c2] w fun e w' => VRet (applyE l L).1 (applyE l L).2 w e w' := by
 have qs := fcheck_ok A n c l B hV hB hn A2 m c2 L B2 h2 hB2 hm
 by_cases hs : (checkF l L).1 = 0
 ·have E := Lib.hid (show applyE l L = (withL l L, 0) by unfold applyE; rw [if_neg (fun h => h hs)])
  have hsl : (slicesE l).2 = 0 := by
   by_cases h0 : (slicesE l).2 = 0
   ·exact h0
   ·unfold checkF at hs; rw [if_pos h0] at hs; exact absurd hs h0
  have hl := set_of_slices hsl
  have hin : ∀ y ∈ L, inF l y = true := by
   unfold checkF at hs
   rw [if_neg (fun h => h hsl)] at hs
   exact chkF_in hs
  have qw := fun W (hW : Below w.heap.size w W) => fwith_ok A n c l B W (hV.below hB hW) (Nat.le_trans hB hW.size) (by have := hV.len; have := hl.len; omega) (fun v hv => by have := hl.few v hv; omega) A2 m c2 L B2 (h2.below hB2 hW) (Nat.le_trans hB2 hW.size) hm hin
  rw [hs] at qs
  obtain ⟨i, hi⟩ : ∃ z, z = (checkF l L).2 := ⟨_, rfl⟩
  rw [← hi] at qs
  clear hV h2 hs hsl hl hin hi
  go_enter Tryz.func15, Tryz.ntmps15
  go_wp2_with fail
  refine qs.mono ?_
  rintro e w1 ⟨rfl, hb1⟩
  clear qs
  go_wp2_with fail
  refine Calls.mono (qw _ ?_) ?_
  ·repeat (first | with_reducible (first | exact Below.refl _ _ | assumption | refine below_drewN ?_ _ | refine Below.drew ?_ | refine below_alloc ?_ _) | (with_reducible refine Below.setCell ?_ ?_ _; rotate_left; ((try simp only); omega)))
  rintro e w2 ⟨A5, c5, rfl, hr, hb2⟩
  have k2 := below_call hb1 hb2
  clear qw hb1 hb2
  have HX := Lib.hid (show VRet (applyE l L).1 (applyE l L).2 w (.returned (.tuple #[.slice A5 n c5, .int .i64 0])) w2 by rw [E.out]; exact ⟨A5, n, c5, rfl, hr, k2⟩)
  clear hr k2
  go_wp2
  refine ret_of (by simp [results, Tryz.results15, go_sem, *]; repeat' (first | rfl | apply And.intro)) rfl HX.out
 ·have E := Lib.hid (show applyE l L = ([], (checkF l L).1) by unfold applyE; rw [if_pos hs])
  obtain ⟨⟨r, i⟩, hr⟩ : ∃ z, z = checkF l L := ⟨_, rfl⟩
  rw [← hr] at qs hs E
  simp only at qs hs E
  have b0 : (r != 0) = true := by simpa using hs
  clear hV h2 hr hs
  go_enter Tryz.func15, Tryz.ntmps15
  go_wp2_with fail
  refine qs.mono ?_
  rintro e w1 ⟨rfl, hb1⟩
  clear qs
  go_wp2
  refine ret_of (by simp [results, Tryz.results15, go_sem, *]; repeat' (first | rfl | apply And.intro)) rfl ?_
  rw [E.out]
  exact ⟨none, 0, 0, rfl, ⟨[], rfl, Reads.none_, fun k d v h => by simp at h⟩, hb1⟩
end Go.Proofs.YtpkmiegccfhpnaaGreatDoor
