/- Parts of the proof of LawRounds31: AlRef, AlSlMem, AlMoments, AlSeqMem, CaEnds, CaKind, CaBass. -/
import Derived.Test.YtpkmiegccfhpnaaGreatDoorR07
set_option maxRecDepth 100000
set_option maxHeartbeats 16000000
namespace Go.Proofs.YtpkmiegccfhpnaaGreatDoor
open Go.RowKit
theorem on_any (A : Option Addr) (n c : Nat) (v : List Ev) (t : Tm) (B : Nat) (w : World) (h : Reads w B 10 A n (csE v)) (hB : B ≤ w.heap.size) (hn : n ≤ 9223372036854775807) (hv : Val v) (ht : ok t) :
  Calls Tryz.prog 54 #[.slice A n c, .agg #[.int .i64 t.1, .int .i64 t.2]] w fun e w' => e = .returned (.int .i64 (onS v t)) ∧ Below w.heap.size w w' := by
 have HL := Lib.hid h.evlen
 have HV := Lib.hid hv
 have HT := Lib.hid ht
 clear hv ht
 obtain ⟨t0, t1⟩ := t
 go_enter Tryz.func54, Tryz.ntmps54
 go_wp2
 go_loopw [5] (fun i wr => ∃ k : Nat, k ≤ n ∧ i = .int .i64 k ∧ Hid (onFrom k (v.drop k) (t0, t1) = onS v (t0, t1)) ∧ Below w.heap.size w wr ∧ Blk wr w.heap.size 45 #[.int .i64 t0, .int .i64 t1]) (fun i _ => n - (intOf i).toNat)
 case atStart => exact ⟨0, by omega, rfl, Lib.hid rfl, by repeat (first | with_reducible (first | exact Below.refl _ _ | assumption | refine below_drewN ?_ _ | refine Below.drew ?_ | refine below_alloc ?_ _) | (with_reducible refine Below.setCell ?_ ?_ _; rotate_left; ((try simp only); omega))), by with_reducible exact Blk.new _ _ _⟩
 case round =>
  obtain ⟨k, hk, rfl, hs, k0, bT⟩ := hrel
  have t0c : wr.cell? ⟨w.heap.size, 0, none⟩ = some (.int .i64 t0) := bT.cell 0
  have t1c : wr.cell? ⟨w.heap.size, 1, none⟩ = some (.int .i64 t1) := bT.cell 1
  have lT := bT.lt
  by_cases hkn : k < n
  ·have hkn' : (k : Int) < (n : Int) := by omega
   obtain ⟨x, hx⟩ := get_some (l := v) (k := k) (by have := HL.out; omega)
   have ex := HV.out.each k x hx
   have HD := Lib.hid (onFrom_drop (t := (t0, t1)) hx)
   have q1 := fun W => before_any (t0, t1) x.at_ W
   have q2 := fun W => refEndOf_any x W
   have q3 := fun W => before_any (t0, t1) (nextS x) W
   have l1 : lessB (t0, t1) x.at_ = decide (ltT (t0, t1) x.at_) := by unfold lessB; exact cmp_lt HT.out ex.1
   have l2 : lessB (t0, t1) (nextS x) = decide (ltT (t0, t1) (nextS x)) := by unfold lessB; exact cmp_lt HT.out ex.2.1
   have hh : holdB x (t0, t1) = (!lessB (t0, t1) x.at_ && lessB (t0, t1) (nextS x)) := by rw [l1, l2]; unfold holdB; simp
   clear l1 l2
   obtain ⟨b, off, rfl, hab, hc⟩ := h.ev hB k0 hkn hx
   obtain ⟨b1, hb1⟩ : ∃ b, b = lessB (t0, t1) x.at_ := ⟨_, rfl⟩
   obtain ⟨b2, hb2⟩ : ∃ b, b = lessB (t0, t1) (nextS x) := ⟨_, rfl⟩
   rw [← hb1] at q1 hh
   rw [← hb2] at q3 hh
   obtain ⟨⟨e0, e1⟩, he⟩ : ∃ e, e = nextS x := ⟨_, rfl⟩
   rw [← he] at q2 q3
   obtain ⟨⟨a, a'⟩, ⟨d, d'⟩, ⟨p, q, r⟩, rst, sg, ps⟩ := x
   obtain ⟨c0, c1, c2, c3, c4, c5, c6, c7, c8, c9⟩ := ten hc
   unfold cE at q2
   simp only [List.toArray] at q2
   clear hc hx hb1 hb2 he ex
   simp only at c0 c1 c2 c3 c4 c5 c6 c7 c8 c9 q1 q2 q3
   cases b1
   ·cases b2
    ·have HN := Lib.hid (show onFrom ((k + 1 : Nat) : Int) (v.drop (k + 1)) (t0, t1) = onS v (t0, t1) by rw [← hs.out, HD.out, hh, if_neg (by simp)])
     clear hh hs
     go_wp2_with fail
     refine wp_region_calm (by kernel_rfl) (by kernel_rfl) ?_
     repeat (go_big_quiet_step ((first | (go_at_call 81; with_reducible (first | exact calm_call (q1 _) | exact calm_call (q3 _))) | (go_at_call 78; with_reducible exact calm_call (q2 _)))))
     refine wpQuiet_nil ?_
     intro w2 g2
     go_wp2
     go_roundw
     case rel => exact ⟨k + 1, by omega, by go_num, HN, below_call k0 g2, bT.kept g2⟩
     case measure => simp [intOf]; omega
    ·have HE := Lib.hid (show onS v (t0, t1) = (k : Int) by rw [← hs.out, HD.out, hh, if_pos (by simp)])
     clear hh hs
     go_wp2_with fail
     refine wp_region_calm (by kernel_rfl) (by kernel_rfl) ?_
     repeat (go_big_quiet_step ((first | (go_at_call 81; with_reducible (first | exact calm_call (q1 _) | exact calm_call (q3 _))) | (go_at_call 78; with_reducible exact calm_call (q2 _)))))
     refine wpQuiet_nil ?_
     intro w2 g2
     go_wp2
     go_ret
     rw [HE.out]
     exact ⟨rfl, below_call k0 g2⟩
   ·have HN := Lib.hid (show onFrom ((k + 1 : Nat) : Int) (v.drop (k + 1)) (t0, t1) = onS v (t0, t1) by rw [← hs.out, HD.out, hh, if_neg (by simp)])
    clear hh hs
    go_wp2_with fail
    refine wp_region_calm (by kernel_rfl) (by kernel_rfl) ?_
    repeat (go_big_quiet_step ((go_at_call 81; with_reducible exact calm_call (q1 _))))
    refine wpQuiet_nil ?_
    intro w2 g2
    go_wp2
    go_roundw
    case rel => exact ⟨k + 1, by omega, by go_num, HN, below_call k0 g2, bT.kept g2⟩
    case measure => simp [intOf]; omega
  ·have hke : k = n := by omega
   subst hke
   have HE := Lib.hid (show onS v (t0, t1) = -1 by rw [← hs.out, List.drop_of_length_le (by have := HL.out; omega)]; rfl)
   go_wp2
   go_ret
   rw [HE.out]
   exact ⟨rfl, k0⟩
theorem momV_take {v : List Ev} {o : List Tm} {k : Nat} {x : Ev} (h : v[k]? = some x) : momV o (v.take (k + 1)) = withS (withS (momV o (v.take k)) x.at_) (nextS x) := by
 unfold momV
 rw [take_get h, List.foldl_append]; rfl
theorem momL_take {l : List (List Ev)} {i : Nat} {v : List Ev} (h : l[i]? = some v) : (l.take (i + 1)).foldl momV [] = momV ((l.take i).foldl momV []) v := by
 rw [take_get h, List.foldl_append]; rfl
def Fine (l : List Tm) (k : Nat) : Prop := OkL l ∧ l.length ≤ k
theorem fine_with {l : List Tm} {t : Tm} {k : Nat} (h : Fine l k) (ht : ok t) : Fine (withS l t) (k + 1) := by
 refine ⟨with_ok h.1 ht, ?_⟩
 have h2 : ∀ o : List Tm, (withS o t).length ≤ o.length + 1 := fun o => by
  induction o with
  | nil => simp [withS]
  | cons y o ih => unfold withS; split <;> (try split) <;> simp <;> omega
 have := h2 l
 have := h.2
 omega
theorem refMoments_any (A : Option Addr) (n c : Nat) (l : List (List Ev)) (B : Nat) (w : World) (h : ReadsV w B A n l) (hB : B ≤ w.heap.size) (hn : n ≤ 8) (hv : ∀ v ∈ l, Val v ∧ v.length ≤ 2000) :
  Calls Tryz.prog 52 #[.slice A n c] w fun e w' => ∃ v, e = .returned v ∧ ReadsT w' v (momS l) ∧ Below w.heap.size w w' := by
 have HL := Lib.hid h.len
 have HV := Lib.hid hv
 clear hv
 go_enter Tryz.func52, Tryz.ntmps52
 go_wp2
 go_loopg [3, 4, 5] n (fun g v i _ wr => ∃ k : Nat, k + g = n ∧ i = .int .i64 k ∧ ReadsT wr v ((l.take k).foldl momV []) ∧ Hid (Fine ((l.take k).foldl momV []) (4000 * k)) ∧ Below w.heap.size w wr)
 case atStart => exact ⟨0, by omega, rfl, ReadsT.nil_ _, Lib.hid ⟨(fun t h => by simp at h), by simp⟩, Below.refl _ _⟩
 case round =>
  obtain ⟨k, hkg, rfl, hT, hF, k0⟩ := hrel
  cases gk with
  | zero =>
   have hkn : k = n := by omega
   subst hkn
   have E := Lib.hid (show (l.take k).foldl momV [] = momS l by rw [List.take_of_length_le (by have := HL.out; omega)]; rfl)
   go_wp2
   go_ret
   rw [E.out] at hT
   exact ⟨_, rfl, hT, k0⟩
  | succ g =>
   have hkn : k < n := by omega
   have hkn' : (k : Int) < (n : Int) := by omega
   obtain ⟨v, hvk⟩ := get_some (l := l) (k := k) (by have := HL.out; omega)
   obtain ⟨hval, hvl⟩ := HV.out v (List.mem_of_getElem? hvk)
   have HVal := Lib.hid hval
   have HM := Lib.hid (momL_take hvk)
   obtain ⟨o, ho⟩ : ∃ o, o = (l.take k).foldl momV [] := ⟨_, rfl⟩
   rw [← ho] at hT hF HM
   have HO := Lib.hid ho
   obtain ⟨wo, rfl⟩ : ∃ wo : World, wo = wr := ⟨_, rfl⟩
   obtain ⟨b, off, A', n', c', hA, hab, cv, hr, hn', hvn⟩ := h.voice hB k0 hkn hvk
   have hr0 := hr
   clear ho hvk hval
   go_wp2
   go_loopg [3, 5] n' (fun g2 u j wy => ∃ m : Nat, m + g2 = n' ∧ j = .int .i64 m ∧ ReadsT wy u (momV o (v.take m)) ∧ Hid (Fine (momV o (v.take m)) (4000 * k + 2 * m)) ∧ Below wo.heap.size wo wy)
   case atStart => exact ⟨0, by omega, rfl, hT, Lib.hid (by simpa [momV] using hF.out), Below.refl _ _⟩
   case round =>
    obtain ⟨m, hmg, rfl, hT, hF2, m0⟩ := hrel
    have cv2 := (m0.cell (p := ⟨b, off + k, none⟩) hab).trans cv
    have hab2 : b < wr.heap.size := Nat.lt_of_lt_of_le hab m0.size
    cases gk with
    | zero =>
     have hmn : m = n' := by omega
     subst hmn
     have E := Lib.hid (show momV o (v.take m) = (l.take (k + 1)).foldl momV [] by rw [List.take_of_length_le (by omega), HM.out])
     rw [E.out] at hT hF2
     subst hA
     go_wp2
     go_roundg g
     case measure => omega
     case rel => exact ⟨k + 1, by omega, rfl, hT, Lib.hid ⟨hF2.out.1, by have := hF2.out.2; omega⟩, below_call k0 m0⟩
    | succ g2 =>
     have hmn : m < n' := by omega
     have hmn' : (m : Int) < (n' : Int) := by omega
     obtain ⟨x, hx⟩ := get_some (l := v) (k := m) (by omega)
     have ex := HVal.out.each m x hx
     have HX := Lib.hid (momV_take (o := o) hx)
     have F1 := fine_with hF2.out ex.1
     have F2 := fine_with F1 ex.2.1
     have q1 := fun W u (hu : ReadsT W u (momV o (v.take m))) => with_any u _ x.at_ W hu (by have := hF2.out.2; omega) hF2.out.1 ex.1
     have q2 := fun W => refEndOf_any x W
     have q3 := fun W u (hu : ReadsT W u (withS (momV o (v.take m)) x.at_)) => with_any u _ (nextS x) W hu (by have := F1.2; omega) F1.1 ex.2.1
     rw [← HX.out] at q3 F2
     obtain ⟨o1, ho1⟩ : ∃ o1, o1 = momV o (v.take m) := ⟨_, rfl⟩
     obtain ⟨o2, ho2⟩ : ∃ o2, o2 = withS o1 x.at_ := ⟨_, rfl⟩
     rw [← ho1, ← ho2] at q1 q3
     rw [← ho1] at hT
     have HF2 := Lib.hid F2
     obtain ⟨b', off', rfl, hab', hc⟩ := hr.ev (Nat.le_trans hB k0.size) m0 hmn hx
     obtain ⟨⟨e0, e1⟩, he⟩ : ∃ e, e = nextS x := ⟨_, rfl⟩
     rw [← he] at q2 q3
     obtain ⟨⟨a, a'⟩, ⟨d, d'⟩, ⟨p, q, r⟩, rst, sg, ps⟩ := x
     obtain ⟨c0, c1, c2, c3, c4, c5, c6, c7, c8, c9⟩ := ten hc
     unfold cE at q2
     simp only [List.toArray] at q2
     clear hc hx ho1 ho2 he ex F1 F2 hF2
     simp only at c0 c1 c2 c3 c4 c5 c6 c7 c8 c9 q1 q2 q3
     subst hA
     go_wp2_with fail
     refine (q1 _ _ hT).mono ?_
     rintro e w1 ⟨u1, rfl, hT1, f1⟩
     obtain ⟨hcc, hff⟩ := bcell f1
     go_wp2_with fail
     refine (q2 _).mono ?_
     rintro e w2 ⟨rfl, f2⟩
     go_wp2_with fail
     refine (q3 _ _ (hT1.kept f2)).mono ?_
     rintro e w3 ⟨u3, rfl, hT3, f3⟩
     go_wp2
     go_roundg g2
     case measure => omega
     case rel => exact ⟨m + 1, by omega, rfl, hT3, Lib.hid ⟨HF2.out.1, by have := HF2.out.2; omega⟩, below_call (below_call (below_call m0 f1) f2) f3⟩
def cI (n : Int) : List Value := [.int .i64 n]
def csN (l : List Int) : List Value := l.flatMap cI
theorem csN_append (l m : List Int) : csN (l ++ m) = csN l ++ csN m := by unfold csN; rw [List.flatMap_append]
theorem one_csN (l : List Int) : ∀ u ∈ csN l, u.oneCell' = true := by
 intro u hu
 obtain ⟨t, _, ht⟩ := List.mem_flatMap.1 hu
 simp [cI] at ht
 subst ht; rfl
theorem num_info : (Tryz.prog.info? 3).map (fun i => (i.zero, i.size, i.bytes)) = some (some (.int .i64 0), 1, 8) := by kernel_rfl
theorem sl_info : (Tryz.prog.info? 85).map (fun i => (i.zero, i.size, i.bytes)) = some (some (.agg #[.int .i64 0, .int .i64 0, .int .i64 0, .int .i64 0, .slice none 0 0]), 5, 56) := by kernel_rfl
def cS (p : Sl × Pl) : List Value := [.int .i64 p.1.at_.1, .int .i64 p.1.at_.2, .int .i64 p.1.dur.1, .int .i64 p.1.dur.2, .slice p.2.1 p.2.2.1 p.2.2.2]
def csS (l : List (Sl × Pl)) : List Value := l.flatMap cS
theorem csS_append (l m : List (Sl × Pl)) : csS (l ++ m) = csS l ++ csS m := by unfold csS; rw [List.flatMap_append]
theorem one_csS (l : List (Sl × Pl)) : ∀ u ∈ csS l, u.oneCell' = true := by
 intro u hu
 obtain ⟨t, _, ht⟩ := List.mem_flatMap.1 hu
 simp [cS] at ht
 rcases ht with rfl | rfl | rfl | rfl | rfl <;> rfl
theorem own_far {w w' : World} {base base2 size size2 n n2 : Nat} {e e2 : TypeId} {v v2 : Value} {xs xs2 : List Value} (h : w.ownsRow base e size v n xs) (h2 : w.ownsRow base2 e2 size2 v2 n2 xs2) (hg : w.grownBy w' v2.ownBlock) (hne : e ≠ e2) : w'.ownsRow base e size v n xs := by
 have hl := h.lt
 obtain ⟨h1, h3⟩ := h
 refine ⟨h1, ?_⟩
 rcases h3 with h3 | ⟨g, cap, cur, hv, hb, hh, rest⟩
 ·exact .inl h3
 ·refine .inr ⟨g, cap, cur, hv, hb, ?_, rest⟩
  rw [hg.block g (hl g (by rw [hv]; rfl)).2 ?_]
  ·exact hh
  ·intro heq
   obtain ⟨_, h4⟩ := h2
   rcases h4 with ⟨rfl, _⟩ | ⟨g2, cap2, cur2, hv2, _, hh2, _⟩
   ·cases heq
   ·rw [hv2] at heq
    cases heq
    rw [hh] at hh2
    cases hh2
    exact hne rfl
def EvsAt (w : World) (base : Nat) (ps : List (Sl × Pl)) : Prop := ∀ p ∈ ps, p.1.evs.length = p.2.2.1 ∧ w.ownsRow base 3 1 (.slice p.2.1 p.2.2.1 p.2.2.2) p.2.2.1 (csN p.1.evs)
theorem EvsAt.kept {w W : World} {base : Nat} {ps : List (Sl × Pl)} (h : EvsAt w base ps) (hb : Below w.heap.size w W) : EvsAt W base ps := fun p hp => ⟨(h p hp).1, own_call (h p hp).2 hb⟩
theorem EvsAt.reads {w : World} {base : Nat} {ps : List (Sl × Pl)} (h : EvsAt w base ps) {p : Sl × Pl} (hp : p ∈ ps) : p.1.evs.length = p.2.2.1 ∧ Reads w w.heap.size 1 p.2.1 p.2.2.1 (csN p.1.evs) := by
 obtain ⟨h1, h2⟩ := h p hp
 obtain ⟨A, c, e, hr, _, _⟩ := own_reads h2
 cases e
 exact ⟨h1, hr⟩
def EvsR (w : World) (B : Nat) (ps : List (Sl × Pl)) : Prop := ∀ p ∈ ps, p.1.evs.length = p.2.2.1 ∧ Reads w B 1 p.2.1 p.2.2.1 (csN p.1.evs)
def ReadsS (w : World) (B : Nat) (A : Option Addr) (n : Nat) (l : List Sl) : Prop := ∃ ps : List (Sl × Pl), ps.map (·.1) = l ∧ Reads w B 5 A n (csS ps) ∧ EvsR w B ps
def OwnS (w : World) (base : Nat) (v : Value) (l : List Sl) : Prop := ∃ ps : List (Sl × Pl), ps.map (·.1) = l ∧ w.ownsRow base 85 5 v l.length (csS ps) ∧ EvsAt w base ps
theorem OwnS.nil_ (w : World) (base : Nat) : OwnS w base (.slice none 0 0) [] := ⟨[], rfl, ⟨rfl, .inl ⟨rfl, rfl⟩⟩, fun p hp => by cases hp⟩
theorem OwnS.kept {w W : World} {base : Nat} {v : Value} {l : List Sl} (h : OwnS w base v l) (hb : Below w.heap.size w W) : OwnS W base v l := by
 obtain ⟨ps, h1, h2, h3⟩ := h
 exact ⟨ps, h1, own_call h2 hb, h3.kept hb⟩
theorem OwnS.reads {w : World} {base : Nat} {v : Value} {l : List Sl} (h : OwnS w base v l) : ∃ A c, v = .slice A l.length c ∧ ReadsS w w.heap.size A l.length l := by
 obtain ⟨ps, h1, h2, h3⟩ := h
 obtain ⟨A, c, e, hr, _, _⟩ := own_reads h2
 exact ⟨A, c, e, ps, h1, hr, fun p hp => h3.reads hp⟩
theorem own_lower {w : World} {base base2 size n : Nat} {e : TypeId} {v : Value} {xs : List Value} (h : w.ownsRow base e size v n xs) (hb : base2 ≤ base) : w.ownsRow base2 e size v n xs := by
 obtain ⟨h1, h2⟩ := h
 refine ⟨h1, ?_⟩
 rcases h2 with h2 | ⟨g, cap, cur, hv, hg, rest⟩
 ·exact .inl h2
 ·exact .inr ⟨g, cap, cur, hv, by omega, rest⟩
theorem own_set {w : World} {base size n : Nat} {e : TypeId} {v u : Value} {xs : List Value} {p : Addr} (h : w.ownsRow base e size v n xs) (hp : p.block < base) : (w.setCell p u).ownsRow base e size v n xs := by
 obtain ⟨h1, h2⟩ := h
 refine ⟨h1, ?_⟩
 rcases h2 with h2 | ⟨g, cap, cur, hv, hg, hh, rest⟩
 ·exact .inl h2
 ·exact .inr ⟨g, cap, cur, hv, hg, by rw [Below.heap_setCell w p u g (by omega)]; exact hh, rest⟩
theorem OwnS.lower {w : World} {base base2 : Nat} {v : Value} {l : List Sl} (h : OwnS w base v l) (hb : base2 ≤ base) : OwnS w base2 v l := by
 obtain ⟨ps, h1, h2, h3⟩ := h
 exact ⟨ps, h1, own_lower h2 hb, fun p hp => ⟨(h3 p hp).1, own_lower (h3 p hp).2 hb⟩⟩
theorem own_drew {w : World} {base size n : Nat} {e : TypeId} {v : Value} {xs : List Value} (h : w.ownsRow base e size v n xs) (k : Nat) : (w.drewN k).ownsRow base e size v n xs := h
theorem OwnS.snoc {w w' : World} {base k : Nat} {v v' : Value} {l : List Sl} {ps : List (Sl × Pl)} {p : Sl × Pl} (hps : ps.map (·.1) = l) (hk : l.length = k) (hrow : w'.ownsRow base 85 5 v' (k + 1) (csS ps ++ csS [p])) (h0 : w.ownsRow base 85 5 v k (csS ps))
  (he : EvsAt w base ps) (hp : p.1.evs.length = p.2.2.1 ∧ w.ownsRow base 3 1 (.slice p.2.1 p.2.2.1 p.2.2.2) p.2.2.1 (csN p.1.evs)) (hg : w.grownBy w' v.ownBlock) : OwnS w' base v' (l ++ [p.1]) := by
 refine ⟨ps ++ [p], by simp [hps], by rw [List.length_append, hk, csS_append]; exact hrow, fun q hq => ?_⟩
 rcases List.mem_append.1 hq with hq | hq
 ·exact ⟨(he q hq).1, own_far (he q hq).2 h0 hg (by decide)⟩
 ·rw [List.mem_singleton.1 hq]
  exact ⟨hp.1, own_far hp.2 h0 hg (by decide)⟩
theorem momP_take {l : List (List Ev)} {i : Nat} {v : List Ev} (h : l[i]? = some v) : momP (l.take (i + 1)) = mrgS (momP (l.take i)) (ownV v) := by
 unfold momP
 rw [take_get h, List.foldl_append]; rfl
theorem mom_len {l : List (List Ev)} (h : ∀ v ∈ l, Val v ∧ v.length ≤ 2000) : (momP l).length ≤ 4000 * l.length := by
 rw [(mom_eq fun v hv => (h v hv).1).1]
 exact momS_len l fun v hv => (h v hv).2
theorem moments_any (A : Option Addr) (n c : Nat) (l : List (List Ev)) (B : Nat) (w : World) (h : ReadsV w B A n l) (hB : B ≤ w.heap.size) (hn : n ≤ 8) (hv : ∀ v ∈ l, (checkS v).1 = 0 ∧ Val v ∧ v.length ≤ 2000) :
  Calls Tryz.prog 72 #[.slice A n c] w fun e w' => ∃ v, e = .returned v ∧ w'.ownsRow w.heap.size 45 2 v (momS l).length (csT (momS l)) ∧ Below w.heap.size w w' := by
 have HL := Lib.hid h.len
 have HV := Lib.hid hv
 clear hv
 obtain ⟨i0, hi0, hz0, hz1, hz2⟩ := info_parts tm_info
 go_enter Tryz.func72, Tryz.ntmps72
 go_wp2
 go_loopg [3, 5, 6, 8, 9, 10, 13] n (fun g v _ _ _ _ _ i wr => ∃ k : Nat, k + g = n ∧ i = .int .i64 k ∧ wr.ownsRow w.heap.size 45 2 v (momP (l.take k)).length (csT (momP (l.take k))) ∧ Below w.heap.size w wr)
 case atStart => exact ⟨0, by omega, rfl, ⟨rfl, .inl ⟨rfl, rfl⟩⟩, Below.refl _ _⟩
 case round =>
  obtain ⟨k, hkg, rfl, hO, k0⟩ := hrel
  have hT := ReadsT.own hO rfl
  cases gk with
  | zero =>
   have hkn : k = n := by omega
   subst hkn
   have E := Lib.hid (show momP (l.take k) = momS l by rw [List.take_of_length_le (by have := HL.out; omega)]; exact (mom_eq fun v hv => (HV.out v hv).2.1).1)
   go_wp2
   go_ret
   rw [E.out] at hO
   exact ⟨_, rfl, hO, k0⟩
  | succ g =>
   clear hO
   have hkn : k < n := by omega
   have hkn' : (k : Int) < (n : Int) := by omega
   obtain ⟨v, hvk⟩ := get_some (l := l) (k := k) (by have := HL.out; omega)
   obtain ⟨hchk, hval, hvl⟩ := HV.out v (List.mem_of_getElem? hvk)
   have HVal := Lib.hid hval
   have HM := Lib.hid (momP_take hvk)
   have HO := Lib.hid (show OkL (momP (l.take k)) ∧ (momP (l.take k)).length ≤ 32000 from by
    have hsub : ∀ v ∈ l.take k, Val v ∧ v.length ≤ 2000 := fun v hv => (HV.out v (List.mem_of_mem_take hv)).2
    have e := mom_eq fun v hv => (hsub v hv).1
    refine ⟨by rw [e.1]; exact e.2.2, ?_⟩
    have := mom_len hsub
    have := List.length_take_le k l
    omega)
   obtain ⟨o, ho⟩ : ∃ o, o = momP (l.take k) := ⟨_, rfl⟩
   rw [← ho] at hT HM HO
   obtain ⟨wo, rfl⟩ : ∃ wo : World, wo = wr := ⟨_, rfl⟩
   obtain ⟨b, off, A', n', c', rfl, hab, cv, hr, hn', hvn⟩ := h.voice hB k0 hkn hvk
   have HE := Lib.hid (endS_val hchk)
   clear ho hvk hval hchk
   go_wp2
   go_loopg [6, 8, 19] n' (fun g2 u _ j wy => ∃ m : Nat, m + g2 = n' ∧ j = .int .i64 m ∧ wy.ownsRow wo.heap.size 45 2 u m (csT ((v.take m).map (·.at_))) ∧ Below wo.heap.size wo wy)
   case atStart => exact ⟨0, by omega, rfl, ⟨rfl, .inl ⟨rfl, rfl⟩⟩, Below.refl _ _⟩
   case round =>
    obtain ⟨m, hmg, rfl, hown, m0⟩ := hrel
    cases gk with
    | zero =>
     have hmn : m = n' := by omega
     subst hmn
     have hTv := List.take_of_length_le (l := v) (i := m) (by omega)
     rw [hTv] at hown
     have HTv := Lib.hid hTv
     clear hTv
     have q1 := fun W (hW : Below wo.heap.size wo W) => evEnd_any A' m c' v B W (hr.below (Nat.le_trans hB k0.size) hW) (Nat.le_trans (Nat.le_trans hB k0.size) hW.size) hn'
     rw [HE.out] at q1
     have HOw := Lib.hid (show ownV v = v.map (·.at_) ++ if v = [] then [] else [endV v] from rfl)
     have HSA := Lib.hid (own_sa HVal.out)
     have hvl2 : m ≤ 2000 := by omega
     obtain ⟨⟨z0, z1⟩, hz⟩ : ∃ z, z = endV v := ⟨_, rfl⟩
     rw [← hz] at q1 HOw
     clear hz
     go_wp2_with fail
     refine (q1 _ m0).mono ?_
     rintro e w2 ⟨rfl, hb2⟩
     have own2 := own_call hown hb2
     have m2 := below_call m0 hb2
     have bz : Blk (w2.alloc (.cells #[.int .i64 z0, .int .i64 z1] 45)) w2.heap.size 45 #[.int .i64 z0, .int .i64 z1] := Blk.new _ _ _
     have bz0 := bz.cell 0
     have bz1 := bz.cell 1
     have m3 : Below wo.heap.size wo (w2.alloc (.cells #[.int .i64 z0, .int .i64 z1] 45)) := below_alloc m2 _
     have own3 := own_call own2 (below_alloc (Below.refl w2.heap.size w2) (.cells #[.int .i64 z0, .int .i64 z1] 45))
     by_cases hm0 : m = 0
     ·subst hm0
      have hv0 : v = [] := List.eq_nil_of_length_eq_zero hvn
      have HW := Lib.hid (show ownV v = [] by rw [hv0]; rfl)
      rw [hv0] at own3
      have rw3 : ReadsT _ _ ([] : List Tm) := ReadsT.own own3 rfl
      have hT3 := hT.kept m3
      have q2 := fun W u1 u2 (h1 : ReadsT W u1 o) (h2 : ReadsT W u2 []) => merged_any u1 u2 o [] W h1 h2 HO.out.1 (fun t h => by cases h) (by have := HO.out.2; simp; omega)
      rw [HW.out] at HM
      clear hv0 own2 own3 hown
      go_wp2_with fail
      refine (q2 _ _ _ hT3 rw3).mono ?_
      rintro e w4 ⟨u4, rfl, own4, hb4⟩
      go_wp2
      go_roundg g
      case measure => omega
      case rel => exact ⟨k + 1, by omega, rfl, by rw [HM.out]; exact own_lower own4 (below_call k0 m3).size, below_call (below_call k0 m3) hb4⟩
     ·have hv0 : ¬ v = [] := fun h0 => by subst h0; exact hm0 hvn.symm
      have HW := Lib.hid (show ownV v = v.map (·.at_) ++ [(z0, z1)] by rw [HOw.out, if_neg hv0])
      have dm : decide (0 < m) = true := decide_eq_true (by omega)
      have dmi : decide ((0 : Int) < (m : Int)) = true := decide_eq_true (by omega)
      have hT3 := hT.kept m3
      rw [HW.out] at HM HSA
      have q2 := fun W u1 u2 (h1 : ReadsT W u1 o) (h2 : ReadsT W u2 (v.map (·.at_) ++ [(z0, z1)])) => merged_any u1 u2 o (v.map (·.at_) ++ [(z0, z1)]) W h1 h2 HO.out.1 HSA.out.2 (by have := HO.out.2; rw [List.length_append, List.length_map]; simp; omega)
      clear hv0 own2 hown hm0
      go_wp2_with (at_builtin; (refine wpList_append_any _ rfl (.tmp 37) (.tmp 39) 88 rfl wo.heap.size 45 i0 _ 2 16 Tryz.underlying88 hi0 hz0 hz1 hz2 rfl (by omega) _ m (csT (v.map (·.at_))) rfl (own_call own3 (below_alloc (Below.refl _ _) _)) (w2.heap.size + 1 + 1) (some ⟨w2.heap.size + 1, 0, none⟩) 1 1 (csT [(z0, z1)]) rfl (Reads.newAt _ _ _ 1 2 _ (by simp) rfl) (one_csT _) (by simp only [maxLen]; omega) (by omega) (by have := m2.size; simp; omega) ?_); intro v5 w5 hown5 hg5 hat5)
      have m5 : Below wo.heap.size wo w5 := Below.grown (B := wo.heap.size) (a := wo) (below_alloc m3 _) hg5 (by have := m2.size; simp; omega) (fun q hq => (own3.lt q hq).1)
      rw [← csT_append] at hown5
      have rw5 := ReadsT.own hown5 (by rw [List.length_append, List.length_map, hvn]; rfl)
      refine (q2 _ _ _ (hT.kept m5) rw5).mono ?_
      rintro e w4 ⟨u4, rfl, own4, hb4⟩
      go_wp2
      go_roundg g
      case measure => omega
      case rel => exact ⟨k + 1, by omega, rfl, by rw [HM.out]; exact own_lower own4 (below_call k0 m5).size, below_call (below_call k0 m5) hb4⟩
    | succ g2 =>
     have hmn : m < n' := by omega
     have hmn' : (m : Int) < (n' : Int) := by omega
     obtain ⟨x, hx⟩ := get_some (l := v) (k := m) (by omega)
     have HX := Lib.hid (show (v.take (m + 1)).map (·.at_) = (v.take m).map (·.at_) ++ [x.at_] by rw [take_get hx, List.map_append]; rfl)
     obtain ⟨b', off', rfl, hab', hc⟩ := hr.ev (Nat.le_trans hB k0.size) m0 hmn hx
     obtain ⟨⟨a, a'⟩, ⟨d, d'⟩, ⟨p, q, r⟩, rst, sg, ps⟩ := x
     obtain ⟨c0, c1, c2, c3, c4, c5, c6, c7, c8, c9⟩ := ten hc
     clear hc hx
     simp only at c0 c1 c2 c3 c4 c5 c6 c7 c8 c9
     have hvl2 : n' ≤ 2000 := by omega
     go_wp2_with (at_builtin; (refine wpList_append_any _ rfl (.tmp 23) (.tmp 26) 88 rfl wo.heap.size 45 i0 _ 2 16 Tryz.underlying88 hi0 hz0 hz1 hz2 rfl (by omega) _ m (csT ((v.take m).map (·.at_))) rfl (own_call hown (below_alloc (below_alloc (Below.refl _ _) _) _)) (wr.heap.size + 1 + 1) (some ⟨wr.heap.size + 1, 0, none⟩) 1 1 (csT [(a, a')]) rfl (Reads.newAt _ _ _ 1 2 _ (by simp) rfl) (one_csT _) (by simp only [maxLen]; omega) (by omega) (by have := m0.size; simp; omega) ?_); intro v5 w5 hown5 hg5 hat5)
     go_roundg g2
     case measure => omega
     case rel => exact ⟨m + 1, by omega, rfl, by rw [HX.out, csT_append]; exact hown5, Below.grown (B := wo.heap.size) (a := wo) (below_alloc (below_alloc m0 _) _) hg5 (by have := m0.size; simp; omega) (fun q hq => (hown.lt q hq).1)⟩
/-! ### Nothing but block b, of what lay there, is turned -/
abbrev Gb (b : Nat) (W W' : World) : Prop := W.grownBy W' (some b)
theorem Gb.refl (b : Nat) (W : World) : Gb b W W := ⟨rfl, rfl, rfl, Nat.le_refl _, fun _ _ _ => rfl⟩
theorem Gb.tr {b : Nat} {A B C : World} (h : Gb b A B) (k : Gb b B C) : Gb b A C :=
 ⟨k.os.trans h.os, k.tape.trans h.tape, k.output.trans h.output, Nat.le_trans h.size k.size, fun i hi hn => (k.block i (Nat.lt_of_lt_of_le hi h.size) hn).trans (h.block i hi hn)⟩
theorem Gb.call {b : Nat} {A B C : World} (h : Gb b A B) (k : Below B.heap.size B C) : Gb b A C := h.tr ⟨k.os, k.tape, k.output, k.size, fun i hi _ => k.block i hi⟩
theorem Gb.off {b : Nat} {A B C : World} (h : Gb b A B) (k : Below A.heap.size B C) : Gb b A C :=
 ⟨k.os.trans h.os, k.tape.trans h.tape, k.output.trans h.output, Nat.le_trans h.size k.size, fun i hi hn => (k.block i hi).trans (h.block i hi hn)⟩
theorem Gb.set {b : Nat} {A B : World} (h : Gb b A B) {p : Addr} (hp : p.block = b) (u : Value) : Gb b A (B.setCell p u) :=
 h.tr ⟨rfl, rfl, rfl, by simp [World.setCell], fun i hi hn => Below.heap_setCell _ _ _ _ (fun e => hn (by rw [e, hp]))⟩
theorem Gb.of_below {b : Nat} {A B : World} (h : Below A.heap.size A B) : Gb b A B := (Gb.refl b A).call h
theorem Gb.below {b n : Nat} {A B : World} (h : Gb b A B) (hb : n ≤ b) (hn : n ≤ A.heap.size) : Below n A B :=
 ⟨h.os, h.tape, h.output, h.size, fun i hi => h.block i (Nat.lt_of_lt_of_le hi hn) (fun e => by cases e; omega)⟩
theorem Blk.gb {b g : Nat} {A B : World} {t : TypeId} {cs : Array Value} (h : Blk A g t cs) (hg : Gb b A B) (hne : g ≠ b) : Blk B g t cs := (hg.block g h.lt (fun e => by cases e; exact hne rfl)).trans h
theorem own_gb {b : Nat} {A B : World} {base size n : Nat} {e : TypeId} {v : Value} {xs : List Value} (h : A.ownsRow base e size v n xs) (hg : Gb b A B) (hne : ∀ k, v.ownBlock = some k → k ≠ b) : B.ownsRow base e size v n xs := by
 have hl := h.lt
 obtain ⟨h1, h3⟩ := h
 refine ⟨h1, ?_⟩
 rcases h3 with h3 | ⟨g, cap, cur, hv, hb, hh, rest⟩
 ·exact .inl h3
 ·have e0 : v.ownBlock = some g := by rw [hv]; rfl
  exact .inr ⟨g, cap, cur, hv, hb, (hg.block g (hl g e0).2 (fun e => hne g e0 (Option.some.inj e))).trans hh, rest⟩
theorem own_gb_hi {b : Nat} {A B : World} {base size n : Nat} {e : TypeId} {v : Value} {xs : List Value} (h : A.ownsRow base e size v n xs) (hg : Gb b A B) (hb : b < base) : B.ownsRow base e size v n xs :=
 own_gb h hg (fun k hk e => by have := (h.lt k hk).1; omega)
theorem EvsAt.gb {b base : Nat} {A B : World} {ps : List (Sl × Pl)} (h : EvsAt A base ps) (hg : Gb b A B) (hb : b < base) : EvsAt B base ps := fun p hp => ⟨(h p hp).1, own_gb_hi (h p hp).2 hg hb⟩
theorem OwnS.gb {b base : Nat} {A B : World} {v : Value} {l : List Sl} (h : OwnS A base v l) (hg : Gb b A B) (hb : b < base) : OwnS B base v l := by
 obtain ⟨ps, h1, h2, h3⟩ := h
 exact ⟨ps, h1, own_gb_hi h2 hg hb, h3.gb hg hb⟩
/-! ### What a round leaves alone: the rows that are no slices, no list of them and no error -/
structure KeepN (W W' : World) : Prop where
 size : W.heap.size ≤ W'.heap.size
 same : ∀ (k : Nat) (cs : Array Value) (t : TypeId), W.heap[k]? = some (.cells cs t (0, 0)) → t ≠ 55 → t ≠ 27 → t ≠ 85 → W'.heap[k]? = some (.cells cs t (0, 0))
theorem KeepN.refl (W : World) : KeepN W W := ⟨Nat.le_refl _, fun _ _ _ h _ _ _ => h⟩
theorem KeepN.tr {A B C : World} (h : KeepN A B) (k : KeepN B C) : KeepN A C := ⟨Nat.le_trans h.size k.size, fun i cs t hi h1 h2 h3 => k.same i cs t (h.same i cs t hi h1 h2 h3) h1 h2 h3⟩
theorem KeepN.alloc {A B : World} (h : KeepN A B) (o : Obj) : KeepN A (B.alloc o) :=
 h.tr ⟨by simp, fun i cs t hi _ _ _ => (Below.heap_alloc B o i (Array.getElem?_eq_some_iff.1 hi).1).trans hi⟩
theorem KeepN.set {A B : World} (h : KeepN A B) {p : Addr} {cs : Array Value} {t : TypeId} (hb : Blk B p.block t cs) (ht : t = 55 ∨ t = 27 ∨ t = 85) (u : Value) : KeepN A (B.setCell p u) :=
 h.tr ⟨by simp [World.setCell], fun i cs' t' hi h1 h2 h3 => by
  by_cases e : i = p.block
  ·subst e
   unfold Blk at hb
   rw [hb] at hi
   cases hi
   rcases ht with rfl | rfl | rfl <;> contradiction
  ·exact (Below.heap_setCell B p u i e).trans hi⟩
theorem KeepN.put {A B : World} (h : KeepN A B) {r : Nat} {o : Obj} (o' : Obj) (hr : B.heap[r]? = some o) (ho : o.isCells = false) : KeepN A (B.putObj r o') :=
 h.tr ⟨by simp, fun i cs t hi _ _ _ => by
  by_cases e : i = r
  ·subst e; rw [hr] at hi; cases hi; cases ho
  ·exact (World.putObj_heap_other e).trans hi⟩
theorem KeepN.grown {A B C : World} (h : KeepN A B) {base size n : Nat} {e : TypeId} {v : Value} {xs : List Value} (h2 : B.ownsRow base e size v n xs) (hg : B.grownBy C v.ownBlock) (he : e = 55 ∨ e = 27 ∨ e = 85) : KeepN A C :=
 h.tr ⟨hg.size, fun i cs t hi h1 h3 h4 => by
  refine (hg.block i (Array.getElem?_eq_some_iff.1 hi).1 ?_).trans hi
  intro heq
  obtain ⟨_, h5⟩ := h2
  rcases h5 with ⟨rfl, _⟩ | ⟨g2, cap2, cur2, hv2, _, hh2, _⟩
  ·cases heq
  ·rw [hv2] at heq
   cases heq
   rw [hi] at hh2
   cases hh2
   rcases he with rfl | rfl | rfl <;> contradiction⟩
theorem Blk.keepN {g : Nat} {A B : World} {t : TypeId} {cs : Array Value} (h : Blk A g t cs) (hk : KeepN A B) (h1 : t ≠ 55) (h2 : t ≠ 27) (h3 : t ≠ 85) : Blk B g t cs := hk.same g cs t h h1 h2 h3
theorem own_keepN {A B : World} {base size n : Nat} {e : TypeId} {v : Value} {xs : List Value} (h : A.ownsRow base e size v n xs) (hk : KeepN A B) (h1 : e ≠ 55) (h2 : e ≠ 27) (h3 : e ≠ 85) : B.ownsRow base e size v n xs := by
 obtain ⟨h4, h5⟩ := h
 refine ⟨h4, ?_⟩
 rcases h5 with h5 | ⟨g, cap, cur, hv, hb, hh, rest⟩
 ·exact .inl h5
 ·exact .inr ⟨g, cap, cur, hv, hb, hk.same g cur e hh h1 h2 h3, rest⟩
/-! ### The row of the places -/
def numV (k : Nat) : Value := .int .i64 (k : Int)
def Row1 (w : World) (b : Nat) (ps : List Nat) : Prop := Blk w b 3 (ps.map numV).toArray
theorem Row1.cell {w : World} {b : Nat} {ps : List Nat} (h : Row1 w b ps) {q p : Nat} (hq : ps[q]? = some p) : w.cell? ⟨b, q, none⟩ = some (.int .i64 (p : Int)) := by
 rw [Blk.cell h]
 simp [hq, numV]
theorem Row1.set {w : World} {b : Nat} {ps : List Nat} (h : Row1 w b ps) (q p : Nat) : Row1 (w.setCell ⟨b, q, none⟩ (.int .i64 (p : Int))) b (ps.set q p) := by
 have := Blk.set_ h q (numV p)
 unfold Row1
 rw [List.map_set]
 simpa [numV] using this
theorem Row1.made (w : World) (n : Nat) : Row1 (w.alloc (.cells (madeCells #[.int .i64 0] n) 3)) w.heap.size (List.replicate n 0) := by
 have e : ((List.replicate n 0).map numV).toArray = madeCells #[.int .i64 0] n := by
  apply Array.ext'
  simp [madeCells, numV]
  apply List.ext_getElem?
  intro i
  simp [List.getElem?_replicate, List.getElem?_map]
  by_cases hi : i < n <;> simp [hi, Nat.mod_one]
 unfold Row1
 rw [e]
 exact Blk.new _ _ _
def PtrsAt (l : List (List Ev)) (t : Tm) (ps : List Nat) : Prop := ps.length = l.length ∧ ∀ (j : Nat) v, l[j]? = some v → ∃ p, ps[j]? = some p ∧ Ptr v t p ∧ p ≤ v.length
theorem ptrs_zero (l : List (List Ev)) (t : Tm) : PtrsAt l t (List.replicate l.length 0) := ⟨by simp, fun j v hj => ⟨0, by rw [List.getElem?_replicate, if_pos (List.getElem?_eq_some_iff.1 hj).1], .inl rfl, Nat.zero_le _⟩⟩
theorem PtrsAt.set {l : List (List Ev)} {t : Tm} {ps : List Nat} (h : PtrsAt l t ps) {q p : Nat} {v : List Ev} (hv : l[q]? = some v) (hp : Ptr v t p) (hl : p ≤ v.length) : PtrsAt l t (ps.set q p) := by
 refine ⟨by rw [List.length_set]; exact h.1, fun j u hj => ?_⟩
 by_cases e : q = j
 ·subst e
  rw [hv] at hj; cases hj
  refine ⟨p, ?_, hp, hl⟩
  obtain ⟨p0, h0, _⟩ := h.2 q _ hv
  have := (List.getElem?_eq_some_iff.1 h0).1
  simp [this]
 ·obtain ⟨p0, h0, r⟩ := h.2 j u hj
  exact ⟨p0, by rw [List.getElem?_set_ne e]; exact h0, r⟩
theorem PtrsAt.later {l : List (List Ev)} {t t' : Tm} {ps : List Nat} (h : PtrsAt l t ps) (hv : ∀ v ∈ l, Val v) (ht : ok t) (ht' : ok t') (hle : ¬ ltT t' t) : PtrsAt l t' ps :=
 ⟨h.1, fun j v hj => by obtain ⟨p, h0, h1, h2⟩ := h.2 j v hj; exact ⟨p, h0, ptr_later (hv v (List.mem_of_getElem? hj)) ht ht' h1 hle, h2⟩⟩
/-! ### A setting in memory, below B -/
theorem Reads.lay {w W : World} {B size n : Nat} {A : Option Addr} {xs : List Value} (h : Reads w B size A n xs) (hb : Below B w W) : Reads W B size A n xs := h.keep fun _ _ hp => hb.cell (by simp; omega)
theorem ReadsV.lay {w W : World} {B n : Nat} {A : Option Addr} {l : List (List Ev)} (h : ReadsV w B A n l) (hb : Below B w W) : ReadsV W B A n l := by
 obtain ⟨ds, h1, h2, h3⟩ := h
 exact ⟨ds, h1, h2.lay hb, fun k d v hd hv => ⟨(h3 k d v hd hv).1.lay hb, (h3 k d v hd hv).2⟩⟩
theorem ReadsV.voiceB {w : World} {B n : Nat} {A : Option Addr} {l : List (List Ev)} (h : ReadsV w B A n l) {k : Nat} {v : List Ev} (hk : k < n) (hv : l[k]? = some v) :
  ∃ b off A' n' c', A = some ⟨b, off, none⟩ ∧ b < B ∧ w.cell? ⟨b, off + k, none⟩ = some (.slice A' n' c') ∧ Reads w B 10 A' n' (csE v) ∧ n' ≤ 9223372036854775807 ∧ v.length = n' := by
 have hl := h.len
 obtain ⟨ds, h1, h2, h3⟩ := h
 obtain ⟨d, hd⟩ := get_some (l := ds) (k := k) (by omega)
 obtain ⟨b, off, hA, hbB, hc⟩ := h2.elem (f := slV) (fun _ => rfl) hk hd
 obtain ⟨r, rn⟩ := h3 k d v hd hv
 refine ⟨b, off, d.1, d.2.1, d.2.2, hA, hbB, ?_, r, rn, r.evlen⟩
 have := hc 0 _ rfl
 simpa using this
theorem Reads.evB {w : World} {B n : Nat} {A : Option Addr} {l : List Ev} (h : Reads w B 10 A n (csE l)) {k : Nat} {x : Ev} (hk : k < n) (hx : l[k]? = some x) :
  ∃ b off, A = some ⟨b, off, none⟩ ∧ b < B ∧ w.cell? ⟨b, off + k * 10, none⟩ = some (.int .i64 x.at_.1) ∧ w.cell? ⟨b, off + k * 10 + 1, none⟩ = some (.int .i64 x.at_.2) := by
 obtain ⟨b, off, hA, hbB, hc⟩ := h.elem (f := cE) (fun _ => rfl) hk hx
 have hall : ∀ j u, (cE x)[j]? = some u → w.cell? ⟨b, off + k * 10 + j, none⟩ = some u := fun j u hj => by
  rw [Nat.add_assoc]
  exact hc j u hj
 exact ⟨b, off, hA, hbB, hall 0 _ rfl, hall 1 _ rfl⟩
theorem int_ok {x : Int} (h : -1000000 ≤ x ∧ x ≤ 1000000) : okI x := by unfold okI; omega
theorem time_ok {t : Tm} (h : ok t) : okI t.1 ∧ okI t.2 := by
 obtain ⟨h1, h2, h3, h4, _⟩ := h
 unfold okI; omega
theorem cEnd_take (v : List Ev) (kind : Int) : endF v kind ((clausE v).take (clausE v).length) = cEnd v kind := by rw [List.take_length]; rfl
theorem ends_ok (A : Option Addr) (n c : Nat) (v : List Ev) (B : Nat) (w : World) (h : Reads w B 10 A n (csE v)) (hB : B ≤ w.heap.size) (hn : n ≤ 2000) (hp : PitsV v) (hv : ∀ x ∈ v, ok x.at_) (kind : Int) (ht : Tabs w) :
  Calls Tryz.prog 113 #[.slice A n c, .int .i64 kind] w fun e w' => MapRet keyTime elemInt 2000 (cEnd v kind) w e w' := by
 have HL := Lib.hid h.evlen
 have HV := Lib.hid hv
 have hmm := @run_makeMap Tryz.prog
 have q1 := fun W (hW : Below w.heap.size w W) => clausulae_ok A n c v B W (h.below hB hW) (Nat.le_trans hB hW.size) hn hp (ht.kept hW)
 have HLen := Lib.hid (clausL_len v v.length)
 have HM := Lib.hid (fun (cc : Int × Int) (hc : cc ∈ clausE v) => clausL_mem.1 hc)
 have HT := Lib.hid (cEnd_take v kind)
 have m0 := TMap.made w keyTime elemInt
 have k0 : Below w.heap.size w (w.alloc (.map #[] 0)) := by repeat (first | with_reducible (first | exact Below.refl _ _ | assumption | refine below_drewN ?_ _ | refine Below.drew ?_ | refine below_alloc ?_ _) | (with_reducible refine Below.setCell ?_ ?_ _; rotate_left; ((try simp only); omega)))
 clear hv hp
 obtain ⟨L, hL⟩ : ∃ L, L = clausE v := ⟨_, rfl⟩
 rw [← hL] at q1 HM HT
 have HLL := Lib.hid (show L.length ≤ n by rw [hL]; have h1 := HLen.out; rw [HL.out] at h1; unfold clausE; rw [HL.out]; exact h1)
 clear hL HLen
 go_enter Tryz.func113, Tryz.ntmps113
 go_wp2_with fail
 refine Calls.mono (q1 _ ?_) ?_
 ·repeat (first | with_reducible (first | exact Below.refl _ _ | assumption | refine below_drewN ?_ _ | refine Below.drew ?_ | refine below_alloc ?_ _) | (with_reducible refine Below.setCell ?_ ?_ _; rotate_left; ((try simp only); omega)))
 rintro e w1 ⟨u, rfl, hrow, hb1⟩
 obtain ⟨Ac, cc, rfl, rc, _, _⟩ := own_reads hrow
 have m1 := m0.call hb1
 have k1 := below_call k0 hb1
 have z1 := k1.size
 clear q1 m0 k0 hb1
 obtain ⟨M, hM⟩ : ∃ M, M = L.length := ⟨_, rfl⟩
 have HLM := Lib.hid hM.symm
 rw [← hM] at rc
 rw [← hM] at hrow
 clear hM
 have hMn : M ≤ n := by have := HLL.out; have := HLM.out; omega
 go_wp2_with fail
 rw [HLM.out]
 have z0 : w.heap.size < w1.heap.size := by have := m1.lt; omega
 go_loopg [12] M (fun gh i wr => ∃ j : Nat, j + gh = M ∧ i = .int .i64 (j : Int) ∧ TMap wr keyTime elemInt w.heap.size j (endF v kind (L.take j)) ∧ Gb w.heap.size w1 wr)
 case atStart => exact ⟨0, by omega, rfl, m1, Gb.refl _ _⟩
 case round =>
  clear m1
  obtain ⟨j, hjg, rfl, mj, gj⟩ := hrel
  have zj := gj.size
  cases gk with
  | zero =>
   have d0 : ¬ ((j : Int) < (M : Int)) := by omega
   have HX := Lib.hid (show MapRet keyTime elemInt 2000 (cEnd v kind) w (.returned (.map (some w.heap.size))) wr from ⟨_, rfl, Nat.le_refl _, by rw [← HT.out, HLM.out, ← show j = M by omega]; exact mj.mono (by omega), k1.trans (gj.below (Nat.le_refl _) (by omega))⟩)
   clear mj gj hjg
   go_wp2
   refine ret_of (by simp [results, Tryz.results113, go_sem, *]; repeat' (first | rfl | apply And.intro)) rfl ?_
   exact HX.out
  | succ g =>
   have hjM : j < M := by omega
   have d0 : (j : Int) < (M : Int) := by omega
   obtain ⟨⟨ci, ck⟩, hc⟩ := get_some (l := L) (k := j) (by have := HLM.out; omega)
   obtain ⟨i, hi, hne, hce⟩ := HM.out _ (List.mem_of_getElem? hc)
   cases hce
   have HS := Lib.hid (endF_take (v := v) (kind := kind) hc)
   obtain ⟨bc, oc, rfl, hbc, e0, e1⟩ := rc.tm (Nat.le_refl _) (Below.refl _ _) hjM hc
   have hbc0 := (hrow.lt bc rfl).1
   have y0 := gj.cell e0 (by simp; simp at hbc0; omega)
   have y1 := gj.cell e1 (by simp; simp at hbc0; omega)
   have lbc : bc < wr.heap.size := by omega
   have hin : i < n := by have := HL.out; omega
   have hin' : (i : Int) < (n : Int) := by omega
   obtain ⟨x, hx⟩ := get_some (l := v) (k := i) (by have := HL.out; omega)
   have HOX := Lib.hid (HV.out x (List.mem_of_getElem? hx))
   have HAT := Lib.hid (show atOf v i = x.at_ by unfold atOf; rw [hx])
   have kr := k1.trans (gj.below (Nat.le_refl _) (by omega))
   obtain ⟨bx, ox, rfl, hbx, hcx⟩ := h.ev hB kr hin hx
   obtain ⟨x0, x1, -, -, -, -, -, -, -, -⟩ := ten hcx
   obtain ⟨⟨a0, a1⟩, _, _, _, _, _⟩ := x
   simp only at x0 x1 HAT HOX
   have hib : i ≤ 2000 := by omega
   have hj2 : j ≤ 2000 := by omega
   clear hx hcx e0 e1 hc
   obtain ⟨ck, hck⟩ : ∃ z, z = clK v i := ⟨_, rfl⟩
   rw [← hck] at HS y1
   have hckb := clK_bd v i
   rw [← hck] at hckb
   clear hck hne
   have wj : IntKind.i64.wrap ((j : Int) + 1) = (j : Int) + 1 := IntWalk.i64_in _ (by omega)
   have bo : Blk (wr.alloc (.cells #[.int .i64 (i : Int), .int .i64 ck] 187)) wr.heap.size 187 #[.int .i64 (i : Int), .int .i64 ck] := Blk.new _ _ _
   have mo := mj.call (below_alloc (Below.refl wr.heap.size wr) (.cells #[.int .i64 (i : Int), .int .i64 ck] 187))
   have go := gj.call (below_alloc (Below.refl wr.heap.size wr) (.cells #[.int .i64 (i : Int), .int .i64 ck] 187))
   by_cases hk : ck = kind
   ·have E := Lib.hid (show endF v kind (L.take (j + 1)) = updO (endF v kind (L.take j)) (a0, a1) (i : Int) by
     rw [HS.out]
     unfold endStep
     rw [if_pos hk]
     simp only [Int.toNat_natCast]
     rw [HAT.out])
    clear HS mj gj
    subst hk
    go_wp2_with fail
    have ko := below_alloc (Below.refl wr.heap.size wr) (.cells #[.int .i64 (i : Int), .int .i64 ck] 187)
    obtain ⟨wo, hwo⟩ : ∃ z, z = wr.alloc (.cells #[.int .i64 (i : Int), .int .i64 ck] 187) := ⟨_, rfl⟩
    rw [← hwo] at bo mo go ko ⊢
    have o0 := bo.cell 0
    simp only [List.getElem?_toArray, List.getElem?_cons_zero] at o0
    have lo := bo.lt
    have x0' := (ko.cell (p := ⟨_, _, none⟩) hbx).trans x0
    have x1' := (ko.cell (p := ⟨_, _, none⟩) hbx).trans x1
    have lx : bx < wo.heap.size := by have := ko.size; omega
    clear hwo x0 x1 y0 y1 lbc hbx
    refine wp_region_calm_tail 9 (by kernel_rfl) (by kernel_rfl) ?_
    simp only [List.take_succ_cons, List.take_zero, List.drop_succ_cons, List.drop_zero]
    repeat (go_big_quiet_step (fail))
    refine wpQuiet_nil ?_
    intro wd gd
    have md := mo.call gd
    have hd := go.call gd
    clear mo go gd o0 lo x0' x1' lx bo
    go_wp2_with (refine wpList_tput rfl (.tmp 20) (.tmp 26) (.tmp 28) rfl md Tryz.underlying151 (by simp only [maxLen]; omega) (a0, a1) (time_ok HOX.out) (i : Int) (int_ok (by omega)) rfl rfl rfl ?_; intro w5 m5 g5)
    have h5 := hd.tr g5
    go_roundg g
    case measure => omega
    case rel => exact ⟨j + 1, by omega, by go_num, by rw [E.out]; exact m5, h5⟩
   ·have E := Lib.hid (show endF v kind (L.take (j + 1)) = endF v kind (L.take j) by
     rw [HS.out]
     unfold endStep
     rw [if_neg hk])
    have hb : (ck == kind) = false := by simpa using hk
    clear HS mj gj hk
    go_wp2
    go_roundg g
    case measure => omega
    case rel => exact ⟨j + 1, by omega, by go_num, by rw [E.out]; exact mo.mono (by omega), go⟩
def kindO (v : List Ev) (i : Nat) (u : List Ev) (k : Nat) : Int := if (ivl v i).2 = 1 then 1 else if (ivl u k).2 = -1 then 2 else 3
theorem ivl_two {v : List Ev} {j : Nat} {x y : Ev} (hx : v[j]? = some x) (hy : v[j + 1]? = some y) : ivl v (j + 1) = btw x.pit y.pit := by
 unfold ivl; rw [Nat.add_sub_cancel, hx, hy]
theorem note_pit {v : List Ev} (hp : PitsV v) {i : Nat} {x : Ev} (hx : v[i]? = some x) (hn : noteB v i = true) : pchk x.pit = 0 := by
 unfold noteB at hn
 rw [hx] at hn
 exact hp x (List.mem_of_getElem? hx) (by simpa using hn)
theorem Reads.ivl_ {w : World} {B n : Nat} {A : Option Addr} {v : List Ev} (h : Reads w B 10 A n (csE v)) (hB : B ≤ w.heap.size) (hp : PitsV v) {i : Nat} (hi : clK v i ≠ 0) :
  ∃ (j b o : Nat) (p q : Pit3), i = j + 1 ∧ i < n ∧ A = some ⟨b, o, none⟩ ∧ b < w.heap.size ∧ pchk p = 0 ∧ pchk q = 0 ∧ ivl v i = btw p q ∧ pitOf v i = q ∧
   w.cell? ⟨b, o + j * 10 + 4, none⟩ = some (.int .i64 p.1) ∧ w.cell? ⟨b, o + j * 10 + 5, none⟩ = some (.int .i64 p.2.1) ∧ w.cell? ⟨b, o + j * 10 + 6, none⟩ = some (.int .i64 p.2.2) ∧
   w.cell? ⟨b, o + i * 10 + 4, none⟩ = some (.int .i64 q.1) ∧ w.cell? ⟨b, o + i * 10 + 5, none⟩ = some (.int .i64 q.2.1) ∧ w.cell? ⟨b, o + i * 10 + 6, none⟩ = some (.int .i64 q.2.2) := by
 have hl := h.evlen
 obtain ⟨h1, h2, h3, h4, _⟩ := clK_ne hi
 obtain ⟨j, rfl⟩ : ∃ j, i = j + 1 := ⟨i - 1, by omega⟩
 obtain ⟨x, hx⟩ := get_some (l := v) (k := j) (by omega)
 obtain ⟨y, hy⟩ := get_some (l := v) (k := j + 1) (by omega)
 obtain ⟨b, o, hA, hb, hc⟩ := h.ev hB (Below.refl _ _) (show j < n by omega) hx
 obtain ⟨b', o', hA', hb', hc'⟩ := h.ev hB (Below.refl _ _) (show j + 1 < n by omega) hy
 rw [hA] at hA'
 cases hA'
 obtain ⟨-, -, -, -, x4, x5, x6, -, -, -⟩ := ten hc
 obtain ⟨-, -, -, -, y4, y5, y6, -, -, -⟩ := ten hc'
 rw [Nat.add_sub_cancel] at h2
 exact ⟨j, b, o, x.pit, y.pit, rfl, by omega, hA, hb, note_pit hp hx h2, note_pit hp hy h3, ivl_two hx hy, by unfold pitOf; rw [hy], x4, x5, x6, y4, y5, y6⟩
theorem ckind_ok (A A' : Option Addr) (n n' c c' : Nat) (v u : List Ev) (B : Nat) (w : World) (h : Reads w B 10 A n (csE v)) (h' : Reads w B 10 A' n' (csE u)) (hB : B ≤ w.heap.size) (hn : n ≤ 2000) (hn' : n' ≤ 2000) (hp : PitsV v) (hp' : PitsV u) (i k : Nat) (hi : clK v i ≠ 0) (hk : clK u k ≠ 0) (ht : Tabs w) :
  Calls Tryz.prog 116 #[.slice A n c, .int .i64 (i : Int), .slice A' n' c', .int .i64 (k : Int)] w fun e w' => e = .returned (.int .i64 (kindO v i u k)) ∧ Below w.heap.size w w' := by
 obtain ⟨j, bx, ox, ⟨p0, p1, p2⟩, ⟨q0, q1, q2⟩, hj, hin, rfl, hbx, hp1, hp2, hiv, -, x4, x5, x6, y4, y5, y6⟩ := h.ivl_ hB hp hi
 obtain ⟨m, bu, ou, ⟨r0, r1, r2⟩, ⟨s0, s1, s2⟩, hm, hkn, rfl, hbu, hq1, hq2, hiu, -, u4, u5, u6, v4, v5, v6⟩ := h'.ivl_ hB hp' hk
 have E := Lib.hid (show kindO v i u k = if (btw (p0, p1, p2) (q0, q1, q2)).2 = 1 then 1 else if (btw (r0, r1, r2) (s0, s1, s2)).2 = -1 then 2 else 3 by unfold kindO; rw [hiv, hiu])
 have qa := fun W (hW : Below w.heap.size w W) => cbtw_ok (p0, p1, p2) (q0, q1, q2) hp1 hp2 W (ht.kept hW)
 have qb := fun W (hW : Below w.heap.size w W) => cbtw_ok (r0, r1, r2) (s0, s1, s2) hq1 hq2 W (ht.kept hW)
 obtain ⟨⟨a0, a1⟩, ha⟩ : ∃ z, z = btw (p0, p1, p2) (q0, q1, q2) := ⟨_, rfl⟩
 obtain ⟨⟨b0, b1⟩, hb⟩ : ∃ z, z = btw (r0, r1, r2) (s0, s1, s2) := ⟨_, rfl⟩
 rw [← ha] at qa E
 rw [← hb] at qb E
 simp only at E qa qb x4 x5 x6 y4 y5 y6 u4 u5 u6 v4 v5 v6
 have hin' : (i : Int) < (n : Int) := by omega
 have hkn' : (k : Int) < (n' : Int) := by omega
 have wi : (i : Int) - 1 = (j : Int) := by omega
 have wk : (k : Int) - 1 = (m : Int) := by omega
 have wj : IntKind.i64.wrap (j : Int) = (j : Int) := IntWalk.i64_in _ (by omega)
 have wm : IntKind.i64.wrap (m : Int) = (m : Int) := IntWalk.i64_in _ (by omega)
 have lj : (j : Int) < (n : Int) := by omega
 have lm : (m : Int) < (n' : Int) := by omega
 have hfd : ∀ (w : World) (x y : Value), (Instr.field 131 (.agg #[x, y]) 1).run Tryz.prog w = .ok y w := fun _ _ _ => by kernel_rfl
 clear ha hb hiv hiu hp1 hp2 hq1 hq2 h h' hi hk hj hm hp hp' ht
 go_enter Tryz.func116, Tryz.ntmps116
 go_wp2_with fail
 refine wp_region_calm (by kernel_rfl) (by kernel_rfl) ?_
 repeat (go_big_quiet_step ((go_at_call 114; with_reducible exact calm_call (qa _ (Calm.h _)))))
 refine wpQuiet_nil ?_
 intro wd gd
 have u4' := (gd.cell (p := ⟨_, _, none⟩) hbu).trans u4
 have u5' := (gd.cell (p := ⟨_, _, none⟩) hbu).trans u5
 have u6' := (gd.cell (p := ⟨_, _, none⟩) hbu).trans u6
 have v4' := (gd.cell (p := ⟨_, _, none⟩) hbu).trans v4
 have v5' := (gd.cell (p := ⟨_, _, none⟩) hbu).trans v5
 have v6' := (gd.cell (p := ⟨_, _, none⟩) hbu).trans v6
 have lu : bu < wd.heap.size := by have := gd.size; omega
 clear u4 u5 u6 v4 v5 v6 x4 x5 x6 y4 y5 y6 hbu hbx
 by_cases h1 : a1 = 1
 ·have hb1 : (a1 == 1) = true := by simpa using h1
  rw [if_pos h1] at E
  clear h1
  go_wp2
  refine ret_of (by simp [results, Tryz.results116, go_sem, *]; repeat' (first | rfl | apply And.intro)) rfl ⟨?_, gd⟩
  rw [E.out]
 ·have hb1 : (a1 == 1) = false := by simpa using h1
  rw [if_neg h1] at E
  clear h1
  go_wp2_with fail
  refine wp_region_calm (by kernel_rfl) (by kernel_rfl) ?_
  repeat (go_big_quiet_step ((go_at_call 114; with_reducible exact calm_call (qb _ (below_call gd (Calm.h _))))))
  refine wpQuiet_nil ?_
  intro we ge
  have ke := below_call gd ge
  clear u4' u5' u6' v4' v5' v6' lu
  by_cases h2 : b1 = -1
  ·have hb2 : (b1 == -1) = true := by simpa using h2
   rw [if_pos h2] at E
   clear h2
   go_wp2
   refine ret_of (by simp [results, Tryz.results116, go_sem, *]; repeat' (first | rfl | apply And.intro)) rfl ⟨?_, ke⟩
   rw [E.out]
  ·have hb2 : (b1 == -1) = false := by simpa using h2
   rw [if_neg h2] at E
   clear h2
   go_wp2
   refine ret_of (by simp [results, Tryz.results116, go_sem, *]; repeat' (first | rfl | apply And.intro)) rfl ⟨?_, ke⟩
   rw [E.out]
def bassAt (l : List (List Ev)) (t : Tm) (step c u : Int) (k : Nat) : Bool :=
 !decide ((k : Int) = c) && (!decide ((k : Int) = u) && match cEnd (l.getD k []) 3 t with
  | some j => decide ((pitOf (l.getD k []) j.toNat).1 = step)
  | none => false)
def bassFr (l : List (List Ev)) (t : Tm) (step c u : Int) : Nat → Nat → Int
 | _, 0 => -1
 | k, g + 1 => if bassAt l t step c u k = true then (k : Int) else bassFr l t step c u (k + 1) g
def bassF (l : List (List Ev)) (t : Tm) (step c u : Int) : Int := bassFr l t step c u 0 l.length
structure SetV (l : List (List Ev)) : Prop where
 len : l.length ≤ 8
 chk : ∀ v ∈ l, (checkS v).1 = 0
theorem SetV.val {l : List (List Ev)} (h : SetV l) : ∀ v ∈ l, Val v := fun v hv => val_of (h.chk v hv)
theorem SetV.pits {l : List (List Ev)} (h : SetV l) : ∀ v ∈ l, PitsV v := fun v hv => val_pits (h.chk v hv)
theorem SetV.few {l : List (List Ev)} (h : SetV l) : ∀ v ∈ l, v.length ≤ 2000 := fun v hv => checkS_len (h.chk v hv)
theorem SetV.ok_ {l : List (List Ev)} (h : SetV l) {v : List Ev} (hv : v ∈ l) : ∀ x ∈ v, ok x.at_ := fun x hx => (val_mem (h.val v hv) x hx).1
theorem cEnd_some {v : List Ev} (h : Val v) {kind : Int} (hk : kind ≠ 0) {t : Tm} {i : Int} (he : cEnd v kind t = some i) : ∃ j : Nat, i = (j : Int) ∧ clK v j = kind ∧ atOf v j = t ∧ j < v.length := by
 obtain ⟨j, h1, h2, h3⟩ := (cEnd_spec h hk t i).1 he
 exact ⟨j, h1, h2, h3, (clK_ne (by rw [h2]; exact hk)).2.2.2.1⟩
theorem bass_ok (A : Option Addr) (n c : Nat) (l : List (List Ev)) (B : Nat) (w : World) (h : ReadsV w B A n l) (hB : B ≤ w.heap.size) (hl : SetV l) (t : Tm) (ht : ok t) (step cantus tenor : Int) (hT : Tabs w) :
  Calls Tryz.prog 115 #[.slice A n c, .agg #[.int .i64 t.1, .int .i64 t.2], .int .i64 step, .int .i64 cantus, .int .i64 tenor] w fun e w' => e = .returned (.int .i64 (bassF l t step cantus tenor)) ∧ Below w.heap.size w w' := by
 have HL := Lib.hid h.len
 have HS := Lib.hid hl
 have HO := Lib.hid ht
 have hn8 : n ≤ 8 := by have := hl.len; have := HL.out; omega
 have HR := Lib.hid h
 have HTB := Lib.hid hT
 obtain ⟨R, hR⟩ : ∃ R, R = bassF l t step cantus tenor := ⟨_, rfl⟩
 have HFR := Lib.hid (show bassFr l t step cantus tenor 0 n = R by rw [hR, ← HL.out]; rfl)
 rw [← hR]
 clear hR
 obtain ⟨t0, t1⟩ := t
 clear hl ht h hT
 simp only
 go_enter Tryz.func115, Tryz.ntmps115
 go_wp2_with fail
 have k0 : Below w.heap.size w (w.alloc (.cells #[.int .i64 t0, .int .i64 t1] 45)) := by repeat (first | with_reducible (first | exact Below.refl _ _ | assumption | refine below_drewN ?_ _ | refine Below.drew ?_ | refine below_alloc ?_ _) | (with_reducible refine Below.setCell ?_ ?_ _; rotate_left; ((try simp only); omega)))
 have b0 : Blk (w.alloc (.cells #[.int .i64 t0, .int .i64 t1] 45)) w.heap.size 45 #[.int .i64 t0, .int .i64 t1] := Blk.new _ _ _
 go_loopg [17] n (fun gh i wr => ∃ k : Nat, k + gh = n ∧ i = .int .i64 (k : Int) ∧ Hid (bassFr l (t0, t1) step cantus tenor k gh = R) ∧ Blk wr w.heap.size 45 #[.int .i64 t0, .int .i64 t1] ∧ Below w.heap.size w wr)
 case atStart => exact ⟨0, by omega, rfl, HFR, b0, k0⟩
 case round =>
  clear b0 k0
  obtain ⟨k, hkg, rfl, hFk, br, kr⟩ := hrel
  cases gk with
  | zero =>
   have d0 : ¬ ((k : Int) < (n : Int)) := by omega
   have E := Lib.hid (show (-1 : Int) = R from hFk.out)
   clear hkg br hFk
   go_wp2
   refine ret_of (by simp [results, Tryz.results115, go_sem, *]; repeat' (first | rfl | apply And.intro)) rfl ⟨?_, kr⟩
   rw [← E.out]
  | succ g =>
   have hkn : k < n := by omega
   have d0 : (k : Int) < (n : Int) := by omega
   have wk : IntKind.i64.wrap ((k : Int) + 1) = (k : Int) + 1 := IntWalk.i64_in _ (by omega)
   obtain ⟨v, hv⟩ := get_some (l := l) (k := k) (by have := HL.out; omega)
   have hm := List.mem_of_getElem? hv
   obtain ⟨bv, ov, A', n', c', rfl, hbv, cv, rv, hn', hvn⟩ := HR.out.voice hB kr hkn hv
   have hn2 : n' ≤ 2000 := by have := HS.out.few v hm; omega
   have HB2 := Nat.le_trans hB kr.size
   have qa := fun W (hW : Below wr.heap.size wr W) => ends_ok A' n' c' v B W (rv.below HB2 hW) (Nat.le_trans HB2 hW.size) hn2 (HS.out.pits v hm) (HS.out.ok_ hm) 3 (HTB.out.kept (below_call kr hW))
   have HE := Lib.hid (fun i (he : cEnd v 3 (t0, t1) = some i) => cEnd_some (HS.out.val v hm) (by decide) he)
   have HV := Lib.hid hvn
   have HD := Lib.hid (getD_at hv)
   have HFk := Lib.hid (show (if bassAt l (t0, t1) step cantus tenor k = true then (k : Int) else bassFr l (t0, t1) step cantus tenor (k + 1) g) = R from hFk.out)
   have HBA := Lib.hid (show bassAt l (t0, t1) step cantus tenor k = (!decide ((k : Int) = cantus) && (!decide ((k : Int) = tenor) && match cEnd v 3 (t0, t1) with
    | some j => decide ((pitOf v j.toNat).1 = step)
    | none => false)) by unfold bassAt; rw [HD.out])
   have HNext := Lib.hid (fun (h0 : bassAt l (t0, t1) step cantus tenor k = false) => show Hid (bassFr l (t0, t1) step cantus tenor (k + 1) g = R) from Lib.hid (by have := HFk.out; rw [h0] at this; simpa using this))
   clear hv hm hvn hn' hFk
   have x0 := br.cell 0
   have x1 := br.cell 1
   have lx := br.lt
   simp only [List.getElem?_toArray, List.getElem?_cons_zero, List.getElem?_cons_succ] at x0 x1
   obtain ⟨f, hf⟩ : ∃ f, f = cEnd v 3 := ⟨_, rfl⟩
   rw [← hf] at qa HE HBA
   clear hf
   by_cases h1 : (k : Int) = cantus
   ·have HN := HNext.out (by rw [HBA.out, decide_eq_true h1]; rfl)
    subst h1
    clear HNext HBA HFk
    go_wp2
    go_roundg g
    case measure => omega
    case rel => exact ⟨k + 1, by omega, by go_num, HN, br, kr⟩
   ·by_cases h2 : (k : Int) = tenor
    ·have HN := HNext.out (by rw [HBA.out, decide_eq_true h2]; simp)
     subst h2
     have b1 : ((k : Int) == cantus) = false := by simpa using h1
     clear h1 HNext HBA HFk
     go_wp2
     go_roundg g
     case measure => omega
     case rel => exact ⟨k + 1, by omega, by go_num, HN, br, kr⟩
    ·have HBB := Lib.hid (show bassAt l (t0, t1) step cantus tenor k = (match f (t0, t1) with
      | some j => decide ((pitOf v j.toNat).1 = step)
      | none => false) by rw [HBA.out, decide_eq_false h1, decide_eq_false h2]; rfl)
     clear HBA
     have b1 : ((k : Int) == cantus) = false := by simpa using h1
     have b2 : ((k : Int) == tenor) = false := by simpa using h2
     clear h1 h2
     obtain ⟨kv, hkv⟩ : ∃ z, z = (f (t0, t1)).getD 0 := ⟨_, rfl⟩
     obtain ⟨bb, hbb⟩ : ∃ z, z = (f (t0, t1)).isSome := ⟨_, rfl⟩
     have HKB := Lib.hid (And.intro hkv hbb)
     have lkF := fun W mb N (hm : TMap W keyTime elemInt mb N f) => hm.look Tryz.underlying151 (y0 := (0 : Int)) (zero_int W) (show okI 0 by unfold okI; omega) (x := (t0, t1)) (time_ok HO.out)
     rw [← hkv, ← hbb] at lkF
     have lkF : ∀ W mb N, TMap W keyTime elemInt mb N f → (Instr.lookup 151 (.map (some mb)) (.agg #[.int .i64 t0, .int .i64 t1]) true).run Tryz.prog W = .ok (.tuple #[.int .i64 kv, .bool bb]) W := lkF
     clear hkv hbb
     obtain ⟨wq, hwq⟩ : ∃ z, z = wr := ⟨_, rfl⟩
     subst hwq
     go_wp2_with fail
     go_region_held3 (fun w' => w'.cell? ⟨w.heap.size, 0, none⟩ = some (.int .i64 t0) ∧ w'.cell? ⟨w.heap.size, 1, none⟩ = some (.int .i64 t1) ∧ Below wq.heap.size wq w') ((refine (fun hb => ⟨(hb.cell (p := ⟨_, _, none⟩) lx).trans x0, (hb.cell (p := ⟨_, _, none⟩) lx).trans x1, hb⟩) ?_; repeat (first | with_reducible (first | exact Below.refl _ _ | exact hBd | exact (show _ ∧ _ ∧ Below wq.heap.size wq _ by assumption).2.2 | refine Below.drew ?_)))) (first | (go_at_call 113; refine Calls.mono (qa _ (show _ ∧ _ ∧ Below wq.heap.size wq _ by assumption).2.2) ?_; rintro e wd ⟨mb, rfl, hmb, hTd, hbd⟩; have hBd := below_call (show _ ∧ _ ∧ Below wq.heap.size wq _ by assumption).2.2 hbd; have lk := lkF wd mb _ hTd))
     all_goals
      have hB5 := (show _ ∧ _ ∧ Below wq.heap.size wq _ by assumption).2.2
      obtain ⟨wv, hwv⟩ := name_world hB5
      rw [← hwv] at hB5 ⊢
      have bV := br.kept hB5
      have kV := below_call kr hB5
      clear hwv lk hbd hBd hTd x0 x1 lx qa lkF br
      cases bb with
      | false =>
       have HN := HNext.out (by
        rw [HBB.out]
        have h2 := HKB.out.2
        cases hz : f (t0, t1) with
        | none => rfl
        | some z => rw [hz] at h2; cases h2)
       clear HKB HE HNext HBB HFk
       go_wp2
       go_roundg g
       case measure => omega
       case rel => exact ⟨k + 1, by omega, by go_num, HN, bV, kV⟩
      | true =>
       obtain ⟨j, hj, hjn, HBJ⟩ : ∃ j : Nat, kv = (j : Int) ∧ j < n' ∧ Hid (bassAt l (t0, t1) step cantus tenor k = decide ((pitOf v j).1 = step)) := by
        obtain ⟨h1, h2⟩ := HKB.out
        obtain ⟨y, hy⟩ := Option.isSome_iff_exists.1 h2.symm
        rw [hy] at h1
        obtain ⟨j, e1, _, _, e4⟩ := HE.out y hy
        have hkj : kv = (j : Int) := by rw [h1]; exact e1
        exact ⟨j, hkj, by rw [← HV.out]; exact e4, Lib.hid (by rw [HBB.out, hy, e1]; rfl)⟩
       subst hj
       obtain ⟨x, hx⟩ := get_some (l := v) (k := j) (by rw [HV.out]; exact hjn)
       have hjn' : (j : Int) < (n' : Int) := by omega
       obtain ⟨bx, ox, rfl, hbx, hcx⟩ := rv.ev HB2 hB5 hjn hx
       obtain ⟨-, -, -, -, x4, -, -, -, -, -⟩ := ten hcx
       have HPJ := Lib.hid (show pitOf v j = x.pit by unfold pitOf; rw [hx])
       obtain ⟨_, _, ⟨p0, p1, p2⟩, _, _, _⟩ := x
       simp only at x4 HPJ
       clear hx hcx HKB HE cv HBB
       by_cases h3 : p0 = step
       ·have b3 : (p0 == step) = true := by simpa using h3
        have E := Lib.hid (show (k : Int) = R by have := HFk.out; rw [HBJ.out, HPJ.out, decide_eq_true h3] at this; simpa using this)
        clear h3 bV HNext HBJ HFk
        go_wp2
        refine ret_of (by simp [results, Tryz.results115, go_sem, *]; repeat' (first | rfl | apply And.intro)) rfl ⟨?_, kV⟩
        rw [← E.out]
       ·have b3 : (p0 == step) = false := by simpa using h3
        have HN := HNext.out (by rw [HBJ.out, HPJ.out, decide_eq_false h3])
        clear h3 HNext HBJ HFk
        go_wp2
        go_roundg g
        case measure => omega
        case rel => exact ⟨k + 1, by omega, by go_num, HN, bV, kV⟩
end Go.Proofs.YtpkmiegccfhpnaaGreatDoor
