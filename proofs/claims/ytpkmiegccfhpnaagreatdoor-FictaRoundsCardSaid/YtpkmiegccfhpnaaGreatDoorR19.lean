/- Parts of the proof of LawRounds31: FiRTri, FiRTris, FiRBtw, FiRKind. -/
import Derived.Test.YtpkmiegccfhpnaaGreatDoorR18
set_option maxRecDepth 100000
set_option maxHeartbeats 16000000
namespace Go.Proofs.YtpkmiegccfhpnaaGreatDoor
open Go.RowKit
theorem bothP_zero {p q : Pit3} (hp : pchk p = 0) (hq : pchk q = 0) : kindE p q = (kindP p q, 0) := by
 unfold kindE
 rw [if_neg]
 unfold bothP
 rw [hp]
 simp [hq]
theorem rkind31_ok (p q : Int × Int × Int) (hp : pchk p = 0) (hq : pchk q = 0) (w : World) :
  Calls Tryz.prog 129 #[vP p, vP q] w fun e w' => e = .returned (.int .i64 (kindP p q)) ∧ Below w.heap.size w w' := by
 have q1 := fun W => rKind_any p q W
 rw [bothP_zero hp hq] at q1
 obtain ⟨k, hk⟩ : ∃ z, z = kindP p q := ⟨_, rfl⟩
 rw [← hk] at q1
 rw [← hk]
 obtain ⟨p0, p1, p2⟩ := p
 obtain ⟨q0, q1', q2⟩ := q
 simp only [vP] at q1 ⊢
 clear hk hp hq
 go_enter Tryz.func129, Tryz.ntmps129
 go_wp2_with fail
 refine (q1 _).mono ?_
 rintro e w1 ⟨rfl, hb1⟩
 have BP1 : Blk w1 (w.heap.size) 47 #[.int .i64 p0, .int .i64 p1, .int .i64 p2] := by
  refine Blk.kept ?_ hb1
  repeat (first | with_reducible exact Blk.new _ _ _ | (with_reducible refine Blk.newAt _ _ _ _ ?_; first | rfl | (simp; done)) | with_reducible (first | apply Blk.alloc | apply Blk.drewN | apply Blk.drew | apply Blk.set_to) | (with_reducible apply Blk.far_; (simp only [ne_eq]; omega)) | rfl)
 have cP0_1 : w1.cell? ⟨w.heap.size, 0, none⟩ = some (.int .i64 p0) := BP1.cell 0
 have cP1_1 : w1.cell? ⟨w.heap.size, 1, none⟩ = some (.int .i64 p1) := BP1.cell 1
 have cP2_1 : w1.cell? ⟨w.heap.size, 2, none⟩ = some (.int .i64 p2) := BP1.cell 2
 have lP1 : w.heap.size < w1.heap.size := BP1.lt
 have mP1 : w.heap.size < w1.heap.size + 1 := by omega
 have nP1 : w.heap.size < w1.heap.size + 1 + 1 := by omega
 have BQ1 : Blk w1 (w.heap.size + 1) 47 #[.int .i64 q0, .int .i64 q1', .int .i64 q2] := by
  refine Blk.kept ?_ hb1
  repeat (first | with_reducible exact Blk.new _ _ _ | (with_reducible refine Blk.newAt _ _ _ _ ?_; first | rfl | (simp; done)) | with_reducible (first | apply Blk.alloc | apply Blk.drewN | apply Blk.drew | apply Blk.set_to) | (with_reducible apply Blk.far_; (simp only [ne_eq]; omega)) | rfl)
 have cQ0_1 : w1.cell? ⟨w.heap.size + 1, 0, none⟩ = some (.int .i64 q0) := BQ1.cell 0
 have cQ1_1 : w1.cell? ⟨w.heap.size + 1, 1, none⟩ = some (.int .i64 q1') := BQ1.cell 1
 have cQ2_1 : w1.cell? ⟨w.heap.size + 1, 2, none⟩ = some (.int .i64 q2) := BQ1.cell 2
 have lQ1 : w.heap.size + 1 < w1.heap.size := BQ1.lt
 have mQ1 : w.heap.size + 1 < w1.heap.size + 1 := by omega
 have nQ1 : w.heap.size + 1 < w1.heap.size + 1 + 1 := by omega
 have hs1 : w.heap.size ≤ w1.heap.size := by have h := hb1.size; (try simp at h); omega
 go_wp2
 refine ret_of (by simp [results, Tryz.results129, go_sem, *]; repeat' (first | rfl | apply And.intro)) rfl ⟨rfl, by repeat (first | exact Below.refl _ _ | refine below_drewN ?_ _ | refine Below.drew ?_ | refine below_alloc ?_ _ | (refine below_call ?_ (by assumption)) | (refine Below.setCell ?_ ?_ _; rotate_left; (simp; try omega)))⟩
theorem pair_blk {w w8 : World} {CX CY : Array Value} {t1 t2 : TypeId} (h : w8 = ((w.alloc (.cells CX t1)).alloc (.cells CY t2)).drew) : Blk w8 w.heap.size t1 CX ∧ Blk w8 (w.heap.size + 1) t2 CY ∧ Below w.heap.size w w8 := by
 subst h
 refine ⟨((Blk.new w _ _).alloc _).drew, ?_, ?_⟩
 ·have := (Blk.new (w.alloc (.cells CX t1)) t2 CY).drew
  simpa using this
 ·repeat (first | with_reducible (first | exact Below.refl _ _ | assumption | refine below_drewN ?_ _ | refine Below.drew ?_ | refine below_alloc ?_ _) | (with_reducible refine Below.setCell ?_ ?_ _; rotate_left; ((try simp only); omega)))
theorem AddRet.after {w wi w' : World} {base g n c m c2 : Nat} {A A2 : Option Addr} {l : List (List Ev)} {T O : List Fic} {e : Ending} (h : AddRet base g A n c A2 m c2 l T O wi e w') (k : Below w.heap.size w wi) (hb : base ≤ w.heap.size) : AddRet base g A n c A2 m c2 l T O w e w' :=
 ⟨h.1, h.2.1, (KeepT.of_below k).trans h.2.2.1, (k.mono hb).trans h.2.2.2⟩
theorem AddRet.as_ {w w' : World} {base g n c m c2 : Nat} {A A2 : Option Addr} {l : List (List Ev)} {T O O' : List Fic} {e : Ending} (h : AddRet base g A n c A2 m c2 l T O w e w') (he : O' = O) : AddRet base g A n c A2 m c2 l T O' w e w' := by rw [he]; exact h
theorem AddRet.ends {w w' : World} {base g n c m c2 : Nat} {A A2 : Option Addr} {l : List (List Ev)} {T O : List Fic} {e : Ending} (z : Value) (h : AddRet base g A n c A2 m c2 l T O w e w') : AddRet base g A n c A2 m c2 l T O w (.returned z) w' := ⟨⟨z, rfl⟩, h.2⟩
def triZ (a e b f : Nat) (p q : Pit3) : List Plc := if triQ p q = 1 then [((a : Int), (e : Int))] else if triQ p q = 2 then [((b : Int), (f : Int))] else []
theorem triN_at {p q : Pit3} {i : Nat} {s : Int} (hs : (i = 0 ∧ s = 6) ∨ (i = 1 ∧ s = 2 ∧ flatN p q 6 = 0)) {m : Nat} (h : flatN p q s = m) (hm : m ≠ 0) : triN p q = m := by
 unfold triN
 rcases hs with ⟨_, rfl⟩ | ⟨_, rfl, h6⟩
 ·rw [if_pos (by rw [h]; exact hm), h]
 ·rw [if_neg (fun hh => hh h6), h]
theorem flatN_a {p q : Pit3} {s : Int} (h1 : p.1 = s) (h2 : p.2.2 = 0) : flatN p q s = 1 := by unfold flatN; rw [if_pos ⟨h1, h2⟩]
theorem flatN_b {p q : Pit3} {s : Int} (h : ¬ (p.1 = s ∧ p.2.2 = 0)) (h1 : q.1 = s) (h2 : q.2.2 = 0) : flatN p q s = 2 := by unfold flatN; rw [if_neg h, if_pos ⟨h1, h2⟩]
theorem flatN_c {p q : Pit3} {s : Int} (h : ¬ (p.1 = s ∧ p.2.2 = 0)) (h2 : ¬ (q.1 = s ∧ q.2.2 = 0)) : flatN p q s = 0 := by unfold flatN; rw [if_neg h, if_neg h2]
theorem triZ_a {a e b f : Nat} {p q : Pit3} (hk : kindP p q = 4) (hn : triN p q = 1) : triZ a e b f p q = if kindP (flat p) q ≠ 4 then [((a : Int), (e : Int))] else [] := by
 unfold triZ
 rw [triQ_x hk hn]
 by_cases h : kindP (flat p) q ≠ 4
 ·rw [if_pos h, if_pos rfl, if_pos h]
 ·rw [if_neg h, if_neg h]; rfl
theorem triZ_b {a e b f : Nat} {p q : Pit3} (hk : kindP p q = 4) (hn : triN p q = 2) : triZ a e b f p q = if kindP p (flat q) ≠ 4 then [((b : Int), (f : Int))] else [] := by
 unfold triZ
 rw [triQ_y hk hn]
 by_cases h : kindP p (flat q) ≠ 4
 ·rw [if_pos h, if_pos h]; rfl
 ·rw [if_neg h, if_neg h]; rfl
theorem triZ_0 {a e b f : Nat} {p q : Pit3} (hn : triN p q = 0) : triZ a e b f p q = [] := by
 unfold triZ
 have : triQ p q = 0 := by
  unfold triQ
  split
  ·rfl
  ·first | rfl | rw [if_pos hn]
 rw [this]; rfl
theorem triZ_k {a e b f : Nat} {p q : Pit3} (hk : kindP p q ≠ 4) : triZ a e b f p q = [] := by unfold triZ; rw [triQ_1 hk]; rfl
theorem triN_no {p q : Pit3} (h6 : flatN p q 6 = 0) (h2 : flatN p q 2 = 0) : triN p q = 0 := by unfold triN; rw [if_neg (fun hh => hh h6), h2]
theorem flat_chk {p : Pit3} (h : pchk p = 0) : pchk (flat p) = 0 := by
 have := pchk_bd h
 unfold pchk flat at *
 simp only at *
 rw [if_neg (by omega)]
theorem not_and_of_or {a b : Prop} (h : ¬ a ∨ ¬ b) : ¬ (a ∧ b) := fun hh => h.elim (fun f => f hh.1) (fun f => f hh.2)
theorem seven2 {w : World} {gs q : Nat} {s : Int} {t : TypeId} {X : Prop} (hs : (q = 0 ∧ s = 6) ∨ (q = 1 ∧ s = 2 ∧ X)) (B : Blk w gs t #[.int .i64 6, .int .i64 2]) : w.cell? ⟨gs, q, none⟩ = some (.int .i64 s) := by
 rcases hs with ⟨rfl, rfl⟩ | ⟨rfl, rfl, _⟩
 ·exact B.cell 0
 ·exact B.cell 1
theorem flat_step {p r : Pit3} {q : Nat} {s : Int} (hs : (q = 0 ∧ s = 6) ∨ (q = 1 ∧ s = 2 ∧ flatN p r 6 = 0)) (_hq : q < 2) (_h : (q = 0 ∨ flatN p r 6 = 0) ∧ (q ≤ 1 ∨ flatN p r 2 = 0)) (h0 : flatN p r s = 0) : (q + 1 = 0 ∨ flatN p r 6 = 0) ∧ (q + 1 ≤ 1 ∨ flatN p r 2 = 0) := by
 rcases hs with ⟨rfl, rfl⟩ | ⟨rfl, rfl, h6⟩
 ·exact ⟨.inr h0, .inl (by omega)⟩
 ·exact ⟨.inr h6, .inr h0⟩
theorem rtri_ok {w : World} {base g n c m c2 : Nat} {A A2 : Option Addr} {l : List (List Ev)} {T O : List Fic} (h : FSt w base g A n c A2 m c2 l T O) (hm : m ≤ 1000000) (hO : O.length ≤ 1000000) {a e b f : Nat} {x y : Ev} (hx : evA l ((a : Int), (e : Int)) = some x) (hy : evA l ((b : Int), (f : Int)) = some y) (hpx : pchk x.pit = 0) (hpy : pchk y.pit = 0) :
  Calls Tryz.prog 94 #[.pointer (some ⟨g, 0, none⟩), .int .i64 (a : Int), .int .i64 (e : Int), .int .i64 (b : Int), .int .i64 (f : Int)] w fun en w' => AddRet base g A n c A2 m c2 l T (addsL l T (-1) 2 O (triZ a e b f x.pit y.pit)) w en w' := by
 have HS := Lib.hid h
 have HBB := Lib.hid h.hb
 have qa := fun W (hW : Below w.heap.size w W) => radd_ok (h.call hW) hm hO hx (-1) 2
 have qb := fun W (hW : Below w.heap.size w W) => radd_ok (h.call hW) hm hO hy (-1) 2
 obtain ⟨u, hB, how⟩ := h.blk
 have g0 := hB.cell 0
 have lg := hB.lt
 simp only [List.getElem?_toArray, List.getElem?_cons_zero] at g0
 obtain ⟨a', e', v1, hp, hv1, hj1⟩ := evA_some hx
 obtain ⟨rfl, rfl⟩ : a' = a ∧ e' = e := by rw [Prod.mk.injEq] at hp; omega
 obtain ⟨b', f', v2, hp2, hv2, hj2⟩ := evA_some hy
 obtain ⟨rfl, rfl⟩ : b' = b ∧ f' = f := by rw [Prod.mk.injEq] at hp2; omega
 have han : a' < n := by have := (List.getElem?_eq_some_iff.1 hv1).1; have := h.rV.len; omega
 have hbn : b' < n := by have := (List.getElem?_eq_some_iff.1 hv2).1; have := h.rV.len; omega
 obtain ⟨bv, ov, A1, n1, c1, hA, hbv, cva, rv1, -, hn1⟩ := h.rV.voice h.hb (Below.refl _ _) han hv1
 subst hA
 obtain ⟨bv', ov', A3, n3, c3, hA, -, cvb, rv2, -, hn3⟩ := h.rV.voice h.hb (Below.refl _ _) hbn hv2
 cases hA
 have hen : e' < n1 := by have := (List.getElem?_eq_some_iff.1 hj1).1; omega
 have hfn : f' < n3 := by have := (List.getElem?_eq_some_iff.1 hj2).1; omega
 obtain ⟨be, oe, hA, hbe, hcx⟩ := rv1.ev h.hb (Below.refl _ _) hen hj1
 subst hA
 obtain ⟨bf, of_, hA, hbf, hcy⟩ := rv2.ev h.hb (Below.refl _ _) hfn hj2
 subst hA
 obtain ⟨_, _, _, _, x4, x5, x6, _, _, _⟩ := ten hcx
 obtain ⟨_, _, _, _, y4, y5, y6, _, _, _⟩ := ten hcy
 have han' : (a' : Int) < (n : Int) := by omega
 have hbn' : (b' : Int) < (n : Int) := by omega
 have hen' : (e' : Int) < (n1 : Int) := by omega
 have hfn' : (f' : Int) < (n3 : Int) := by omega
 obtain ⟨_, _, ⟨p0, p1, p2⟩, _, _, _⟩ := x
 obtain ⟨_, _, ⟨q0, q1, q2⟩, _, _, _⟩ := y
 simp only at x4 x5 x6 y4 y5 y6 hpx hpy ⊢
 have HPX := Lib.hid hpx
 have HPY := Lib.hid hpy
 clear h hx hy hp hp2 hv1 hv2 hj1 hj2 hcx hcy rv1 rv2 hn1 hn3 hB how hpx hpy
 go_enter Tryz.func94, Tryz.ntmps94
 go_wp2_with fail
 apply share
 ·intro main
  go_region
  all_goals
   first
    | (obtain ⟨w4, hw4⟩ : ∃ z, z = ((w.alloc (.cells #[.int .i64 p0, .int .i64 p1, .int .i64 p2] 47)).alloc (.cells #[.int .i64 q0, .int .i64 q1, .int .i64 q2] 47)).drew := ⟨_, rfl⟩; rw [← hw4]; obtain ⟨Bp, Bq, k4⟩ := pair_blk hw4; obtain ⟨gp, hgp⟩ : ∃ z, z = w.heap.size := ⟨_, rfl⟩; obtain ⟨gq, hgq⟩ : ∃ z, z = w.heap.size + 1 := ⟨_, rfl⟩; have HGP := Lib.hid (show w.heap.size ≤ gp ∧ w.heap.size ≤ gq ∧ gp ≠ gq by omega); rw [← hgq] at Bq; rw [← hgp] at Bp; rw [← hgq, ← hgp])
    | (obtain ⟨w4, hw4⟩ : ∃ z, z = ((w.alloc (.cells #[.int .i64 q0, .int .i64 q1, .int .i64 q2] 47)).alloc (.cells #[.int .i64 p0, .int .i64 p1, .int .i64 p2] 47)).drew := ⟨_, rfl⟩; rw [← hw4]; obtain ⟨Bq, Bp, k4⟩ := pair_blk hw4; obtain ⟨gq, hgq⟩ : ∃ z, z = w.heap.size := ⟨_, rfl⟩; obtain ⟨gp, hgp⟩ : ∃ z, z = w.heap.size + 1 := ⟨_, rfl⟩; have HGP := Lib.hid (show w.heap.size ≤ gp ∧ w.heap.size ≤ gq ∧ gp ≠ gq by omega); rw [← hgp] at Bp; rw [← hgq] at Bq; rw [← hgp, ← hgq])
   clear hw4 hgp hgq
   revert HGP
   revert k4
   revert Bq
   revert Bp
   revert gq
   revert gp
   revert w4
   exact main.out
 ·intro w4 gp gq Bp Bq k4 HGP
  clear x4 x5 x6 y4 y5 y6 cva cvb g0 lg hbe hbf hbv
  have qk := fun W => rkind31_ok (p0, p1, p2) (q0, q1, q2) HPX.out HPY.out W
  have qf := fun W => rkind31_ok (p0, p1, -1) (q0, q1, q2) (flat_chk HPX.out) HPY.out W
  have qg := fun W => rkind31_ok (p0, p1, p2) (q0, q1, -1) HPX.out (flat_chk HPY.out) W
  have HZA := Lib.hid (fun (hk : kindP (p0, p1, p2) (q0, q1, q2) = 4) (hn : triN (p0, p1, p2) (q0, q1, q2) = 1) => show triZ a' e' b' f' (p0, p1, p2) (q0, q1, q2) = if kindP (p0, p1, -1) (q0, q1, q2) ≠ 4 then [((a' : Int), (e' : Int))] else [] from triZ_a hk hn)
  have HZB := Lib.hid (fun (hk : kindP (p0, p1, p2) (q0, q1, q2) = 4) (hn : triN (p0, p1, p2) (q0, q1, q2) = 2) => show triZ a' e' b' f' (p0, p1, p2) (q0, q1, q2) = if kindP (p0, p1, p2) (q0, q1, -1) ≠ 4 then [((b' : Int), (f' : Int))] else [] from triZ_b hk hn)
  have HZK := Lib.hid (fun (hk : kindP (p0, p1, p2) (q0, q1, q2) ≠ 4) => show triZ a' e' b' f' (p0, p1, p2) (q0, q1, q2) = [] from triZ_k hk)
  simp only [vP] at qk qf qg
  obtain ⟨K0, hK0⟩ : ∃ z, z = kindP (p0, p1, p2) (q0, q1, q2) := ⟨_, rfl⟩
  obtain ⟨K1, hK1⟩ : ∃ z, z = kindP (p0, p1, -1) (q0, q1, q2) := ⟨_, rfl⟩
  obtain ⟨K2, hK2⟩ : ∃ z, z = kindP (p0, p1, p2) (q0, q1, -1) := ⟨_, rfl⟩
  simp only [← hK0] at qk HZA HZB HZK
  simp only [← hK1] at qf HZA
  simp only [← hK2] at qg HZB
  clear hK0 hK1 hK2
  have z0 := Bp.cell 0
  have z1 := Bp.cell 1
  have z2 := Bp.cell 2
  have u0 := Bq.cell 0
  have u1 := Bq.cell 1
  have u2 := Bq.cell 2
  simp only [List.getElem?_toArray, List.getElem?_cons_zero, List.getElem?_cons_succ] at z0 z1 z2 u0 u1 u2
  have lgp := Bp.lt
  have lgq := Bq.lt
  go_wp2_with fail
  refine (qk _).mono ?_
  rintro en w5 ⟨rfl, b5⟩
  have k5 := below_call k4 b5
  have Bp5 := Bp.kept b5
  have Bq5 := Bq.kept b5
  clear qk b5 k4 Bp Bq z0 z1 z2 u0 u1 u2 lgp lgq
  by_cases hk4 : K0 = 4
  ·have kb : (K0 != 4) = false := by simp [hk4]
   have HK4 := Lib.hid hk4
   clear hk4 HZK
   go_wp2_with fail
   obtain ⟨w6, hw6⟩ : ∃ z, z = w5.alloc (.cells #[.int .i64 6, .int .i64 2] 3) := ⟨_, rfl⟩
   have BS := Lib.hid (show Blk w6 w5.heap.size 3 #[.int .i64 6, .int .i64 2] by rw [hw6]; exact Blk.new _ _ _)
   have BP := Lib.hid (show Blk w6 gp 47 _ by rw [hw6]; exact Bp5.alloc _)
   have BQ := Lib.hid (show Blk w6 gq 47 _ by rw [hw6]; exact Bq5.alloc _)
   have K6 := Lib.hid (show Below w.heap.size w w6 by rw [hw6]; exact below_alloc k5 _)
   rw [← hw6]
   clear hw6 Bp5 Bq5 k5
   obtain ⟨gs, hgs⟩ : ∃ z, z = w5.heap.size := ⟨_, rfl⟩
   rw [← hgs] at BS ⊢
   clear hgs
   go_loopg [13] 2 (fun gh i wr => ∃ q : Nat, q + gh = 2 ∧ i = .int .i64 (q : Int) ∧ Below w6.heap.size w6 wr ∧ (q = 0 ∨ flatN (p0, p1, p2) (q0, q1, q2) 6 = 0) ∧ (q ≤ 1 ∨ flatN (p0, p1, p2) (q0, q1, q2) 2 = 0))
   case atStart => exact ⟨0, by omega, by simp, Below.refl _ _, .inl rfl, .inl (by omega)⟩
   case round =>
    obtain ⟨q, hqg, rfl, ky, hf6, hf2⟩ := hrel
    have kk := below_call K6.out ky
    cases gk with
    | zero =>
     have hq : q = 2 := by omega
     subst hq
     have HX := Lib.hid (AddRet.same (z := .tuple #[]) HS.out kk (show addsL l T (-1) 2 O (triZ a' e' b' f' (p0, p1, p2) (q0, q1, q2)) = O by rw [triZ_0 (triN_no (hf6.resolve_left (by omega)) (hf2.resolve_left (by omega)))]; rfl))
     clear hf6 hf2
     go_wp2
     refine ret_of (by simp [results, Tryz.results94, go_sem, *]; repeat' (first | rfl | apply And.intro)) rfl (AddRet.ends _ HX.out)
    | succ gk1 =>
     have wq : IntKind.i64.wrap ((q : Int) + 1) = (q : Int) + 1 := IntWalk.i64_in _ (by omega)
     have dq : (q : Int) < 2 := by omega
     have Bp := BP.out.kept ky
     have Bq := BQ.out.kept ky
     have Bs := BS.out.kept ky
     obtain ⟨s, hs, hcs⟩ : ∃ s : Int, ((q = 0 ∧ s = 6) ∨ (q = 1 ∧ s = 2 ∧ flatN (p0, p1, p2) (q0, q1, q2) 6 = 0)) ∧ wr.cell? ⟨gs, q, none⟩ = some (.int .i64 s) := by
      rcases Nat.eq_zero_or_pos q with rfl | h0
      ·exact ⟨6, .inl ⟨rfl, rfl⟩, Bs.cell 0⟩
      ·obtain rfl : q = 1 := by omega
       exact ⟨2, .inr ⟨rfl, rfl, hf6.resolve_left (by omega)⟩, Bs.cell 1⟩
     have HS2 := Lib.hid hs
     have HF := Lib.hid (And.intro hf6 hf2)
     have lgs := Bs.lt
     have z0 := Bp.cell 0
     have z1 := Bp.cell 1
     have z2 := Bp.cell 2
     have u0 := Bq.cell 0
     have u1 := Bq.cell 1
     have u2 := Bq.cell 2
     simp only [List.getElem?_toArray, List.getElem?_cons_zero, List.getElem?_cons_succ] at z0 z1 z2 u0 u1 u2
     have lgp := Bp.lt
     have lgq := Bq.lt
     have Fp := Bp.frozen
     have Fq := Bq.frozen
     clear hs hf6 hf2 Bs kk
     by_cases c1 : p0 = s
     ·have d1 : (p0 == s) = true := by simp [c1]
      by_cases c2 : p2 = 0
      ·have d2 : (p2 == 0) = true := by simp [c2]
       have HC1 := Lib.hid c1
       have HC2 := Lib.hid c2
       clear c1 c2
       go_wp2_with fail
       refine wp_region_calm (by kernel_rfl) (by kernel_rfl) ?_
       repeat (go_big_quiet_step (fail))
       refine wpQuiet_nil ?_
       intro w7 g7
       replace ky := below_call ky g7
       clear g7 z0 z1 z2 u0 u1 u2 hcs lgs lgp lgq Fp Fq Bp Bq
       have Bp := BP.out.kept ky
       have Bq := BQ.out.kept ky
       have Bs := BS.out.kept ky
       have z0 := Bp.cell 0
       have z1 := Bp.cell 1
       have z2 := Bp.cell 2
       have u0 := Bq.cell 0
       have u1 := Bq.cell 1
       have u2 := Bq.cell 2
       simp only [List.getElem?_toArray, List.getElem?_cons_zero, List.getElem?_cons_succ] at z0 z1 z2 u0 u1 u2
       have hcs := seven2 HS2.out Bs
       have lgs := Bs.lt
       have lgp := Bp.lt
       have lgq := Bq.lt
       have Fp := Bp.frozen
       have Fq := Bq.frozen
       clear Bs
       have HN := Lib.hid (triN_at HS2.out (flatN_a HC1.out HC2.out) (by decide))
       have NE1 := HGP.out.2.2
       have NE2 := Ne.symm HGP.out.2.2
       go_wp2_with fail
       have k8 := (below_call K6.out ky).setCell (p := ⟨gp, 2, none⟩) (by show w.heap.size ≤ gp; exact HGP.out.1) (.int .i64 (-1))
       refine (qf _).mono ?_
       rintro en w9 ⟨rfl, b9⟩
       have k9 := below_call k8 b9
       clear k8 b9 z0 z1 z2 u0 u1 u2 hcs lgs lgp lgq Fp Fq Bp Bq ky
       by_cases hk : K1 = 4
       ·have kc : (K1 != 4) = false := by simp [hk]
        have HX := Lib.hid (AddRet.same (z := .tuple #[]) HS.out k9 (show addsL l T (-1) 2 O (triZ a' e' b' f' (p0, p1, p2) (q0, q1, q2)) = O by rw [HZA.out HK4.out HN.out, if_neg (fun h => h hk)]; rfl))
        clear hk
        go_wp2
        refine ret_of (by simp [results, Tryz.results94, go_sem, *]; repeat' (first | rfl | apply And.intro)) rfl (AddRet.ends _ HX.out)
       ·have kc : (K1 != 4) = true := by simp [hk]
        have HE := Lib.hid (show addsL l T (-1) 2 O (triZ a' e' b' f' (p0, p1, p2) (q0, q1, q2)) = addL l T O ((a' : Int), (e' : Int)) (-1) 2 by rw [HZA.out HK4.out HN.out, if_pos hk]; rfl)
        clear hk
        go_wp2_with fail
        refine (qa w9 k9).mono ?_
        rintro en w10 hret
        have HR := Lib.hid (hret.after k9 HBB.out)
        obtain ⟨⟨z, rfl⟩, -⟩ := hret
        go_wp2
        refine ret_of (by simp [results, Tryz.results94, go_sem, *]; repeat' (first | rfl | apply And.intro)) rfl (AddRet.ends _ (HR.out.as_ HE.out))
      ·have d2 : (p2 == 0) = false := by simp [c2]
       have HNA := Lib.hid (not_and_of_or (show ¬ ((p0, p1, p2) : Pit3).1 = s ∨ ¬ ((p0, p1, p2) : Pit3).2.2 = 0 from .inr c2))
       clear c1 c2
       go_wp2_with fail
       refine wp_region_calm (by kernel_rfl) (by kernel_rfl) ?_
       repeat (go_big_quiet_step (fail))
       refine wpQuiet_nil ?_
       intro w7 g7
       replace ky := below_call ky g7
       clear g7 z0 z1 z2 u0 u1 u2 hcs lgs lgp lgq Fp Fq Bp Bq
       have Bp := BP.out.kept ky
       have Bq := BQ.out.kept ky
       have Bs := BS.out.kept ky
       have z0 := Bp.cell 0
       have z1 := Bp.cell 1
       have z2 := Bp.cell 2
       have u0 := Bq.cell 0
       have u1 := Bq.cell 1
       have u2 := Bq.cell 2
       simp only [List.getElem?_toArray, List.getElem?_cons_zero, List.getElem?_cons_succ] at z0 z1 z2 u0 u1 u2
       have hcs := seven2 HS2.out Bs
       have lgs := Bs.lt
       have lgp := Bp.lt
       have lgq := Bq.lt
       have Fp := Bp.frozen
       have Fq := Bq.frozen
       clear Bs
       by_cases c3 : q0 = s
       ·have d3 : (q0 == s) = true := by simp [c3]
        by_cases c4 : q2 = 0
        ·have d4 : (q2 == 0) = true := by simp [c4]
         have HC1 := Lib.hid c3
         have HC2 := Lib.hid c4
         clear c3 c4
         go_wp2_with fail
         refine wp_region_calm (by kernel_rfl) (by kernel_rfl) ?_
         repeat (go_big_quiet_step (fail))
         refine wpQuiet_nil ?_
         intro w7b g7
         replace ky := below_call ky g7
         clear g7 z0 z1 z2 u0 u1 u2 hcs lgs lgp lgq Fp Fq Bp Bq
         have Bp := BP.out.kept ky
         have Bq := BQ.out.kept ky
         have Bs := BS.out.kept ky
         have z0 := Bp.cell 0
         have z1 := Bp.cell 1
         have z2 := Bp.cell 2
         have u0 := Bq.cell 0
         have u1 := Bq.cell 1
         have u2 := Bq.cell 2
         simp only [List.getElem?_toArray, List.getElem?_cons_zero, List.getElem?_cons_succ] at z0 z1 z2 u0 u1 u2
         have hcs := seven2 HS2.out Bs
         have lgs := Bs.lt
         have lgp := Bp.lt
         have lgq := Bq.lt
         have Fp := Bp.frozen
         have Fq := Bq.frozen
         clear Bs
         have HN := Lib.hid (triN_at HS2.out (flatN_b HNA.out HC1.out HC2.out) (by decide))
         have NE1 := HGP.out.2.2
         have NE2 := Ne.symm HGP.out.2.2
         go_wp2_with fail
         have k8 := (below_call K6.out ky).setCell (p := ⟨gq, 2, none⟩) (by show w.heap.size ≤ gq; exact HGP.out.2.1) (.int .i64 (-1))
         refine (qg _).mono ?_
         rintro en w9 ⟨rfl, b9⟩
         have k9 := below_call k8 b9
         clear k8 b9 z0 z1 z2 u0 u1 u2 hcs lgs lgp lgq Fp Fq Bp Bq ky
         by_cases hk : K2 = 4
         ·have kc : (K2 != 4) = false := by simp [hk]
          have HX := Lib.hid (AddRet.same (z := .tuple #[]) HS.out k9 (show addsL l T (-1) 2 O (triZ a' e' b' f' (p0, p1, p2) (q0, q1, q2)) = O by rw [HZB.out HK4.out HN.out, if_neg (fun h => h hk)]; rfl))
          clear hk
          go_wp2
          refine ret_of (by simp [results, Tryz.results94, go_sem, *]; repeat' (first | rfl | apply And.intro)) rfl (AddRet.ends _ HX.out)
         ·have kc : (K2 != 4) = true := by simp [hk]
          have HE := Lib.hid (show addsL l T (-1) 2 O (triZ a' e' b' f' (p0, p1, p2) (q0, q1, q2)) = addL l T O ((b' : Int), (f' : Int)) (-1) 2 by rw [HZB.out HK4.out HN.out, if_pos hk]; rfl)
          clear hk
          go_wp2_with fail
          refine (qb w9 k9).mono ?_
          rintro en w10 hret
          have HR := Lib.hid (hret.after k9 HBB.out)
          obtain ⟨⟨z, rfl⟩, -⟩ := hret
          go_wp2
          refine ret_of (by simp [results, Tryz.results94, go_sem, *]; repeat' (first | rfl | apply And.intro)) rfl (AddRet.ends _ (HR.out.as_ HE.out))
        ·have d4 : (q2 == 0) = false := by simp [c4]
         have HNB := Lib.hid (show ¬ ((q0, q1, q2) : Pit3).1 = s ∨ ¬ ((q0, q1, q2) : Pit3).2.2 = 0 from .inr c4)
         replace HNB := Lib.hid (not_and_of_or HNB.out)
         clear c3 c4
         go_wp2_with fail
         refine wp_region_calm (by kernel_rfl) (by kernel_rfl) ?_
         repeat (go_big_quiet_step (fail))
         refine wpQuiet_nil ?_
         intro w7b g7
         replace ky := below_call ky g7
         clear g7 z0 z1 z2 u0 u1 u2 hcs lgs lgp lgq Fp Fq Bp Bq
         have Bp := BP.out.kept ky
         have Bq := BQ.out.kept ky
         have Bs := BS.out.kept ky
         have z0 := Bp.cell 0
         have z1 := Bp.cell 1
         have z2 := Bp.cell 2
         have u0 := Bq.cell 0
         have u1 := Bq.cell 1
         have u2 := Bq.cell 2
         simp only [List.getElem?_toArray, List.getElem?_cons_zero, List.getElem?_cons_succ] at z0 z1 z2 u0 u1 u2
         have hcs := seven2 HS2.out Bs
         have lgs := Bs.lt
         have lgp := Bp.lt
         have lgq := Bq.lt
         have Fp := Bp.frozen
         have Fq := Bq.frozen
         clear Bs
         have HX := Lib.hid (flat_step HS2.out (by omega) HF.out (flatN_c HNA.out HNB.out))
         clear z0 z1 z2 u0 u1 u2 hcs lgs lgp lgq Fp Fq Bp Bq HNA HNB
         go_wp2
         go_roundg gk1
         case measure => omega
         case rel => exact ⟨q + 1, by omega, by go_num, ky, HX.out.1, HX.out.2⟩
       ·have d3 : (q0 == s) = false := by simp [c3]
        have HNB := Lib.hid (show ¬ ((q0, q1, q2) : Pit3).1 = s ∨ ¬ ((q0, q1, q2) : Pit3).2.2 = 0 from .inl c3)
        replace HNB := Lib.hid (not_and_of_or HNB.out)
        clear c3
        go_wp2_with fail
        refine wp_region_calm (by kernel_rfl) (by kernel_rfl) ?_
        repeat (go_big_quiet_step (fail))
        refine wpQuiet_nil ?_
        intro w7b g7
        replace ky := below_call ky g7
        clear g7 z0 z1 z2 u0 u1 u2 hcs lgs lgp lgq Fp Fq Bp Bq
        have Bp := BP.out.kept ky
        have Bq := BQ.out.kept ky
        have Bs := BS.out.kept ky
        have z0 := Bp.cell 0
        have z1 := Bp.cell 1
        have z2 := Bp.cell 2
        have u0 := Bq.cell 0
        have u1 := Bq.cell 1
        have u2 := Bq.cell 2
        simp only [List.getElem?_toArray, List.getElem?_cons_zero, List.getElem?_cons_succ] at z0 z1 z2 u0 u1 u2
        have hcs := seven2 HS2.out Bs
        have lgs := Bs.lt
        have lgp := Bp.lt
        have lgq := Bq.lt
        have Fp := Bp.frozen
        have Fq := Bq.frozen
        clear Bs
        have HX := Lib.hid (flat_step HS2.out (by omega) HF.out (flatN_c HNA.out HNB.out))
        clear z0 z1 z2 u0 u1 u2 hcs lgs lgp lgq Fp Fq Bp Bq HNA HNB
        go_wp2
        go_roundg gk1
        case measure => omega
        case rel => exact ⟨q + 1, by omega, by go_num, ky, HX.out.1, HX.out.2⟩
     ·have d1 : (p0 == s) = false := by simp [c1]
      have HNA := Lib.hid (not_and_of_or (show ¬ ((p0, p1, p2) : Pit3).1 = s ∨ ¬ ((p0, p1, p2) : Pit3).2.2 = 0 from .inl c1))
      clear c1
      go_wp2_with fail
      refine wp_region_calm (by kernel_rfl) (by kernel_rfl) ?_
      repeat (go_big_quiet_step (fail))
      refine wpQuiet_nil ?_
      intro w7 g7
      replace ky := below_call ky g7
      clear g7 z0 z1 z2 u0 u1 u2 hcs lgs lgp lgq Fp Fq Bp Bq
      have Bp := BP.out.kept ky
      have Bq := BQ.out.kept ky
      have Bs := BS.out.kept ky
      have z0 := Bp.cell 0
      have z1 := Bp.cell 1
      have z2 := Bp.cell 2
      have u0 := Bq.cell 0
      have u1 := Bq.cell 1
      have u2 := Bq.cell 2
      simp only [List.getElem?_toArray, List.getElem?_cons_zero, List.getElem?_cons_succ] at z0 z1 z2 u0 u1 u2
      have hcs := seven2 HS2.out Bs
      have lgs := Bs.lt
      have lgp := Bp.lt
      have lgq := Bq.lt
      have Fp := Bp.frozen
      have Fq := Bq.frozen
      clear Bs
      by_cases c3 : q0 = s
      ·have d3 : (q0 == s) = true := by simp [c3]
       by_cases c4 : q2 = 0
       ·have d4 : (q2 == 0) = true := by simp [c4]
        have HC1 := Lib.hid c3
        have HC2 := Lib.hid c4
        clear c3 c4
        go_wp2_with fail
        refine wp_region_calm (by kernel_rfl) (by kernel_rfl) ?_
        repeat (go_big_quiet_step (fail))
        refine wpQuiet_nil ?_
        intro w7b g7
        replace ky := below_call ky g7
        clear g7 z0 z1 z2 u0 u1 u2 hcs lgs lgp lgq Fp Fq Bp Bq
        have Bp := BP.out.kept ky
        have Bq := BQ.out.kept ky
        have Bs := BS.out.kept ky
        have z0 := Bp.cell 0
        have z1 := Bp.cell 1
        have z2 := Bp.cell 2
        have u0 := Bq.cell 0
        have u1 := Bq.cell 1
        have u2 := Bq.cell 2
        simp only [List.getElem?_toArray, List.getElem?_cons_zero, List.getElem?_cons_succ] at z0 z1 z2 u0 u1 u2
        have hcs := seven2 HS2.out Bs
        have lgs := Bs.lt
        have lgp := Bp.lt
        have lgq := Bq.lt
        have Fp := Bp.frozen
        have Fq := Bq.frozen
        clear Bs
        have HN := Lib.hid (triN_at HS2.out (flatN_b HNA.out HC1.out HC2.out) (by decide))
        have NE1 := HGP.out.2.2
        have NE2 := Ne.symm HGP.out.2.2
        go_wp2_with fail
        have k8 := (below_call K6.out ky).setCell (p := ⟨gq, 2, none⟩) (by show w.heap.size ≤ gq; exact HGP.out.2.1) (.int .i64 (-1))
        refine (qg _).mono ?_
        rintro en w9 ⟨rfl, b9⟩
        have k9 := below_call k8 b9
        clear k8 b9 z0 z1 z2 u0 u1 u2 hcs lgs lgp lgq Fp Fq Bp Bq ky
        by_cases hk : K2 = 4
        ·have kc : (K2 != 4) = false := by simp [hk]
         have HX := Lib.hid (AddRet.same (z := .tuple #[]) HS.out k9 (show addsL l T (-1) 2 O (triZ a' e' b' f' (p0, p1, p2) (q0, q1, q2)) = O by rw [HZB.out HK4.out HN.out, if_neg (fun h => h hk)]; rfl))
         clear hk
         go_wp2
         refine ret_of (by simp [results, Tryz.results94, go_sem, *]; repeat' (first | rfl | apply And.intro)) rfl (AddRet.ends _ HX.out)
        ·have kc : (K2 != 4) = true := by simp [hk]
         have HE := Lib.hid (show addsL l T (-1) 2 O (triZ a' e' b' f' (p0, p1, p2) (q0, q1, q2)) = addL l T O ((b' : Int), (f' : Int)) (-1) 2 by rw [HZB.out HK4.out HN.out, if_pos hk]; rfl)
         clear hk
         go_wp2_with fail
         refine (qb w9 k9).mono ?_
         rintro en w10 hret
         have HR := Lib.hid (hret.after k9 HBB.out)
         obtain ⟨⟨z, rfl⟩, -⟩ := hret
         go_wp2
         refine ret_of (by simp [results, Tryz.results94, go_sem, *]; repeat' (first | rfl | apply And.intro)) rfl (AddRet.ends _ (HR.out.as_ HE.out))
       ·have d4 : (q2 == 0) = false := by simp [c4]
        have HNB := Lib.hid (show ¬ ((q0, q1, q2) : Pit3).1 = s ∨ ¬ ((q0, q1, q2) : Pit3).2.2 = 0 from .inr c4)
        replace HNB := Lib.hid (not_and_of_or HNB.out)
        clear c3 c4
        go_wp2_with fail
        refine wp_region_calm (by kernel_rfl) (by kernel_rfl) ?_
        repeat (go_big_quiet_step (fail))
        refine wpQuiet_nil ?_
        intro w7b g7
        replace ky := below_call ky g7
        clear g7 z0 z1 z2 u0 u1 u2 hcs lgs lgp lgq Fp Fq Bp Bq
        have Bp := BP.out.kept ky
        have Bq := BQ.out.kept ky
        have Bs := BS.out.kept ky
        have z0 := Bp.cell 0
        have z1 := Bp.cell 1
        have z2 := Bp.cell 2
        have u0 := Bq.cell 0
        have u1 := Bq.cell 1
        have u2 := Bq.cell 2
        simp only [List.getElem?_toArray, List.getElem?_cons_zero, List.getElem?_cons_succ] at z0 z1 z2 u0 u1 u2
        have hcs := seven2 HS2.out Bs
        have lgs := Bs.lt
        have lgp := Bp.lt
        have lgq := Bq.lt
        have Fp := Bp.frozen
        have Fq := Bq.frozen
        clear Bs
        have HX := Lib.hid (flat_step HS2.out (by omega) HF.out (flatN_c HNA.out HNB.out))
        clear z0 z1 z2 u0 u1 u2 hcs lgs lgp lgq Fp Fq Bp Bq HNA HNB
        go_wp2
        go_roundg gk1
        case measure => omega
        case rel => exact ⟨q + 1, by omega, by go_num, ky, HX.out.1, HX.out.2⟩
      ·have d3 : (q0 == s) = false := by simp [c3]
       have HNB := Lib.hid (show ¬ ((q0, q1, q2) : Pit3).1 = s ∨ ¬ ((q0, q1, q2) : Pit3).2.2 = 0 from .inl c3)
       replace HNB := Lib.hid (not_and_of_or HNB.out)
       clear c3
       go_wp2_with fail
       refine wp_region_calm (by kernel_rfl) (by kernel_rfl) ?_
       repeat (go_big_quiet_step (fail))
       refine wpQuiet_nil ?_
       intro w7b g7
       replace ky := below_call ky g7
       clear g7 z0 z1 z2 u0 u1 u2 hcs lgs lgp lgq Fp Fq Bp Bq
       have Bp := BP.out.kept ky
       have Bq := BQ.out.kept ky
       have Bs := BS.out.kept ky
       have z0 := Bp.cell 0
       have z1 := Bp.cell 1
       have z2 := Bp.cell 2
       have u0 := Bq.cell 0
       have u1 := Bq.cell 1
       have u2 := Bq.cell 2
       simp only [List.getElem?_toArray, List.getElem?_cons_zero, List.getElem?_cons_succ] at z0 z1 z2 u0 u1 u2
       have hcs := seven2 HS2.out Bs
       have lgs := Bs.lt
       have lgp := Bp.lt
       have lgq := Bq.lt
       have Fp := Bp.frozen
       have Fq := Bq.frozen
       clear Bs
       have HX := Lib.hid (flat_step HS2.out (by omega) HF.out (flatN_c HNA.out HNB.out))
       clear z0 z1 z2 u0 u1 u2 hcs lgs lgp lgq Fp Fq Bp Bq HNA HNB
       go_wp2
       go_roundg gk1
       case measure => omega
       case rel => exact ⟨q + 1, by omega, by go_num, ky, HX.out.1, HX.out.2⟩
  ·have kb : (K0 != 4) = true := by simp [hk4]
   have HX := Lib.hid (AddRet.same (z := .tuple #[]) HS.out k5 (show addsL l T (-1) 2 O (triZ a' e' b' f' (p0, p1, p2) (q0, q1, q2)) = O by rw [HZK.out hk4]; rfl))
   clear hk4 HZK HZA HZB
   go_wp2
   refine ret_of (by simp [results, Tryz.results94, go_sem, *]; repeat' (first | rfl | apply And.intro)) rfl (AddRet.ends _ HX.out)
theorem OwnS.keepT {w w' : World} {base : Nat} {v : Value} {l : List Sl} (h : OwnS w base v l) (k : KeepT w w') : OwnS w' base v l := by
 obtain ⟨ps, h1, h2, h3⟩ := h
 exact ⟨ps, h1, own_keepT h2 k (by decide) (by decide), fun p hp => ⟨(h3 p hp).1, own_keepT (h3 p hp).2 k (by decide) (by decide)⟩⟩
structure RI (base g : Nat) (A : Option Addr) (n c : Nat) (A2 : Option Addr) (m c2 : Nat) (l : List (List Ev)) (T O : List Fic) (w wr : World) : Prop where
 st : FSt wr base g A n c A2 m c2 l T O
 kt : KeepT w wr
 lw : Below base w wr
section
variable {w wr wx : World} {base g n c m c2 : Nat} {A A2 : Option Addr} {l : List (List Ev)} {T O O' : List Fic} {e : Ending}
theorem RI.call (h : RI base g A n c A2 m c2 l T O w wr) (k : Below wr.heap.size wr wx) : RI base g A n c A2 m c2 l T O w wx := ⟨h.st.call k, h.kt.trans (.of_below k), h.lw.trans (k.mono h.st.hb)⟩
theorem RI.next (h : RI base g A n c A2 m c2 l T O w wr) (k : AddRet base g A n c A2 m c2 l T O' wr e wx) : RI base g A n c A2 m c2 l T O' w wx := ⟨k.2.1, h.kt.trans k.2.2.1, h.lw.trans k.2.2.2⟩
theorem RI.ret (h : RI base g A n c A2 m c2 l T O w wr) (z : Value) : AddRet base g A n c A2 m c2 l T O w (.returned z) wr := ⟨⟨z, rfl⟩, h.st, h.kt, h.lw⟩
theorem RI.as_ (h : RI base g A n c A2 m c2 l T O w wr) (e : O' = O) : RI base g A n c A2 m c2 l T O' w wr := by rw [e]; exact h
theorem FSt.cells_ (h : FSt wr base g A n c A2 m c2 l T O) : wr.cell? ⟨g, 0, none⟩ = some (.slice A n c) ∧ g < wr.heap.size := by
 obtain ⟨u, hB, _⟩ := h.blk
 exact ⟨hB.cell 0, hB.lt⟩
theorem FSt.few (h : FSt wr base g A n c A2 m c2 l T O) (hl : SetV l) : O.length ≤ 1000000 := by have := h.pro.few; have := plc_few hl; omega
end
theorem rtris_ok {w : World} {base g n c m c2 : Nat} {A A2 : Option Addr} {l : List (List Ev)} {T O : List Fic} (h : FSt w base g A n c A2 m c2 l T O) (hm : m ≤ 1000000) (hl : SetV l) (hs : (slicesE l).2 = 0) :
  Calls Tryz.prog 68 #[.pointer (some ⟨g, 0, none⟩)] w fun e w' => AddRet base g A n c A2 m c2 l T (addsL l T (-1) 2 O (triL l)) w e w' := by
 obtain ⟨hz, hsl⟩ := slicesE_ok hs
 have hbig := mom_big hz
 have hLN := h.rV.len
 have hn8 : n ≤ 8 := by have := hl.len; omega
 have HOK := Lib.hid (fun k (hk : k < (momS l).length) => ok_mAt (set_facts hz).2.2.2.2 hk)
 have qs := refSlices_any A n c l base w h.rV h.hb (by omega)
 rw [hsl] at qs
 obtain ⟨K, hK⟩ : ∃ z, z = (momS l).length - 1 := ⟨_, rfl⟩
 rw [← hK] at qs
 have HK := Lib.hid hK
 have hK2 : K ≤ 32000 := by omega
 have HL0 := Lib.hid (show 0 < K → 0 < n by
  intro hk
  rcases Nat.eq_zero_or_pos n with h0 | h0
  ·have : l = [] := List.length_eq_zero_iff.1 (by omega)
   subst this
   have : (momS ([] : List (List Ev))).length = 0 := rfl
   omega
  ·exact h0)
 have HE := Lib.hid (show triS l K = triL l by rw [hK]; rfl)
 have HLN := Lib.hid hLN
 have HBB := Lib.hid h.hb
 have HSL := Lib.hid hl
 have HH := Lib.hid h
 obtain ⟨c0, lg⟩ := h.cells_
 simp only at qs
 clear h hl hs hz hsl hbig hK hLN
 go_enter Tryz.func68, Tryz.ntmps68
 go_wp2_with fail
 refine qs.mono ?_
 rintro e w1 ⟨v, rfl, ho, hb1⟩
 obtain ⟨S, cS, rfl, -⟩ := ho.reads
 rw [List.length_map, List.length_range] at ho ⊢
 have inv0 : RI base g A n c A2 m c2 l T (addsL l T (-1) 2 O (triS l 0)) w1 w1 := ⟨HH.out.call hb1, .refl _, Below.refl _ _⟩
 have HO := Lib.hid ho
 have HB1 := Lib.hid hb1
 clear qs ho hb1 c0 lg
 go_wp2_with fail
 go_loopg [4, 5, 6, 7, 8] K (fun gh i _ _ _ _ wr => ∃ k : Nat, k + gh = K ∧ i = .int .i64 (k : Int) ∧ RI base g A n c A2 m c2 l T (addsL l T (-1) 2 O (triS l k)) w1 wr)
 case atStart => exact ⟨0, by omega, by simp, inv0⟩
 case round =>
  clear inv0
  obtain ⟨k, hkg, rfl, inv⟩ := hrel
  have wk : IntKind.i64.wrap ((k : Int) + 1) = (k : Int) + 1 := IntWalk.i64_in _ (by omega)
  cases gk with
  | zero =>
   have hk : k = K := by omega
   have d0 : ¬ ((k : Int) < (K : Int)) := by omega
   have HX := Lib.hid (((inv.ret (.tuple #[])).after HB1.out HBB.out).as_ (show addsL l T (-1) 2 O (triL l) = addsL l T (-1) 2 O (triS l k) by rw [hk, HE.out]))
   clear inv hk hkg
   go_wp2
   refine bodyPost_end (results_none rfl _ _ _) rfl ?_
   exact HX.out
  | succ gh =>
   have hkK : k < K := by omega
   have d0 : (k : Int) < (K : Int) := by omega
   obtain ⟨t, ht⟩ : ∃ t, t = mAt (momS l) k := ⟨_, rfl⟩
   have HTM := Lib.hid (show ok t by rw [ht]; exact HOK.out k (by have := HK.out; omega))
   have HS1 := Lib.hid (show triS l (k + 1) = triS l k ++ triV l t n by rw [triS_next, ← ht, HLN.out])
   have HT := Lib.hid ht
   have HI := Lib.hid (inv.as_ (show addsL l T (-1) 2 O (triS l k ++ triV l t 0) = _ by rw [show triV l t 0 = [] from rfl, List.append_nil]))
   clear inv ht
   obtain ⟨wo, hwo⟩ : ∃ z, z = wr := ⟨_, rfl⟩
   subst hwo
   go_wp2_with fail
   go_loopg [5, 6, 7, 8] n (fun gh i _ _ _ wr => ∃ a : Nat, a + gh = n ∧ i = .int .i64 (a : Int) ∧ RI base g A n c A2 m c2 l T (addsL l T (-1) 2 O (triS l k ++ triV l t a)) w1 wr)
   case atStart => exact ⟨0, by omega, by simp, HI.out⟩
   case round =>
    clear HI
    obtain ⟨a, hag, rfl, inv⟩ := hrel
    obtain ⟨g0, lg⟩ := inv.st.cells_
    have wa : IntKind.i64.wrap ((a : Int) + 1) = ((a + 1 : Nat) : Int) := by rw [IntWalk.i64_in _ (by omega)]; omega
    cases gk with
    | zero =>
     have ha : a = n := by omega
     have d1 : ¬ ((a : Int) < (n : Int)) := by omega
     have HX := Lib.hid (inv.as_ (show addsL l T (-1) 2 O (triS l (k + 1)) = _ by rw [HS1.out, ha]))
     clear inv ha hag
     go_wp2
     go_roundg gh
     case measure => omega
     case rel => exact ⟨k + 1, by omega, by go_num, HX.out⟩
    | succ gh2 =>
     have han : a < n := by omega
     have d1 : (a : Int) < (n : Int) := by omega
     have HI := Lib.hid (inv.as_ (show addsL l T (-1) 2 O (triS l k ++ triV l t a ++ triR l t a (a + 1)) = _ by rw [triR_low, List.append_nil]))
     have HV1 := Lib.hid (show triV l t (a + 1) = triV l t a ++ triR l t a n by rw [triV_next, HLN.out])
     clear inv
     obtain ⟨a1, ha1⟩ : ∃ z, z = a + 1 := ⟨_, rfl⟩
     rw [← ha1] at wa HI HV1
     have ha1n : a1 ≤ n := by omega
     have HA1 := Lib.hid ha1
     obtain ⟨wo2, hwo⟩ : ∃ z, z = wr := ⟨_, rfl⟩
     subst hwo
     clear ha1
     go_wp2_with fail
     go_loopg [6, 7, 8] (n - a1) (fun gh i _ _ wr => ∃ b : Nat, b + gh = n ∧ a1 ≤ b ∧ i = .int .i64 (b : Int) ∧ RI base g A n c A2 m c2 l T (addsL l T (-1) 2 O (triS l k ++ triV l t a ++ triR l t a b)) w1 wr)
     case atStart => exact ⟨a1, by omega, by omega, by simp, HI.out⟩
     case round =>
      clear HI g0 lg
      obtain ⟨b, hbg, hab, rfl, inv⟩ := hrel
      obtain ⟨g0, lg⟩ := inv.st.cells_
      have wb : IntKind.i64.wrap ((b : Int) + 1) = (b : Int) + 1 := IntWalk.i64_in _ (by omega)
      cases gk with
      | zero =>
       have hb : b = n := by omega
       have d2 : ¬ ((b : Int) < (n : Int)) := by omega
       have HX := Lib.hid (inv.as_ (show addsL l T (-1) 2 O (triS l k ++ triV l t a1) = _ by rw [HV1.out, hb, List.append_assoc]))
       clear inv hb hbg
       go_wp2
       go_roundg gh2
       case measure => omega
       case rel => exact ⟨a1, by have := HA1.out; omega, by simp, HX.out⟩
      | succ gh3 =>
       have hbn : b < n := by omega
       have d2 : (b : Int) < (n : Int) := by omega
       have hS := HO.out.keepT inv.kt
       obtain ⟨bs, os, be, oe, ce, t', s0, s1, ht', hS', hbs, hbe, y0c, y1c, y2c, y3c, y4c, yon⟩ := hS.sl_ HLN.out (HL0.out (by omega)) hkK
       obtain rfl : t' = t := ht'.trans HT.out.symm
       subst hS'
       have ea := yon a han
       have eb := yon b hbn
       have pa := on_ev HSL.out HTM.out (a := a) (by have := HLN.out; omega)
       have pb := on_ev HSL.out HTM.out (a := b) (by have := HLN.out; omega)
       have HR := Lib.hid (triR_next l t' (a := a) (k := b) (by have := HA1.out; omega))
       have HI := Lib.hid inv
       have han' : (a : Int) < (n : Int) := by omega
       clear hS yon ht' inv y0c y1c y2c y3c
       rcases pa with pa | ⟨i, x, pa, hx, px, hi2⟩
       ·have HP := Lib.hid (triP_none (l := l) (t := t') (a := a) (b := b) (.inl (neg_none (by omega))))
        rw [pa] at ea
        clear pa pb
        go_wp2_with fail
        refine wp_region_calm (by kernel_rfl) (by kernel_rfl) ?_
        repeat (go_big_quiet_step (fail))
        refine wpQuiet_nil ?_
        intro w7 g7
        have HX := Lib.hid ((HI.out.call g7).as_ (show addsL l T (-1) 2 O (triS l k ++ triV l t' a ++ triR l t' a (b + 1)) = _ by rw [HR.out, HP.out, List.append_nil]))
        clear g7 ea eb y4c hbs hbe HI
        go_wp2
        go_roundg gh3
        case measure => omega
        case rel => exact ⟨b + 1, by omega, by omega, by go_num, HX.out⟩
       ·rcases pb with pb | ⟨j, y, pb, hy, py, hj2⟩
        ·have HP := Lib.hid (triP_none (l := l) (t := t') (a := a) (b := b) (.inr (neg_none (by omega))))
         rw [pa] at ea
         rw [pb] at eb
         have gi : (0 : Int) ≤ (i : Int) := by omega
         clear pa pb hx px
         go_wp2_with fail
         refine wp_region_calm (by kernel_rfl) (by kernel_rfl) ?_
         repeat (go_big_quiet_step (fail))
         refine wpQuiet_nil ?_
         intro w7 g7
         have HX := Lib.hid ((HI.out.call g7).as_ (show addsL l T (-1) 2 O (triS l k ++ triV l t' a ++ triR l t' a (b + 1)) = _ by rw [HR.out, HP.out, List.append_nil]))
         clear g7 ea eb y4c hbs hbe HI
         go_wp2
         go_roundg gh3
         case measure => omega
         case rel => exact ⟨b + 1, by omega, by omega, by go_num, HX.out⟩
        ·have HP := Lib.hid (triP_some pa pb hx hy)
         rw [pa] at ea
         rw [pb] at eb
         have gi : (0 : Int) ≤ (i : Int) := by omega
         have gj : (0 : Int) ≤ (j : Int) := by omega
         have HX := Lib.hid hx
         have HY := Lib.hid hy
         clear pa pb hx hy
         go_wp2_with fail
         refine wp_region_calm (by kernel_rfl) (by kernel_rfl) ?_
         repeat (go_big_quiet_step (fail))
         refine wpQuiet_nil ?_
         intro w7 g7
         have I7 := HI.out.call g7
         clear g7 ea eb y4c hbs hbe HI g0 lg
         obtain ⟨g0, lg⟩ := I7.st.cells_
         obtain ⟨a', i', v1, hp, hv1, hj1⟩ := evA_some HX.out
         obtain ⟨rfl, rfl⟩ : a' = a ∧ i' = i := by rw [Prod.mk.injEq] at hp; omega
         obtain ⟨b', j', v2, hp2, hv2, hj2'⟩ := evA_some HY.out
         obtain ⟨rfl, rfl⟩ : b' = b ∧ j' = j := by rw [Prod.mk.injEq] at hp2; omega
         obtain ⟨bv, ov, A1, n1, c1, hA0, hbv, cva, rv1, -, hn1⟩ := I7.st.rV.voice I7.st.hb (Below.refl _ _) han hv1
         obtain ⟨bv', ov', A3, n3, c3, hA, -, cvb, rv2, -, hn3⟩ := I7.st.rV.voice I7.st.hb (Below.refl _ _) hbn hv2
         obtain ⟨rfl, rfl⟩ : bv' = bv ∧ ov' = ov := by rw [hA0] at hA; cases hA; exact ⟨rfl, rfl⟩
         have hen : i' < n1 := by have := (List.getElem?_eq_some_iff.1 hj1).1; omega
         have hfn : j' < n3 := by have := (List.getElem?_eq_some_iff.1 hj2').1; omega
         obtain ⟨bx, ox, hA1', hbx, hcx⟩ := rv1.ev I7.st.hb (Below.refl _ _) hen hj1
         subst hA1'
         obtain ⟨bf, of_, hA3', hbf, hcy⟩ := rv2.ev I7.st.hb (Below.refl _ _) hfn hj2'
         subst hA3'
         obtain ⟨_, _, _, _, _, _, _, x7, _, _⟩ := ten hcx
         obtain ⟨_, _, _, _, _, _, _, y7, _, _⟩ := ten hcy
         have hen' : (i' : Int) < (n1 : Int) := by omega
         have hfn' : (j' : Int) < (n3 : Int) := by omega
         rw [hA0] at g0
         have HPX := Lib.hid px
         have HPY := Lib.hid py
         have HI7 := Lib.hid I7
         clear hA hA0 hp hp2 hv1 hv2 hj1 hj2' hcx hcy rv1 rv2 hn1 hn3 px py I7
         cases hrx : x.rest with
         | true =>
          rw [hrx] at x7
          have HZ := Lib.hid ((HI7.out).as_ (show addsL l T (-1) 2 O (triS l k ++ triV l t' a' ++ triR l t' a' (b' + 1)) = _ by rw [HR.out, HP.out, if_pos (.inl hrx), List.append_nil]))
          clear hrx HI7
          go_wp2
          go_roundg gh3
          case measure => omega
          case rel => exact ⟨b' + 1, by omega, by omega, by go_num, HZ.out⟩
         | false =>
          rw [hrx] at x7
          cases hry : y.rest with
          | true =>
           rw [hry] at y7
           have HZ := Lib.hid ((HI7.out).as_ (show addsL l T (-1) 2 O (triS l k ++ triV l t' a' ++ triR l t' a' (b' + 1)) = _ by rw [HR.out, HP.out, if_pos (.inr hry), List.append_nil]))
           clear hrx hry HI7
           go_wp2
           go_roundg gh3
           case measure => omega
           case rel => exact ⟨b' + 1, by omega, by omega, by go_num, HZ.out⟩
          | false =>
           rw [hry] at y7
           have pxx := HPX.out hrx
           have pyy := HPY.out hry
           have qt := rtri_ok HI7.out.st hm (HI7.out.st.few HSL.out) HX.out HY.out (HPX.out hrx) (HPY.out hry)
           have HZ := Lib.hid (show addsL l T (-1) 2 O (triS l k ++ triV l t' a' ++ triR l t' a' (b' + 1)) = addsL l T (-1) 2 (addsL l T (-1) 2 O (triS l k ++ triV l t' a' ++ triR l t' a' b')) (triZ a' i' b' j' x.pit y.pit) by
            rw [HR.out, HP.out, if_neg (by rw [hrx, hry]; simp), ← List.append_assoc, addsL_append]
            rfl)
           clear hrx hry
           go_wp2_with fail
           refine qt.mono ?_
           rintro en w8 hret
           have HQ := Lib.hid ((HI7.out.next hret).as_ HZ.out)
           obtain ⟨⟨z, rfl⟩, -⟩ := hret
           clear HI7 qt x7 y7 cva cvb g0 lg hbv hbx hbf
           go_wp2
           go_roundg gh3
           case measure => omega
           case rel => exact ⟨b' + 1, by omega, by omega, by go_num, HQ.out⟩
theorem rbtw_ok (p q : Int × Int × Int) (hp : pchk p = 0) (hq : pchk q = 0) (w : World) :
  Calls Tryz.prog 92 #[vP p, vP q] w fun e w' => e = .returned (.tuple #[.agg #[.int .i64 (btw p q).1, .int .i64 (btw p q).2], .int .i64 0]) ∧ Below w.heap.size w w' := by
 have q1 := fun W => refNumber_any p W
 have q2 := fun W => refNumber_any q W
 have q3 := fun W => refHeight_ok p hp W
 have q4 := fun W => refHeight_ok q hq W
 rw [show numE p = (numP p, 0) by unfold numE; rw [if_neg (fun h => h hp)]] at q1
 rw [show numE q = (numP q, 0) by unfold numE; rw [if_neg (fun h => h hq)]] at q2
 have h1 := htP_bd hp
 have h2 := htP_bd hq
 have HE := Lib.hid (show btw p q = (numP q - numP p, htP q - htP p) from rfl)
 obtain ⟨p0, p1, p2⟩ := p
 obtain ⟨q0, q1', q2'⟩ := q
 simp only [vP] at q1 q2 q3 q4 ⊢
 obtain ⟨n1, hn1⟩ : ∃ z, z = numP (p0, p1, p2) := ⟨_, rfl⟩
 obtain ⟨n2, hn2⟩ : ∃ z, z = numP (q0, q1', q2') := ⟨_, rfl⟩
 obtain ⟨t1, ht1⟩ : ∃ z, z = htP (p0, p1, p2) := ⟨_, rfl⟩
 obtain ⟨t2, ht2⟩ : ∃ z, z = htP (q0, q1', q2') := ⟨_, rfl⟩
 rw [← hn1] at q1 HE
 rw [← hn2] at q2 HE
 rw [← ht1] at q3 HE h1
 rw [← ht2] at q4 HE h2
 have hb1 : 0 ≤ n1 ∧ n1 ≤ 62 := by rw [hn1]; exact numP_bd hp
 have hb2 : 0 ≤ n2 ∧ n2 ≤ 62 := by rw [hn2]; exact numP_bd hq
 rw [HE.out]
 clear hp hq hn1 hn2 ht1 ht2 HE
 simp only
 have e1 : IntKind.i64.wrap (n2 - n1) = n2 - n1 := IntWalk.i64_in _ (by omega)
 have e2 : IntKind.i64.wrap (t2 - t1) = t2 - t1 := IntWalk.i64_in _ (by omega)
 go_enter Tryz.func92, Tryz.ntmps92
 go_wp2_with fail
 refine (q1 _).mono ?_
 rintro e w1 ⟨rfl, hb1⟩
 have BP1 : Blk w1 (w.heap.size) 47 #[.int .i64 p0, .int .i64 p1, .int .i64 p2] := by
  refine Blk.kept ?_ hb1
  repeat (first | with_reducible exact Blk.new _ _ _ | (with_reducible refine Blk.newAt _ _ _ _ ?_; first | rfl | (simp; done)) | with_reducible (first | apply Blk.alloc | apply Blk.drewN | apply Blk.drew | apply Blk.set_to) | (with_reducible apply Blk.far_; (simp only [ne_eq]; omega)) | rfl)
 have cP0_1 : w1.cell? ⟨w.heap.size, 0, none⟩ = some (.int .i64 p0) := BP1.cell 0
 have cP1_1 : w1.cell? ⟨w.heap.size, 1, none⟩ = some (.int .i64 p1) := BP1.cell 1
 have cP2_1 : w1.cell? ⟨w.heap.size, 2, none⟩ = some (.int .i64 p2) := BP1.cell 2
 have lP1 : w.heap.size < w1.heap.size := BP1.lt
 have mP1 : w.heap.size < w1.heap.size + 1 := by omega
 have nP1 : w.heap.size < w1.heap.size + 1 + 1 := by omega
 have BQ1 : Blk w1 (w.heap.size + 1) 47 #[.int .i64 q0, .int .i64 q1', .int .i64 q2'] := by
  refine Blk.kept ?_ hb1
  repeat (first | with_reducible exact Blk.new _ _ _ | (with_reducible refine Blk.newAt _ _ _ _ ?_; first | rfl | (simp; done)) | with_reducible (first | apply Blk.alloc | apply Blk.drewN | apply Blk.drew | apply Blk.set_to) | (with_reducible apply Blk.far_; (simp only [ne_eq]; omega)) | rfl)
 have cQ0_1 : w1.cell? ⟨w.heap.size + 1, 0, none⟩ = some (.int .i64 q0) := BQ1.cell 0
 have cQ1_1 : w1.cell? ⟨w.heap.size + 1, 1, none⟩ = some (.int .i64 q1') := BQ1.cell 1
 have cQ2_1 : w1.cell? ⟨w.heap.size + 1, 2, none⟩ = some (.int .i64 q2') := BQ1.cell 2
 have lQ1 : w.heap.size + 1 < w1.heap.size := BQ1.lt
 have mQ1 : w.heap.size + 1 < w1.heap.size + 1 := by omega
 have nQ1 : w.heap.size + 1 < w1.heap.size + 1 + 1 := by omega
 have BI1 : Blk w1 (w.heap.size + 2) 131 #[.int .i64 0, .int .i64 0] := by
  refine Blk.kept ?_ hb1
  repeat (first | with_reducible exact Blk.new _ _ _ | (with_reducible refine Blk.newAt _ _ _ _ ?_; first | rfl | (simp; done)) | with_reducible (first | apply Blk.alloc | apply Blk.drewN | apply Blk.drew | apply Blk.set_to) | (with_reducible apply Blk.far_; (simp only [ne_eq]; omega)) | rfl)
 have cI0_1 : w1.cell? ⟨w.heap.size + 2, 0, none⟩ = some (.int .i64 0) := BI1.cell 0
 have cI1_1 : w1.cell? ⟨w.heap.size + 2, 1, none⟩ = some (.int .i64 0) := BI1.cell 1
 have lI1 : w.heap.size + 2 < w1.heap.size := BI1.lt
 have mI1 : w.heap.size + 2 < w1.heap.size + 1 := by omega
 have nI1 : w.heap.size + 2 < w1.heap.size + 1 + 1 := by omega
 have fI0_1 := BI1.frozen 0
 have fI1_1 := BI1.frozen 1
 have eIP1 : w.heap.size + 2 ≠ w.heap.size := by omega
 have ePI1 : w.heap.size ≠ w.heap.size + 2 := by omega
 have eIQ1 : w.heap.size + 2 ≠ w.heap.size + 1 := by omega
 have eQI1 : w.heap.size + 1 ≠ w.heap.size + 2 := by omega
 have hs1 : w.heap.size ≤ w1.heap.size := by have h := hb1.size; (try simp at h); omega
 go_wp2_with fail
 refine (q2 _).mono ?_
 rintro e w2 ⟨rfl, hb2⟩
 have BP2 : Blk w2 (w.heap.size) 47 #[.int .i64 p0, .int .i64 p1, .int .i64 p2] := by
  refine Blk.kept ?_ hb2
  repeat (first | with_reducible exact BP1 | with_reducible exact Blk.new _ _ _ | (with_reducible refine Blk.newAt _ _ _ _ ?_; first | rfl | (simp; done)) | with_reducible (first | apply Blk.alloc | apply Blk.drewN | apply Blk.drew | apply Blk.set_to) | (with_reducible apply Blk.far_; (simp only [ne_eq]; omega)) | rfl)
 have cP0_2 : w2.cell? ⟨w.heap.size, 0, none⟩ = some (.int .i64 p0) := BP2.cell 0
 have cP1_2 : w2.cell? ⟨w.heap.size, 1, none⟩ = some (.int .i64 p1) := BP2.cell 1
 have cP2_2 : w2.cell? ⟨w.heap.size, 2, none⟩ = some (.int .i64 p2) := BP2.cell 2
 have lP2 : w.heap.size < w2.heap.size := BP2.lt
 have mP2 : w.heap.size < w2.heap.size + 1 := by omega
 have nP2 : w.heap.size < w2.heap.size + 1 + 1 := by omega
 have BQ2 : Blk w2 (w.heap.size + 1) 47 #[.int .i64 q0, .int .i64 q1', .int .i64 q2'] := by
  refine Blk.kept ?_ hb2
  repeat (first | with_reducible exact BQ1 | with_reducible exact Blk.new _ _ _ | (with_reducible refine Blk.newAt _ _ _ _ ?_; first | rfl | (simp; done)) | with_reducible (first | apply Blk.alloc | apply Blk.drewN | apply Blk.drew | apply Blk.set_to) | (with_reducible apply Blk.far_; (simp only [ne_eq]; omega)) | rfl)
 have cQ0_2 : w2.cell? ⟨w.heap.size + 1, 0, none⟩ = some (.int .i64 q0) := BQ2.cell 0
 have cQ1_2 : w2.cell? ⟨w.heap.size + 1, 1, none⟩ = some (.int .i64 q1') := BQ2.cell 1
 have cQ2_2 : w2.cell? ⟨w.heap.size + 1, 2, none⟩ = some (.int .i64 q2') := BQ2.cell 2
 have lQ2 : w.heap.size + 1 < w2.heap.size := BQ2.lt
 have mQ2 : w.heap.size + 1 < w2.heap.size + 1 := by omega
 have nQ2 : w.heap.size + 1 < w2.heap.size + 1 + 1 := by omega
 have BI2 : Blk w2 (w.heap.size + 2) 131 #[.int .i64 0, .int .i64 0] := by
  refine Blk.kept ?_ hb2
  repeat (first | with_reducible exact BI1 | with_reducible exact Blk.new _ _ _ | (with_reducible refine Blk.newAt _ _ _ _ ?_; first | rfl | (simp; done)) | with_reducible (first | apply Blk.alloc | apply Blk.drewN | apply Blk.drew | apply Blk.set_to) | (with_reducible apply Blk.far_; (simp only [ne_eq]; omega)) | rfl)
 have cI0_2 : w2.cell? ⟨w.heap.size + 2, 0, none⟩ = some (.int .i64 0) := BI2.cell 0
 have cI1_2 : w2.cell? ⟨w.heap.size + 2, 1, none⟩ = some (.int .i64 0) := BI2.cell 1
 have lI2 : w.heap.size + 2 < w2.heap.size := BI2.lt
 have mI2 : w.heap.size + 2 < w2.heap.size + 1 := by omega
 have nI2 : w.heap.size + 2 < w2.heap.size + 1 + 1 := by omega
 have fI0_2 := BI2.frozen 0
 have fI1_2 := BI2.frozen 1
 clear BP1 lP1 mP1 nP1 cP0_1 cP1_1 cP2_1 BQ1 lQ1 mQ1 nQ1 cQ0_1 cQ1_1 cQ2_1 BI1 lI1 mI1 nI1 cI0_1 cI1_1 fI0_1 fI1_1
 have hs2 : w.heap.size ≤ w2.heap.size := by have h := hb2.size; (try simp at h); omega
 go_wp2_with fail
 refine (q3 _).mono ?_
 rintro e w3 ⟨rfl, hb3⟩
 have BP3 : Blk w3 (w.heap.size) 47 #[.int .i64 p0, .int .i64 p1, .int .i64 p2] := by
  refine Blk.kept ?_ hb3
  repeat (first | with_reducible exact BP2 | with_reducible exact Blk.new _ _ _ | (with_reducible refine Blk.newAt _ _ _ _ ?_; first | rfl | (simp; done)) | with_reducible (first | apply Blk.alloc | apply Blk.drewN | apply Blk.drew | apply Blk.set_to) | (with_reducible apply Blk.far_; (simp only [ne_eq]; omega)) | rfl)
 have cP0_3 : w3.cell? ⟨w.heap.size, 0, none⟩ = some (.int .i64 p0) := BP3.cell 0
 have cP1_3 : w3.cell? ⟨w.heap.size, 1, none⟩ = some (.int .i64 p1) := BP3.cell 1
 have cP2_3 : w3.cell? ⟨w.heap.size, 2, none⟩ = some (.int .i64 p2) := BP3.cell 2
 have lP3 : w.heap.size < w3.heap.size := BP3.lt
 have mP3 : w.heap.size < w3.heap.size + 1 := by omega
 have nP3 : w.heap.size < w3.heap.size + 1 + 1 := by omega
 have BQ3 : Blk w3 (w.heap.size + 1) 47 #[.int .i64 q0, .int .i64 q1', .int .i64 q2'] := by
  refine Blk.kept ?_ hb3
  repeat (first | with_reducible exact BQ2 | with_reducible exact Blk.new _ _ _ | (with_reducible refine Blk.newAt _ _ _ _ ?_; first | rfl | (simp; done)) | with_reducible (first | apply Blk.alloc | apply Blk.drewN | apply Blk.drew | apply Blk.set_to) | (with_reducible apply Blk.far_; (simp only [ne_eq]; omega)) | rfl)
 have cQ0_3 : w3.cell? ⟨w.heap.size + 1, 0, none⟩ = some (.int .i64 q0) := BQ3.cell 0
 have cQ1_3 : w3.cell? ⟨w.heap.size + 1, 1, none⟩ = some (.int .i64 q1') := BQ3.cell 1
 have cQ2_3 : w3.cell? ⟨w.heap.size + 1, 2, none⟩ = some (.int .i64 q2') := BQ3.cell 2
 have lQ3 : w.heap.size + 1 < w3.heap.size := BQ3.lt
 have mQ3 : w.heap.size + 1 < w3.heap.size + 1 := by omega
 have nQ3 : w.heap.size + 1 < w3.heap.size + 1 + 1 := by omega
 have BI3 : Blk w3 (w.heap.size + 2) 131 #[.int .i64 0, .int .i64 0] := by
  refine Blk.kept ?_ hb3
  repeat (first | with_reducible exact BI2 | with_reducible exact Blk.new _ _ _ | (with_reducible refine Blk.newAt _ _ _ _ ?_; first | rfl | (simp; done)) | with_reducible (first | apply Blk.alloc | apply Blk.drewN | apply Blk.drew | apply Blk.set_to) | (with_reducible apply Blk.far_; (simp only [ne_eq]; omega)) | rfl)
 have cI0_3 : w3.cell? ⟨w.heap.size + 2, 0, none⟩ = some (.int .i64 0) := BI3.cell 0
 have cI1_3 : w3.cell? ⟨w.heap.size + 2, 1, none⟩ = some (.int .i64 0) := BI3.cell 1
 have lI3 : w.heap.size + 2 < w3.heap.size := BI3.lt
 have mI3 : w.heap.size + 2 < w3.heap.size + 1 := by omega
 have nI3 : w.heap.size + 2 < w3.heap.size + 1 + 1 := by omega
 have fI0_3 := BI3.frozen 0
 have fI1_3 := BI3.frozen 1
 clear BP2 lP2 mP2 nP2 cP0_2 cP1_2 cP2_2 BQ2 lQ2 mQ2 nQ2 cQ0_2 cQ1_2 cQ2_2 BI2 lI2 mI2 nI2 cI0_2 cI1_2 fI0_2 fI1_2
 have hs3 : w.heap.size ≤ w3.heap.size := by have h := hb3.size; (try simp at h); omega
 go_wp2_with fail
 refine (q4 _).mono ?_
 rintro e w4 ⟨rfl, hb4⟩
 have BP4 : Blk w4 (w.heap.size) 47 #[.int .i64 p0, .int .i64 p1, .int .i64 p2] := by
  refine Blk.kept ?_ hb4
  repeat (first | with_reducible exact BP3 | with_reducible exact Blk.new _ _ _ | (with_reducible refine Blk.newAt _ _ _ _ ?_; first | rfl | (simp; done)) | with_reducible (first | apply Blk.alloc | apply Blk.drewN | apply Blk.drew | apply Blk.set_to) | (with_reducible apply Blk.far_; (simp only [ne_eq]; omega)) | rfl)
 have cP0_4 : w4.cell? ⟨w.heap.size, 0, none⟩ = some (.int .i64 p0) := BP4.cell 0
 have cP1_4 : w4.cell? ⟨w.heap.size, 1, none⟩ = some (.int .i64 p1) := BP4.cell 1
 have cP2_4 : w4.cell? ⟨w.heap.size, 2, none⟩ = some (.int .i64 p2) := BP4.cell 2
 have lP4 : w.heap.size < w4.heap.size := BP4.lt
 have mP4 : w.heap.size < w4.heap.size + 1 := by omega
 have nP4 : w.heap.size < w4.heap.size + 1 + 1 := by omega
 have BQ4 : Blk w4 (w.heap.size + 1) 47 #[.int .i64 q0, .int .i64 q1', .int .i64 q2'] := by
  refine Blk.kept ?_ hb4
  repeat (first | with_reducible exact BQ3 | with_reducible exact Blk.new _ _ _ | (with_reducible refine Blk.newAt _ _ _ _ ?_; first | rfl | (simp; done)) | with_reducible (first | apply Blk.alloc | apply Blk.drewN | apply Blk.drew | apply Blk.set_to) | (with_reducible apply Blk.far_; (simp only [ne_eq]; omega)) | rfl)
 have cQ0_4 : w4.cell? ⟨w.heap.size + 1, 0, none⟩ = some (.int .i64 q0) := BQ4.cell 0
 have cQ1_4 : w4.cell? ⟨w.heap.size + 1, 1, none⟩ = some (.int .i64 q1') := BQ4.cell 1
 have cQ2_4 : w4.cell? ⟨w.heap.size + 1, 2, none⟩ = some (.int .i64 q2') := BQ4.cell 2
 have lQ4 : w.heap.size + 1 < w4.heap.size := BQ4.lt
 have mQ4 : w.heap.size + 1 < w4.heap.size + 1 := by omega
 have nQ4 : w.heap.size + 1 < w4.heap.size + 1 + 1 := by omega
 have BI4 : Blk w4 (w.heap.size + 2) 131 #[.int .i64 0, .int .i64 0] := by
  refine Blk.kept ?_ hb4
  repeat (first | with_reducible exact BI3 | with_reducible exact Blk.new _ _ _ | (with_reducible refine Blk.newAt _ _ _ _ ?_; first | rfl | (simp; done)) | with_reducible (first | apply Blk.alloc | apply Blk.drewN | apply Blk.drew | apply Blk.set_to) | (with_reducible apply Blk.far_; (simp only [ne_eq]; omega)) | rfl)
 have cI0_4 : w4.cell? ⟨w.heap.size + 2, 0, none⟩ = some (.int .i64 0) := BI4.cell 0
 have cI1_4 : w4.cell? ⟨w.heap.size + 2, 1, none⟩ = some (.int .i64 0) := BI4.cell 1
 have lI4 : w.heap.size + 2 < w4.heap.size := BI4.lt
 have mI4 : w.heap.size + 2 < w4.heap.size + 1 := by omega
 have nI4 : w.heap.size + 2 < w4.heap.size + 1 + 1 := by omega
 have fI0_4 := BI4.frozen 0
 have fI1_4 := BI4.frozen 1
 clear BP3 lP3 mP3 nP3 cP0_3 cP1_3 cP2_3 BQ3 lQ3 mQ3 nQ3 cQ0_3 cQ1_3 cQ2_3 BI3 lI3 mI3 nI3 cI0_3 cI1_3 fI0_3 fI1_3
 have hs4 : w.heap.size ≤ w4.heap.size := by have h := hb4.size; (try simp at h); omega
 go_wp2
 refine ret_of (by simp [results, Tryz.results92, go_sem, *]; repeat' (first | rfl | apply And.intro)) rfl ⟨?_, by repeat (first | exact Below.refl _ _ | refine below_drewN ?_ _ | refine Below.drew ?_ | refine below_alloc ?_ _ | (refine below_call ?_ (by assumption)) | (refine Below.setCell ?_ ?_ _; rotate_left; (simp; try omega)))⟩
 rfl
theorem lay_kept {G : Prop} {W wd : World} {g : Nat} {t : TypeId} {cs : Array Value} (hbd : Below W.heap.size W wd) (hB : Blk W g t cs) (k : Blk wd g t cs → G) : G := k (hB.kept hbd)
def clH (v : List Ev) (i : Nat) : Int := if clK v i = 0 then 0 else (ivl v i).2
theorem vn2 {v : List Ev} {k : Nat} {x : Ev} (hx : v[k]? = some x) : noteB v k = !x.rest := by unfold noteB; rw [hx]
theorem rcl_ok {w : World} {A : Option Addr} {n c : Nat} {v : List Ev} {B i : Nat} (h : Reads w B 10 A n (csE v)) (hB : B ≤ w.heap.size) (hi : i < n) (hnx : n ≤ 1000000) (hp : ∀ x ∈ v, x.rest = false → pchk x.pit = 0) :
  Calls Tryz.prog 147 #[.slice A n c, .int .i64 (i : Int)] w fun e w' => e = .returned (.tuple #[.int .i64 (clK v i), .int .i64 (clH v i)]) ∧ Below w.heap.size w w' := by
 have hvn := h.evlen
 have t9 : (i : Int) < (n : Int) := by omega
 by_cases h0 : i < 1
 ·have E := Lib.hid (show clK v i = 0 ∧ clH v i = 0 by
   have : clK v i = 0 := by unfold clK; rw [if_neg (by omega)]
   exact ⟨this, by unfold clH; rw [if_pos this]⟩)
  have d0 : decide (i < 1) = true := decide_eq_true h0
  have d0' : decide ((i : Int) < 1) = true := decide_eq_true (by omega)
  clear h h0 hp hvn
  go_enter Tryz.func147, Tryz.ntmps147
  go_wp2
  refine ret_of (by simp [results, Tryz.results147, go_sem, *]; repeat' (first | rfl | apply And.intro)) rfl ⟨?_, Below.refl _ _⟩
  rw [E.out.1, E.out.2]
 ·obtain ⟨k, rfl⟩ : ∃ k, i = k + 1 := ⟨i - 1, by omega⟩
  obtain ⟨x, hx⟩ := get_some (l := v) (k := k) (by omega)
  obtain ⟨y, hy⟩ := get_some (l := v) (k := k + 1) (by omega)
  obtain ⟨bx, ox, hA, hbx, hcx⟩ := h.ev hB (Below.refl _ _) (show k < n by omega) hx
  obtain ⟨by_, oy, hA2, hby, hcy⟩ := h.ev hB (Below.refl _ _) hi hy
  subst hA
  cases hA2
  have HPX := Lib.hid (hp x (List.mem_of_getElem? hx))
  have HPY := Lib.hid (hp y (List.mem_of_getElem? hy))
  have HK := Lib.hid (show clK v (k + 1) = if x.rest = false ∧ y.rest = false then clOf (btw x.pit y.pit).1 else 0 by
   unfold clK
   rw [Nat.add_sub_cancel, vn2 hx, vn2 hy]
   unfold ivl
   rw [Nat.add_sub_cancel, hx, hy]
   cases x.rest <;> cases y.rest <;> simp)
  have HI := Lib.hid (show (ivl v (k + 1)).2 = (btw x.pit y.pit).2 by unfold ivl; rw [Nat.add_sub_cancel, hx, hy])
  obtain ⟨_, _, _, _, x4, x5, x6, x7, _, _⟩ := ten hcx
  obtain ⟨_, _, _, _, y4, y5, y6, y7, _, _⟩ := ten hcy
  obtain ⟨⟨a0, a1⟩, ⟨d0, d1⟩, ⟨p0, p1, p2⟩, r1, sg, ps⟩ := x
  obtain ⟨⟨b0, b1⟩, ⟨f0, f1⟩, ⟨q0, q1, q2⟩, r2, sg2, ps2⟩ := y
  simp only at x4 x5 x6 x7 y4 y5 y6 y7
  obtain ⟨j, hj⟩ : ∃ z, z = k + 1 := ⟨_, rfl⟩
  have HJ := Lib.hid hj
  have hjn : (j : Int) < (n : Int) := by omega
  have hkn : (k : Int) < (n : Int) := by omega
  have wk : IntKind.i64.wrap ((j : Int) - 1) = (k : Int) := by rw [IntWalk.i64_in _ (by omega)]; omega
  have e0 : decide (j < 1) = false := decide_eq_false (by omega)
  have e0' : decide ((j : Int) < 1) = false := decide_eq_false (by omega)
  rw [← hj] at hi t9 y4 y5 y6 y7 ⊢
  clear h hp hvn hx hy hcx hcy h0 hj
  cases r2 with
  | true =>
   have E := Lib.hid (show clK v j = 0 ∧ clH v j = 0 by
    have : clK v j = 0 := by rw [HJ.out, HK.out]; simp
    exact ⟨this, by unfold clH; rw [if_pos this]⟩)
   clear HK
   go_enter Tryz.func147, Tryz.ntmps147
   go_wp2
   refine ret_of (by simp [results, Tryz.results147, go_sem, *]; repeat' (first | rfl | apply And.intro)) rfl ⟨?_, Below.refl _ _⟩
   rw [E.out.1, E.out.2]
  | false =>
   cases r1 with
   | true =>
    have E := Lib.hid (show clK v j = 0 ∧ clH v j = 0 by
     have : clK v j = 0 := by rw [HJ.out, HK.out]; simp
     exact ⟨this, by unfold clH; rw [if_pos this]⟩)
    clear HK
    go_enter Tryz.func147, Tryz.ntmps147
    go_wp2
    refine ret_of (by simp [results, Tryz.results147, go_sem, *]; repeat' (first | rfl | apply And.intro)) rfl ⟨?_, Below.refl _ _⟩
    rw [E.out.1, E.out.2]
   | false =>
    obtain ⟨wq, hwq⟩ : ∃ z, z = w := ⟨_, rfl⟩
    subst hwq
    have qa := fun W => rbtw_ok (p0, p1, p2) (q0, q1, q2) (HPX.out rfl) (HPY.out rfl) W
    simp only [vP] at qa
    obtain ⟨⟨s, hh⟩, hs⟩ : ∃ z, z = btw (p0, p1, p2) (q0, q1, q2) := ⟨_, rfl⟩
    simp only [← hs] at qa
    have E := Lib.hid (show clK v j = clOf s ∧ clH v j = if clOf s = 0 then 0 else hh by
     have e1 : clK v j = clOf s := by rw [HJ.out, HK.out, if_pos ⟨rfl, rfl⟩]; simp only [← hs]
     refine ⟨e1, ?_⟩
     unfold clH
     rw [e1, HJ.out, HI.out]
     simp only [← hs])
    clear hs HK HI
    go_enter Tryz.func147, Tryz.ntmps147
    go_wp2_with fail
    go_region_held3 (fun w' => w'.cell? ⟨bx, ox + k * 10 + 4, none⟩ = some (.int .i64 p0) ∧ w'.cell? ⟨bx, ox + k * 10 + 5, none⟩ = some (.int .i64 p1) ∧ w'.cell? ⟨bx, ox + k * 10 + 6, none⟩ = some (.int .i64 p2) ∧ w'.cell? ⟨bx, ox + j * 10 + 4, none⟩ = some (.int .i64 q0) ∧ w'.cell? ⟨bx, ox + j * 10 + 5, none⟩ = some (.int .i64 q1) ∧ w'.cell? ⟨bx, ox + j * 10 + 6, none⟩ = some (.int .i64 q2) ∧ Below wq.heap.size wq w') ((refine (fun hb => ⟨(hb.cell (p := ⟨_, _, none⟩) hbx).trans x4, (hb.cell (p := ⟨_, _, none⟩) hbx).trans x5, (hb.cell (p := ⟨_, _, none⟩) hbx).trans x6, (hb.cell (p := ⟨_, _, none⟩) hbx).trans y4, (hb.cell (p := ⟨_, _, none⟩) hbx).trans y5, (hb.cell (p := ⟨_, _, none⟩) hbx).trans y6, hb⟩) ?_; repeat (first | with_reducible (first | exact Below.refl _ _ | exact hBd | exact (show _ ∧ _ ∧ _ ∧ _ ∧ _ ∧ _ ∧ Below wq.heap.size wq _ by assumption).2.2.2.2.2.2 | refine Below.drew ?_ | refine below_alloc ?_ _) | (with_reducible refine Below.setCell ?_ ?_ _; rotate_left; (first | (show wq.heap.size ≤ wq.heap.size; omega) | (simp; omega)))))) (first | (go_at_call 92; refine Calls.mono (qa _) ?_; rintro e wd ⟨rfl, hbd⟩; have hBd := below_call (show _ ∧ _ ∧ _ ∧ _ ∧ _ ∧ _ ∧ Below wq.heap.size wq _ by assumption).2.2.2.2.2.2 hbd; try (refine lay_kept hbd (g := wq.heap.size) (t := 131) (cs := #[.int .i64 0, .int .i64 0]) ?_ ?_; (focus ((repeat (first | with_reducible (first | exact Blk.new _ _ _ | apply Blk.drewN | apply Blk.drew))); done)); intro Bi; have i0 := Bi.cell 0; have i1 := Bi.cell 1; have lI := Bi.lt; have fI := Bi.frozen)))
    all_goals
     have hB5 := (show _ ∧ _ ∧ _ ∧ _ ∧ _ ∧ _ ∧ Below wq.heap.size wq _ by assumption).2.2.2.2.2.2
     obtain ⟨wv, hwv⟩ := name_world hB5
     rw [← hwv] at hB5 ⊢
     have zd := hBd.size
     first
      | (refine pick_block (wv := wv) (lo := wq.heap.size) (t := 131) (wd.heap.size) #[.int .i64 s, .int .i64 hh] ?_ ?_ ?_; (focus omega); (focus (rw [hwv]; (repeat (first | with_reducible exact Bi | with_reducible exact Blk.new _ _ _ | (with_reducible refine Blk.newAt _ _ _ _ ?_; first | rfl | (simp; done)) | with_reducible (first | apply Blk.alloc | apply Blk.drewN | apply Blk.drew | apply Blk.set_to) | rfl)); done)); intro g hg lg Bg; rw [← hg]; clear hg)
      | (refine pick_block (wv := wv) (lo := wq.heap.size) (t := 131) (wq.heap.size) #[.int .i64 s, .int .i64 hh] ?_ ?_ ?_; (focus omega); (focus (rw [hwv]; (repeat (first | with_reducible exact Bi | with_reducible exact Blk.new _ _ _ | (with_reducible refine Blk.newAt _ _ _ _ ?_; first | rfl | (simp; done)) | with_reducible (first | apply Blk.alloc | apply Blk.drewN | apply Blk.drew | apply Blk.set_to) | rfl)); done)); intro g hg lg Bg; rw [← hg]; clear hg)
     clear hwv
     have g0 := Bg.cell 0
     have g1 := Bg.cell 1
     have lG := Bg.lt
     simp only [List.getElem?_toArray, List.getElem?_cons_zero, List.getElem?_cons_succ] at g0 g1
     have kv : Below wq.heap.size wq wv := hB5
     by_cases c1 : s = 1
     ·have E2 := Lib.hid (show clK v j = 1 ∧ clH v j = hh from ⟨E.out.1.trans (by rw [c1]; rfl), E.out.2.trans (by rw [c1]; rfl)⟩)
      have d1 : (s == 1) = true := by simp [c1]
      clear E c1
      go_wp2_with fail
      refine wp_region_calm (by kernel_rfl) (by kernel_rfl) ?_
      repeat (go_big_quiet_step (fail))
      refine wpQuiet_nil ?_
      intro w7 g7
      have k7 := below_call kv g7
      go_wp2
      refine ret_of (by simp [results, Tryz.results147, go_sem, *]; repeat' (first | rfl | apply And.intro)) rfl ⟨?_, k7⟩
      rw [E2.out.1, E2.out.2]
     ·have d1 : (s == 1) = false := by simp [c1]
      by_cases c2 : s = -1
      ·have E2 := Lib.hid (show clK v j = 2 ∧ clH v j = hh from ⟨E.out.1.trans (by rw [c2]; rfl), E.out.2.trans (by rw [c2]; rfl)⟩)
       have d2 : (s == -1) = true := by simp [c2]
       clear E c1 c2
       go_wp2_with fail
       refine wp_region_calm (by kernel_rfl) (by kernel_rfl) ?_
       repeat (go_big_quiet_step (fail))
       refine wpQuiet_nil ?_
       intro w7 g7
       have k7 := below_call kv g7
       go_wp2
       refine ret_of (by simp [results, Tryz.results147, go_sem, *]; repeat' (first | rfl | apply And.intro)) rfl ⟨?_, k7⟩
       rw [E2.out.1, E2.out.2]
      ·have d2 : (s == -1) = false := by simp [c2]
       by_cases c3 : s = 3
       ·have E2 := Lib.hid (show clK v j = 3 ∧ clH v j = hh from ⟨E.out.1.trans (by rw [c3]; rfl), E.out.2.trans (by rw [c3]; rfl)⟩)
        have d3 : (s == 3) = true := by simp [c3]
        clear E c1 c2 c3
        go_wp2_with fail
        refine wp_region_calm (by kernel_rfl) (by kernel_rfl) ?_
        repeat (go_big_quiet_step (fail))
        refine wpQuiet_nil ?_
        intro w7 g7
        have k7 := below_call kv g7
        go_wp2
        refine ret_of (by simp [results, Tryz.results147, go_sem, *]; repeat' (first | rfl | apply And.intro)) rfl ⟨?_, k7⟩
        rw [E2.out.1, E2.out.2]
       ·have d3 : (s == 3) = false := by simp [c3]
        by_cases c4 : s = -4
        ·have E2 := Lib.hid (show clK v j = 3 ∧ clH v j = hh from ⟨E.out.1.trans (by rw [c4]; rfl), E.out.2.trans (by rw [c4]; rfl)⟩)
         have d4 : (s == -4) = true := by simp [c4]
         clear E c1 c2 c3 c4
         go_wp2_with fail
         refine wp_region_calm (by kernel_rfl) (by kernel_rfl) ?_
         repeat (go_big_quiet_step (fail))
         refine wpQuiet_nil ?_
         intro w7 g7
         have k7 := below_call kv g7
         go_wp2
         refine ret_of (by simp [results, Tryz.results147, go_sem, *]; repeat' (first | rfl | apply And.intro)) rfl ⟨?_, k7⟩
         rw [E2.out.1, E2.out.2]
        ·have d4 : (s == -4) = false := by simp [c4]
         have E2 := Lib.hid (show clK v j = 0 ∧ clH v j = 0 by
          have : clOf s = 0 := by unfold clOf; rw [if_neg c1, if_neg c2, if_neg (fun h => h.elim c3 c4)]
          exact ⟨E.out.1.trans this, E.out.2.trans (by rw [if_pos this])⟩)
         clear E c1 c2 c3 c4
         go_wp2
         refine ret_of (by simp [results, Tryz.results147, go_sem, *]; repeat' (first | rfl | apply And.intro)) rfl ⟨?_, kv⟩
         rw [E2.out.1, E2.out.2]
end Go.Proofs.YtpkmiegccfhpnaaGreatDoor
