
/- The reference's Chord and Treat. -/
import Derived.Test.YtmlcnmnpkemdpaaDoorDsTreatN
import Derived.Test.YtmlcnmnpkemdpaaDoorDsRefs
import Derived.Test.YtmlcnmnpkemdpaaDoorAlRefSlices
namespace Go.Proofs.YtmlcnmnpkemdpaaDoor
open Go.RowKit
def SlRet (A : Option Addr) (n : Nat) (l : List (List Ev)) (w : World) (e : Ending) (w' : World) : Prop :=
  ∃ S K d, e = .returned (.tuple #[.slice S K d, .int .i64 0]) ∧ Stg w' A S n K l ∧ Below w.heap.size w w'
def SlErr (l : List (List Ev)) (w : World) (e : Ending) (w' : World) : Prop :=
  ∃ S K d, e = .returned (.tuple #[.slice S K d, .int .i64 (slicesE l).2]) ∧ Below w.heap.size w w'
theorem rslices_ok (A : Option Addr) (n c : Nat) (l : List (List Ev)) (w : World) (h : ReadsV w w.heap.size A n l) (hn : n ≤ 9223372036854775807) (he : (slicesE l).2 = 0) :
    Calls Tryd.prog 35 #[.slice A n c] w fun e w' => SlRet A n l w e w' := by
  refine (refSlices_any A n c l _ w h (Nat.le_refl _) hn).mono ?_
  rintro e w1 ⟨v, rfl, ho, k1⟩
  obtain ⟨S, d, rfl, rs⟩ := ho.reads
  obtain ⟨hz, hsl⟩ := slicesE_ok he
  have hl : (slicesE l).1.length = (momS l).length - 1 := by rw [hsl]; simp
  rw [hl] at rs
  rw [hsl] at rs
  refine ⟨S, _, d, by rw [he, hl], ⟨rdV h k1, rs, hz, rfl⟩, k1⟩
theorem rslices_err (A : Option Addr) (n c : Nat) (l : List (List Ev)) (w : World) (h : ReadsV w w.heap.size A n l) (hn : n ≤ 9223372036854775807) :
    Calls Tryd.prog 35 #[.slice A n c] w fun e w' => SlErr l w e w' := by
  refine (refSlices_any A n c l _ w h (Nat.le_refl _) hn).mono ?_
  rintro e w1 ⟨v, rfl, ho, k1⟩
  obtain ⟨S, d, rfl, rs⟩ := ho.reads
  exact ⟨S, _, d, rfl, k1⟩
set_option maxRecDepth 100000 in
set_option maxHeartbeats 2000000 in
theorem rchordn_any (A : Option Addr) (n c : Nat) (l : List (List Ev)) (w : World) (h : ReadsV w w.heap.size A n l) (hn : n ≤ 9223372036854775807) (m : Int) :
    Calls Tryd.prog 12 #[.slice A n c, .int .i64 m] w fun e w' => ChordERet (chordD l m) w e w' := by
  by_cases he : (slicesE l).2 = 0
  · have q1 := rslices_ok A n c l w h hn he
    by_cases h0 : m < 0
    · have HO := Lib.hid (fun K (hK : K = (momS l).length - 1) => chordD_out (n := m) he hK (.inl h0))
      clear he h
      go_enter Tryd.func12, Tryd.ntmps12
      go_wp2_with fail
      refine q1.mono ?_
      rintro e w1 ⟨S, K, d, rfl, hs, k1⟩
      have E := Lib.hid (HO.out K hs.many)
      clear hs
      go_wp2
      refine ret_of (by simp [results, Tryd.results12, go_sem, *]; repeat' (first | rfl | apply And.intro)) rfl ?_
      rw [E.out]
      exact ⟨none, 0, none, 0, rfl, Reads.none_, Reads.none_, k1⟩
    · obtain ⟨k, rfl⟩ : ∃ k : Nat, m = (k : Int) := ⟨m.toNat, by omega⟩
      have HO := Lib.hid (fun K (hK : K = (momS l).length - 1) (h1 : (K : Int) ≤ k) => chordD_out (n := (k : Int)) he hK (.inr h1))
      have HI := Lib.hid (fun K (hK : K = (momS l).length - 1) (h1 : k < K) => chordD_in he hK h1)
      clear he h
      go_enter Tryd.func12, Tryd.ntmps12
      go_wp2_with fail
      refine q1.mono ?_
      rintro e w1 ⟨S, K, d, rfl, hs, k1⟩
      by_cases hk : k < K
      · have E := Lib.hid (HI.out K hs.many hk)
        have d1 : decide (K ≤ k) = false := by simp; omega
        have hn0 : 0 < n := by
          rcases Nat.eq_zero_or_pos n with h0 | h0
          · have hl := hs.len
            have hm := hs.many
            have : l = [] := List.length_eq_zero_iff.1 (by omega)
            subst this
            have : (momS ([] : List (List Ev))).length = 0 := rfl
            omega
          · exact h0
        obtain ⟨bs, os, be, oe, ce, d0, d1', rfl, hbs, s0, s1, s2, s3, s4, hev⟩ := hs.sl (Below.refl _ _) hk hn0
        have q2 := rchord_ok hs c hk hev d0 d1' ce
        obtain ⟨⟨t0, t1⟩, ht2⟩ : ∃ t, t = mAt (momS l) k := ⟨_, rfl⟩
        rw [← ht2] at q2 E s0 s1
        simp only [vSl] at q2 s0 s1
        have HW := Lib.hid (show (whoI l (t0, t1) l.length).length = (whoC l (t0, t1)).length by rw [whoI_len]; rfl)
        have HW2 := Lib.hid (what_len l (t0, t1))
        have dk : (k : Int) < (K : Int) := by omega
        clear hs HO HI ht2 hev
        go_wp2_with fail
        refine q2.mono ?_
        rintro e w2 ⟨A1, c1, A2, c2, rfl, r1, r2, k2⟩
        go_wp2
        refine ret_of (by simp [results, Tryd.results12, go_sem, *]; repeat' (first | rfl | apply And.intro)) rfl ?_
        rw [E.out]
        exact ⟨A1, c1, A2, c2, by rw [HW.out, HW2.out], by rw [HW.out]; exact r1, by rw [HW2.out]; exact r2, below_call k1 k2⟩
      · have E := Lib.hid (HO.out K hs.many (by omega))
        have d1 : decide (K ≤ k) = true := by simp; omega
        clear hs HO HI
        go_wp2
        refine ret_of (by simp [results, Tryd.results12, go_sem, *]; repeat' (first | rfl | apply And.intro)) rfl ?_
        rw [E.out]
        exact ⟨none, 0, none, 0, rfl, Reads.none_, Reads.none_, k1⟩
  · have E := Lib.hid (chordD_err m he)
    have q1 := rslices_err A n c l w h hn
    have hne : ((slicesE l).2 != 0) = true := by simpa using he
    obtain ⟨er, her⟩ : ∃ x, x = (slicesE l).2 := ⟨_, rfl⟩
    unfold SlErr at q1
    rw [← her] at q1 hne E
    clear he h her
    go_enter Tryd.func12, Tryd.ntmps12
    go_wp2_with fail
    refine q1.mono ?_
    rintro e w1 ⟨S, K, d, rfl, k1⟩
    go_wp2
    refine ret_of (by simp [results, Tryd.results12, go_sem, *]; repeat' (first | rfl | apply And.intro)) rfl ?_
    rw [E.out]
    exact ⟨none, 0, none, 0, rfl, Reads.none_, Reads.none_, k1⟩
set_option maxRecDepth 100000 in
set_option maxHeartbeats 4000000 in
theorem rtreatn_err (A : Option Addr) (n c : Nat) (l : List (List Ev)) (w : World) (h : ReadsV w w.heap.size A n l) (hn : n ≤ 9223372036854775807) (m a b : Int) (he : (slicesE l).2 ≠ 0) :
    Calls Tryd.prog 15 #[.slice A n c, .int .i64 m, .int .i64 a, .int .i64 b] w fun e w' => e = .returned (.tuple #[.int .i64 (treatsE l m a b).1, .int .i64 (treatsE l m a b).2]) ∧ Below w.heap.size w w' := by
  have E := Lib.hid (treatsE_err m a b he)
  have q1 := rslices_err A n c l w h hn
  have hne : ((slicesE l).2 != 0) = true := by simpa using he
  obtain ⟨er, her⟩ : ∃ x, x = (slicesE l).2 := ⟨_, rfl⟩
  unfold SlErr at q1
  rw [← her] at q1 hne E
  clear he h her
  go_enter Tryd.func15, Tryd.ntmps15
  go_wp2_with fail
  refine q1.mono ?_
  rintro e w1 ⟨S, K, d, rfl, k1⟩
  go_wp2
  refine ret_of (by simp [results, Tryd.results15, go_sem, *]; repeat' (first | rfl | apply And.intro)) rfl ⟨?_, k1⟩
  rw [E.out]
set_option maxRecDepth 100000 in
set_option maxHeartbeats 4000000 in
theorem rtreatn_out (A : Option Addr) (n c : Nat) (l : List (List Ev)) (w : World) (h : ReadsV w w.heap.size A n l) (hn : n ≤ 9223372036854775807) (m a b : Int) (he : (slicesE l).2 = 0) (ho : m < 0 ∨ (((momS l).length - 1 : Nat) : Int) ≤ m ∨ a < 0 ∨ (n : Int) ≤ a ∨ b < 0 ∨ (n : Int) ≤ b) :
    Calls Tryd.prog 15 #[.slice A n c, .int .i64 m, .int .i64 a, .int .i64 b] w fun e w' => e = .returned (.tuple #[.int .i64 (treatsE l m a b).1, .int .i64 (treatsE l m a b).2]) ∧ Below w.heap.size w w' := by
  have q1 := rslices_ok A n c l w h hn he
  obtain ⟨K0, hK0⟩ : ∃ K, K = (momS l).length - 1 := ⟨_, rfl⟩
  rw [← hK0] at ho
  have E := Lib.hid (treatsE_out he hK0 h.len ho)
  have HK0 := Lib.hid hK0
  clear he h hK0
  go_enter Tryd.func15, Tryd.ntmps15
  go_wp2_with fail
  refine q1.mono ?_
  rintro e w1 ⟨S, K, d, rfl, hs, k1⟩
  have hK : K = K0 := by rw [HK0.out]; exact hs.many
  subst hK
  clear hs
  go_wp2_with fail
  all_goals first
    | (exfalso; omega)
    | (refine ret_of (by simp [results, Tryd.results15, go_sem, *]; repeat' (first | rfl | apply And.intro)) rfl ⟨?_, k1⟩; rw [E.out])
theorem refT_some {l : List (List Ev)} {m : List Tm} {n a b : Nat} {L : List Dis} {j : Nat} {d : Dis} (h : L[j]? = some d) : refT l m n a b L (j + 1) = if pickD l m n a b d = true then d.treat else refT l m n a b L j := by
  conv => lhs; unfold refT
  rw [h]
set_option maxRecDepth 100000 in
set_option maxHeartbeats 8000000 in
theorem rtreatn_in (A : Option Addr) (n c : Nat) (l : List (List Ev)) (w : World) (h : ReadsV w w.heap.size A n l) (hn : n ≤ 9223372036854775807) (k a b lo hi : Nat) (he : (slicesE l).2 = 0) (hk : k < (momS l).length - 1) (ha : a < n) (hb : b < n) (hlh : (a < b ∧ a = lo ∧ b = hi) ∨ (b < a ∧ b = lo ∧ a = hi)) :
    Calls Tryd.prog 15 #[.slice A n c, .int .i64 k, .int .i64 a, .int .i64 b] w fun e w' => e = .returned (.tuple #[.int .i64 (treatsE l k a b).1, .int .i64 (treatsE l k a b).2]) ∧ Below w.heap.size w w' := by
  have q1 := rslices_ok A n c l w h hn he
  obtain ⟨hz, _⟩ := slicesE_ok he
  have hp : ∀ v ∈ l, PitsV v := fun v hv => val_pits ((checkA_all hz).2 v hv)
  have hlo : lo < hi := by omega
  have hhi : hi < n := by omega
  have HCM : clE l (mAt (momS l) k) a b = clE l (mAt (momS l) k) lo hi := by
    rcases hlh with ⟨_, rfl, rfl⟩ | ⟨_, rfl, rfl⟩
    · rfl
    · exact clE_comm hp _ _ _
  obtain ⟨K0, hK0⟩ : ∃ K, K = (momS l).length - 1 := ⟨_, rfl⟩
  have HK0 := Lib.hid hK0
  have HNO := Lib.hid (fun h0 => treatsE_none he hK0 h.len (k := k) (by rw [hK0]; exact hk) ha hb (.inr (HCM.trans h0)))
  have HIN := Lib.hid (show clE l (mAt (momS l) k) lo hi ≠ 0 → treatsE l k a b = (refT l (momS l) k lo hi (allD l (momS l)) (allD l (momS l)).length, 0) from fun h1 => by
    rw [treatsE_in he hK0 h.len (k := k) (by rw [hK0]; exact hk) ha hb (by omega) (by rw [HCM]; exact h1), treat_back hz hk hlo (by rw [h.len]; exact hhi) h1]
    rcases hlh with ⟨_, rfl, rfl⟩ | ⟨_, rfl, rfl⟩
    · rfl
    · rw [treatD_comm, backF_comm hp])
  have HLEN := Lib.hid (show (allD l (momS l)).length ≤ 2100000 by have := dissE_len l; rwa [dissE_ok he] at this)
  have HMEM := Lib.hid (fun d (hd : d ∈ allD l (momS l)) => (mem_allD l (momS l)).1 hd)
  have HBR : a ≠ b := by omega
  rw [← hK0] at hk
  clear he h hK0 HCM hz
  have dab2 : ((a : Int) == (b : Int)) = false := by simp; omega
  have dab3 : ((lo : Int) == (hi : Int)) = false := by simp; omega
  have dab : (a == b) = false := by simpa using HBR
  have dab4 : (lo == hi) = false := by simp; omega
  rcases hlh with ⟨hlt, e1, e2⟩ | ⟨hlt, e1, e2⟩
  all_goals
    have dlt : (lo : Int) < (hi : Int) := by omega
    obtain rfl := e1.symm
    obtain rfl := e2.symm
    go_enter Tryd.func15, Tryd.ntmps15
    go_wp2_with fail
    refine q1.mono ?_
    rintro e w1 ⟨S, K, d, rfl, hs, k1⟩
    have hK : K = K0 := by rw [HK0.out]; exact hs.many
    subst hK
    obtain ⟨hK8, hn8⟩ := hs.big
    have hn0 : 0 < n := by omega
    have d1 : decide (K ≤ k) = false := by simp; omega
    have d2 : decide (n ≤ lo) = false := by simp; omega
    have d3 : decide (n ≤ hi) = false := by simp; omega
    have dk : (k : Int) < (K : Int) := by omega
    have dl : (lo : Int) < (n : Int) := by omega
    have dh : (hi : Int) < (n : Int) := by omega
    obtain ⟨bs, os, be1, oe1, ce1, t0, t1, rfl, hbs1, s0, s1, s2, s3, s4', hev1⟩ := hs.sl (Below.refl _ _) hk hn0
    have q2 := rclash_ok hs c hk hev1 t0 t1 ce1 hlo
    obtain ⟨⟨m0, m1⟩, hm0⟩ : ∃ t, t = mAt (momS l) k := ⟨_, rfl⟩
    obtain ⟨cl, hcl⟩ : ∃ z, z = clE l (mAt (momS l) k) lo hi := ⟨_, rfl⟩
    rw [← hcl] at q2 HNO HIN
    rw [← hm0] at q2 s0 s1
    simp only [vSl] at q2 s0 s1
    by_cases hc : cl = 0
    · have E := Lib.hid (HNO.out hc)
      subst hc
      clear hs HNO HIN hev1 hm0 hcl
      go_wp2_with fail
      refine q2.mono ?_
      rintro e w2 ⟨rfl, k2⟩
      go_wp2
      refine ret_of (by simp [results, Tryd.results15, go_sem, *]; repeat' (first | rfl | apply And.intro)) rfl ⟨?_, below_call k1 k2⟩
      rw [E.out]
    · have dc : (cl == 0) = false := by simpa using hc
      have E0 := Lib.hid (HIN.out hc)
      have HQ := Lib.hid (fun W (hW : Below w1.heap.size w1 W) => rmade_any (hs.kept hW) c d)
      have HS3 := Lib.hid (fun W (hW : Below w1.heap.size w1 W) => hs.kept hW)
      obtain ⟨L, hL⟩ : ∃ L, L = allD l (momS l) := ⟨_, rfl⟩
      rw [← hL] at HLEN HMEM HQ E0
      obtain ⟨R, hR⟩ : ∃ R, R = refT l (momS l) k lo hi L L.length := ⟨_, rfl⟩
      rw [← hR] at E0
      have HR0 := Lib.hid hR.symm
      clear hs HNO HIN hev1 hm0 hcl hc hL hR
      go_wp2_with fail
      refine q2.mono ?_
      rintro e w2 ⟨rfl, k2⟩
      clear s0 s1 s2 s3 s4' hbs1
      go_wp2_with fail
      refine (HQ.out w2 k2).mono ?_
      rintro e w3 ⟨AL, cL, rfl, rL, k3'⟩
      have k13 := below_call k2 k3'
      have k3 := below_call k1 k13
      have hs3 := HS3.out w3 k13
      obtain ⟨be, oe, ce, _, _, hbs, _, _, _, _, s4, hev⟩ := hs3.sl2 (Below.refl _ _) hk hn0
      have za := hev.at_ lo (by omega)
      have zb := hev.at_ hi hhi
      have hbe := hev.lt
      have HS := Lib.hid (fun j (hj : j < K) => hs3.sl2 (Below.refl _ _) hj hn0)
      obtain ⟨z1, hz1⟩ : ∃ z, z = evI l (momS l) k lo := ⟨_, rfl⟩
      obtain ⟨z2, hz2⟩ : ∃ z, z = evI l (momS l) k hi := ⟨_, rfl⟩
      have HZ1 := Lib.hid hz1
      have HZ2 := Lib.hid hz2
      rw [← hz1] at za
      rw [← hz2] at zb
      have HKM := Lib.hid hs3.many
      obtain ⟨N, hN⟩ : ∃ N, N = L.length := ⟨_, rfl⟩
      have HN0 := Lib.hid hN
      have HR := Lib.hid (show refT l (momS l) k lo hi L N = R by rw [hN]; exact HR0.out)
      have hN21 : N ≤ 2100000 := by rw [hN]; exact HLEN.out
      rw [← hN] at rL ⊢
      have wN : IntKind.i64.wrap ((N : Int) - 1) = (N : Int) - 1 := IntWalk.i64_in _ (by omega)
      clear hs3 hev hz1 hz2 hN HS3 HQ HR0 k2 k3' k13 HK0 q2
      go_wp2_with fail
      go_loopg [13, 14] N (fun gh x _ wr => x = .int .i64 ((gh : Int) - 1) ∧ gh ≤ N ∧ Below w3.heap.size w3 wr ∧ Hid (refT l (momS l) k lo hi L gh = R))
      case atStart => exact ⟨by go_num, Nat.le_refl _, Below.refl _ _, HR⟩
      case round =>
        clear HR
        obtain ⟨rfl, hgN, kr, hres⟩ := hrel
        cases gk with
        | zero =>
          have E := Lib.hid (show treatsE l k _ _ = (0, 0) from by rw [E0.out, ← hres.out]; rfl)
          rw [show ((0 : Nat) : Int) - 1 = -1 from rfl]
          clear hres hgN wN
          go_wp2
          refine ret_of (by simp [results, Tryd.results15, go_sem, *]; repeat' (first | rfl | apply And.intro)) rfl ⟨?_, below_call k3 kr⟩
          rw [E.out]
        | succ gh =>
          obtain ⟨x, hx⟩ := get_some (l := L) (k := gh) (by have := HN0.out; omega)
          obtain ⟨bb, off, hA, hbb, c0, c1, c2, c3, c4⟩ := rL.dis (Nat.le_refl _) kr (by omega) hx
          subst hA
          have HNX := Lib.hid (show (if pickD l (momS l) k lo hi x = true then x.treat else refT l (momS l) k lo hi L gh) = R by rw [← hres.out, refT_some hx])
          obtain ⟨xn, _, _, hxn, _, _, _, hxe⟩ := HMEM.out x (List.mem_of_getElem? hx)
          have hxn2 : xn < K := by rw [HKM.out]; exact hxn
          have hxn3 : x.n = (xn : Int) := by rw [hxe]; rfl
          obtain ⟨bf, of, cf, _, _, _, _, _, _, _, x4, hvx⟩ := HS.out xn hxn2
          have ya := hvx.at_ lo (by omega)
          have yb := hvx.at_ hi hhi
          have hbf := hvx.lt
          have hp : pickD l (momS l) k lo hi x = (decide (x.a = lo) && (decide (x.b = hi) && (decide ((xn : Int) ≤ k) && (decide (evI l (momS l) xn lo = z1) && decide (evI l (momS l) xn hi = z2))))) := by
            unfold pickD; rw [hxn3, Int.toNat_natCast, HZ1.out, HZ2.out]
          rw [hxn3] at c0
          obtain ⟨y1, hy1⟩ : ∃ z, z = evI l (momS l) xn lo := ⟨_, rfl⟩
          obtain ⟨y2, hy2⟩ : ∃ z, z = evI l (momS l) xn hi := ⟨_, rfl⟩
          rw [← hy1] at ya hp
          rw [← hy2] at yb hp
          obtain ⟨xm, xa, xb, xk, xt⟩ := x
          simp only at c0 c1 c2 c3 c4 hp HNX
          have PK := Lib.hid hp
          have d0 : ((gh + 1 : Nat) : Int) - 1 = (gh : Int) := by omega
          have dg : (gh : Int) < (N : Int) := by omega
          have dg0 : (0 : Int) ≤ (gh : Int) := by omega
          have dx : (xn : Int) < (K : Int) := by omega
          have wg : IntKind.i64.wrap ((gh : Int) - 1) = (gh : Int) - 1 := IntWalk.i64_in _ (by omega)
          rw [d0]
          clear hx hres hxn hxe hxn3 hvx hp hy1 hy2 d0 wN hxn2
          by_cases g1 : xa = (lo : Int)
          · have f1 : (xa == (lo : Int)) = true := by simpa using g1
            by_cases g2 : xb = (hi : Int)
            · have f2 : (xb == (hi : Int)) = true := by simpa using g2
              by_cases g3 : xn ≤ k
              · have f3 : decide (xn ≤ k) = true := by simpa using g3
                by_cases g4 : y1 = z1
                · have f4 : (y1 == z1) = true := by simpa using g4
                  by_cases g5 : y2 = z2
                  · have f5 : (y2 == z2) = true := by simpa using g5
                    have E := Lib.hid (show treatsE l k _ _ = (xt, 0) from by rw [E0.out, ← HNX.out, if_pos (by rw [PK.out]; simp [g1, g2, g3, g4, g5])])
                    clear HNX g1 g2 g3 g4 g5
                    go_wp2_with fail
                    obtain ⟨wq, hwq⟩ : ∃ y, y = wr.alloc (.cells #[.int .i64 (xn : Int), .int .i64 xa, .int .i64 xb, .int .i64 xk, .int .i64 xt] 48) := ⟨_, rfl⟩
                    have BX : Blk wq wr.heap.size 48 #[.int .i64 (xn : Int), .int .i64 xa, .int .i64 xb, .int .i64 xk, .int .i64 xt] := by rw [hwq]; exact Blk.new _ _ _
                    have kq0 : Below wr.heap.size wr wq := by rw [hwq]; exact below_alloc (Below.refl _ _) _
                    have kq := below_call kr kq0
                    rw [← hwq]
                    have v0 := BX.cell 0
                    have v1 := BX.cell 1
                    have v2 := BX.cell 2
                    have v4 := BX.cell 4
                    have vl := BX.lt
                    have p0 := (kq.cell (p := ⟨bs, os + xn * 5 + 4, none⟩) hbs).trans x4
                    have p1 := (kq.cell (p := ⟨bf, of + lo, none⟩) hbf).trans ya
                    have p2 := (kq.cell (p := ⟨bf, of + hi, none⟩) hbf).trans yb
                    have p3 := (kq.cell (p := ⟨bs, os + k * 5 + 4, none⟩) hbs).trans s4
                    have p4 := (kq.cell (p := ⟨be, oe + lo, none⟩) hbe).trans za
                    have p5 := (kq.cell (p := ⟨be, oe + hi, none⟩) hbe).trans zb
                    have l1 : bs < wq.heap.size := by have := kq.size; omega
                    have l2 : bf < wq.heap.size := by have := kq.size; omega
                    have l3 : be < wq.heap.size := by have := kq.size; omega
                    clear hwq c0 c1 c2 c3 c4 hbb kq0 x4 ya yb za zb s4 hbf hbe
                    refine wp_region_calm (by kernel_rfl) (by kernel_rfl) ?_
                    repeat (go_big_quiet_step (fail))
                    refine wpQuiet_nil ?_
                    intro wd gd
                    have kd := below_call kq gd
                    have BD := BX.kept gd
                    have u4 := BD.cell 4
                    have ul := BD.lt
                    clear v0 v1 v2 v4 vl p0 p1 p2 p3 p4 p5 l1 l2 l3 kq gd BX
                    go_wp2
                    refine ret_of (by simp [results, Tryd.results15, go_sem, *]; repeat' (first | rfl | apply And.intro)) rfl ⟨?_, below_call k3 kd⟩
                    rw [E.out]
                  · have f5 : (y2 == z2) = false := by simpa using g5
                    have HN := Lib.hid (show refT l (momS l) k lo hi L gh = R by
                      rw [← HNX.out, if_neg]
                      intro hp
                      rw [PK.out] at hp
                      simp [g5] at hp)
                    clear HNX g1 g2 g3 g4 g5
                    go_wp2_with fail
                    obtain ⟨wq, hwq⟩ : ∃ y, y = wr.alloc (.cells #[.int .i64 (xn : Int), .int .i64 xa, .int .i64 xb, .int .i64 xk, .int .i64 xt] 48) := ⟨_, rfl⟩
                    have BX : Blk wq wr.heap.size 48 #[.int .i64 (xn : Int), .int .i64 xa, .int .i64 xb, .int .i64 xk, .int .i64 xt] := by rw [hwq]; exact Blk.new _ _ _
                    have kq0 : Below wr.heap.size wr wq := by rw [hwq]; exact below_alloc (Below.refl _ _) _
                    have kq := below_call kr kq0
                    rw [← hwq]
                    have v0 := BX.cell 0
                    have v1 := BX.cell 1
                    have v2 := BX.cell 2
                    have v4 := BX.cell 4
                    have vl := BX.lt
                    have p0 := (kq.cell (p := ⟨bs, os + xn * 5 + 4, none⟩) hbs).trans x4
                    have p1 := (kq.cell (p := ⟨bf, of + lo, none⟩) hbf).trans ya
                    have p2 := (kq.cell (p := ⟨bf, of + hi, none⟩) hbf).trans yb
                    have p3 := (kq.cell (p := ⟨bs, os + k * 5 + 4, none⟩) hbs).trans s4
                    have p4 := (kq.cell (p := ⟨be, oe + lo, none⟩) hbe).trans za
                    have p5 := (kq.cell (p := ⟨be, oe + hi, none⟩) hbe).trans zb
                    have l1 : bs < wq.heap.size := by have := kq.size; omega
                    have l2 : bf < wq.heap.size := by have := kq.size; omega
                    have l3 : be < wq.heap.size := by have := kq.size; omega
                    clear hwq c0 c1 c2 c3 c4 hbb kq0 x4 ya yb za zb s4 hbf hbe
                    refine wp_region_calm (by kernel_rfl) (by kernel_rfl) ?_
                    repeat (go_big_quiet_step (fail))
                    refine wpQuiet_nil ?_
                    intro wd gd
                    have kd := below_call kq gd
                    clear v0 v1 v2 v4 vl p0 p1 p2 p3 p4 p5 l1 l2 l3 kq gd BX
                    go_wp2_with fail
                    go_roundg gh
                    case measure => omega
                    case rel => exact ⟨rfl, by omega, kd, HN⟩
                · have f4 : (y1 == z1) = false := by simpa using g4
                  have HN := Lib.hid (show refT l (momS l) k lo hi L gh = R by
                    rw [← HNX.out, if_neg]
                    intro hp
                    rw [PK.out] at hp
                    simp [g4] at hp)
                  clear HNX g1 g2 g3 g4
                  go_wp2_with fail
                  obtain ⟨wq, hwq⟩ : ∃ y, y = wr.alloc (.cells #[.int .i64 (xn : Int), .int .i64 xa, .int .i64 xb, .int .i64 xk, .int .i64 xt] 48) := ⟨_, rfl⟩
                  have BX : Blk wq wr.heap.size 48 #[.int .i64 (xn : Int), .int .i64 xa, .int .i64 xb, .int .i64 xk, .int .i64 xt] := by rw [hwq]; exact Blk.new _ _ _
                  have kq0 : Below wr.heap.size wr wq := by rw [hwq]; exact below_alloc (Below.refl _ _) _
                  have kq := below_call kr kq0
                  rw [← hwq]
                  have v0 := BX.cell 0
                  have v1 := BX.cell 1
                  have v2 := BX.cell 2
                  have v4 := BX.cell 4
                  have vl := BX.lt
                  have p0 := (kq.cell (p := ⟨bs, os + xn * 5 + 4, none⟩) hbs).trans x4
                  have p1 := (kq.cell (p := ⟨bf, of + lo, none⟩) hbf).trans ya
                  have p2 := (kq.cell (p := ⟨bf, of + hi, none⟩) hbf).trans yb
                  have p3 := (kq.cell (p := ⟨bs, os + k * 5 + 4, none⟩) hbs).trans s4
                  have p4 := (kq.cell (p := ⟨be, oe + lo, none⟩) hbe).trans za
                  have p5 := (kq.cell (p := ⟨be, oe + hi, none⟩) hbe).trans zb
                  have l1 : bs < wq.heap.size := by have := kq.size; omega
                  have l2 : bf < wq.heap.size := by have := kq.size; omega
                  have l3 : be < wq.heap.size := by have := kq.size; omega
                  clear hwq c0 c1 c2 c3 c4 hbb kq0 x4 ya yb za zb s4 hbf hbe
                  refine wp_region_calm (by kernel_rfl) (by kernel_rfl) ?_
                  repeat (go_big_quiet_step (fail))
                  refine wpQuiet_nil ?_
                  intro wd gd
                  have kd := below_call kq gd
                  clear v0 v1 v2 v4 vl p0 p1 p2 p3 p4 p5 l1 l2 l3 kq gd BX
                  go_wp2_with fail
                  go_roundg gh
                  case measure => omega
                  case rel => exact ⟨rfl, by omega, kd, HN⟩
              · have f3 : decide (xn ≤ k) = false := by simpa using g3
                have HN := Lib.hid (show refT l (momS l) k lo hi L gh = R by
                  rw [← HNX.out, if_neg]
                  intro hp
                  rw [PK.out] at hp
                  simp [g3] at hp)
                clear HNX g1 g2 g3
                go_wp2_with fail
                obtain ⟨wq, hwq⟩ : ∃ y, y = wr.alloc (.cells #[.int .i64 (xn : Int), .int .i64 xa, .int .i64 xb, .int .i64 xk, .int .i64 xt] 48) := ⟨_, rfl⟩
                have BX : Blk wq wr.heap.size 48 #[.int .i64 (xn : Int), .int .i64 xa, .int .i64 xb, .int .i64 xk, .int .i64 xt] := by rw [hwq]; exact Blk.new _ _ _
                have kq0 : Below wr.heap.size wr wq := by rw [hwq]; exact below_alloc (Below.refl _ _) _
                have kq := below_call kr kq0
                rw [← hwq]
                have v0 := BX.cell 0
                have v1 := BX.cell 1
                have v2 := BX.cell 2
                have v4 := BX.cell 4
                have vl := BX.lt
                have p0 := (kq.cell (p := ⟨bs, os + xn * 5 + 4, none⟩) hbs).trans x4
                have p1 := (kq.cell (p := ⟨bf, of + lo, none⟩) hbf).trans ya
                have p2 := (kq.cell (p := ⟨bf, of + hi, none⟩) hbf).trans yb
                have p3 := (kq.cell (p := ⟨bs, os + k * 5 + 4, none⟩) hbs).trans s4
                have p4 := (kq.cell (p := ⟨be, oe + lo, none⟩) hbe).trans za
                have p5 := (kq.cell (p := ⟨be, oe + hi, none⟩) hbe).trans zb
                have l1 : bs < wq.heap.size := by have := kq.size; omega
                have l2 : bf < wq.heap.size := by have := kq.size; omega
                have l3 : be < wq.heap.size := by have := kq.size; omega
                clear hwq c0 c1 c2 c3 c4 hbb kq0 x4 ya yb za zb s4 hbf hbe
                refine wp_region_calm (by kernel_rfl) (by kernel_rfl) ?_
                repeat (go_big_quiet_step (fail))
                refine wpQuiet_nil ?_
                intro wd gd
                have kd := below_call kq gd
                clear v0 v1 v2 v4 vl p0 p1 p2 p3 p4 p5 l1 l2 l3 kq gd BX
                go_wp2_with fail
                go_roundg gh
                case measure => omega
                case rel => exact ⟨rfl, by omega, kd, HN⟩
            · have f2 : (xb == (hi : Int)) = false := by simpa using g2
              have HN := Lib.hid (show refT l (momS l) k lo hi L gh = R by
                rw [← HNX.out, if_neg]
                intro hp
                rw [PK.out] at hp
                simp [g2] at hp)
              clear HNX g1 g2
              go_wp2_with fail
              obtain ⟨wq, hwq⟩ : ∃ y, y = wr.alloc (.cells #[.int .i64 (xn : Int), .int .i64 xa, .int .i64 xb, .int .i64 xk, .int .i64 xt] 48) := ⟨_, rfl⟩
              have BX : Blk wq wr.heap.size 48 #[.int .i64 (xn : Int), .int .i64 xa, .int .i64 xb, .int .i64 xk, .int .i64 xt] := by rw [hwq]; exact Blk.new _ _ _
              have kq0 : Below wr.heap.size wr wq := by rw [hwq]; exact below_alloc (Below.refl _ _) _
              have kq := below_call kr kq0
              rw [← hwq]
              have v0 := BX.cell 0
              have v1 := BX.cell 1
              have v2 := BX.cell 2
              have v4 := BX.cell 4
              have vl := BX.lt
              have p0 := (kq.cell (p := ⟨bs, os + xn * 5 + 4, none⟩) hbs).trans x4
              have p1 := (kq.cell (p := ⟨bf, of + lo, none⟩) hbf).trans ya
              have p2 := (kq.cell (p := ⟨bf, of + hi, none⟩) hbf).trans yb
              have p3 := (kq.cell (p := ⟨bs, os + k * 5 + 4, none⟩) hbs).trans s4
              have p4 := (kq.cell (p := ⟨be, oe + lo, none⟩) hbe).trans za
              have p5 := (kq.cell (p := ⟨be, oe + hi, none⟩) hbe).trans zb
              have l1 : bs < wq.heap.size := by have := kq.size; omega
              have l2 : bf < wq.heap.size := by have := kq.size; omega
              have l3 : be < wq.heap.size := by have := kq.size; omega
              clear hwq c0 c1 c2 c3 c4 hbb kq0 x4 ya yb za zb s4 hbf hbe
              refine wp_region_calm (by kernel_rfl) (by kernel_rfl) ?_
              repeat (go_big_quiet_step (fail))
              refine wpQuiet_nil ?_
              intro wd gd
              have kd := below_call kq gd
              clear v0 v1 v2 v4 vl p0 p1 p2 p3 p4 p5 l1 l2 l3 kq gd BX
              go_wp2_with fail
              go_roundg gh
              case measure => omega
              case rel => exact ⟨rfl, by omega, kd, HN⟩
          · have f1 : (xa == (lo : Int)) = false := by simpa using g1
            have HN := Lib.hid (show refT l (momS l) k lo hi L gh = R by
              rw [← HNX.out, if_neg]
              intro hp
              rw [PK.out] at hp
              simp [g1] at hp)
            clear HNX g1
            go_wp2_with fail
            obtain ⟨wq, hwq⟩ : ∃ y, y = wr.alloc (.cells #[.int .i64 (xn : Int), .int .i64 xa, .int .i64 xb, .int .i64 xk, .int .i64 xt] 48) := ⟨_, rfl⟩
            have BX : Blk wq wr.heap.size 48 #[.int .i64 (xn : Int), .int .i64 xa, .int .i64 xb, .int .i64 xk, .int .i64 xt] := by rw [hwq]; exact Blk.new _ _ _
            have kq0 : Below wr.heap.size wr wq := by rw [hwq]; exact below_alloc (Below.refl _ _) _
            have kq := below_call kr kq0
            rw [← hwq]
            have v0 := BX.cell 0
            have v1 := BX.cell 1
            have v2 := BX.cell 2
            have v4 := BX.cell 4
            have vl := BX.lt
            have p0 := (kq.cell (p := ⟨bs, os + xn * 5 + 4, none⟩) hbs).trans x4
            have p1 := (kq.cell (p := ⟨bf, of + lo, none⟩) hbf).trans ya
            have p2 := (kq.cell (p := ⟨bf, of + hi, none⟩) hbf).trans yb
            have p3 := (kq.cell (p := ⟨bs, os + k * 5 + 4, none⟩) hbs).trans s4
            have p4 := (kq.cell (p := ⟨be, oe + lo, none⟩) hbe).trans za
            have p5 := (kq.cell (p := ⟨be, oe + hi, none⟩) hbe).trans zb
            have l1 : bs < wq.heap.size := by have := kq.size; omega
            have l2 : bf < wq.heap.size := by have := kq.size; omega
            have l3 : be < wq.heap.size := by have := kq.size; omega
            clear hwq c0 c1 c2 c3 c4 hbb kq0 x4 ya yb za zb s4 hbf hbe
            refine wp_region_calm (by kernel_rfl) (by kernel_rfl) ?_
            repeat (go_big_quiet_step (fail))
            refine wpQuiet_nil ?_
            intro wd gd
            have kd := below_call kq gd
            clear v0 v1 v2 v4 vl p0 p1 p2 p3 p4 p5 l1 l2 l3 kq gd BX
            go_wp2_with fail
            go_roundg gh
            case measure => omega
            case rel => exact ⟨rfl, by omega, kd, HN⟩
theorem rtreatn_eq (A : Option Addr) (n c : Nat) (l : List (List Ev)) (w : World) (h : ReadsV w w.heap.size A n l) (hn : n ≤ 9223372036854775807) (k a : Nat) (he : (slicesE l).2 = 0) (hk : k < (momS l).length - 1) (ha : a < n) :
    Calls Tryd.prog 15 #[.slice A n c, .int .i64 k, .int .i64 a, .int .i64 a] w fun e w' => e = .returned (.tuple #[.int .i64 (treatsE l k a a).1, .int .i64 (treatsE l k a a).2]) ∧ Below w.heap.size w w' := by
  have q1 := rslices_ok A n c l w h hn he
  obtain ⟨K0, hK0⟩ : ∃ K, K = (momS l).length - 1 := ⟨_, rfl⟩
  have HK0 := Lib.hid hK0
  have E := Lib.hid (treatsE_none he hK0 h.len (k := k) (by rw [hK0]; exact hk) ha ha (.inl rfl))
  rw [← hK0] at hk
  clear he h hK0
  go_enter Tryd.func15, Tryd.ntmps15
  go_wp2_with fail
  refine q1.mono ?_
  rintro e w1 ⟨S, K, d, rfl, hs, k1⟩
  have hK : K = K0 := by rw [HK0.out]; exact hs.many
  subst hK
  have d1 : decide (K ≤ k) = false := by simp; omega
  have d2 : decide (n ≤ a) = false := by simp; omega
  clear hs
  go_wp2
  refine ret_of (by simp [results, Tryd.results15, go_sem, *]; repeat' (first | rfl | apply And.intro)) rfl ⟨?_, k1⟩
  rw [E.out]
theorem rtreatn_any (A : Option Addr) (n c : Nat) (l : List (List Ev)) (w : World) (h : ReadsV w w.heap.size A n l) (hn : n ≤ 9223372036854775807) (m a b : Int) :
    Calls Tryd.prog 15 #[.slice A n c, .int .i64 m, .int .i64 a, .int .i64 b] w fun e w' => e = .returned (.tuple #[.int .i64 (treatsE l m a b).1, .int .i64 (treatsE l m a b).2]) ∧ Below w.heap.size w w' := by
  by_cases he : (slicesE l).2 = 0
  · by_cases ho : m < 0 ∨ (((momS l).length - 1 : Nat) : Int) ≤ m ∨ a < 0 ∨ (n : Int) ≤ a ∨ b < 0 ∨ (n : Int) ≤ b
    · exact rtreatn_out A n c l w h hn m a b he ho
    · obtain ⟨k, rfl⟩ : ∃ k : Nat, m = (k : Int) := ⟨m.toNat, by omega⟩
      obtain ⟨a, rfl⟩ : ∃ k : Nat, a = (k : Int) := ⟨a.toNat, by omega⟩
      obtain ⟨b, rfl⟩ : ∃ k : Nat, b = (k : Int) := ⟨b.toNat, by omega⟩
      rcases Nat.lt_trichotomy a b with h1 | h1 | h1
      · exact rtreatn_in A n c l w h hn k a b a b he (by omega) (by omega) (by omega) (.inl ⟨h1, rfl, rfl⟩)
      · subst h1; exact rtreatn_eq A n c l w h hn k a he (by omega) (by omega)
      · exact rtreatn_in A n c l w h hn k a b b a he (by omega) (by omega) (by omega) (.inr ⟨h1, rfl, rfl⟩)
  · exact rtreatn_err A n c l w h hn m a b he
end Go.Proofs.YtmlcnmnpkemdpaaDoor
