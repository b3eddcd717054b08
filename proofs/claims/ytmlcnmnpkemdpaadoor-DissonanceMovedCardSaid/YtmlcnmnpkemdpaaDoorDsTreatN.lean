
/- The program's Treat. -/
import Derived.Test.YtmlcnmnpkemdpaaDoorDsCount
namespace Go.Proofs.YtmlcnmnpkemdpaaDoor
open Go.RowKit
theorem treatsE_err {l : List (List Ev)} (m a b : Int) (h : (slicesE l).2 ≠ 0) : treatsE l m a b = (0, (slicesE l).2) := by unfold treatsE; rw [if_pos h]
theorem treatsE_out {l : List (List Ev)} {m a b : Int} (h : (slicesE l).2 = 0) {K n : Nat} (hK : K = (momS l).length - 1) (hn : l.length = n) (ho : m < 0 ∨ (K : Int) ≤ m ∨ a < 0 ∨ (n : Int) ≤ a ∨ b < 0 ∨ (n : Int) ≤ b) : treatsE l m a b = (0, 2) := by
  subst hK hn; unfold treatsE; rw [if_neg (fun hh => hh h), if_pos ho]
theorem treatsE_none {l : List (List Ev)} {k a b : Nat} (h : (slicesE l).2 = 0) {K n : Nat} (hK : K = (momS l).length - 1) (hn : l.length = n) (hk : k < K) (ha : a < n) (hb : b < n) (h0 : a = b ∨ clE l (mAt (momS l) k) a b = 0) : treatsE l k a b = (0, 0) := by
  subst hK hn
  unfold treatsE
  rw [if_neg (fun hh => hh h), if_neg (by omega), if_pos]
  rcases h0 with h0 | h0
  · exact .inl (by omega)
  · exact .inr (by simpa using h0)
theorem treatsE_in {l : List (List Ev)} {k a b : Nat} (h : (slicesE l).2 = 0) {K n : Nat} (hK : K = (momS l).length - 1) (hn : l.length = n) (hk : k < K) (ha : a < n) (hb : b < n) (h0 : a ≠ b) (h1 : clE l (mAt (momS l) k) a b ≠ 0) :
    treatsE l k a b = (treatD l (momS l) (backF l (momS l) a b (evI l (momS l) k a) (evI l (momS l) k b) k k) a b, 0) := by
  subst hK hn
  unfold treatsE
  rw [if_neg (fun hh => hh h), if_neg (by omega), if_neg]
  · simp only [Int.toNat_natCast]
  · rintro (h2 | h2)
    · omega
    · simp only [Int.toNat_natCast] at h2; exact h1 h2
theorem backF_le {l : List (List Ev)} {m : List Tm} {a b : Nat} {i k : Int} : ∀ (j f : Nat), j ≤ f → backF l m a b i k j f ≤ f := by
  intro j
  induction j with
  | zero => intro f _; exact Nat.le_refl _
  | succ j ih =>
    intro f hf
    unfold backF
    split
    · split
      · exact Nat.le_trans (ih j (Nat.le_refl _)) (by omega)
      · exact ih f (by omega)
    · exact Nat.le_refl _
set_option maxRecDepth 100000 in
set_option maxHeartbeats 4000000 in
theorem treatn_err (A : Option Addr) (n c : Nat) (l : List (List Ev)) (w : World) (h : ReadsV w w.heap.size A n l) (hn : n ≤ 9223372036854775807) (m a b : Int) (he : (slicesE l).2 ≠ 0) :
    Calls Tryd.prog 14 #[.slice A n c, .int .i64 m, .int .i64 a, .int .i64 b] w fun e w' => e = .returned (.tuple #[.int .i64 (treatsE l m a b).1, .int .i64 (treatsE l m a b).2]) ∧ Below w.heap.size w w' := by
  have E := Lib.hid (treatsE_err m a b he)
  have q1 := begin_err A n c l w h hn he
  have hne : ((slicesE l).2 != 0) = true := by simpa using he
  obtain ⟨er, her⟩ : ∃ x, x = (slicesE l).2 := ⟨_, rfl⟩
  rw [← her] at q1 hne E
  clear he h her
  go_enter Tryd.func14, Tryd.ntmps14
  go_wp2_with fail
  refine q1.mono ?_
  rintro e w1 ⟨rfl, k1⟩
  go_wp2
  refine ret_of (by simp [results, Tryd.results14, go_sem, *]; repeat' (first | rfl | apply And.intro)) rfl ⟨?_, k1⟩
  rw [E.out]
set_option maxRecDepth 100000 in
set_option maxHeartbeats 4000000 in
theorem treatn_out (A : Option Addr) (n c : Nat) (l : List (List Ev)) (w : World) (h : ReadsV w w.heap.size A n l) (hn : n ≤ 9223372036854775807) (ht : Tabs w) (m a b : Int) (he : (slicesE l).2 = 0) (ho : m < 0 ∨ (((momS l).length - 1 : Nat) : Int) ≤ m ∨ a < 0 ∨ (n : Int) ≤ a ∨ b < 0 ∨ (n : Int) ≤ b) :
    Calls Tryd.prog 14 #[.slice A n c, .int .i64 m, .int .i64 a, .int .i64 b] w fun e w' => e = .returned (.tuple #[.int .i64 (treatsE l m a b).1, .int .i64 (treatsE l m a b).2]) ∧ Below w.heap.size w w' := by
  have q1 := begin_ok A n c l w h hn he ht
  obtain ⟨K0, hK0⟩ : ∃ K, K = (momS l).length - 1 := ⟨_, rfl⟩
  rw [← hK0] at ho
  have E := Lib.hid (treatsE_out he hK0 h.len ho)
  have HK0 := Lib.hid hK0
  clear he h hK0
  go_enter Tryd.func14, Tryd.ntmps14
  go_wp2_with fail
  refine q1.mono ?_
  rintro e w1 ⟨g, S, Q, K, d, q, rfl, hs, k1⟩
  have hK : K = K0 := by rw [HK0.out]; exact hs.stg.many
  subst hK
  have g1 := hs.c1
  have gl := hs.lt
  clear hs
  go_wp2_with fail
  all_goals first
    | (exfalso; omega)
    | (refine ret_of (by simp [results, Tryd.results14, go_sem, *]; repeat' (first | rfl | apply And.intro)) rfl ⟨?_, k1⟩; rw [E.out])
set_option maxRecDepth 100000 in
set_option maxHeartbeats 8000000 in
theorem treatn_in (A : Option Addr) (n c : Nat) (l : List (List Ev)) (w : World) (h : ReadsV w w.heap.size A n l) (hn : n ≤ 9223372036854775807) (ht : Tabs w) (k a b : Nat) (he : (slicesE l).2 = 0) (hk : k < (momS l).length - 1) (ha : a < n) (hb : b < n) :
    Calls Tryd.prog 14 #[.slice A n c, .int .i64 k, .int .i64 a, .int .i64 b] w fun e w' => e = .returned (.tuple #[.int .i64 (treatsE l k a b).1, .int .i64 (treatsE l k a b).2]) ∧ Below w.heap.size w w' := by
  have q1 := begin_ok A n c l w h hn he ht
  obtain ⟨K0, hK0⟩ : ∃ K, K = (momS l).length - 1 := ⟨_, rfl⟩
  have HK0 := Lib.hid hK0
  have HNO := Lib.hid (fun h0 => treatsE_none he hK0 h.len (k := k) (by rw [hK0]; exact hk) ha hb h0)
  have HIN := Lib.hid (fun h0 h1 => treatsE_in he hK0 h.len (k := k) (by rw [hK0]; exact hk) ha hb h0 h1)
  rw [← hK0] at hk
  clear he h hK0
  go_enter Tryd.func14, Tryd.ntmps14
  go_wp2_with fail
  refine q1.mono ?_
  rintro e w1 ⟨g, S, Q, K, d, q, rfl, hs, k1⟩
  have hK : K = K0 := by rw [HK0.out]; exact hs.stg.many
  subst hK
  have g1 := hs.c1
  have gl := hs.lt
  obtain ⟨hK8, hn8⟩ := hs.stg.big
  have d1 : decide (K ≤ k) = false := by simp; omega
  have d2 : decide (n ≤ a) = false := by simp; omega
  have d3 : decide (n ≤ b) = false := by simp; omega
  by_cases hab : a = b
  · have E := Lib.hid (HNO.out (.inl hab))
    have dab : (a == b) = true := by simpa using hab
    subst hab
    clear hs HNO HIN
    go_wp2
    refine ret_of (by simp [results, Tryd.results14, go_sem, *]; repeat' (first | rfl | apply And.intro)) rfl ⟨?_, k1⟩
    rw [E.out]
  · have dab : (a == b) = false := by simpa using hab
    have dab2 : ((a : Int) == (b : Int)) = false := by simp; omega
    have q2 := clash_ok hs hk ha hb
    by_cases hc : clE l (mAt (momS l) k) a b = 0
    · have E := Lib.hid (HNO.out (.inr hc))
      rw [hc] at q2
      clear hs HNO HIN hc
      go_wp2_with fail
      refine q2.mono ?_
      rintro e w2 ⟨rfl, k2⟩
      go_wp2
      refine ret_of (by simp [results, Tryd.results14, go_sem, *]; repeat' (first | rfl | apply And.intro)) rfl ⟨?_, below_call k1 k2⟩
      rw [E.out]
    · have E0 := Lib.hid (HIN.out hab hc)
      have dc : (clE l (mAt (momS l) k) a b == 0) = false := by simpa using hc
      obtain ⟨cl, hcl⟩ : ∃ z, z = clE l (mAt (momS l) k) a b := ⟨_, rfl⟩
      rw [← hcl] at q2 dc
      obtain ⟨bs, os, be, oe, ce, rfl, hbs, hbe, _, _, s4, y0⟩ := hs.slice (Below.refl _ _) hk ha
      have ya := y0 a ha
      have yb := y0 b hb
      have HS := Lib.hid (fun j (hj : j < K) => hs.slice2 (Below.refl _ _) hj ha)
      have HC := Lib.hid (fun W (hW : Below w1.heap.size w1 W) j (hj : j < K) => clash_ok (hs.kept hW) hj ha hb)
      have HT := Lib.hid (fun W (hW : Below w1.heap.size w1 W) j (hj : j < K) => treat_ok (hs.kept hW) hj ha hb ((ht.kept k1).kept hW))
      obtain ⟨ea, hea⟩ : ∃ z, z = evI l (momS l) k a := ⟨_, rfl⟩
      obtain ⟨eb, heb⟩ : ∃ z, z = evI l (momS l) k b := ⟨_, rfl⟩
      rw [← hea] at ya E0
      rw [← heb] at yb E0
      obtain ⟨R, hR⟩ : ∃ R, R = backF l (momS l) a b ea eb k k := ⟨_, rfl⟩
      rw [← hR] at E0
      have hRk : R ≤ k := by rw [hR]; exact backF_le k k (Nat.le_refl _)
      have E := Lib.hid E0.out
      have HR := Lib.hid hR.symm
      have dk : (k : Int) < (K : Int) := by omega
      have da : (a : Int) < (n : Int) := by omega
      have db : (b : Int) < (n : Int) := by omega
      have wk : IntKind.i64.wrap ((k : Int) - 1) = (k : Int) - 1 := IntWalk.i64_in _ (by omega)
      clear hs HNO HIN hc hcl hea heb hR E0 y0 ht
      go_wp2_with fail
      refine q2.mono ?_
      rintro e w2 ⟨rfl, k2⟩
      have z2 := k2.size
      have g1' := (k2.cell (p := ⟨g, 1, none⟩) gl).trans g1
      have s4' := (k2.cell (p := ⟨bs, os + k * 5 + 4, none⟩) hbs).trans s4
      have ya' := (k2.cell (p := ⟨be, oe + a, none⟩) hbe).trans ya
      have yb' := (k2.cell (p := ⟨be, oe + b, none⟩) hbe).trans yb
      have l1 : g < w2.heap.size := by omega
      have l2 : bs < w2.heap.size := by omega
      have l3 : be < w2.heap.size := by omega
      clear s4 ya yb z2
      go_wp2_with fail
      refine wp_region_calm (by kernel_rfl) (by kernel_rfl) ?_
      repeat (go_big_quiet_step (fail))
      refine wpQuiet_nil ?_
      intro w3 k3'
      have k3 := below_call k2 k3'
      clear g1' s4' ya' yb' l1 l2 l3 k3' k2
      go_wp2_with fail
      go_loopg [14, 15] k (fun gh f x wr => ∃ F : Nat, F ≤ k ∧ f = .int .i64 (F : Int) ∧ x = .int .i64 ((gh : Int) - 1) ∧ gh ≤ k ∧ Below w1.heap.size w1 wr ∧ Hid (backF l (momS l) a b ea eb gh F = R))
      case atStart => exact ⟨k, Nat.le_refl _, rfl, by go_num, Nat.le_refl _, k3, HR⟩
      case round =>
        obtain ⟨F, hF, rfl, rfl, hgk, kr, hres⟩ := hrel
        cases gk with
        | zero =>
          rw [show ((0 : Nat) : Int) - 1 = -1 from rfl]
          have HF := Lib.hid (show F = R from hres.out)
          have q3 := HT.out wr kr F (by omega)
          clear hres hgk hF wk
          go_wp2_with fail
          refine q3.mono ?_
          rintro e w5 ⟨rfl, b5⟩
          go_wp2
          refine ret_of (by simp [results, Tryd.results14, go_sem, *]; repeat' (first | rfl | apply And.intro)) rfl ⟨?_, below_call k1 (below_call kr b5)⟩
          rw [E.out, ← HF.out]
        | succ gh =>
          obtain ⟨bf, of, cf, _, hbf, _, _, x4, y0⟩ := HS.out gh (by omega)
          have za := (kr.cell (p := ⟨bf, of + a, none⟩) hbf).trans (y0 a ha)
          have zb := (kr.cell (p := ⟨bf, of + b, none⟩) hbf).trans (y0 b hb)
          have x4' := (kr.cell (p := ⟨bs, os + gh * 5 + 4, none⟩) hbs).trans x4
          have g1' := (kr.cell (p := ⟨g, 1, none⟩) gl).trans g1
          have zr := kr.size
          have l1 : g < wr.heap.size := by omega
          have l2 : bs < wr.heap.size := by omega
          have l3 : bf < wr.heap.size := by omega
          have q3 := HC.out wr kr gh (by omega)
          have q4 := fun W (hW : Below w1.heap.size w1 W) => HT.out W hW F (by omega)
          have hnx : (if evI l (momS l) gh a = ea ∧ evI l (momS l) gh b = eb then backF l (momS l) a b ea eb gh (if clE l (mAt (momS l) gh) a b ≠ 0 then gh else F) else F) = R := hres.out
          obtain ⟨fa, hfa⟩ : ∃ z, z = evI l (momS l) gh a := ⟨_, rfl⟩
          obtain ⟨fb, hfb⟩ : ∃ z, z = evI l (momS l) gh b := ⟨_, rfl⟩
          obtain ⟨cg, hcg⟩ : ∃ z, z = clE l (mAt (momS l) gh) a b := ⟨_, rfl⟩
          rw [← hfa] at za hnx
          rw [← hfb] at zb hnx
          rw [← hcg] at q3 hnx
          have HNX := Lib.hid hnx
          have d0 : ((gh + 1 : Nat) : Int) - 1 = (gh : Int) := by omega
          have dg : (gh : Int) < (K : Int) := by omega
          have dg0 : (0 : Int) ≤ (gh : Int) := by omega
          have wg : IntKind.i64.wrap ((gh : Int) - 1) = (gh : Int) - 1 := IntWalk.i64_in _ (by omega)
          rw [d0]
          clear x4 y0 hfa hfb hcg hnx hres zr d0
          by_cases e1 : fa = ea
          · have f1 : (fa == ea) = true := by simpa using e1
            by_cases e2 : fb = eb
            · have f2 : (fb == eb) = true := by simpa using e2
              by_cases e3 : cg = 0
              · have f3 : (cg != 0) = false := by simpa using e3
                have HN := Lib.hid (show backF l (momS l) a b ea eb gh F = R by rw [← HNX.out, if_pos ⟨e1, e2⟩, if_neg (fun hh => hh e3)])
                clear HNX e1 e2 e3 q4
                go_wp2_with fail
                refine q3.mono ?_
                rintro e w5 ⟨rfl, b5⟩
                have k5 := below_call kr b5
                go_wp2_with fail
                go_roundg gh
                case measure => omega
                case rel => exact ⟨F, hF, rfl, by go_num, by omega, k5, HN⟩
              · have f3 : (cg != 0) = true := by simpa using e3
                have HN := Lib.hid (show backF l (momS l) a b ea eb gh gh = R by rw [← HNX.out, if_pos ⟨e1, e2⟩, if_pos e3])
                clear HNX e1 e2 e3 q4
                go_wp2_with fail
                refine q3.mono ?_
                rintro e w5 ⟨rfl, b5⟩
                have k5 := below_call kr b5
                go_wp2_with fail
                go_roundg gh
                case measure => omega
                case rel => exact ⟨gh, by omega, rfl, by go_num, by omega, k5, HN⟩
            · have f2 : (fb == eb) = false := by simpa using e2
              have HF := Lib.hid (show F = R by rw [← HNX.out, if_neg (fun hh => e2 hh.2)])
              have q5 := q4 wr kr
              clear HNX e1 e2 q3 q4
              go_wp2_with fail
              refine q5.mono ?_
              rintro e w5 ⟨rfl, b5⟩
              go_wp2
              refine ret_of (by simp [results, Tryd.results14, go_sem, *]; repeat' (first | rfl | apply And.intro)) rfl ⟨?_, below_call k1 (below_call kr b5)⟩
              rw [E.out, ← HF.out]
          · have f1 : (fa == ea) = false := by simpa using e1
            have HF := Lib.hid (show F = R by rw [← HNX.out, if_neg (fun hh => e1 hh.1)])
            have q5 := q4 wr kr
            clear HNX e1 q3 q4
            go_wp2_with fail
            refine q5.mono ?_
            rintro e w5 ⟨rfl, b5⟩
            go_wp2
            refine ret_of (by simp [results, Tryd.results14, go_sem, *]; repeat' (first | rfl | apply And.intro)) rfl ⟨?_, below_call k1 (below_call kr b5)⟩
            rw [E.out, ← HF.out]
theorem treatn_any (A : Option Addr) (n c : Nat) (l : List (List Ev)) (w : World) (h : ReadsV w w.heap.size A n l) (hn : n ≤ 9223372036854775807) (ht : Tabs w) (m a b : Int) :
    Calls Tryd.prog 14 #[.slice A n c, .int .i64 m, .int .i64 a, .int .i64 b] w fun e w' => e = .returned (.tuple #[.int .i64 (treatsE l m a b).1, .int .i64 (treatsE l m a b).2]) ∧ Below w.heap.size w w' := by
  by_cases he : (slicesE l).2 = 0
  · by_cases ho : m < 0 ∨ (((momS l).length - 1 : Nat) : Int) ≤ m ∨ a < 0 ∨ (n : Int) ≤ a ∨ b < 0 ∨ (n : Int) ≤ b
    · exact treatn_out A n c l w h hn ht m a b he ho
    · obtain ⟨k, rfl⟩ : ∃ k : Nat, m = (k : Int) := ⟨m.toNat, by omega⟩
      obtain ⟨a, rfl⟩ : ∃ k : Nat, a = (k : Int) := ⟨a.toNat, by omega⟩
      obtain ⟨b, rfl⟩ : ∃ k : Nat, b = (k : Int) := ⟨b.toNat, by omega⟩
      exact treatn_in A n c l w h hn ht k a b he (by omega) (by omega) (by omega)
  · exact treatn_err A n c l w h hn m a b he
end Go.Proofs.YtmlcnmnpkemdpaaDoor
