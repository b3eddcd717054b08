/- Parts of the proof of LawRounds31: FiRApi. -/
import Derived.Test.YtpkmiegccfhpnaaGreatDoorR22
set_option maxRecDepth 100000
set_option maxHeartbeats 16000000
namespace Go.Proofs.YtpkmiegccfhpnaaGreatDoor
open Go.RowKit
def RdsRet (l : List (List Ev)) (w : World) (e : Ending) (w' : World) : Prop :=
 ∃ u T k m, e = .returned (.tuple #[u, .int .i64 ((k : Nat) : Int)]) ∧ w'.ownsRow w.heap.size 39 4 u T.length (csFic T) ∧ RdsL l T k m ∧ RndL (withL l T) T [] ∧ Below w.heap.size w w'
theorem RdsL.low_ {l : List (List Ev)} {T : List Fic} {k m : Nat} (h : RdsL l T k m) (hl : SetV l) : k ≤ 16000 := by
 have h1 := (allF_spec l).2.1
 have h2 := h.num
 have h3 := plc_few hl
 omega
theorem rrounds_ok {w : World} (A : Option Addr) (n c : Nat) (l : List (List Ev)) (B : Nat) (hV : ReadsV w B A n l) (hB : B ≤ w.heap.size) (hl : SetV l) (hs : (slicesE l).2 = 0) :
  Calls Tryz.prog 46 #[.slice A n c] w fun e w' => RdsRet l w e w' := by
 obtain ⟨i0, hi0, hz0, hz1, hz2⟩ := info_parts fic_info
 have HV := Lib.hid hV
 have hn8 : n ≤ 8 := by have := hV.len; have := hl.len; omega
 have HSL := Lib.hid hl
 have HSS := Lib.hid hs
 have H0 := Lib.hid (RdsL.start l)
 obtain ⟨F, hF⟩ : ∃ z, z = (plcL l).length := ⟨_, rfl⟩
 rw [← hF] at H0
 have hF2 : F ≤ 16000 := by rw [hF]; exact plc_few hl
 clear hV hl hs hF
 go_enter Tryz.func46, Tryz.ntmps46
 go_wp2_with fail
 go_loopg [4, 5, 6] F (fun gh u nn _ wr => ∃ (k : Nat) (T : List Fic), RdsL l T k gh ∧ nn = .int .i64 (k : Int) ∧ wr.ownsRow w.heap.size 39 4 u T.length (csFic T) ∧ Below w.heap.size w wr)
 case atStart => exact ⟨0, [], H0.out, by simp, ⟨rfl, .inl ⟨rfl, rfl⟩⟩, Below.refl _ _⟩
 case round =>
  obtain ⟨k, T, hR, rfl, how, kr⟩ := hrel
  have hk16 := hR.low_ HSL.out
  have hT16 : T.length ≤ 16000 := Nat.le_trans hR.few (plc_few HSL.out)
  have wk : IntKind.i64.wrap ((k : Int) + 1) = (k : Int) + 1 := IntWalk.i64_in _ (by omega)
  obtain ⟨A2, c2, rfl, -, -, -⟩ := own_reads how
  obtain ⟨m, hm⟩ : ∃ z, z = T.length := ⟨_, rfl⟩
  rw [← hm] at how hT16 ⊢
  have HM := Lib.hid hm
  have q1 := rmade_ok A n c l B wr (HV.out.below hB kr) (Nat.le_trans hB kr.size) (by omega) (fun v hv => by have := HSL.out.few v hv; omega) A2 m c2 T wr.heap.size (own_rd how) (Nat.le_refl _) (by omega) hR.good
  have HR := Lib.hid hR
  have HOW := Lib.hid how
  have HKR := Lib.hid kr
  clear hm hR how kr
  obtain ⟨wo, hwo⟩ : ∃ z, z = wr := ⟨_, rfl⟩
  subst hwo
  go_wp2_with fail
  refine q1.mono ?_
  rintro e w2 ⟨A9, c9, rfl, rv, b2⟩
  have k2 := below_call HKR.out b2
  have how2 := own_call HOW.out b2
  have q2 := rround_ok A9 n c9 (withL l T) w2.heap.size rv (Nat.le_refl _) (HR.out.set HSL.out) (HR.out.sl HSS.out) A2 m c2 T w2.heap.size (own_rd how2) (Nat.le_refl _) (by omega)
  clear q1 rv b2
  go_wp2_with fail
  refine q2.mono ?_
  rintro e w3 ⟨u3, O, rfl, ho3, hO, b3⟩
  have k3 := below_call k2 b3
  have how3 := own_call how2 b3
  obtain ⟨A7, c7, rfl, hrd3, -, -⟩ := own_reads ho3
  have hO16 : O.length ≤ 16000 := by
   have h1 := hO.pro.few
   rw [HR.out.beh.plc] at h1
   exact Nat.le_trans h1 (plc_few HSL.out)
  obtain ⟨N, hN⟩ : ∃ z, z = O.length := ⟨_, rfl⟩
  rw [← hN] at ho3 hrd3 hO16 ⊢
  have HN := Lib.hid hN
  have HO := Lib.hid hO
  clear q2 b3 k2 how2 hN hO ho3
  by_cases h0 : N = 0
  ·have hb0 : ((N : Int) == 0) = true := by simp [h0]
   have HX := Lib.hid (show RdsRet l w (.returned (.tuple #[.slice A2 m c2, .int .i64 (k : Int)])) w3 from ⟨_, T, k, _, rfl, by rw [← HM.out]; exact how3, HR.out, by
    have h1 : O = [] := List.length_eq_zero_iff.1 (by rw [← HN.out]; exact h0)
    have h2 := HO.out
    rwa [h1] at h2, k3⟩)
   have h0' : (N == 0) = true := by simp [h0]
   clear h0 how3 hrd3 k3 HR
   go_wp2
   refine ret_of (by simp [results, Tryz.results46, go_sem, *]; repeat' (first | rfl | apply And.intro)) rfl HX.out
  ·have hb0 : ((N : Int) == 0) = false := by simp [h0]
   have h0' : (N == 0) = false := by simp [h0]
   obtain ⟨m', hm', hR'⟩ := HR.out.next HO.out (fun e => h0 (by rw [HN.out, e]; rfl))
   have HR' := Lib.hid hR'
   clear hR' h0
   go_wp2_with (at_builtin; (refine wpList_append_any _ rfl (.tmp 17) (.tmp 18) 23 rfl w.heap.size 39 i0 _ 4 32 Tryz.underlying23 hi0 hz0 hz1 hz2 rfl (by omega) (.slice A2 m c2) m (csFic T) rfl how3 w3.heap.size A7 N c7 (csFic O) rfl hrd3 (one_csFic O) (by simp only [maxLen]; omega) (by omega) k3.size ?_); intro v4 w4 hown4 hg4 hat4)
   have k4 : Below w.heap.size w w4 := Below.grown (B := w.heap.size) (a := w) k3 hg4 k3.size (fun z hz => (how3.lt z hz).1)
   have HX := Lib.hid (show w4.ownsRow w.heap.size 39 4 v4 (T ++ O).length (csFic (T ++ O)) by rw [csFic_append, List.length_append, ← HM.out, ← HN.out]; exact hown4)
   clear hown4 hg4 hat4 how3 hrd3 k3
   go_wp2_with fail
   go_roundg m'
   case measure => omega
   case rel => exact ⟨k + 1, T ++ O, HR'.out, by go_num, HX.out, k4⟩
theorem rRound_ok {w : World} (A : Option Addr) (n c : Nat) (l : List (List Ev)) (B : Nat) (hV : ReadsV w B A n l) (hB : B ≤ w.heap.size) (hn : n ≤ 1000) :
  Calls Tryz.prog 24 #[.slice A n c] w fun e w' => FRet (roundE l).1 (roundE l).2 w e w' := by
 have qs := refSlices_any A n c l B w hV hB (by omega)
 by_cases hs : (slicesE l).2 = 0
 ·have hl := set_of_slices hs
  have E := Lib.hid (show roundE l = (roundS l, 0) by unfold roundE; rw [if_neg (fun h => h hs)])
  have q1 := fun W (hW : Below w.heap.size w W) => rround_ok (w := W) A n c l B (hV.below hB hW) (Nat.le_trans hB hW.size) hl hs none 0 0 [] 0 Reads.none_ (Nat.zero_le _) (by omega)
  have HSL := Lib.hid hl
  rw [hs] at qs
  clear hV hl hs
  go_enter Tryz.func24, Tryz.ntmps24
  go_wp2_with fail
  refine qs.mono ?_
  rintro e w1 ⟨v, rfl, ho, hb1⟩
  clear qs ho
  go_wp2_with fail
  refine Calls.mono (q1 _ ?_) ?_
  ·exact hb1
  rintro e w2 ⟨u, O, rfl, ho, hO, hb2⟩
  have k2 := below_call hb1 hb2
  obtain ⟨A2, c2, rfl, hrd, -, -⟩ := own_reads ho
  have q2 := rord_ok A2 O.length c2 O w2.heap.size hrd (Nat.le_refl _) (by have := hO.pro.few; have := plc_few HSL.out; omega)
  have HO := Lib.hid hO
  clear q1 ho hrd hb1 hb2 hO
  go_wp2_with fail
  refine q2.mono ?_
  rintro e w3 ⟨u3, M, rfl, how, hp, hs, hb3⟩
  have HX := Lib.hid (show FRet (roundE l).1 (roundE l).2 w (.returned (.tuple #[u3, .int .i64 0])) w3 by
   rw [E.out]
   have e := RndL.list HO.out hp hs
   rw [e] at how
   exact ⟨u3, rfl, own_lower how k2.size, below_call k2 hb3⟩)
  clear q2 how hp hs hb3 k2
  go_wp2
  refine ret_of (by simp [results, Tryz.results24, go_sem, *]; repeat' (first | rfl | apply And.intro)) rfl HX.out
 ·have E := Lib.hid (show roundE l = ([], (slicesE l).2) by unfold roundE; rw [if_pos hs])
  obtain ⟨r, hr⟩ : ∃ z, z = (slicesE l).2 := ⟨_, rfl⟩
  rw [← hr] at qs hs E
  have b0 : (r != 0) = true := by simpa using hs
  clear hV hr hs
  go_enter Tryz.func24, Tryz.ntmps24
  go_wp2_with fail
  refine qs.mono ?_
  rintro e w1 ⟨v, rfl, ho, hb1⟩
  clear qs ho
  go_wp2
  refine ret_of (by simp [results, Tryz.results24, go_sem, *]; repeat' (first | rfl | apply And.intro)) rfl ?_
  rw [E.out]
  exact FRet.nil_ hb1
theorem rAll_ok {w : World} (A : Option Addr) (n c : Nat) (l : List (List Ev)) (B : Nat) (hV : ReadsV w B A n l) (hB : B ≤ w.heap.size) (hn : n ≤ 1000) :
  Calls Tryz.prog 25 #[.slice A n c] w fun e w' => FRet (allE l).1 (allE l).2 w e w' := by
 have qs := refSlices_any A n c l B w hV hB (by omega)
 by_cases hs : (slicesE l).2 = 0
 ·have hl := set_of_slices hs
  have E := Lib.hid (show allE l = (allFi l, 0) by unfold allE; rw [if_neg (fun h => h hs)])
  have q1 := fun W (hW : Below w.heap.size w W) => rrounds_ok (w := W) A n c l B (hV.below hB hW) (Nat.le_trans hB hW.size) hl hs
  have HSL := Lib.hid hl
  rw [hs] at qs
  clear hV hl hs
  go_enter Tryz.func25, Tryz.ntmps25
  go_wp2_with fail
  refine qs.mono ?_
  rintro e w1 ⟨v, rfl, ho, hb1⟩
  clear qs ho
  go_wp2_with fail
  refine Calls.mono (q1 _ ?_) ?_
  ·exact hb1
  rintro e w2 ⟨u, T, k, m, rfl, ho, hR, hO, hb2⟩
  have k2 := below_call hb1 hb2
  obtain ⟨A2, c2, rfl, hrd, -, -⟩ := own_reads ho
  have q2 := rord_ok A2 T.length c2 T w2.heap.size hrd (Nat.le_refl _) (by have := hR.few; have := plc_few HSL.out; omega)
  have HR := Lib.hid hR
  have HO := Lib.hid hO
  clear q1 ho hrd hb1 hb2 hO hR
  go_wp2_with fail
  refine q2.mono ?_
  rintro e w3 ⟨u3, M, rfl, how, hp, hs, hb3⟩
  have HX := Lib.hid (show FRet (allE l).1 (allE l).2 w (.returned (.tuple #[u3, .int .i64 0])) w3 by
   rw [E.out]
   have e := HR.out.list HO.out hp hs
   rw [e] at how
   exact ⟨u3, rfl, own_lower how k2.size, below_call k2 hb3⟩)
  clear q2 how hp hs hb3 k2
  go_wp2
  refine ret_of (by simp [results, Tryz.results25, go_sem, *]; repeat' (first | rfl | apply And.intro)) rfl HX.out
 ·have E := Lib.hid (show allE l = ([], (slicesE l).2) by unfold allE; rw [if_pos hs])
  obtain ⟨r, hr⟩ : ∃ z, z = (slicesE l).2 := ⟨_, rfl⟩
  rw [← hr] at qs hs E
  have b0 : (r != 0) = true := by simpa using hs
  clear hV hr hs
  go_enter Tryz.func25, Tryz.ntmps25
  go_wp2_with fail
  refine qs.mono ?_
  rintro e w1 ⟨v, rfl, ho, hb1⟩
  clear qs ho
  go_wp2
  refine ret_of (by simp [results, Tryz.results25, go_sem, *]; repeat' (first | rfl | apply And.intro)) rfl ?_
  rw [E.out]
  exact FRet.nil_ hb1
theorem rRounds_ok {w : World} (A : Option Addr) (n c : Nat) (l : List (List Ev)) (B : Nat) (hV : ReadsV w B A n l) (hB : B ≤ w.heap.size) (hn : n ≤ 1000) :
  Calls Tryz.prog 27 #[.slice A n c] w fun e w' => e = .returned (.tuple #[.int .i64 (roundsE l).1, .int .i64 (roundsE l).2]) ∧ Below w.heap.size w w' := by
 have qs := refSlices_any A n c l B w hV hB (by omega)
 by_cases hs : (slicesE l).2 = 0
 ·have hl := set_of_slices hs
  have E := Lib.hid (show roundsE l = (((allF l).2 : Int), 0) by unfold roundsE; rw [if_neg (fun h => h hs)])
  have q1 := fun W (hW : Below w.heap.size w W) => rrounds_ok (w := W) A n c l B (hV.below hB hW) (Nat.le_trans hB hW.size) hl hs
  rw [hs] at qs
  clear hV hl hs
  go_enter Tryz.func27, Tryz.ntmps27
  go_wp2_with fail
  refine qs.mono ?_
  rintro e w1 ⟨v, rfl, ho, hb1⟩
  clear qs ho
  go_wp2_with fail
  refine Calls.mono (q1 _ ?_) ?_
  ·exact hb1
  rintro e w2 ⟨u, T, k, m, rfl, ho, hR, hO, hb2⟩
  have k2 := below_call hb1 hb2
  have HX := Lib.hid (show roundsE l = ((k : Int), 0) by rw [E.out, (hR.stop hO).2])
  clear q1 ho hb1 hb2 hO hR
  go_wp2
  refine ret_of (by simp [results, Tryz.results27, go_sem, *]; repeat' (first | rfl | apply And.intro)) rfl ⟨?_, k2⟩
  rw [HX.out]
 ·have E := Lib.hid (show roundsE l = (0, (slicesE l).2) by unfold roundsE; rw [if_pos hs])
  obtain ⟨r, hr⟩ : ∃ z, z = (slicesE l).2 := ⟨_, rfl⟩
  rw [← hr] at qs hs E
  have b0 : (r != 0) = true := by simpa using hs
  clear hV hr hs
  go_enter Tryz.func27, Tryz.ntmps27
  go_wp2_with fail
  refine qs.mono ?_
  rintro e w1 ⟨v, rfl, ho, hb1⟩
  clear qs ho
  go_wp2
  refine ret_of (by simp [results, Tryz.results27, go_sem, *]; repeat' (first | rfl | apply And.intro)) rfl ⟨?_, hb1⟩
  rw [E.out]
end Go.Proofs.YtpkmiegccfhpnaaGreatDoor
