
/- The law's own function: two voices that end together. -/
import Derived.Test.YtigfcbofbcpiaaaDoorPaFacts
import Derived.Test.YtigfcbofbcpiaaaDoorEvents
import Derived.BigRegion
import Derived.Test.YtigfcbofbcpiaaaDoorSteps
namespace Go.Proofs.YtigfcbofbcpiaaaDoor
open Go.RowKit
def LevelRet (a b : List Ev) (w : World) (e : Ending) (w' : World) : Prop := ∃ A c A' c', e = .returned (.tuple #[.slice A a.length c, .slice A' b.length c']) ∧ Reads w' w'.heap.size 10 A a.length (csE a) ∧ Reads w' w'.heap.size 10 A' b.length (csE b) ∧ Below w.heap.size w w'
set_option maxRecDepth 100000 in
set_option maxHeartbeats 8000000 in
theorem level_any (A A' : Option Addr) (n n' c c' : Nat) (La Lb : List (Int × Pay)) (w : World) (ha : Reads w w.heap.size 10 A n (csE (lay 24 0 La))) (hb : Reads w w.heap.size 10 A' n' (csE (lay 24 0 Lb))) (sa : ∀ z ∈ La, small z) (sb : ∀ z ∈ Lb, small z) (hn : n ≤ 12) (hn' : n' ≤ 12) :
    Calls Tryd.prog 29 #[.slice A n c, .slice A' n' c'] w fun e w' => LevelRet (lay 24 0 (levZ La Lb)) (lay 24 0 (levZ Lb La)) w e w' := by
  have la : La.length = n := by have := ha.evlen; rwa [lay_len] at this
  have lb : Lb.length = n' := by have := hb.evlen; rwa [lay_len] at this
  have fa := small_fit sa (by omega)
  have fb := small_fit sb (by omega)
  have ta := small_sum _ sa
  have tb := small_sum _ sb
  have i1 := inq_of okq24 (sumM_nonneg fa.1) (show sumM La ≤ 1099511627776 by omega)
  have i2 := inq_of okq24 (sumM_nonneg fb.1) (show sumM Lb ≤ 1099511627776 by omega)
  obtain ⟨e1, k1⟩ := endK_lay okq24 fa
  obtain ⟨e2, k2⟩ := endK_lay okq24 fb
  obtain ⟨⟨p0, p1⟩, ⟨q0, q1⟩, ⟨r0, r1⟩, hpos, hneg, ht1, ht2⟩ := lev_facts i1 i2
  have hlt1 : sumM La < sumM Lb → lay 24 0 (levZ La Lb) = lay 24 0 La ++ [⟨cq 24 (sumM La), cq 24 (sumM Lb - sumM La), (0, 0, 0), true, 0, 0⟩] := lev_lt
  have hlt2 : sumM Lb < sumM La → lay 24 0 (levZ Lb La) = lay 24 0 Lb ++ [⟨cq 24 (sumM Lb), cq 24 (sumM La - sumM Lb), (0, 0, 0), true, 0, 0⟩] := lev_lt
  have hge1 : ¬ sumM La < sumM Lb → lay 24 0 (levZ La Lb) = lay 24 0 La := lev_ge
  have hge2 : ¬ sumM Lb < sumM La → lay 24 0 (levZ Lb La) = lay 24 0 Lb := lev_ge
  have hal : (lay 24 0 La).length = n := by rw [lay_len, la]
  have hbl : (lay 24 0 Lb).length = n' := by rw [lay_len, lb]
  have hq1 := endOf_any A n c _ w ha (by omega) k1
  have hq2 := fun W (hW : Reads W W.heap.size 10 A' n' (csE (lay 24 0 Lb))) => endOf_any A' n' c' _ W hW (by omega) k2
  rw [e1] at hq1
  rw [e2] at hq2
  clear la lb fa fb ta tb i1 i2 e1 e2 k1 k2 sa sb
  obtain ⟨va, hva⟩ : ∃ x, x = lay 24 0 La := ⟨_, rfl⟩
  obtain ⟨vb, hvb⟩ : ∃ x, x = lay 24 0 Lb := ⟨_, rfl⟩
  obtain ⟨ua, hua⟩ : ∃ x, x = lay 24 0 (levZ La Lb) := ⟨_, rfl⟩
  obtain ⟨ub, hub⟩ : ∃ x, x = lay 24 0 (levZ Lb La) := ⟨_, rfl⟩
  rw [← hva] at ha hlt1 hge1 hal
  rw [← hvb] at hb hlt2 hge2 hbl
  simp only [← hvb] at hq2
  rw [← hua] at hlt1 hge1 ⊢
  rw [← hub] at hlt2 hge2 ⊢
  clear hva hvb hua hub
  obtain ⟨⟨s, s'⟩, hs⟩ : ∃ x, x = cq 24 (sumM La) := ⟨_, rfl⟩
  obtain ⟨⟨t, t'⟩, ht⟩ : ∃ x, x = cq 24 (sumM Lb) := ⟨_, rfl⟩
  rw [← hs] at p0 p1 q0 q1 r0 r1 hpos hneg ht1 ht2 hlt1 hq1
  rw [← ht] at p0 p1 q0 q1 r0 r1 hpos hneg ht1 ht2 hlt2
  simp only [← ht] at hq2
  clear hs ht
  simp only at p0 p1 q0 q1 r0 r1 hpos hneg ht1 ht2
  have wP : IntKind.i64.wrap (s * t') = s * t' := IntWalk.i64_in _ (by omega)
  have wQ : IntKind.i64.wrap (t * s') = t * s' := IntWalk.i64_in _ (by omega)
  have wX : IntKind.i64.wrap (s * t' - t * s') = s * t' - t * s' := IntWalk.i64_in _ (by omega)
  have wN : IntKind.i64.wrap (-(s * t' - t * s')) = -(s * t' - t * s') := IntWalk.i64_in _ (by omega)
  have wR : IntKind.i64.wrap (s' * t') = s' * t' := IntWalk.i64_in _ (by omega)
  obtain ⟨i0, hi0, hz0, hz1, hz2⟩ := info_parts event_info
  rcases Int.lt_trichotomy (sumM La) (sumM Lb) with hc | hc | hc
  · have hX := hneg.2 hc
    have HT := Lib.hid (ht2 hc)
    have hXX : ¬ (0 < s * t' - t * s') := by omega
    have U1 := Lib.hid (hlt1 hc)
    have U2 := Lib.hid (hge2 (by omega))
    clear hpos hneg ht1 ht2 hlt1 hlt2 hge1 hge2 hc
    have HA := Lib.hid hal
    have HB := Lib.hid hbl
    clear hal hbl
    go_enter Tryd.func29, Tryd.ntmps29
    go_wp2_with fail
    refine hq1.mono ?_
    rintro e w1 ⟨rfl, b1⟩
    go_wp2_with fail
    refine (hq2 _ (rdk hb b1)).mono ?_
    rintro e w2 ⟨rfl, b2⟩
    go_wp2_with fail
    obtain ⟨wq, hwq⟩ : ∃ x, x = (w2.alloc (.cells #[.int .i64 s, .int .i64 s'] 66)).alloc (.cells #[.int .i64 t, .int .i64 t'] 66) := ⟨_, rfl⟩
    have bS : Blk wq w2.heap.size 66 #[.int .i64 s, .int .i64 s'] := by rw [hwq]; exact (Blk.new _ _ _).alloc _
    have bT : Blk wq (w2.heap.size + 1) 66 #[.int .i64 t, .int .i64 t'] := by rw [hwq]; exact Blk.newAt _ _ _ _ (by simp)
    have kq : Below w.heap.size w wq := by rw [hwq]; exact below_alloc (below_alloc (below_call b1 b2) _) _
    rw [← hwq]
    have lS := bS.lt
    have lT := bT.lt
    have cS0 : wq.cell? ⟨w2.heap.size, 0, none⟩ = some (.int .i64 s) := bS.cell 0
    have cS1 : wq.cell? ⟨w2.heap.size, 1, none⟩ = some (.int .i64 s') := bS.cell 1
    have cT0 : wq.cell? ⟨w2.heap.size + 1, 0, none⟩ = some (.int .i64 t) := bT.cell 0
    have cT1 : wq.cell? ⟨w2.heap.size + 1, 1, none⟩ = some (.int .i64 t') := bT.cell 1
    have haq : Reads wq wq.heap.size 10 A n (csE va) := rdk ha kq
    have hbq : Reads wq wq.heap.size 10 A' n' (csE vb) := rdk hb kq
    clear hwq b1 b2 bS bT ha hb hq1 hq2
    have y1 : n ≤ 5000 := by omega
    have y2 : 0 ≤ (-(s * t' - t * s')) := by omega
    have y3 : (-(s * t' - t * s')) ≤ 9223372036854775807 := by omega
    have y4 : 0 ≤ s' * t' := by omega
    have y5 : s' * t' ≤ 9223372036854775807 := by omega
    have y6 : n + 1 ≤ maxLen := by simp only [maxLen]; omega
    have y7 : (n + 1) * 80 ≤ 140737488355328 := by omega
    have y8 : 0 < 10 := by omega
    go_region_held3 (fun w' => w'.cell? ⟨w2.heap.size, 0, none⟩ = some (.int .i64 s) ∧ w'.cell? ⟨w2.heap.size, 1, none⟩ = some (.int .i64 s') ∧ w'.cell? ⟨w2.heap.size + 1, 0, none⟩ = some (.int .i64 t) ∧ w'.cell? ⟨w2.heap.size + 1, 1, none⟩ = some (.int .i64 t') ∧ Below wq.heap.size wq w') ((refine (fun hb => ⟨(hb.cell (p := ⟨_, _, none⟩) lS).trans cS0, (hb.cell (p := ⟨_, _, none⟩) lS).trans cS1, (hb.cell (p := ⟨_, _, none⟩) lT).trans cT0, (hb.cell (p := ⟨_, _, none⟩) lT).trans cT1, hb⟩) ?_; repeat (first | with_reducible exact Below.refl _ _ | with_reducible exact hB3 | with_reducible exact hB4 | with_reducible exact hB5 | with_reducible exact (show _ ∧ _ ∧ _ ∧ _ ∧ Below wq.heap.size wq _ by assumption).2.2.2.2 | with_reducible refine Below.drew ?_ | with_reducible refine below_alloc ?_ _))) ((first | (go_at_call 46; refine (ownEvents_any A n c va wq.heap.size _ (haq.below (Nat.le_refl _) (show _ ∧ _ ∧ _ ∧ _ ∧ Below wq.heap.size wq _ by assumption).2.2.2.2) ((show _ ∧ _ ∧ _ ∧ _ ∧ Below wq.heap.size wq _ by assumption).2.2.2.2).size y1).mono ?_; rintro e w3 ⟨A3, c3, rfl, ho3, hb3⟩; have hB3 := below_call (show _ ∧ _ ∧ _ ∧ _ ∧ Below wq.heap.size wq _ by assumption).2.2.2.2 hb3; have hw3 : w3.ownsRow wq.heap.size 70 10 (.slice A3 n c3) n (csE va) := ho3.1) | (go_at_call 48; refine (t_any (-(s * t' - t * s')) (s' * t') _ y2 y3 y4 y5).mono ?_; rintro e w4 ⟨rfl, hb4⟩; rw [HT.out]; have hB4 := below_call (show _ ∧ _ ∧ _ ∧ _ ∧ Below wq.heap.size wq _ by assumption).2.2.2.2 hb4; have hw4 := own_call hw3 hb4) | ((refine step_guard (.tmp 44) (.tmp 55) 23 (.slice A3 n c3) ?_ ?_ ?_); (focus rfl); (focus rfl); (refine step_append_any _ (by rfl) (.tmp 44) (.tmp 55) 23 (by rfl) wq.heap.size 70 i0 _ 10 80 Tryd.underlying23 hi0 hz0 hz1 hz2 rfl y8 (.slice A3 n c3) n _ (by rfl) (own_call hw4 (below_alloc (Below.refl _ _) _)) (w4.heap.size + 1) (some ⟨w4.heap.size, 0, none⟩) 1 1 (csE [⟨(s, s'), cq 24 (sumM Lb - sumM La), (0, 0, 0), true, 0, 0⟩]) (by rfl) (Reads.newAt _ _ _ 1 10 _ rfl rfl) (one_csE _) y6 y7 ((show _ ∧ _ ∧ _ ∧ _ ∧ Below wq.heap.size wq _ by assumption).2.2.2.2).size ?_); intro v5 w5 hown5 hg5 hat5; have hB5 : Below wq.heap.size wq w5 := Below.grown (B := wq.heap.size) (a := wq) (show _ ∧ _ ∧ _ ∧ _ ∧ Below wq.heap.size wq _ by assumption).2.2.2.2 hg5 ((show _ ∧ _ ∧ _ ∧ _ ∧ Below wq.heap.size wq _ by assumption).2.2.2.2).size (fun q hq => (hw4.lt q hq).1); obtain ⟨A5, c5, hv5, hr5, _, _⟩ := own_reads hown5; subst hv5)))
    all_goals
      have k5 := below_call kq hB5
      have r9 := rdk hbq hB5
      go_wp2
      go_ret2
      refine ⟨A5, c5, A', c', ?_, ?_, ?_, k5⟩
      · rw [U1.out, U2.out, List.length_append, HA.out, HB.out]; rfl
      · rw [U1.out, List.length_append, HA.out, csE_append]; exact hr5
      · rw [U2.out, HB.out]; exact r9
  · have hX : ¬ (s * t' - t * s' < 0) := fun h => by have := hneg.1 h; omega
    have hXX : ¬ (0 < s * t' - t * s') := fun h => by have := hpos.1 h; omega
    have U1 := Lib.hid (hge1 (by omega))
    have U2 := Lib.hid (hge2 (by omega))
    clear hpos hneg ht1 ht2 hlt1 hlt2 hge1 hge2 hc
    have HA := Lib.hid hal
    have HB := Lib.hid hbl
    clear hal hbl
    go_enter Tryd.func29, Tryd.ntmps29
    go_wp2_with fail
    refine hq1.mono ?_
    rintro e w1 ⟨rfl, b1⟩
    go_wp2_with fail
    refine (hq2 _ (rdk hb b1)).mono ?_
    rintro e w2 ⟨rfl, b2⟩
    go_wp2_with fail
    go_ret2
    have kq : Below w.heap.size w ((w2.alloc (.cells #[.int .i64 s, .int .i64 s'] 66)).alloc (.cells #[.int .i64 t, .int .i64 t'] 66)) := below_alloc (below_alloc (below_call b1 b2) _) _
    refine ⟨A, c, A', c', ?_, ?_, ?_, kq⟩
    · rw [U1.out, U2.out, HA.out, HB.out]; rfl
    · rw [U1.out, HA.out]; exact rdk ha kq
    · rw [U2.out, HB.out]; exact rdk hb kq
  · have hX := hpos.2 hc
    have HT := Lib.hid (ht1 hc)
    have hXX : ¬ (s * t' - t * s' < 0) := by omega
    have U1 := Lib.hid (hge1 (by omega))
    have U2 := Lib.hid (hlt2 hc)
    clear hpos hneg ht1 ht2 hlt1 hlt2 hge1 hge2 hc
    have HA := Lib.hid hal
    have HB := Lib.hid hbl
    clear hal hbl
    go_enter Tryd.func29, Tryd.ntmps29
    go_wp2_with fail
    refine hq1.mono ?_
    rintro e w1 ⟨rfl, b1⟩
    go_wp2_with fail
    refine (hq2 _ (rdk hb b1)).mono ?_
    rintro e w2 ⟨rfl, b2⟩
    go_wp2_with fail
    obtain ⟨wq, hwq⟩ : ∃ x, x = (w2.alloc (.cells #[.int .i64 s, .int .i64 s'] 66)).alloc (.cells #[.int .i64 t, .int .i64 t'] 66) := ⟨_, rfl⟩
    have bS : Blk wq w2.heap.size 66 #[.int .i64 s, .int .i64 s'] := by rw [hwq]; exact (Blk.new _ _ _).alloc _
    have bT : Blk wq (w2.heap.size + 1) 66 #[.int .i64 t, .int .i64 t'] := by rw [hwq]; exact Blk.newAt _ _ _ _ (by simp)
    have kq : Below w.heap.size w wq := by rw [hwq]; exact below_alloc (below_alloc (below_call b1 b2) _) _
    rw [← hwq]
    have lS := bS.lt
    have lT := bT.lt
    have cS0 : wq.cell? ⟨w2.heap.size, 0, none⟩ = some (.int .i64 s) := bS.cell 0
    have cS1 : wq.cell? ⟨w2.heap.size, 1, none⟩ = some (.int .i64 s') := bS.cell 1
    have cT0 : wq.cell? ⟨w2.heap.size + 1, 0, none⟩ = some (.int .i64 t) := bT.cell 0
    have cT1 : wq.cell? ⟨w2.heap.size + 1, 1, none⟩ = some (.int .i64 t') := bT.cell 1
    have haq : Reads wq wq.heap.size 10 A n (csE va) := rdk ha kq
    have hbq : Reads wq wq.heap.size 10 A' n' (csE vb) := rdk hb kq
    clear hwq b1 b2 bS bT ha hb hq1 hq2
    have y1 : n' ≤ 5000 := by omega
    have y2 : 0 ≤ (s * t' - t * s') := by omega
    have y3 : (s * t' - t * s') ≤ 9223372036854775807 := by omega
    have y4 : 0 ≤ s' * t' := by omega
    have y5 : s' * t' ≤ 9223372036854775807 := by omega
    have y6 : n' + 1 ≤ maxLen := by simp only [maxLen]; omega
    have y7 : (n' + 1) * 80 ≤ 140737488355328 := by omega
    have y8 : 0 < 10 := by omega
    go_region_held3 (fun w' => w'.cell? ⟨w2.heap.size, 0, none⟩ = some (.int .i64 s) ∧ w'.cell? ⟨w2.heap.size, 1, none⟩ = some (.int .i64 s') ∧ w'.cell? ⟨w2.heap.size + 1, 0, none⟩ = some (.int .i64 t) ∧ w'.cell? ⟨w2.heap.size + 1, 1, none⟩ = some (.int .i64 t') ∧ Below wq.heap.size wq w') ((refine (fun hb => ⟨(hb.cell (p := ⟨_, _, none⟩) lS).trans cS0, (hb.cell (p := ⟨_, _, none⟩) lS).trans cS1, (hb.cell (p := ⟨_, _, none⟩) lT).trans cT0, (hb.cell (p := ⟨_, _, none⟩) lT).trans cT1, hb⟩) ?_; repeat (first | with_reducible exact Below.refl _ _ | with_reducible exact hB3 | with_reducible exact hB4 | with_reducible exact hB5 | with_reducible exact (show _ ∧ _ ∧ _ ∧ _ ∧ Below wq.heap.size wq _ by assumption).2.2.2.2 | with_reducible refine Below.drew ?_ | with_reducible refine below_alloc ?_ _))) ((first | (go_at_call 46; refine (ownEvents_any A' n' c' vb wq.heap.size _ (hbq.below (Nat.le_refl _) (show _ ∧ _ ∧ _ ∧ _ ∧ Below wq.heap.size wq _ by assumption).2.2.2.2) ((show _ ∧ _ ∧ _ ∧ _ ∧ Below wq.heap.size wq _ by assumption).2.2.2.2).size y1).mono ?_; rintro e w3 ⟨A3, c3, rfl, ho3, hb3⟩; have hB3 := below_call (show _ ∧ _ ∧ _ ∧ _ ∧ Below wq.heap.size wq _ by assumption).2.2.2.2 hb3; have hw3 : w3.ownsRow wq.heap.size 70 10 (.slice A3 n' c3) n' (csE vb) := ho3.1) | (go_at_call 48; refine (t_any (s * t' - t * s') (s' * t') _ y2 y3 y4 y5).mono ?_; rintro e w4 ⟨rfl, hb4⟩; rw [HT.out]; have hB4 := below_call (show _ ∧ _ ∧ _ ∧ _ ∧ Below wq.heap.size wq _ by assumption).2.2.2.2 hb4; have hw4 := own_call hw3 hb4) | ((refine step_guard (.tmp 28) (.tmp 38) 23 (.slice A3 n' c3) ?_ ?_ ?_); (focus rfl); (focus rfl); (refine step_append_any _ (by rfl) (.tmp 28) (.tmp 38) 23 (by rfl) wq.heap.size 70 i0 _ 10 80 Tryd.underlying23 hi0 hz0 hz1 hz2 rfl y8 (.slice A3 n' c3) n' _ (by rfl) (own_call hw4 (below_alloc (Below.refl _ _) _)) (w4.heap.size + 1) (some ⟨w4.heap.size, 0, none⟩) 1 1 (csE [⟨(t, t'), cq 24 (sumM La - sumM Lb), (0, 0, 0), true, 0, 0⟩]) (by rfl) (Reads.newAt _ _ _ 1 10 _ rfl rfl) (one_csE _) y6 y7 ((show _ ∧ _ ∧ _ ∧ _ ∧ Below wq.heap.size wq _ by assumption).2.2.2.2).size ?_); intro v5 w5 hown5 hg5 hat5; have hB5 : Below wq.heap.size wq w5 := Below.grown (B := wq.heap.size) (a := wq) (show _ ∧ _ ∧ _ ∧ _ ∧ Below wq.heap.size wq _ by assumption).2.2.2.2 hg5 ((show _ ∧ _ ∧ _ ∧ _ ∧ Below wq.heap.size wq _ by assumption).2.2.2.2).size (fun q hq => (hw4.lt q hq).1); obtain ⟨A5, c5, hv5, hr5, _, _⟩ := own_reads hown5; subst hv5)))
    all_goals
      have k5 := below_call kq hB5
      have r9 := rdk haq hB5
      go_wp2
      go_ret2
      refine ⟨A, c, A5, c5, ?_, ?_, ?_, k5⟩
      · rw [U1.out, U2.out, List.length_append, HA.out, HB.out]; rfl
      · rw [U1.out, HA.out]; exact r9
      · rw [U2.out, List.length_append, HB.out, csE_append]; exact hr5
end Go.Proofs.YtigfcbofbcpiaaaDoor
