/- AlignWhole holds: the slices of voices made of numbers follow one another from 0 to the greatest end of the voices. No condition. -/
import Derived.Test.YtbljfaocmeeljaaAlMade
import Derived.Test.YtbljfaocmeeljaaAlKnownP
import Derived.Test.YtbljfaocmeeljaaOpened
namespace Go.Proofs.Ytbljfaocmeeljaa.alignWhole
open Go.ChangeShapes Go.WideShapes Go.ChangeAt Go.RowKit Go.Deep
set_option linter.unusedVariables false
theorem madeEnd {a b c d : List Int} : ∀ v ∈ made4 a b c d, endK v = endV v ∧ ∀ x, v.getLast? = some x → ok x.at_ ∧ ok x.dur := by
  have one : ∀ (m : Nat) (l : List Int), m ≤ 20 → endK (voiceS m l) = endV (voiceS m l) ∧ ∀ x, (voiceS m l).getLast? = some x → ok x.at_ ∧ ok x.dur := by
    intro m l hm
    have h1 : ∀ z ∈ voiceZ 0 (l.take m), small z := voice_small _ 0 (by omega)
    have h2 : (voiceZ 0 (l.take m)).length ≤ m := by rw [voice_len, List.length_take]; omega
    have h3 := small_fit h1 (by omega)
    obtain ⟨e1, e2⟩ := endK_lay okq24 h3
    refine ⟨?_, e2⟩
    have e3 := end_lay okq24 h3
    have e4 := endS_val (v := voiceS m l) (voice_q m hm l).2.1
    unfold voiceS at e4 ⊢
    rw [e1]
    rw [e3] at e4
    simp only [Prod.mk.injEq] at e4
    exact Prod.ext e4.1 e4.2.1
  intro v hv
  unfold made4 at hv
  simp only [List.mem_cons, List.not_mem_nil, or_false] at hv
  rcases hv with rfl | rfl | rfl | rfl
  · exact one 10 a (by omega)
  · exact one 10 b (by omega)
  · exact one 8 c (by omega)
  · exact one 6 d (by omega)
/-- Where slice k begins, or where the last one ends. -/
def atW (m : List Tm) (k : Nat) : Tm := if m.length = 0 then (0, 1) else mAt m k
theorem atW_zero {M : Int} {l : List (List Ev)} (h : SetQ M l) : atW (momS l) 0 = (0, 1) := by
  unfold atW
  by_cases h0 : (momS l).length = 0
  · rw [if_pos h0]
  · rw [if_neg h0]; exact setq_first h (by omega)
theorem atW_in {m : List Tm} {k : Nat} (h : k + 1 < m.length) : atW m k = mAt m k ∧ atW m (k + 1) = mAt m (k + 1) := by
  unfold atW; rw [if_neg (by omega), if_neg (by omega)]; exact ⟨rfl, rfl⟩
theorem atW_end {m : List Tm} : atW m (m.length - 1) = endT m := by
  unfold atW endT
  by_cases h0 : m.length = 0
  · simp [h0]
  · simp [h0]
set_option maxRecDepth 100000 in
set_option maxHeartbeats 8000000 in
theorem walk {Aa Ab Ac Ad : Option Addr} {na nb nc nd : Nat} {a b c d : List Int} {w : World} (ca cb cc cd : Nat) (ha : Nums w Aa na a) (hb : Nums w Ab nb b) (hc : Nums w Ac nc c) (hd : Nums w Ad nd d) :
    Calls Try.prog 6 #[.slice Aa na ca, .slice Ab nb cb, .slice Ac nc cc, .slice Ad nd cd] w fun e w' => e = .returned (.bool true) ∧ Below w.heap.size w w' := by
  have HS := Lib.hid (made_set a b c d)
  have HV := Lib.hid (made_len a b c d)
  have HE := Lib.hid (madeEnd (a := a) (b := b) (c := c) (d := d))
  have HL := Lib.hid (show (made4 a b c d).length = 4 from rfl)
  have q1 := fun W (h1 : Nums W Aa na a) (h2 : Nums W Ab nb b) (h3 : Nums W Ac nc c) (h4 : Nums W Ad nd d) => made_any h1 h2 h3 h4 ca cb cc cd
  generalize made4 a b c d = l at HS HV HL HE q1
  have HMB := Lib.hid (mom_big (l := l) (by rw [setq_check HS.out]))
  go_enter Try.func6, Try.ntmps6
  go_wp2_with fail
  refine (known_any _).mono ?_
  rintro e w1 ⟨rfl, b1⟩
  replace ha := ha.kept b1; replace hb := hb.kept b1; replace hc := hc.kept b1; replace hd := hd.kept b1
  go_wp2_with fail
  refine (q1 _ ha hb hc hd).mono ?_
  rintro e w2 ⟨A, rfl, r2, b2⟩
  have k2 := below_call b1 b2
  clear ha hb hc hd b1 b2 q1
  have qs := fun W (h : ReadsV W W.heap.size A 4 l) => slices_any A 4 4 l _ W h (Nat.le_refl _) (by omega)
  have qe := fun W (h : ReadsV W W.heap.size A 4 l) => end_any A 4 4 l _ W h (Nat.le_refl _) (by omega)
  rw [setq_slices HS.out] at qs
  rw [show endE l = (endT (momS l), 0) by unfold endE; rw [setq_slices HS.out]; rfl] at qe
  obtain ⟨K, hK⟩ : ∃ K, K = (momS l).length - 1 := ⟨_, rfl⟩
  rw [← hK] at qs
  have HK := Lib.hid hK
  clear hK
  go_wp2_with fail
  refine (qs _ r2).mono ?_
  rintro e w3 ⟨v3, rfl, o3, b3⟩
  obtain ⟨A3, c3, rfl, s3⟩ := o3.reads
  rw [List.length_map, List.length_range] at s3 ⊢
  have k3 := below_call k2 b3
  have r3 := rdV r2 b3
  clear o3 b3 qs k2 r2
  obtain ⟨⟨t0, t1⟩, ht⟩ : ∃ t, t = endT (momS l) := ⟨_, rfl⟩
  have HT := Lib.hid ht
  rw [← ht] at qe
  clear ht
  go_wp2_with fail
  refine Calls.mono (qe _ r3) ?_
  rintro e w4 ⟨rfl, b4⟩
  have k4 := below_call k3 b4
  have r4 := rdV r3 b4
  have s4 := s3.kept b4
  clear b4 qe k3 r3 s3
  have T4 : Blk (w4.alloc (.cells #[.int .i64 t0, .int .i64 t1] 34)) w4.heap.size 34 #[.int .i64 t0, .int .i64 t1] := Blk.new _ _ _
  have B4 : Below w4.heap.size w4 (w4.alloc (.cells #[.int .i64 t0, .int .i64 t1] 34)) := below_alloc (Below.refl _ _) _
  go_wp2_with fail
  refine (zero_any _).mono ?_
  rintro e w5 ⟨rfl, b5⟩
  have T5 := T4.kept b5
  have b45 := below_call B4 b5
  have k5 := below_call k4 b45
  have r5 := rdV r4 b45
  have s5 := s4.kept b45
  have lt5 := T5.lt
  clear b45 b5 B4 T4 k4 r4 s4
  go_wp2_with fail
  obtain ⟨wo, hwo⟩ : ∃ wo, wo = w5.alloc (.cells #[.int .i64 0, .int .i64 1] 34) := ⟨_, rfl⟩
  have bo : Below w5.heap.size w5 wo := by rw [hwo]; exact below_alloc (Below.refl _ _) _
  have O0 : Blk wo w5.heap.size 34 #[.int .i64 0, .int .i64 1] := by rw [hwo]; exact Blk.new _ _ _
  have To := T5.kept bo
  have ro := rdV r5 bo
  have so := s5.kept bo
  have ko := below_call k5 bo
  rw [← hwo]
  clear hwo To ro so ko
  go_wp2_with fail
  go_loopg [16, 17, 18] K (fun gh i _ _ wr => ∃ (k : Nat) (x0 x1 : Int), k + gh = K ∧ i = .int .i64 (k : Int) ∧ Hid ((x0, x1) = atW (momS l) k) ∧ Blk wr w5.heap.size 34 #[.int .i64 x0, .int .i64 x1] ∧ Below w5.heap.size w5 wr)
  case atStart => exact ⟨0, 0, 1, by omega, by simp, Lib.hid (atW_zero HS.out).symm, O0, bo⟩
  case round =>
    clear O0 bo
    obtain ⟨k, x0, x1, hkg, rfl, hat, BA, kr⟩ := hrel
    have wk : IntKind.i64.wrap ((k : Int) + 1) = (k : Int) + 1 := IntWalk.i64_in _ (by have := HMB.out; have := HK.out; omega)
    have lA := BA.lt
    have a0 : wr.cell? ⟨w5.heap.size, 0, none⟩ = some (.int .i64 x0) := BA.cell 0
    have a1 : wr.cell? ⟨w5.heap.size, 1, none⟩ = some (.int .i64 x1) := BA.cell 1
    have TE := T5.kept kr
    have lE := TE.lt
    have e0 : wr.cell? ⟨w4.heap.size, 0, none⟩ = some (.int .i64 t0) := TE.cell 0
    have e1 : wr.cell? ⟨w4.heap.size, 1, none⟩ = some (.int .i64 t1) := TE.cell 1
    cases gk with
    | zero =>
      have hkK : k = K := by omega
      have d0 : ¬ ((k : Int) < (K : Int)) := by omega
      have hxt : (x0, x1) = (t0, t1) := by rw [hat.out, hkK, HT.out, HK.out]; exact atW_end
      obtain ⟨rfl, rfl⟩ : x0 = t0 ∧ x1 = t1 := by simpa using hxt
      obtain ⟨wz, rfl⟩ : ∃ wz : World, wz = wr := ⟨_, rfl⟩
      have rz := rdV r5 kr
      have kz := below_call k5 kr
      have HF := Lib.hid (show K = 0 ∨ ∃ v ∈ l, endV v = (x0, x1) from by
        rcases Nat.eq_zero_or_pos K with h0 | h0
        · exact .inl h0
        · have h1 : 0 < (momS l).length := by have := HK.out; omega
          obtain ⟨v, h2, h3⟩ := end_some HS.out h1
          exact .inr ⟨v, h2, by rw [h3, HT.out]⟩)
      have TZ := TE
      have lz := TZ.lt
      have zw := kr.size
      clear hxt hkK hkg hat BA kr TE
      have hK0 : ((K : Int) == 0) = decide (K = 0) := by
        by_cases h0 : K = 0
        · subst h0; rfl
        · rw [decide_eq_false h0]; simpa using h0
      go_wp2_with fail
      go_loopg [19, 20, 21, 22, 23] 4 (fun gh f i _ _ _ wy => ∃ (j : Nat) (b : Bool), j + gh = 4 ∧ i = .int .i64 (j : Int) ∧ f = .bool b ∧ Hid (b = (decide (K = 0) || (l.take j).any fun v => decide (endV v = (x0, x1)))) ∧ Below wz.heap.size wz wy)
      case atStart => exact ⟨0, decide (K = 0), by omega, by simp, by rw [← hK0], Lib.hid (by simp), Below.refl _ _⟩
      case round =>
        obtain ⟨j, b, hjg, rfl, rfl, hb, ky⟩ := hrel
        have wj : IntKind.i64.wrap ((j : Int) + 1) = (j : Int) + 1 := IntWalk.i64_in _ (by omega)
        cases gk with
        | zero =>
          have d1 : ¬ ((j : Int) < 4) := by omega
          have hbt : b = true := by
            rw [hb.out]
            rcases HF.out with h0 | ⟨v, h1, h2⟩
            · rw [decide_eq_true h0]; rfl
            · rw [List.take_of_length_le (by have := HL.out; omega), Bool.or_eq_true]
              exact .inr (List.any_eq_true.2 ⟨v, h1, decide_eq_true h2⟩)
          subst hbt
          clear hjg
          go_wp2
          go_ret
          exact ⟨rfl, below_call kz ky⟩
        | succ gh =>
          have hj4 : j < 4 := by omega
          have d1 : (j : Int) < 4 := by omega
          obtain ⟨v, hv⟩ := get_some (l := l) (k := j) (by have := HL.out; omega)
          have hvm := List.mem_of_getElem? hv
          obtain ⟨bv, ov, A', n', c', hAv, habv, cv, hre, hn', hvn⟩ := rz.voice (Nat.le_refl _) ky hj4 hv
          have hv10 := HV.out v hvm
          obtain ⟨E1, E2⟩ := HE.out v hvm
          have hend := endV_le HS.out hvm
          have hq1 := (endV_q HS.out hvm).1
          have hq2 := endT_q HS.out
          rw [← HT.out] at hend hq2
          have q4 := fun W (hW : Below wr.heap.size wr W) => endOf_any A' n' c' v W ((hre.below ky.size hW).more (Nat.le_trans ky.size hW.size)) (by omega) E2
          rw [E1] at q4
          have hcmp := cmp_le (q24_ok hq1 HS.out.big) (q24_ok hq2 HS.out.big)
          have hcz : (cmpS (endV v) (x0, x1)).2 = 0 := by rw [cmp_ok (q24_ok hq1 HS.out.big) (q24_ok hq2 HS.out.big)]
          rw [decide_eq_true hend] at hcmp
          have q5 := cmp_any (endV v) (x0, x1)
          have HB := Lib.hid (show (b || decide (endV v = (x0, x1))) = (decide (K = 0) || (l.take (j + 1)).any fun v => decide (endV v = (x0, x1))) by
            rw [hb.out, take_get hv]
            simp [Bool.or_assoc])
          obtain ⟨⟨s0, s1⟩, hs⟩ : ∃ t, t = endV v := ⟨_, rfl⟩
          rw [← hs] at q4 q5 hcmp hcz HB
          obtain ⟨⟨o, r⟩, ho⟩ : ∃ t, t = cmpS (s0, s1) (x0, x1) := ⟨_, rfl⟩
          rw [← ho] at q5 hcmp hcz
          simp only at hcz q5 hcmp q4
          subst hcz
          have ho0 : ¬ (0 < o) := by simpa using hcmp
          have T6 := TZ.kept ky
          clear hv hvm hend hq1 hq2 hs ho hcmp E1 E2 hb hre hvn hv10 hn'
          subst hAv
          go_wp2_with fail
          refine (q4 _ (Below.refl _ _)).mono ?_
          rintro e w7 ⟨rfl, b7⟩
          have T7 := T6.kept b7
          have k7 := below_call ky b7
          have e0 : w7.cell? ⟨w4.heap.size, 0, none⟩ = some (.int .i64 x0) := T7.cell 0
          have e1 : w7.cell? ⟨w4.heap.size, 1, none⟩ = some (.int .i64 x1) := T7.cell 1
          have l7 := T7.lt
          clear T6
          go_wp2_with fail
          refine (q5 _).mono ?_
          rintro e w8 ⟨rfl, b8⟩
          have S8 : Blk w8 w7.heap.size 34 #[.int .i64 s0, .int .i64 s1] := Blk.kept (Blk.new _ _ _) b8
          have T8 : Blk w8 w4.heap.size 34 #[.int .i64 x0, .int .i64 x1] := Blk.kept (T7.alloc _) b8
          have k8 := below_call (below_alloc k7 (.cells #[.int .i64 s0, .int .i64 s1] 34)) b8
          have e0 : w8.cell? ⟨w4.heap.size, 0, none⟩ = some (.int .i64 x0) := T8.cell 0
          have e1 : w8.cell? ⟨w4.heap.size, 1, none⟩ = some (.int .i64 x1) := T8.cell 1
          have f0 : w8.cell? ⟨w7.heap.size, 0, none⟩ = some (.int .i64 s0) := S8.cell 0
          have f1 : w8.cell? ⟨w7.heap.size, 1, none⟩ = some (.int .i64 s1) := S8.cell 1
          have l8 := T8.lt
          have m8 := S8.lt
          clear T7 b7 b8 k7
          cases b with
          | true =>
            go_wp2
            go_roundg gh
            case measure => omega
            case rel => exact ⟨j + 1, true, by omega, by go_num, rfl, Lib.hid (by rw [← HB.out]; rfl), k8⟩
          | false =>
            go_wp2_with fail
            all_goals
              go_roundg gh
              case measure => omega
              case rel => exact ⟨j + 1, _, by omega, by go_num, rfl, Lib.hid (by rw [← HB.out]; simp [*]), k8⟩
    | succ gh =>
      have hkK : k < K := by omega
      have d0 : (k : Int) < (K : Int) := by omega
      have hk1 : k + 1 < (momS l).length := by have := HK.out; omega
      obtain ⟨w1', w2', w3', w4'⟩ := whole_step HS.out hk1
      obtain ⟨y1, y2⟩ := atW_in hk1
      have hat1 : (x0, x1) = mAt (momS l) k := by rw [hat.out, y1]
      have hg : ((List.range K).map (slOf l (momS l)))[k]? = some (slOf l (momS l) k) := by rw [List.getElem?_map, List.getElem?_range hkK]; rfl
      obtain ⟨bs, os, p, q, kc, hAs, hbs, hq, hr, c0, c1, c2, c3', c4⟩ := s5.el (Nat.le_refl _) kr hkK hg
      have hq4 : 4 = q := by rw [← hq]; show 4 = (l.map _).length; rw [List.length_map]; exact HL.out.symm
      subst hq4
      have hs1 : (slOf l (momS l) k).at_ = (x0, x1) := hat1.symm
      have hs2 : (slOf l (momS l) k).dur = (durE (momS l) k).1 := rfl
      rw [hs1] at c0 c1
      rw [hs2] at c2 c3'
      rw [← hat1] at w1' w4'
      rw [← y2] at w1'
      obtain ⟨⟨d0', d1'⟩, hd⟩ : ∃ t, t = (durE (momS l) k).1 := ⟨_, rfl⟩
      obtain ⟨⟨z0, z1⟩, hz⟩ : ∃ t, t = atW (momS l) (k + 1) := ⟨_, rfl⟩
      rw [← hd] at w1' w2' w3' c2 c3'
      rw [← hz] at w1'
      have q3 := add_any (x0, x1) (d0', d1')
      rw [w1'] at q3
      have HZ := Lib.hid hz
      simp only at c0 c1 c2 c3' w2' q3
      have dd : decide (d0' < 1) = false := decide_eq_false (by omega)
      have hbsr : bs < wr.heap.size := hbs
      clear hat hat1 y1 y2 hk1 hg hq hr hs1 hs2 hd hz w1' w2' w3' w4'
      subst hAs
      obtain ⟨wq, hwq⟩ : ∃ wq, wq = wr := ⟨_, rfl⟩
      subst hwq
      go_wp2_with fail
      go_region_held3 (fun w' => w'.cell? ⟨bs, os + k * 5, none⟩ = some (.int .i64 x0) ∧ w'.cell? ⟨bs, os + k * 5 + 1, none⟩ = some (.int .i64 x1) ∧ w'.cell? ⟨bs, os + k * 5 + 2, none⟩ = some (.int .i64 d0') ∧ w'.cell? ⟨bs, os + k * 5 + 3, none⟩ = some (.int .i64 d1') ∧ Below wq.heap.size wq w') ((refine (fun hb => ⟨(hb.cell (p := ⟨_, _, none⟩) hbs).trans c0, (hb.cell (p := ⟨_, _, none⟩) hbs).trans c1, (hb.cell (p := ⟨_, _, none⟩) hbs).trans c2, (hb.cell (p := ⟨_, _, none⟩) hbs).trans c3', hb⟩) ?_; repeat (first | with_reducible exact Below.refl _ _ | with_reducible exact hBd | with_reducible exact (show _ ∧ _ ∧ _ ∧ _ ∧ Below wq.heap.size wq _ by assumption).2.2.2.2 | with_reducible refine Below.drew ?_ | with_reducible refine below_alloc ?_ _ | (with_reducible refine Below.setCell ?_ ?_ _; rotate_left; (first | (have hz := hBd.size; show wq.heap.size ≤ _; simp only; omega) | (show wq.heap.size ≤ _; simp only; omega)))))) (first | (go_at_call 36; refine (q3 _).mono ?_; rintro e wd ⟨rfl, hbd⟩; have hBd := below_call (show _ ∧ _ ∧ _ ∧ _ ∧ Below wq.heap.size wq _ by assumption).2.2.2.2 hbd; have hcd := (bcell hbd).1; have hfd := (bcell hbd).2; try (have hzd : wq.heap.size < wd.heap.size := by have hz := hbd.size; simp at hz; omega)))
      all_goals
        have hB5 := (show _ ∧ _ ∧ _ ∧ _ ∧ Below wq.heap.size wq _ by assumption).2.2.2.2
        obtain ⟨wv, hwv⟩ := name_world hB5
        first
          | (refine pick_block (wv := wv) (lo := wq.heap.size) (t := 34) wd.heap.size #[.int .i64 z0, .int .i64 z1] ?_ ?_ ?_; (focus (have hz := hBd.size; omega)); (focus (rw [hwv]; repeat (first | with_reducible exact Blk.new _ _ _ | (with_reducible refine Blk.newAt _ _ _ _ ?_; first | rfl | (simp; done)) | with_reducible apply Blk.alloc | with_reducible apply Blk.drewN | with_reducible apply Blk.drew | with_reducible apply Blk.set_to | (with_reducible apply Blk.far_; (simp only [ne_eq]; omega)) | (with_reducible apply Blk.kept (hb := hbd)) | rfl))); intro gx hgx hgq5 BX5)
          | (refine pick_block (wv := wv) (lo := wq.heap.size) (t := 34) wq.heap.size #[.int .i64 z0, .int .i64 z1] ?_ ?_ ?_; (focus omega); (focus (rw [hwv]; repeat (first | with_reducible exact Blk.new _ _ _ | (with_reducible refine Blk.newAt _ _ _ _ ?_; first | rfl | (simp; done)) | with_reducible apply Blk.alloc | with_reducible apply Blk.drewN | with_reducible apply Blk.drew | with_reducible apply Blk.set_to | (with_reducible apply Blk.far_; (simp only [ne_eq]; omega)) | (with_reducible apply Blk.kept (hb := hbd)) | rfl))); intro gx hgx hgq5 BX5)
        rw [← hwv] at hB5 ⊢
        rw [← hgx]
        clear hwv hgx
        have f0 : wv.cell? ⟨gx, 0, none⟩ = some (.int .i64 z0) := BX5.cell 0
        have f1 : wv.cell? ⟨gx, 1, none⟩ = some (.int .i64 z1) := BX5.cell 1
        have BA5 := BA.kept hB5
        have g0 : wv.cell? ⟨w5.heap.size, 0, none⟩ = some (.int .i64 x0) := BA5.cell 0
        have g1 : wv.cell? ⟨w5.heap.size, 1, none⟩ = some (.int .i64 x1) := BA5.cell 1
        have h0 := (hB5.cell (p := ⟨bs, os + k * 5, none⟩) hbs).trans c0
        have h1 := (hB5.cell (p := ⟨bs, os + k * 5 + 1, none⟩) hbs).trans c1
        have h2 := (hB5.cell (p := ⟨bs, os + k * 5 + 2, none⟩) hbs).trans c2
        have h4 := (hB5.cell (p := ⟨bs, os + k * 5 + 4, none⟩) hbs).trans c4
        have lA5 := BA5.lt
        have lX5 := BX5.lt
        have fA := BA5.frozen
        have hbs5 : bs < wv.heap.size := by have := hB5.size; omega
        have kr5 := below_call kr hB5
        clear c0 c1 c2 c3' c4 a0 a1 hB5 BA
        go_wp2_with fail
        refine wp_region_calm (by kernel_rfl) (by kernel_rfl) ?_
        repeat (go_big_quiet_step (fail))
        refine wpQuiet_nil ?_
        intro wd gd
        have BA6 := BA5.kept gd
        have BX6 := BX5.kept gd
        have f0 : wd.cell? ⟨gx, 0, none⟩ = some (.int .i64 z0) := BX6.cell 0
        have f1 : wd.cell? ⟨gx, 1, none⟩ = some (.int .i64 z1) := BX6.cell 1
        have ga : wd.cell? ⟨w5.heap.size, 0, none⟩ = some (.int .i64 x0) := BA6.cell 0
        have gb : wd.cell? ⟨w5.heap.size, 1, none⟩ = some (.int .i64 x1) := BA6.cell 1
        have fA := BA6.frozen
        have lA6 := BA6.lt
        have lX6 := BX6.lt
        have kr6 := below_call kr5 gd
        clear g0 g1 h0 h1 h2 h4
        go_wp2
        go_roundg gh
        case measure => omega
        case rel => exact ⟨k + 1, z0, z1, by omega, by go_num, HZ, by repeat (first | with_reducible exact BA6 | with_reducible exact Blk.new _ _ _ | (with_reducible refine Blk.newAt _ _ _ _ ?_; first | rfl | (simp; done)) | with_reducible apply Blk.alloc | with_reducible apply Blk.drewN | with_reducible apply Blk.drew | with_reducible apply Blk.set_to | (with_reducible apply Blk.far_; (simp only [ne_eq]; omega)) | rfl), (kr6.setCell (by simp) _).setCell (by simp) _⟩
set_option maxRecDepth 100000 in
theorem lifted (os : Os) (started : os.Started) (H : Type) (enc : TypeId × Value → H) :
    ReturnsInHanded {} Try.checked os 6 .any (Rows.alignWholeSpec.pre6 enc Try.prog Try.f6 Rows.alignWholeRow.domain false) (Rows.alignWholeSpec.post enc Try.prog Try.f6 false true false false) := by
  refine returnsInHanded_of_change (C := Try.checked) own started (by kernel_rfl) Try.func6
    (ChangeSpec.witness6 (enc := enc) (C := Try.checked) false ⟨#[], #[.slice none 0 0, .slice none 0 0, .slice none 0 0, .slice none 0 0], []⟩ 8 (by kernel_rfl) (by kernel_rfl) (by kernel_rfl) (by kernel_rfl)) ?_
  intro W base args ds gs before hval0 hW hcnd _
  have hval : ∀ (j : Nat) t v, Try.f6.params[j]? = some t → args[j]? = some v → Value.okWide Try.prog W .any base t v := hval0
  have hW' := hW
  obtain ⟨p, q, hA0, hV, rfl, hfz, hnd⟩ := hW
  have hA : DataW.TrodAll enc Try.prog W 0 (fun _ => true) true Try.f6.params.toList args.toList ds p := hA0
  rw [Try.params6] at hA hval
  obtain ⟨v0, vs0, d0, ds0, p0, q0, hargs, rfl, rfl, h0, r0⟩ := trodAll_cons hA
  obtain ⟨v1, vs1, d1, ds1, p1, q1, rfl, rfl, rfl, h1, r1⟩ := trodAll_cons r0
  obtain ⟨v2, vs2, d2, ds2, p2, q2, rfl, rfl, rfl, h2, r2⟩ := trodAll_cons r1
  obtain ⟨v3, vs3, d3, ds3, p3, q3, rfl, rfl, rfl, h3, r3⟩ := trodAll_cons r2
  obtain ⟨rfl, rfl, rfl⟩ := trodAll_nil r3
  obtain rfl : args = #[v0, v1, v2, v3] := by cases args; simp_all
  obtain ⟨rfl, rfl⟩ := trodVars_none hV
  have k0 := h0
  have lt0 : ∀ x ∈ p0, x.block < W.heap.size := by obtain ⟨m, hm⟩ := k0; exact DataW.trod_lt m _ _ _ hm
  obtain ⟨A0, n0, c0, l0, rfl, w0⟩ := arg_ints (hval 0 42 v0 rfl rfl) h0
  have k1 := h1
  have lt1 : ∀ x ∈ p1, x.block < W.heap.size := by obtain ⟨m, hm⟩ := k1; exact DataW.trod_lt m _ _ _ hm
  obtain ⟨A1, n1, c1, l1, rfl, w1⟩ := arg_ints (hval 1 42 v1 rfl rfl) h1
  have k2 := h2
  have lt2 : ∀ x ∈ p2, x.block < W.heap.size := by obtain ⟨m, hm⟩ := k2; exact DataW.trod_lt m _ _ _ hm
  obtain ⟨A2, n2, c2, l2, rfl, w2⟩ := arg_ints (hval 2 42 v2 rfl rfl) h2
  have k3 := h3
  have lt3 : ∀ x ∈ p3, x.block < W.heap.size := by obtain ⟨m, hm⟩ := k3; exact DataW.trod_lt m _ _ _ hm
  obtain ⟨A3, n3, c3, l3, rfl, w3⟩ := arg_ints (hval 3 42 v3 rfl rfl) h3
  clear hA0 hval0
  refine (walk c0 c1 c2 c3 ⟨w0.1, w0.2.1, w0.2.2⟩ ⟨w1.1, w1.2.1, w1.2.2⟩ ⟨w2.1, w2.2.1, w2.2.2⟩ ⟨w3.1, w3.2.1, w3.2.2⟩).mono fun e W' ⟨he, bel⟩ => ?_
  subst he
  exact ⟨_, rfl, _, _, _, [], _, [], hW', trodAll_mk1 (shut_bool Try.underlying4 _), (trodAll_cons_mk (Below.trod laidOut (by kernel_rfl) (of_decide_eq_true (by kernel_rfl)) k0 bel lt0) (trodAll_cons_mk (Below.trod laidOut (by kernel_rfl) (of_decide_eq_true (by kernel_rfl)) k1 bel lt1) (trodAll_cons_mk (Below.trod laidOut (by kernel_rfl) (of_decide_eq_true (by kernel_rfl)) k2 bel lt2) (trodAll_cons_mk (Below.trod laidOut (by kernel_rfl) (of_decide_eq_true (by kernel_rfl)) k3 bel lt3) trodAll_mk0)))), rfl, bel.frame _, fun h => by cases h⟩

theorem over : Rows.AlignWholeSaid :=
  OpenClaim.holds_of_wide 6 Try.f6 rfl rfl rfl rfl rfl rfl rfl ⟨rfl, rfl, rfl, rfl, rfl⟩ rfl rfl rfl rfl rfl (by kernel_rfl) Try.func6 (by kernel_rfl)
    (of_decide_eq_true (by kernel_rfl)) (by unfold Func.isWrapper; first | (rw [if_pos (by decide +kernel)]; kernel_rfl) | (rw [if_neg (by decide +kernel)]; exact ⟨rfl, rfl⟩))
    (fun os started H enc _ => lifted os started H enc)

/-- The statement. -/
theorem proved : Rows.AlignWholeSaid := over

end Go.Proofs.Ytbljfaocmeeljaa.alignWhole
