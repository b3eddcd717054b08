/- AlignOrder holds: with the voices made of numbers in another order the slices are the same, with their events in this order, and sounding voices are ordered by pitch. No condition. -/
import Derived.Test.YtbljfaocmeeljaaAlRising
import Derived.Test.YtbljfaocmeeljaaAlLight
import Derived.Test.YtbljfaocmeeljaaAlKnownP
import Derived.Test.YtbljfaocmeeljaaSteps
import Derived.Test.YtbljfaocmeeljaaOpened
namespace Go.Proofs.Ytbljfaocmeeljaa.alignOrder
open Go.ChangeShapes Go.WideShapes Go.ChangeAt Go.RowKit Go.Deep
set_option linter.unusedVariables false
theorem csV_len (l : List Pl) : (csV l).length = l.length := by have := flat_len slV 1 (fun _ => rfl) l; rw [Nat.mul_one] at this; exact this
theorem reads_takeV {w : World} {B n k : Nat} {A : Option Addr} {ds : List Pl} (h : Reads w B 1 A n (csV ds)) (hk : k ≤ n) : Reads w B 1 A k (csV (ds.take k)) := by
  have hl : ds.length = n := h.len (size := 1) (l := ds) (f := slV) (fun _ => rfl) (by decide)
  refine ⟨by rw [csV_len, List.length_take]; omega, fun h0 => ?_⟩
  obtain ⟨b, off, e, hb, hc⟩ := h.2 (by omega)
  refine ⟨b, off, e, hb, fun j u hu => hc j u ?_⟩
  have e2 : csV ds = csV (ds.take k) ++ csV (ds.drop k) := by rw [← csV_append, List.take_append_drop]
  rw [e2]
  have hj : j < (csV (ds.take k)).length := by
    rcases Nat.lt_or_ge j (csV (ds.take k)).length with h1 | h1
    · exact h1
    · rw [List.getElem?_eq_none h1] at hu; cases hu
  rw [List.getElem?_append_left hj, hu]
theorem reads_dropV {w : World} {B n k b off : Nat} {ds : List Pl} (h : Reads w B 1 (some ⟨b, off, none⟩) n (csV ds)) (hk : k ≤ n) (A : Option Addr) (hA : k < n → A = some ⟨b, off + k, none⟩) : Reads w B 1 A (n - k) (csV (ds.drop k)) := by
  have hl : ds.length = n := h.len (size := 1) (l := ds) (f := slV) (fun _ => rfl) (by decide)
  refine ⟨by rw [csV_len, List.length_drop]; omega, fun h0 => ?_⟩
  obtain ⟨b', off', e, hb, hc⟩ := h.2 (by omega)
  cases e
  refine ⟨b, off + k, hA (by omega), hb, fun j u hu => ?_⟩
  rw [Nat.add_assoc]
  refine hc (k + j) u ?_
  have e2 : csV ds = csV (ds.take k) ++ csV (ds.drop k) := by rw [← csV_append, List.take_append_drop]
  have e3 : (csV (ds.take k)).length = k := by rw [csV_len, List.length_take]; omega
  rw [e2, List.getElem?_append_right (by omega), e3, show k + j - k = j by omega, hu]
theorem turn_reads {w : World} {B N : Nat} {A : Option Addr} {ds : List Pl} {l : List (List Ev)} (hl : ds.length = l.length) (h4 : l.length = 4) (h : Reads w B 1 A 4 (csV (ds.drop N ++ ds.take N)))
    (hv : ∀ (k : Nat) d v, ds[k]? = some d → l[k]? = some v → Reads w B 10 d.1 d.2.1 (csE v) ∧ d.2.1 ≤ 9223372036854775807) : ReadsV w B A 4 (turnL N l) := by
  refine ⟨ds.drop N ++ ds.take N, ?_, h, fun k d v hd hw => ?_⟩
  · rw [turn_len, List.length_append, List.length_drop, List.length_take]; omega
  · unfold turnL at hw
    rcases Nat.lt_or_ge k (l.length - N) with h1 | h1
    · rw [List.getElem?_append_left (by rw [List.length_drop]; omega), List.getElem?_drop] at hd hw
      exact hv _ d v hd hw
    · rw [List.getElem?_append_right (by rw [List.length_drop]; omega), List.length_drop, List.getElem?_take] at hd hw
      split at hd
      · split at hw
        · rw [hl] at hd
          exact hv _ d v hd hw
        · cases hw
      · cases hd
theorem made_pit {a b c d : List Int} : ∀ v ∈ made4 a b c d, ∀ x ∈ v, x.rest = false → pchk x.pit = 0 := by
  have one : ∀ (m : Nat) (l : List Int), ∀ x ∈ voiceS m l, x.rest = false → pchk x.pit = 0 := by
    intro m l
    have key : ∀ (z : List (Int × Pay)) (s : Int), (∀ y ∈ z, small y) → ∀ x ∈ lay 24 s z, x.rest = false → pchk x.pit = 0 := by
      intro z
      induction z with
      | nil => intro s _ x hx; simp [lay] at hx
      | cons y z ih =>
        intro s hs x hx hr
        rw [lay] at hx
        rcases List.mem_cons.1 hx with rfl | hx
        · exact (hs y (by simp)).2.2.1.2.1 hr
        · exact ih _ (fun q hq => hs q (by simp [hq])) x hx hr
    exact key _ 0 (voice_small _ 0 (by omega))
  intro v hv
  unfold made4 at hv
  simp only [List.mem_cons, List.not_mem_nil, or_false] at hv
  rcases hv with rfl | rfl | rfl | rfl <;> exact one _ _
set_option maxRecDepth 100000 in
theorem run_head (W : World) (I b off : Nat) (h : I ≤ 4) :
    (Instr.slice 22 (.slice (some ⟨b, off, none⟩) 4 4) none (some (.int .i64 (I : Int))) none).run Try.prog W = .ok (.slice (some ⟨b, off, none⟩) I 4) W := by
  rw [run_slice_h W 22 _ _ _ Try.underlying22 .i64 _ (by omega) (by omega), show (Go.sizeOf (Try.prog.elem 22)).run Try.prog W = .ok 1 W by kernel_rfl]
  simp [Result.andThen, sliced, Addr.add]
set_option maxRecDepth 100000 in
theorem run_tail (I b off : Nat) (h : I < 4) : 
    ∀ W : World, (Instr.slice 22 (.slice (some ⟨b, off, none⟩) 4 4) (some (.int .i64 (I : Int))) none none).run Try.prog W = .ok (.slice (some ⟨b, off + I, none⟩) (4 - I) (4 - I)) W := by
  intro W
  rw [run_slice_l W 22 _ _ _ Try.underlying22 .i64 _ (by omega) (by omega), show (Go.sizeOf (Try.prog.elem 22)).run Try.prog W = .ok 1 W by kernel_rfl]
  have hne : ¬ (4 = I) := by omega
  simp [Result.andThen, sliced, Addr.add, hne]
set_option maxRecDepth 100000 in
set_option maxHeartbeats 8000000 in
theorem walk {Aa Ab Ac Ad : Option Addr} {na nb nc nd : Nat} {a b c d : List Int} {w : World} (ca cb cc cd : Nat) (num : Int) (ha : Nums w Aa na a) (hb : Nums w Ab nb b) (hc : Nums w Ac nc c) (hd : Nums w Ad nd d) (hnum : -9223372036854775808 ≤ num ∧ num ≤ 9223372036854775807) :
    Calls Try.prog 9 #[.slice Aa na ca, .slice Ab nb cb, .slice Ac nc cc, .slice Ad nd cd, .int .i64 num] w fun e w' => e = .returned (.bool true) ∧ Below w.heap.size w w' := by
  have HS := Lib.hid (made_set a b c d)
  have HV := Lib.hid (made_len a b c d)
  have HP := Lib.hid (made_pit (a := a) (b := b) (c := c) (d := d))
  have HL := Lib.hid (show (made4 a b c d).length = 4 from rfl)
  have q1 := fun W (h1 : Nums W Aa na a) (h2 : Nums W Ab nb b) (h3 : Nums W Ac nc c) (h4 : Nums W Ad nd d) => made_any h1 h2 h3 h4 ca cb cc cd
  generalize made4 a b c d = l at HS HV HP HL q1
  have HMB := Lib.hid (mom_big (l := l) (by rw [setq_check HS.out]))
  have qm := fun W => mod_any num 4 W (by omega) (by omega) hnum.1 hnum.2
  obtain ⟨N, hN⟩ : ∃ N : Nat, num % 4 = (N : Int) := ⟨(num % 4).toNat, by have := Int.emod_nonneg num (show (4 : Int) ≠ 0 by omega); omega⟩
  have hN4 : N < 4 := by have := Int.emod_lt_of_pos num (show (0 : Int) < 4 by omega); omega
  rw [hN] at qm
  clear hN hnum
  obtain ⟨i0, hi0, hz0, hz1, hz2⟩ := info_parts voice_info
  go_enter Try.func9, Try.ntmps9
  go_wp2_with fail
  refine (known_any _).mono ?_
  rintro e w1 ⟨rfl, b1⟩
  replace ha := ha.kept b1; replace hb := hb.kept b1; replace hc := hc.kept b1; replace hd := hd.kept b1
  go_wp2_with fail
  refine (q1 _ ha hb hc hd).mono ?_
  rintro e w2 ⟨A, rfl, r2, b2⟩
  have k2 := below_call b1 b2
  clear ha hb hc hd b1 b2 q1
  go_wp2_with fail
  refine (qm _).mono ?_
  rintro e wm ⟨rfl, rfl⟩
  obtain ⟨wz, rfl⟩ : ∃ wz : World, wz = w2 := ⟨_, rfl⟩
  have hBz := Nat.le_refl wz.heap.size
  obtain ⟨ds, hds, hrd, hvd⟩ := id r2
  obtain ⟨b, off, rfl, hab, _⟩ := hrd.2 (by omega)
  have rD := reads_dropV hrd (k := N) (by omega) _ (fun _ => rfl)
  have rT := reads_takeV hrd (k := N) (by omega)
  have s1 := run_head (I := N) (b := b) (off := off) (h := by omega)
  have s2 := run_tail N b off hN4
  obtain ⟨Ad, hAd⟩ : ∃ A : Option Addr, A = some ⟨b, off + N, none⟩ := ⟨_, rfl⟩
  rw [← hAd] at rD s2
  have hN4' : (N : Int) < 4 := by omega
  have hN5 : (N : Int) ≤ 4 := by omega
  clear hAd
  go_wp2_with fail
  go_region_held3 (fun w' => True ∧ True ∧ True ∧ Below wz.heap.size wz w') ((refine (fun hb => ⟨trivial, trivial, trivial, hb⟩) ?_; repeat (first | with_reducible exact Below.refl _ _ | with_reducible exact hB3 | with_reducible exact hB4 | with_reducible exact (show _ ∧ _ ∧ _ ∧ Below wz.heap.size wz _ by assumption).2.2.2 | with_reducible refine Below.drew ?_ | with_reducible refine below_alloc ?_ _))) ((first | ((refine step_guard (.tmp 30) (.tmp 33) 22 (.slice (some ⟨wz.heap.size, 0, none⟩) 0 0) ?_ ?_ ?_); (focus rfl); (focus rfl); (refine step_append_any _ (by rfl) (.tmp 30) (.tmp 33) 22 (by rfl) wz.heap.size 61 i0 _ 1 24 Try.underlying22 hi0 hz0 hz1 hz2 rfl (by omega) (.slice (some ⟨wz.heap.size, 0, none⟩) 0 0) 0 [] (by rfl) (own_call (World.ownsRow_lit wz #[] 0 (Nat.le_refl _) (by simp [maxLen]) rfl) (by repeat (first | with_reducible exact Below.refl _ _ | with_reducible refine Below.drew ?_ | with_reducible refine below_alloc ?_ _))) _ Ad (4 - N) _ (csV (ds.drop N)) (by rfl) (rD.below hBz ((show _ ∧ _ ∧ _ ∧ Below wz.heap.size wz _ by assumption).2.2.2)) (one_csV _) (by simp only [maxLen]; omega) (by omega) ((show _ ∧ _ ∧ _ ∧ Below wz.heap.size wz _ by assumption).2.2.2).size ?_); intro v1 w3 hown3 hg3 hat3; have hB3 : Below wz.heap.size wz w3 := Below.grown (B := wz.heap.size) (a := wz) (show _ ∧ _ ∧ _ ∧ Below wz.heap.size wz _ by assumption).2.2.2 hg3 (by first | exact ((show _ ∧ _ ∧ _ ∧ Below wz.heap.size wz _ by assumption).2.2.2).size) (fun q hq => by simp [Value.ownBlock] at hq; omega); simp only [Nat.zero_add, List.nil_append] at hown3) | ((refine step_guard (.tmp 34) (.tmp 37) 22 v1 ?_ ?_ ?_); (focus rfl); (focus rfl); (refine step_append_any _ (by rfl) (.tmp 34) (.tmp 37) 22 (by rfl) wz.heap.size 61 i0 _ 1 24 Try.underlying22 hi0 hz0 hz1 hz2 rfl (by omega) v1 (4 - N) (csV (ds.drop N)) (by rfl) hown3 _ _ N _ (csV (ds.take N)) (by rfl) (rT.below hBz ((show _ ∧ _ ∧ _ ∧ Below wz.heap.size wz _ by assumption).2.2.2)) (one_csV _) (by simp only [maxLen]; omega) (by omega) ((show _ ∧ _ ∧ _ ∧ Below wz.heap.size wz _ by assumption).2.2.2).size ?_); intro v2 w4 hown4 hg4 hat4; have hB4 : Below wz.heap.size wz w4 := Below.grown (B := wz.heap.size) (a := wz) (show _ ∧ _ ∧ _ ∧ Below wz.heap.size wz _ by assumption).2.2.2 hg4 ((show _ ∧ _ ∧ _ ∧ Below wz.heap.size wz _ by assumption).2.2.2).size (fun q hq => (hown3.lt q hq).1); rw [← csV_append] at hown4; obtain ⟨A4, c4, hv4, hr4, _⟩ := own_reads hown4; subst hv4)))
  have kz := below_call k2 hB4
  have h4N : 4 - N + N = 4 := by omega
  rw [h4N] at hr4 ⊢
  have r4 := rdV r2 hB4
  have t4 : ReadsV w4 w4.heap.size A4 4 (turnL N l) := turn_reads hds HL.out hr4 (fun k d v hd hv => ⟨rdk (hvd k d v hd hv).1 hB4, (hvd k d v hd hv).2⟩)
  have qs := fun W (h : ReadsV W W.heap.size (some ⟨b, off, none⟩) 4 l) => slices_any (some ⟨b, off, none⟩) 4 4 l _ W h (Nat.le_refl _) (by omega)
  have qt := fun W (h : ReadsV W W.heap.size A4 4 (turnL N l)) => slices_any A4 4 c4 (turnL N l) _ W h (Nat.le_refl _) (by omega)
  rw [setq_slices HS.out] at qs
  rw [setq_slices (turn_set HS.out N), turn_mom HS.out] at qt
  have HTL := Lib.hid (show (turnL N l).length = 4 by rw [turn_len]; exact HL.out)
  have HTG := Lib.hid (fun k (hk : k < 4) => turn_get HL.out hN4 hk)
  generalize turnL N l = tl at t4 qt HTL HTG
  obtain ⟨K, hK⟩ : ∃ K, K = (momS l).length - 1 := ⟨_, rfl⟩
  rw [← hK] at qs qt
  have HK := Lib.hid hK
  clear hK hr4 hown4 hown3 hg4 hg3 hat3 hat4 hB3 hB4 s1 s2 rD rT hrd hvd hds h4N r2 k2 hBz hab
  go_wp2_with fail
  refine (qs _ r4).mono ?_
  rintro e w5 ⟨v5, rfl, o5, b5⟩
  obtain ⟨A5, c5, rfl, s5⟩ := o5.reads
  rw [List.length_map, List.length_range] at s5 ⊢
  have k5 := below_call kz b5
  have r5 := rdV r4 b5
  have t5 := rdV t4 b5
  clear o5 b5 qs kz r4 t4
  go_wp2_with fail
  refine (qt _ t5).mono ?_
  rintro e w6 ⟨v6, rfl, o6, b6⟩
  obtain ⟨A6, c6, rfl, t6⟩ := o6.reads
  rw [List.length_map, List.length_range] at t6 ⊢
  have k6 := below_call k5 b6
  have r6 := rdV r5 b6
  have s6 := s5.kept b6
  clear o6 b6 qt k5 r5 s5 t5
  go_wp2_with fail
  go_loopg [18, 19, 20, 21] K (fun gh i _ _ _ wr => ∃ n : Nat, n + gh = K ∧ i = .int .i64 (n : Int) ∧ Below w6.heap.size w6 wr)
  case atStart => exact ⟨0, by omega, by simp, Below.refl _ _⟩
  case round =>
    obtain ⟨n, hng, rfl, kr⟩ := hrel
    have wn : IntKind.i64.wrap ((n : Int) + 1) = (n : Int) + 1 := IntWalk.i64_in _ (by have := HMB.out; have := HK.out; omega)
    cases gk with
    | zero =>
      have d0 : ¬ ((n : Int) < (K : Int)) := by omega
      clear hng
      go_wp2
      go_ret
      exact ⟨rfl, below_call k6 kr⟩
    | succ gh =>
      have hnK : n < K := by omega
      have d0 : (n : Int) < (K : Int) := by omega
      have hgs : ((List.range K).map (slOf l (momS l)))[n]? = some (slOf l (momS l) n) := by rw [List.getElem?_map, List.getElem?_range hnK]; rfl
      have hgt : ((List.range K).map (slOf tl (momS l)))[n]? = some (slOf tl (momS l) n) := by rw [List.getElem?_map, List.getElem?_range hnK]; rfl
      obtain ⟨bs, os, p, q, kc, hAs, hbs, hq, hr, x0, x1, x2, x3, x4⟩ := s6.el (Nat.le_refl _) kr hnK hgs
      obtain ⟨bt, ot, p', q', kc', hAt, hbt, hq', hr', y0, y1, y2, y3, y4⟩ := t6.el (Nat.le_refl _) kr hnK hgt
      have hq4 : q = 4 := by rw [← hq]; show (l.map _).length = 4; rw [List.length_map]; exact HL.out
      have hq4' : q' = 4 := by rw [← hq']; show (tl.map _).length = 4; rw [List.length_map]; exact HTL.out
      subst hq4 hq4'
      have hr9 : Reads wr wr.heap.size 1 p 4 (csN (l.map fun v => onS v (mAt (momS l) n))) := hr
      have hr8 : Reads wr wr.heap.size 1 p' 4 (csN (tl.map fun v => onS v (mAt (momS l) n))) := hr'
      obtain ⟨⟨a0, a1⟩, ha⟩ : ∃ t, t = mAt (momS l) n := ⟨_, rfl⟩
      obtain ⟨⟨e0, e1⟩, he⟩ : ∃ t, t = (durE (momS l) n).1 := ⟨_, rfl⟩
      have z0 : wr.cell? ⟨bs, os + n * 5, none⟩ = some (.int .i64 a0) := by rw [x0]; show some (Value.int .i64 (mAt (momS l) n).1) = _; rw [← ha]
      have z1 : wr.cell? ⟨bs, os + n * 5 + 1, none⟩ = some (.int .i64 a1) := by rw [x1]; show some (Value.int .i64 (mAt (momS l) n).2) = _; rw [← ha]
      have z2 : wr.cell? ⟨bs, os + n * 5 + 2, none⟩ = some (.int .i64 e0) := by rw [x2]; show some (Value.int .i64 (durE (momS l) n).1.1) = _; rw [← he]
      have z3 : wr.cell? ⟨bs, os + n * 5 + 3, none⟩ = some (.int .i64 e1) := by rw [x3]; show some (Value.int .i64 (durE (momS l) n).1.2) = _; rw [← he]
      have u0 : wr.cell? ⟨bt, ot + n * 5, none⟩ = some (.int .i64 a0) := by rw [y0]; show some (Value.int .i64 (mAt (momS l) n).1) = _; rw [← ha]
      have u1 : wr.cell? ⟨bt, ot + n * 5 + 1, none⟩ = some (.int .i64 a1) := by rw [y1]; show some (Value.int .i64 (mAt (momS l) n).2) = _; rw [← ha]
      have u2 : wr.cell? ⟨bt, ot + n * 5 + 2, none⟩ = some (.int .i64 e0) := by rw [y2]; show some (Value.int .i64 (durE (momS l) n).1.1) = _; rw [← he]
      have u3 : wr.cell? ⟨bt, ot + n * 5 + 3, none⟩ = some (.int .i64 e1) := by rw [y3]; show some (Value.int .i64 (durE (momS l) n).1.2) = _; rw [← he]
      have hto := ok_mAt (setq_sa HS.out).2 (i := n) (by have := HK.out; omega)
      have qS := fun W (h : ReadsV W W.heap.size (some ⟨b, off, none⟩) 4 l) => sounds_any (some ⟨b, off, none⟩) 4 4 l (n : Int) _ W h (Nat.le_refl _) (by omega)
      rw [sounds_set HS.out (by have := HK.out; omega)] at qS
      simp only at qS
      obtain ⟨t, htt⟩ : ∃ t, t = mAt (momS l) n := ⟨_, rfl⟩
      rw [← htt] at hr9 hr8 hto qS
      have qR := fun W (h1 : ReadsV W W.heap.size (some ⟨b, off, none⟩) 4 l) (h2 : Reads W W.heap.size 1 p 4 (csN (l.map fun v => onS v t))) Aw cw (h3 : Reads W W.heap.size 1 Aw (whoS l t).length (csJ (whoS l t))) => rising_any (some ⟨b, off, none⟩) p Aw 4 kc cw l t a0 a1 e0 e1 W HS.out HL.out HV.out HP.out hto h1 h2 h3
      have hWL := who_len l t
      generalize whoS l t = who at qS qR hWL
      have HWL := Lib.hid (show who.length ≤ 4 by rw [← HL.out]; exact hWL)
      clear hgs hgt hq hq' hr hr' x0 x1 x2 x3 y0 y1 y2 y3 ha he htt hto hWL
      subst hAs hAt
      go_wp2_with fail
      refine wp_region_calm (by kernel_rfl) (by kernel_rfl) ?_
      repeat (go_big_quiet_step (fail))
      refine wpQuiet_nil ?_
      intro wd gd
      have kd := below_call kr gd
      have hr7 := rd1 hr9 gd
      have hr6 := rd1 hr8 gd
      have x4' := (gd.cell (p := ⟨bs, os + n * 5 + 4, none⟩) hbs).trans x4
      have y4' := (gd.cell (p := ⟨bt, ot + n * 5 + 4, none⟩) hbt).trans y4
      have z0' := (gd.cell (p := ⟨bs, os + n * 5, none⟩) hbs).trans z0
      have z1' := (gd.cell (p := ⟨bs, os + n * 5 + 1, none⟩) hbs).trans z1
      have z2' := (gd.cell (p := ⟨bs, os + n * 5 + 2, none⟩) hbs).trans z2
      have z3' := (gd.cell (p := ⟨bs, os + n * 5 + 3, none⟩) hbs).trans z3
      have hbs' : bs < wd.heap.size := Nat.lt_of_lt_of_le hbs gd.size
      have hbt' : bt < wd.heap.size := Nat.lt_of_lt_of_le hbt gd.size
      clear x4 y4 z0 z1 z2 z3 u0 u1 u2 u3 hr8 hr9 hbs hbt kr gd
      go_wp2_with fail
      go_loopg [19] 4 (fun g2 i wy => ∃ (k : Nat), k + g2 = 4 ∧ i = .int .i64 (k : Int) ∧ Below wd.heap.size wd wy)
      case atStart => exact ⟨0, by omega, by simp, Below.refl _ _⟩
      case round =>
        obtain ⟨k, hkg, rfl, ky⟩ := hrel
        have wk : IntKind.i64.wrap ((k : Int) + 1) = (k : Int) + 1 := IntWalk.i64_in _ (by omega)
        have x4 := (ky.cell (p := ⟨bs, os + n * 5 + 4, none⟩) hbs').trans x4'
        have hbs2 : bs < wr.heap.size := Nat.lt_of_lt_of_le hbs' ky.size
        cases gk with
        | zero =>
          have d1 : ¬ ((k : Int) < 4) := by omega
          have kk := below_call kd ky
          have z0 := (ky.cell (p := ⟨bs, os + n * 5, none⟩) hbs').trans z0'
          have z1 := (ky.cell (p := ⟨bs, os + n * 5 + 1, none⟩) hbs').trans z1'
          have z2 := (ky.cell (p := ⟨bs, os + n * 5 + 2, none⟩) hbs').trans z2'
          have z3 := (ky.cell (p := ⟨bs, os + n * 5 + 3, none⟩) hbs').trans z3'
          have hr5 := rd1 hr7 ky
          clear hkg
          go_wp2_with fail
          refine (qS _ (rdV r6 kk)).mono ?_
          rintro e w8 ⟨v8, rfl, o8, b8⟩
          obtain ⟨A8, c8, rfl, s8, _, _⟩ := own_reads o8
          have e8 : (csJ who).length = who.length := csJ_len who
          have k8 := below_call kk b8
          have hr4 := rd1 hr5 b8
          have x4 := (b8.cell (p := ⟨bs, os + n * 5 + 4, none⟩) hbs2).trans x4
          have z0 := (b8.cell (p := ⟨bs, os + n * 5, none⟩) hbs2).trans z0
          have z1 := (b8.cell (p := ⟨bs, os + n * 5 + 1, none⟩) hbs2).trans z1
          have z2 := (b8.cell (p := ⟨bs, os + n * 5 + 2, none⟩) hbs2).trans z2
          have z3 := (b8.cell (p := ⟨bs, os + n * 5 + 3, none⟩) hbs2).trans z3
          have hbs3 : bs < w8.heap.size := Nat.lt_of_lt_of_le hbs2 b8.size
          clear o8 b8 hr5 ky
          go_wp2_with (go_at_call 40; refine (qR _ (rdV r6 k8) hr4 _ _ s8).mono ?_; rintro e w9 ⟨rfl, b9⟩)
          go_roundg gh
          case measure => omega
          case rel => exact ⟨n + 1, by omega, by go_num, below_call k8 b9⟩
        | succ g2 =>
          have hk4 : k < 4 := by omega
          have d1 : (k : Int) < 4 := by omega
          have y4 := (ky.cell (p := ⟨bt, ot + n * 5 + 4, none⟩) hbt').trans y4'
          have hbt2 : bt < wr.heap.size := Nat.lt_of_lt_of_le hbt' ky.size
          obtain ⟨m, hm⟩ : ∃ m, m = (N + k) % 4 := ⟨_, rfl⟩
          have hm4 : m < 4 := by omega
          obtain ⟨v, hv⟩ := get_some (l := l) (k := m) (by have := HL.out; omega)
          have htv : tl[k]? = some v := by rw [HTG.out k hk4, ← hm]; exact hv
          obtain ⟨be, oe, hpe, hbe, hce⟩ := Reads.elem (f := cI) (fun _ => rfl) (rd1 hr7 ky) (k := m) hm4 (x := onS v t) (by rw [List.getElem?_map, hv]; rfl)
          obtain ⟨bf, of, hpf, hbf, hcf⟩ := Reads.elem (f := cI) (fun _ => rfl) (rd1 hr6 ky) (k := k) hk4 (x := onS v t) (by rw [List.getElem?_map, htv]; rfl)
          have f0 : wr.cell? ⟨be, oe + m, none⟩ = some (.int .i64 (onS v t)) := by have h0 := hce 0 _ rfl; simpa using h0
          have f1 : wr.cell? ⟨bf, of + k, none⟩ = some (.int .i64 (onS v t)) := by have h0 := hcf 0 _ rfl; simpa using h0
          have ws : IntKind.i64.wrap ((N : Int) + (k : Int)) = (N : Int) + (k : Int) := IntWalk.i64_in _ (by omega)
          have wm : ((N : Int) + (k : Int)).tmod 4 = (m : Int) := by rw [Int.tmod_eq_emod_of_nonneg (by omega), hm]; omega
          have hm4' : (m : Int) < 4 := by omega
          clear hm hv htv hce hcf
          subst hpe hpf
          go_wp2_with fail
          refine wp_region_calm (by kernel_rfl) (by kernel_rfl) ?_
          repeat (go_big_quiet_step (fail))
          refine wpQuiet_nil ?_
          intro we ge
          go_wp2
          go_roundg g2
          case measure => omega
          case rel => exact ⟨k + 1, by omega, by go_num, below_call ky ge⟩
set_option maxRecDepth 100000 in
theorem lifted (os : Os) (started : os.Started) (H : Type) (enc : TypeId × Value → H) :
    ReturnsInHanded {} Try.checked os 9 .any (Rows.alignOrderSpec.pre6 enc Try.prog Try.f9 Rows.alignOrderRow.domain false) (Rows.alignOrderSpec.post enc Try.prog Try.f9 false true false false) := by
  refine returnsInHanded_of_change (C := Try.checked) own started (by kernel_rfl) Try.func9
    (ChangeSpec.witness6 (enc := enc) (C := Try.checked) false ⟨#[], #[.slice none 0 0, .slice none 0 0, .slice none 0 0, .slice none 0 0, .int .i64 0], []⟩ 8 (by kernel_rfl) (by kernel_rfl) (by kernel_rfl) (by kernel_rfl)) ?_
  intro W base args ds gs before hval0 hW hcnd _
  have hval : ∀ (j : Nat) t v, Try.f9.params[j]? = some t → args[j]? = some v → Value.okWide Try.prog W .any base t v := hval0
  have hW' := hW
  obtain ⟨p, q, hA0, hV, rfl, hfz, hnd⟩ := hW
  have hA : DataW.TrodAll enc Try.prog W 0 (fun _ => true) true Try.f9.params.toList args.toList ds p := hA0
  rw [Try.params9] at hA hval
  obtain ⟨v0, vs0, d0, ds0, p0, q0, hargs, rfl, rfl, h0, r0⟩ := trodAll_cons hA
  obtain ⟨v1, vs1, d1, ds1, p1, q1, rfl, rfl, rfl, h1, r1⟩ := trodAll_cons r0
  obtain ⟨v2, vs2, d2, ds2, p2, q2, rfl, rfl, rfl, h2, r2⟩ := trodAll_cons r1
  obtain ⟨v3, vs3, d3, ds3, p3, q3, rfl, rfl, rfl, h3, r3⟩ := trodAll_cons r2
  obtain ⟨v4, vs4, d4, ds4, p4, q4, rfl, rfl, rfl, h4, r4⟩ := trodAll_cons r3
  obtain ⟨rfl, rfl, rfl⟩ := trodAll_nil r4
  obtain rfl : args = #[v0, v1, v2, v3, v4] := by cases args; simp_all
  obtain ⟨rfl, rfl⟩ := trodVars_none hV
  have k0 := h0
  have lt0 : ∀ x ∈ p0, x.block < W.heap.size := by obtain ⟨m, hm⟩ := k0; exact DataW.trod_lt m _ _ _ hm
  obtain ⟨A0, n0, c0, l0, rfl, w0⟩ := arg_ints (hval 0 42 v0 rfl rfl) h0
  have k1 := h1
  have lt1 : ∀ x ∈ p1, x.block < W.heap.size := by obtain ⟨m, hm⟩ := k1; exact DataW.trod_lt m _ _ _ hm
  obtain ⟨A1, n1, c1, l1, rfl, w1⟩ := arg_ints (hval 1 42 v1 rfl rfl) h1
  have k2 := h2
  have lt2 : ∀ x ∈ p2, x.block < W.heap.size := by obtain ⟨m, hm⟩ := k2; exact DataW.trod_lt m _ _ _ hm
  obtain ⟨A2, n2, c2, l2, rfl, w2⟩ := arg_ints (hval 2 42 v2 rfl rfl) h2
  have k3 := h3
  have lt3 : ∀ x ∈ p3, x.block < W.heap.size := by obtain ⟨m, hm⟩ := k3; exact DataW.trod_lt m _ _ _ hm
  obtain ⟨A3, n3, c3, l3, rfl, w3⟩ := arg_ints (hval 3 42 v3 rfl rfl) h3
  have k4 := h4
  have lt4 : ∀ x ∈ p4, x.block < W.heap.size := by obtain ⟨m, hm⟩ := k4; exact DataW.trod_lt m _ _ _ hm
  obtain ⟨a4, rfl, w4⟩ := arg_int (hval 4 3 v4 rfl rfl) h4
  clear hA0 hval0
  refine (walk c0 c1 c2 c3 a4 ⟨w0.1, w0.2.1, w0.2.2⟩ ⟨w1.1, w1.2.1, w1.2.2⟩ ⟨w2.1, w2.2.1, w2.2.2⟩ ⟨w3.1, w3.2.1, w3.2.2⟩ w4).mono fun e W' ⟨he, bel⟩ => ?_
  subst he
  exact ⟨_, rfl, _, _, _, [], _, [], hW', trodAll_mk1 (shut_bool Try.underlying4 _), (trodAll_cons_mk (Below.trod laidOut (by kernel_rfl) (of_decide_eq_true (by kernel_rfl)) k0 bel lt0) (trodAll_cons_mk (Below.trod laidOut (by kernel_rfl) (of_decide_eq_true (by kernel_rfl)) k1 bel lt1) (trodAll_cons_mk (Below.trod laidOut (by kernel_rfl) (of_decide_eq_true (by kernel_rfl)) k2 bel lt2) (trodAll_cons_mk (Below.trod laidOut (by kernel_rfl) (of_decide_eq_true (by kernel_rfl)) k3 bel lt3) (trodAll_cons_mk (Below.trod laidOut (by kernel_rfl) (of_decide_eq_true (by kernel_rfl)) k4 bel lt4) trodAll_mk0))))), rfl, bel.frame _, fun h => by cases h⟩

theorem over : Rows.AlignOrderSaid :=
  OpenClaim.holds_of_wide 9 Try.f9 rfl rfl rfl rfl rfl rfl rfl ⟨rfl, rfl, rfl, rfl, rfl⟩ rfl rfl rfl rfl rfl (by kernel_rfl) Try.func9 (by kernel_rfl)
    (of_decide_eq_true (by kernel_rfl)) (by unfold Func.isWrapper; first | (rw [if_pos (by decide +kernel)]; kernel_rfl) | (rw [if_neg (by decide +kernel)]; exact ⟨rfl, rfl⟩))
    (fun os started H enc _ => lifted os started H enc)

/-- The statement. -/
theorem proved : Rows.AlignOrderSaid := over

end Go.Proofs.Ytbljfaocmeeljaa.alignOrder
