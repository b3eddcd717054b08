/- AlignChanges holds: all voices with events start in the first slice, and in each later one a voice starts or has just ended. No condition. -/
import Derived.Test.YtbljfaocmeeljaaAlMade
import Derived.Test.YtbljfaocmeeljaaAlKnownP
import Derived.Test.YtbljfaocmeeljaaAlRefSlices
import Derived.Test.YtbljfaocmeeljaaOpened
namespace Go.Proofs.Ytbljfaocmeeljaa.alignChanges
open Go.ChangeShapes Go.WideShapes Go.ChangeAt Go.RowKit Go.Deep
set_option linter.unusedVariables false
/-- Whether something changes in slice n for a voice. -/
def chg (m : List Tm) (n : Nat) (v : List Ev) : Bool := startB v (mAt m n) || (decide (0 < n) && (decide (onS v (mAt m n) < 0) && decide (0 ≤ onS v (mAt m (n - 1)))))
theorem chg_some {M : Int} {l : List (List Ev)} (h : SetQ M l) {n : Nat} (hn : n + 1 < (momS l).length) : (l.any (chg (momS l) n)) = true := by
  obtain ⟨v, hv, hc⟩ := some_change h hn
  refine List.any_eq_true.2 ⟨v, hv, ?_⟩
  unfold chg
  rcases hc with hc | ⟨h1, h2, h3⟩
  · rw [hc]; rfl
  · rw [decide_eq_true h1, decide_eq_true h2, decide_eq_true h3]; simp
theorem start_first {M : Int} {l : List (List Ev)} (h : SetQ M l) (h0 : 0 < (momS l).length) {v : List Ev} (hv : v ∈ l) : startB v (mAt (momS l) 0) = decide (0 < v.length) := by
  rw [setq_first h h0]
  by_cases h1 : 0 < v.length
  · rw [decide_eq_true h1]; exact on_first h hv h1
  · have : v = [] := List.length_eq_zero_iff.1 (by omega)
    subst this; rfl
theorem starts_set {M : Int} {l : List (List Ev)} (h : SetQ M l) {n : Nat} (hn : n < (momS l).length - 1) : startsE l (n : Int) = (l.map fun v => startB v (mAt (momS l) n), 0) := by
  unfold startsE
  rw [setq_slices h, if_neg (fun h => h rfl), if_neg (by simp; omega)]
  rfl
set_option maxRecDepth 100000 in
set_option maxHeartbeats 8000000 in
theorem walk {Aa Ab Ac Ad : Option Addr} {na nb nc nd : Nat} {a b c d : List Int} {w : World} (ca cb cc cd : Nat) (ha : Nums w Aa na a) (hb : Nums w Ab nb b) (hc : Nums w Ac nc c) (hd : Nums w Ad nd d) :
    Calls Try.prog 8 #[.slice Aa na ca, .slice Ab nb cb, .slice Ac nc cc, .slice Ad nd cd] w fun e w' => e = .returned (.bool true) ∧ Below w.heap.size w w' := by
  have HS := Lib.hid (made_set a b c d)
  have HV := Lib.hid (made_len a b c d)
  have HL := Lib.hid (show (made4 a b c d).length = 4 from rfl)
  have q1 := fun W (h1 : Nums W Aa na a) (h2 : Nums W Ab nb b) (h3 : Nums W Ac nc c) (h4 : Nums W Ad nd d) => made_any h1 h2 h3 h4 ca cb cc cd
  generalize made4 a b c d = l at HS HV HL q1
  have HMB := Lib.hid (mom_big (l := l) (by rw [setq_check HS.out]))
  go_enter Try.func8, Try.ntmps8
  go_wp2_with fail
  refine (known_any _).mono ?_
  rintro e w1 ⟨rfl, b1⟩
  replace ha := ha.kept b1; replace hb := hb.kept b1; replace hc := hc.kept b1; replace hd := hd.kept b1
  go_wp2_with fail
  refine (q1 _ ha hb hc hd).mono ?_
  rintro e w2 ⟨A, rfl, r2, b2⟩
  have k2 := below_call b1 b2
  clear ha hb hc hd b1 b2 q1
  have qs := fun W (h : ReadsV W W.heap.size A 4 l) => slices_any A 4 4 l _ W h (Nat.le_refl _) (by omega)
  have qr := fun W (h : ReadsV W W.heap.size A 4 l) => refSlices_any A 4 4 l _ W h (Nat.le_refl _) (by omega)
  rw [setq_slices HS.out] at qs qr
  obtain ⟨K, hK⟩ : ∃ K, K = (momS l).length - 1 := ⟨_, rfl⟩
  rw [← hK] at qs qr
  have HK := Lib.hid hK
  clear hK
  go_wp2_with fail
  refine (qs _ r2).mono ?_
  rintro e w3 ⟨v3, rfl, o3, b3⟩
  obtain ⟨A3, c3, rfl, s3⟩ := o3.reads
  rw [List.length_map, List.length_range] at s3 ⊢
  have k3 := below_call k2 b3
  have r3 := rdV r2 b3
  clear o3 b3 qs k2 r2
  go_wp2_with fail
  refine (qr _ r3).mono ?_
  rintro e w4 ⟨v4, rfl, o4, b4⟩
  obtain ⟨A4, c4, rfl, s4⟩ := o4.reads
  rw [List.length_map, List.length_range] at s4 ⊢
  have k4 := below_call k3 b4
  have r4 := rdV r3 b4
  have t4 := s3.kept b4
  clear o4 b4 qr k3 r3 s3
  go_wp2_with fail
  refine (sameSlices_any A3 A4 K c3 c4 _ w4 t4 s4 (by have := HMB.out; have := HK.out; omega) (by
    intro s hs
    obtain ⟨i, _, rfl⟩ := List.mem_map.1 hs
    show (l.map _).length ≤ _
    rw [List.length_map, HL.out]; omega)).mono ?_
  rintro e w5 ⟨rfl, b5⟩
  have k5 := below_call k4 b5
  have r5 := rdV r4 b5
  have s5 := t4.kept b5
  clear b5 k4 r4 t4 s4
  go_wp2_with fail
  go_loopg [15, 16, 17, 18, 19] K (fun gh i _ _ _ _ wr => ∃ n : Nat, n + gh = K ∧ i = .int .i64 (n : Int) ∧ Below w5.heap.size w5 wr)
  case atStart => exact ⟨0, by omega, by simp, Below.refl _ _⟩
  case round =>
    obtain ⟨n, hng, rfl, kr⟩ := hrel
    have wn : IntKind.i64.wrap ((n : Int) + 1) = (n : Int) + 1 := IntWalk.i64_in _ (by have := HMB.out; have := HK.out; omega)
    cases gk with
    | zero =>
      have d0 : ¬ ((n : Int) < (K : Int)) := by omega
      clear hng
      go_wp2
      go_ret
      exact ⟨rfl, below_call k5 kr⟩
    | succ gh =>
      have hnK : n < K := by omega
      have d0 : (n : Int) < (K : Int) := by omega
      have q3 := fun W (h : ReadsV W W.heap.size A 4 l) => starts_any A 4 4 l (n : Int) _ W h (Nat.le_refl _) (by omega)
      rw [starts_set HS.out (by have := HK.out; omega)] at q3
      have HSOME := Lib.hid (chg_some HS.out (n := n) (by have := HK.out; omega))
      have HFST := Lib.hid (fun (v : List Ev) (hv : v ∈ l) => start_first HS.out (by have := HK.out; omega) hv)
      go_wp2_with fail
      refine (q3 _ (rdV r5 kr)).mono ?_
      rintro e w6 ⟨v6, rfl, o6, b6⟩
      obtain ⟨A6, c6, rfl, s6, _, _⟩ := own_reads o6
      rw [List.length_map, HL.out] at s6 ⊢
      have k6 := below_call kr b6
      clear o6 b6 q3 kr
      go_wp2_with fail
      go_loopg [18, 19] 4 (fun g2 f j wy => ∃ (i : Nat), i + g2 = 4 ∧ j = .int .i64 (i : Int) ∧ f = .bool ((l.take i).any (chg (momS l) n)) ∧ Below w6.heap.size w6 wy)
      case atStart => exact ⟨0, by omega, by simp, rfl, Below.refl _ _⟩
      case round =>
        obtain ⟨i, hig, rfl, rfl, ky⟩ := hrel
        have wi : IntKind.i64.wrap ((i : Int) + 1) = (i : Int) + 1 := IntWalk.i64_in _ (by omega)
        cases gk with
        | zero =>
          have d1 : ¬ ((i : Int) < 4) := by omega
          have ht : (l.take i).any (chg (momS l) n) = true := by rw [List.take_of_length_le (by have := HL.out; omega)]; exact HSOME.out
          rw [ht]
          clear ht hig
          go_wp2
          go_roundg gh
          case measure => omega
          case rel => exact ⟨n + 1, by omega, by go_num, below_call k6 ky⟩
        | succ g2 =>
          have hi4 : i < 4 := by omega
          have d1 : (i : Int) < 4 := by omega
          obtain ⟨v, hv⟩ := get_some (l := l) (k := i) (by have := HL.out; omega)
          have hvm := List.mem_of_getElem? hv
          have k8 := below_call k6 ky
          obtain ⟨bv, ov, A', n', c', hAv, habv, cv, hre, hn', hvn⟩ := r5.voice (Nat.le_refl _) k8 hi4 hv
          -- what Starts has
          obtain ⟨bs, os, hAs, hbs, hcs⟩ := Reads.elem (f := cB) (fun _ => rfl) (s6.below (Nat.le_refl _) ky) (k := i) hi4 (by rw [List.getElem?_map, hv]; rfl)
          have e0 : wr.cell? ⟨bs, os + i, none⟩ = some (.bool (startB v (mAt (momS l) n))) := by have h0 := hcs 0 _ rfl; simpa using h0
          have lbs : bs < wr.heap.size := by have := ky.size; omega
          -- the slices n and n - 1
          have hg : ((List.range K).map (slOf l (momS l)))[n]? = some (slOf l (momS l) n) := by rw [List.getElem?_map, List.getElem?_range hnK]; rfl
          obtain ⟨bn, on, p, q, kc, hAn, hbn, hq, hr, _, _, _, _, x4⟩ := s5.el (Nat.le_refl _) k8 hnK hg
          have hq4 : q = 4 := by rw [← hq]; show (l.map _).length = 4; rw [List.length_map]; exact HL.out
          subst hq4
          obtain ⟨be, oe, hpe, hbe, hce⟩ := Reads.elem (f := cI) (fun _ => rfl) hr (k := i) hi4 (x := onS v (mAt (momS l) n)) (by show (l.map _)[i]? = _; rw [List.getElem?_map, hv]; rfl)
          have y0 : wr.cell? ⟨be, oe + i, none⟩ = some (.int .i64 (onS v (mAt (momS l) n))) := by have h0 := hce 0 _ rfl; simpa using h0
          have lbe : be < wr.heap.size := hbe
          have lbn : bn < wr.heap.size := hbn
          obtain ⟨sb, hsb⟩ : ∃ b, b = startB v (mAt (momS l) n) := ⟨_, rfl⟩
          obtain ⟨f, hf⟩ : ∃ b, b = (l.take i).any (chg (momS l) n) := ⟨_, rfl⟩
          obtain ⟨o1, ho1⟩ : ∃ b, b = onS v (mAt (momS l) n) := ⟨_, rfl⟩
          rw [← hsb] at e0
          rw [← ho1] at y0
          rw [← hf]
          have HNX : (l.take (i + 1)).any (chg (momS l) n) = (f || (sb || (decide (0 < n) && (decide (o1 < 0) && decide (0 ≤ onS v (mAt (momS l) (n - 1))))))) := by
            rw [take_get hv, List.any_append, ← hf, hsb, ho1]; simp [chg]
          have HVK := Lib.hid hv
          clear hf ho1 hcs hce hr hq hg hv
          subst hAv hAs hAn hpe
          rcases Nat.eq_zero_or_pos n with hn0 | hn0
          · subst hn0
            rw [HFST.out v hvm, hvn] at hsb
            have HNX2 := Lib.hid (show (l.take (i + 1)).any (chg (momS l) 0) = (f || sb) by rw [HNX]; simp)
            clear HNX hvm hvn
            by_cases hp : 0 < n'
            · have hp' : decide (0 < (n' : Int)) = true := decide_eq_true (by omega)
              obtain rfl : sb = true := by rw [hsb]; exact decide_eq_true hp
              clear hsb
              have HT := Lib.hid (show (l.take (i + 1)).any (chg (momS l) 0) = true by rw [HNX2.out]; simp)
              clear HNX2
              cases f
              all_goals
                go_wp2_with fail
                refine wp_region_calm (by kernel_rfl) (by kernel_rfl) ?_
                repeat (go_big_quiet_step (fail))
                refine wpQuiet_nil ?_
                intro wd gd
                go_wp2
                go_roundg g2
                case measure => omega
                case rel => exact ⟨i + 1, by omega, by go_num, by rw [HT.out], below_call ky gd⟩
            · have hp' : decide (0 < (n' : Int)) = false := decide_eq_false (by omega)
              obtain rfl : sb = false := by rw [hsb]; exact decide_eq_false hp
              clear hsb
              have HT := Lib.hid (show (l.take (i + 1)).any (chg (momS l) 0) = f by rw [HNX2.out]; simp)
              clear HNX2
              cases f
              all_goals
                go_wp2_with fail
                refine wp_region_calm (by kernel_rfl) (by kernel_rfl) ?_
                repeat (go_big_quiet_step (fail))
                refine wpQuiet_nil ?_
                intro wd gd
                go_wp2
                go_roundg g2
                case measure => omega
                case rel => exact ⟨i + 1, by omega, by go_num, by rw [HT.out], below_call ky gd⟩
          · obtain ⟨m, hm⟩ : ∃ m, m = n - 1 := ⟨_, rfl⟩
            have hmn : m + 1 = n := by omega
            have hmK : m < K := by omega
            have hg : ((List.range K).map (slOf l (momS l)))[m]? = some (slOf l (momS l) m) := by rw [List.getElem?_map, List.getElem?_range hmK]; rfl
            obtain ⟨bm, om, pm, qm, km, hAm, hbm, hqm, hrm, _, _, _, _, xm⟩ := s5.el (Nat.le_refl _) k8 hmK hg
            have hqm4 : qm = 4 := by rw [← hqm]; show (l.map _).length = 4; rw [List.length_map]; exact HL.out
            subst hqm4
            obtain ⟨be', oe', hpe', hbe', hce'⟩ := Reads.elem (f := cI) (fun _ => rfl) hrm (k := i) hi4 (x := onS v (mAt (momS l) m)) (by show (l.map _)[i]? = _; rw [List.getElem?_map, HVK.out]; rfl)
            have z0 : wr.cell? ⟨be', oe' + i, none⟩ = some (.int .i64 (onS v (mAt (momS l) m))) := by have h0 := hce' 0 _ rfl; simpa using h0
            simp only [Option.some.injEq, Addr.mk.injEq, and_true] at hAm
            obtain ⟨rfl, rfl⟩ := hAm
            subst hpe'
            rw [← hm] at HNX
            have lbe' : be' < wr.heap.size := hbe'
            obtain ⟨o0, ho0⟩ : ∃ b, b = onS v (mAt (momS l) m) := ⟨_, rfl⟩
            rw [← ho0] at z0 HNX
            rw [decide_eq_true hn0, Bool.true_and] at HNX
            have HNX2 := Lib.hid HNX
            have wm : IntKind.i64.wrap ((n : Int) - 1) = (m : Int) := by rw [IntWalk.i64_in _ (by have := HMB.out; have := HK.out; omega)]; omega
            have p1 : decide (0 < (n : Int)) = true := decide_eq_true (by omega)
            have p1' : 0 < (n : Int) := by omega
            have p2 : ((n : Int) == 0) = false := by simpa using (show n ≠ 0 by omega)
            have p3 : (m : Int) < (K : Int) := by omega
            clear hm hmn hce' hrm hqm hg ho0 HNX hsb hvm hvn
            cases f
            · cases sb
              · by_cases h1 : o1 < 0
                · have h1' : decide (o1 < 0) = true := decide_eq_true h1
                  by_cases h2 : 0 ≤ o0
                  · have h2' : decide (0 ≤ o0) = true := decide_eq_true h2
                    have HT := Lib.hid (show (l.take (i + 1)).any (chg (momS l) n) = true by rw [HNX2.out, h1', h2']; rfl)
                    clear HNX2
                    go_wp2_with fail
                    refine wp_region_calm (by kernel_rfl) (by kernel_rfl) ?_
                    repeat (go_big_quiet_step (fail))
                    refine wpQuiet_nil ?_
                    intro wd gd
                    go_wp2
                    go_roundg g2
                    case measure => omega
                    case rel => exact ⟨i + 1, by omega, by go_num, by rw [HT.out], below_call ky gd⟩
                  · have h2' : decide (0 ≤ o0) = false := decide_eq_false h2
                    have HT := Lib.hid (show (l.take (i + 1)).any (chg (momS l) n) = false by rw [HNX2.out, h1', h2']; rfl)
                    clear HNX2
                    go_wp2_with fail
                    refine wp_region_calm (by kernel_rfl) (by kernel_rfl) ?_
                    repeat (go_big_quiet_step (fail))
                    refine wpQuiet_nil ?_
                    intro wd gd
                    go_wp2
                    go_roundg g2
                    case measure => omega
                    case rel => exact ⟨i + 1, by omega, by go_num, by rw [HT.out], below_call ky gd⟩
                · have h1' : decide (o1 < 0) = false := decide_eq_false h1
                  have HT := Lib.hid (show (l.take (i + 1)).any (chg (momS l) n) = false by rw [HNX2.out, h1']; rfl)
                  clear HNX2
                  go_wp2_with fail
                  refine wp_region_calm (by kernel_rfl) (by kernel_rfl) ?_
                  repeat (go_big_quiet_step (fail))
                  refine wpQuiet_nil ?_
                  intro wd gd
                  go_wp2
                  go_roundg g2
                  case measure => omega
                  case rel => exact ⟨i + 1, by omega, by go_num, by rw [HT.out], below_call ky gd⟩
              · have HT := Lib.hid (show (l.take (i + 1)).any (chg (momS l) n) = true by rw [HNX2.out]; rfl)
                clear HNX2
                go_wp2_with fail
                refine wp_region_calm (by kernel_rfl) (by kernel_rfl) ?_
                repeat (go_big_quiet_step (fail))
                refine wpQuiet_nil ?_
                intro wd gd
                go_wp2
                go_roundg g2
                case measure => omega
                case rel => exact ⟨i + 1, by omega, by go_num, by rw [HT.out], below_call ky gd⟩
            · have HT := Lib.hid (show (l.take (i + 1)).any (chg (momS l) n) = true by rw [HNX2.out]; rfl)
              clear HNX2
              go_wp2_with fail
              refine wp_region_calm (by kernel_rfl) (by kernel_rfl) ?_
              repeat (go_big_quiet_step (fail))
              refine wpQuiet_nil ?_
              intro wd gd
              go_wp2
              go_roundg g2
              case measure => omega
              case rel => exact ⟨i + 1, by omega, by go_num, by rw [HT.out], below_call ky gd⟩
set_option maxRecDepth 100000 in
theorem lifted (os : Os) (started : os.Started) (H : Type) (enc : TypeId × Value → H) :
    ReturnsInHanded {} Try.checked os 8 .any (Rows.alignChangesSpec.pre6 enc Try.prog Try.f8 Rows.alignChangesRow.domain false) (Rows.alignChangesSpec.post enc Try.prog Try.f8 false true false false) := by
  refine returnsInHanded_of_change (C := Try.checked) own started (by kernel_rfl) Try.func8
    (ChangeSpec.witness6 (enc := enc) (C := Try.checked) false ⟨#[], #[.slice none 0 0, .slice none 0 0, .slice none 0 0, .slice none 0 0], []⟩ 8 (by kernel_rfl) (by kernel_rfl) (by kernel_rfl) (by kernel_rfl)) ?_
  intro W base args ds gs before hval0 hW hcnd _
  have hval : ∀ (j : Nat) t v, Try.f8.params[j]? = some t → args[j]? = some v → Value.okWide Try.prog W .any base t v := hval0
  have hW' := hW
  obtain ⟨p, q, hA0, hV, rfl, hfz, hnd⟩ := hW
  have hA : DataW.TrodAll enc Try.prog W 0 (fun _ => true) true Try.f8.params.toList args.toList ds p := hA0
  rw [Try.params8] at hA hval
  obtain ⟨v0, vs0, d0, ds0, p0, q0, hargs, rfl, rfl, h0, r0⟩ := trodAll_cons hA
  obtain ⟨v1, vs1, d1, ds1, p1, q1, rfl, rfl, rfl, h1, r1⟩ := trodAll_cons r0
  obtain ⟨v2, vs2, d2, ds2, p2, q2, rfl, rfl, rfl, h2, r2⟩ := trodAll_cons r1
  obtain ⟨v3, vs3, d3, ds3, p3, q3, rfl, rfl, rfl, h3, r3⟩ := trodAll_cons r2
  obtain ⟨rfl, rfl, rfl⟩ := trodAll_nil r3
  obtain rfl : args = #[v0, v1, v2, v3] := by cases args; simp_all
  obtain ⟨rfl, rfl⟩ := trodVars_none hV
  have k0 := h0
  have lt0 : ∀ x ∈ p0, x.block < W.heap.size := by obtain ⟨m, hm⟩ := k0; exact DataW.trod_lt m _ _ _ hm
  obtain ⟨A0, n0, c0, l0, rfl, w0⟩ := arg_ints (hval 0 42 v0 rfl rfl) h0
  have k1 := h1
  have lt1 : ∀ x ∈ p1, x.block < W.heap.size := by obtain ⟨m, hm⟩ := k1; exact DataW.trod_lt m _ _ _ hm
  obtain ⟨A1, n1, c1, l1, rfl, w1⟩ := arg_ints (hval 1 42 v1 rfl rfl) h1
  have k2 := h2
  have lt2 : ∀ x ∈ p2, x.block < W.heap.size := by obtain ⟨m, hm⟩ := k2; exact DataW.trod_lt m _ _ _ hm
  obtain ⟨A2, n2, c2, l2, rfl, w2⟩ := arg_ints (hval 2 42 v2 rfl rfl) h2
  have k3 := h3
  have lt3 : ∀ x ∈ p3, x.block < W.heap.size := by obtain ⟨m, hm⟩ := k3; exact DataW.trod_lt m _ _ _ hm
  obtain ⟨A3, n3, c3, l3, rfl, w3⟩ := arg_ints (hval 3 42 v3 rfl rfl) h3
  clear hA0 hval0
  refine (walk c0 c1 c2 c3 ⟨w0.1, w0.2.1, w0.2.2⟩ ⟨w1.1, w1.2.1, w1.2.2⟩ ⟨w2.1, w2.2.1, w2.2.2⟩ ⟨w3.1, w3.2.1, w3.2.2⟩).mono fun e W' ⟨he, bel⟩ => ?_
  subst he
  exact ⟨_, rfl, _, _, _, [], _, [], hW', trodAll_mk1 (shut_bool Try.underlying4 _), (trodAll_cons_mk (Below.trod laidOut (by kernel_rfl) (of_decide_eq_true (by kernel_rfl)) k0 bel lt0) (trodAll_cons_mk (Below.trod laidOut (by kernel_rfl) (of_decide_eq_true (by kernel_rfl)) k1 bel lt1) (trodAll_cons_mk (Below.trod laidOut (by kernel_rfl) (of_decide_eq_true (by kernel_rfl)) k2 bel lt2) (trodAll_cons_mk (Below.trod laidOut (by kernel_rfl) (of_decide_eq_true (by kernel_rfl)) k3 bel lt3) trodAll_mk0)))), rfl, bel.frame _, fun h => by cases h⟩

theorem over : Rows.AlignChangesSaid :=
  OpenClaim.holds_of_wide 8 Try.f8 rfl rfl rfl rfl rfl rfl rfl ⟨rfl, rfl, rfl, rfl, rfl⟩ rfl rfl rfl rfl rfl (by kernel_rfl) Try.func8 (by kernel_rfl)
    (of_decide_eq_true (by kernel_rfl)) (by unfold Func.isWrapper; first | (rw [if_pos (by decide +kernel)]; kernel_rfl) | (rw [if_neg (by decide +kernel)]; exact ⟨rfl, rfl⟩))
    (fun os started H enc _ => lifted os started H enc)

/-- The statement. -/
theorem proved : Rows.AlignChangesSaid := over

end Go.Proofs.Ytbljfaocmeeljaa.alignChanges
