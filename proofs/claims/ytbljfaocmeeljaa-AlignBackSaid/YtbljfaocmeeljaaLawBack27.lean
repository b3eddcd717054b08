/- AlignBack holds: the durations of the events of voices made of numbers are the sums of the slices in which they are. No condition. -/
import Derived.Test.YtbljfaocmeeljaaAlMade
import Derived.Test.YtbljfaocmeeljaaAlKnownP
import Derived.Test.YtbljfaocmeeljaaOpened
namespace Go.Proofs.Ytbljfaocmeeljaa.alignBack
open Go.ChangeShapes Go.WideShapes Go.ChangeAt Go.RowKit Go.Deep
set_option linter.unusedVariables false
set_option maxRecDepth 100000 in
set_option maxHeartbeats 4000000 in
theorem walk {Aa Ab Ac Ad : Option Addr} {na nb nc nd : Nat} {a b c d : List Int} {w : World} (ca cb cc cd : Nat) (ha : Nums w Aa na a) (hb : Nums w Ab nb b) (hc : Nums w Ac nc c) (hd : Nums w Ad nd d) :
    Calls Try.prog 7 #[.slice Aa na ca, .slice Ab nb cb, .slice Ac nc cc, .slice Ad nd cd] w fun e w' => e = .returned (.bool true) ∧ Below w.heap.size w w' := by
  have HS := Lib.hid (made_set a b c d)
  have HV := Lib.hid (made_len a b c d)
  have HL := Lib.hid (show (made4 a b c d).length = 4 from rfl)
  have q1 := fun W (h1 : Nums W Aa na a) (h2 : Nums W Ab nb b) (h3 : Nums W Ac nc c) (h4 : Nums W Ad nd d) => made_any h1 h2 h3 h4 ca cb cc cd
  generalize made4 a b c d = l at HS HV HL q1
  go_enter Try.func7, Try.ntmps7
  go_wp2_with fail
  refine (known_any _).mono ?_
  rintro e w1 ⟨rfl, b1⟩
  replace ha := ha.kept b1; replace hb := hb.kept b1; replace hc := hc.kept b1; replace hd := hd.kept b1
  go_wp2_with fail
  refine (q1 _ ha hb hc hd).mono ?_
  rintro e w2 ⟨A, rfl, r2, b2⟩
  have k2 := below_call b1 b2
  clear ha hb hc hd b1 b2 q1
  go_wp2_with fail
  go_loopg [11, 12, 13, 14] 4 (fun gh i _ _ _ wr => ∃ k : Nat, k + gh = 4 ∧ i = .int .i64 (k : Int) ∧ Below w2.heap.size w2 wr)
  case atStart => exact ⟨0, by omega, by simp, Below.refl _ _⟩
  case round =>
    obtain ⟨k, hkg, rfl, k0⟩ := hrel
    have wk : IntKind.i64.wrap ((k : Int) + 1) = (k : Int) + 1 := IntWalk.i64_in _ (by omega)
    cases gk with
    | zero =>
      have d0 : ¬ ((k : Int) < 4) := by omega
      clear hkg
      go_wp2
      go_ret
      exact ⟨rfl, below_call k2 k0⟩
    | succ gh =>
      have hk4 : k < 4 := by omega
      have d0 : (k : Int) < 4 := by omega
      obtain ⟨v, hv⟩ := get_some (l := l) (k := k) (by have := HL.out; omega)
      have hbk := back_set HS.out hv
      have hv10 := HV.out v (List.mem_of_getElem? hv)
      have q3 := fun W (h : ReadsV W W.heap.size A 4 l) => back_any A 4 4 l (k : Int) _ W h (Nat.le_refl _) (by omega)
      rw [hbk] at q3
      have HVK := Lib.hid hv
      clear hbk hv
      go_wp2_with fail
      refine (q3 _ (rdV r2 k0)).mono ?_
      rintro e w3 ⟨v3, rfl, o3, b3⟩
      obtain ⟨A3, c3, rfl, r3, _, _⟩ := own_reads o3
      have k3 := below_call k0 b3
      obtain ⟨b, off, A', n', c', hA, hab, cv, hre, hn', hvn⟩ := r2.voice (Nat.le_refl _) k3 hk4 HVK.out
      subst hA
      rw [List.length_map, hvn] at r3 ⊢
      clear q3 o3 b3 k0
      go_wp2_with fail
      go_loopg [14] n' (fun g2 j wy => ∃ m : Nat, m + g2 = n' ∧ j = .int .i64 (m : Int) ∧ Below w3.heap.size w3 wy)
      case atStart => exact ⟨0, by omega, by simp, Below.refl _ _⟩
      case round =>
        obtain ⟨m, hmg, rfl, k4⟩ := hrel
        have wm : IntKind.i64.wrap ((m : Int) + 1) = (m : Int) + 1 := IntWalk.i64_in _ (by omega)
        cases gk with
        | zero =>
          have d1 : ¬ ((m : Int) < (n' : Int)) := by omega
          clear hmg
          go_wp2
          go_roundg gh
          case measure => omega
          case rel => exact ⟨k + 1, by omega, by go_num, below_call k3 k4⟩
        | succ g2 =>
          have hmn : m < n' := by omega
          have d1 : (m : Int) < (n' : Int) := by omega
          obtain ⟨x, hx⟩ := get_some (l := v) (k := m) (by omega)
          obtain ⟨bx, ox, hAx, hbx, hcx⟩ := hre.ev k3.size k4 hmn hx
          obtain ⟨bt, ot, hAt, hbt, hct⟩ := r3.elem (f := cT) (fun _ => rfl) (k := m) hmn (by rw [List.getElem?_map, hx]; rfl)
          subst hAx hAt
          have cv4 := (k4.cell (p := ⟨b, off + k, none⟩) hab).trans cv
          obtain ⟨⟨a0, a1⟩, ⟨d0', d1'⟩, ⟨p, q, r⟩, rst, sg, ps⟩ := x
          obtain ⟨c0, c1, c2, c3', c4, c5, c6, c7, c8, c9⟩ := ten hcx
          have t0 := hct 0 _ rfl
          have t1 := hct 1 _ rfl
          rw [← k4.cell (by simpa using hbt)] at t0 t1
          have hab4 : b < wr.heap.size := by have := k4.size; omega
          have hbt4 : bt < wr.heap.size := by have := k4.size; omega
          simp only [Nat.add_zero] at t0 c0 c1 c2 c3'
          rw [← Nat.add_assoc] at t1
          clear hcx hct hx cv
          go_wp2_with fail
          refine wp_region_calm (by kernel_rfl) (by kernel_rfl) ?_
          repeat (go_big_quiet_step (fail))
          refine wpQuiet_nil ?_
          intro wd gd
          go_wp2
          go_roundg g2
          case measure => omega
          case rel => exact ⟨m + 1, by omega, by go_num, below_call k4 gd⟩
set_option maxRecDepth 100000 in
theorem lifted (os : Os) (started : os.Started) (H : Type) (enc : TypeId × Value → H) :
    ReturnsInHanded {} Try.checked os 7 .any (Rows.alignBackSpec.pre6 enc Try.prog Try.f7 Rows.alignBackRow.domain false) (Rows.alignBackSpec.post enc Try.prog Try.f7 false true false false) := by
  refine returnsInHanded_of_change (C := Try.checked) own started (by kernel_rfl) Try.func7
    (ChangeSpec.witness6 (enc := enc) (C := Try.checked) false ⟨#[], #[.slice none 0 0, .slice none 0 0, .slice none 0 0, .slice none 0 0], []⟩ 8 (by kernel_rfl) (by kernel_rfl) (by kernel_rfl) (by kernel_rfl)) ?_
  intro W base args ds gs before hval0 hW hcnd _
  have hval : ∀ (j : Nat) t v, Try.f7.params[j]? = some t → args[j]? = some v → Value.okWide Try.prog W .any base t v := hval0
  have hW' := hW
  obtain ⟨p, q, hA0, hV, rfl, hfz, hnd⟩ := hW
  have hA : DataW.TrodAll enc Try.prog W 0 (fun _ => true) true Try.f7.params.toList args.toList ds p := hA0
  rw [Try.params7] at hA hval
  obtain ⟨v0, vs0, d0, ds0, p0, q0, hargs, rfl, rfl, h0, r0⟩ := trodAll_cons hA
  obtain ⟨v1, vs1, d1, ds1, p1, q1, rfl, rfl, rfl, h1, r1⟩ := trodAll_cons r0
  obtain ⟨v2, vs2, d2, ds2, p2, q2, rfl, rfl, rfl, h2, r2⟩ := trodAll_cons r1
  obtain ⟨v3, vs3, d3, ds3, p3, q3, rfl, rfl, rfl, h3, r3⟩ := trodAll_cons r2
  obtain ⟨rfl, rfl, rfl⟩ := trodAll_nil r3
  obtain rfl : args = #[v0, v1, v2, v3] := by cases args; simp_all
  obtain ⟨rfl, rfl⟩ := trodVars_none hV
  have k0 := h0
  have lt0 : ∀ x ∈ p0, x.block < W.heap.size := by obtain ⟨m, hm⟩ := k0; exact DataW.trod_lt m _ _ _ hm
  obtain ⟨A0, n0, c0, l0, rfl, w0⟩ := arg_ints (hval 0 42 v0 rfl rfl) h0
  have k1 := h1
  have lt1 : ∀ x ∈ p1, x.block < W.heap.size := by obtain ⟨m, hm⟩ := k1; exact DataW.trod_lt m _ _ _ hm
  obtain ⟨A1, n1, c1, l1, rfl, w1⟩ := arg_ints (hval 1 42 v1 rfl rfl) h1
  have k2 := h2
  have lt2 : ∀ x ∈ p2, x.block < W.heap.size := by obtain ⟨m, hm⟩ := k2; exact DataW.trod_lt m _ _ _ hm
  obtain ⟨A2, n2, c2, l2, rfl, w2⟩ := arg_ints (hval 2 42 v2 rfl rfl) h2
  have k3 := h3
  have lt3 : ∀ x ∈ p3, x.block < W.heap.size := by obtain ⟨m, hm⟩ := k3; exact DataW.trod_lt m _ _ _ hm
  obtain ⟨A3, n3, c3, l3, rfl, w3⟩ := arg_ints (hval 3 42 v3 rfl rfl) h3
  clear hA0 hval0
  refine (walk c0 c1 c2 c3 ⟨w0.1, w0.2.1, w0.2.2⟩ ⟨w1.1, w1.2.1, w1.2.2⟩ ⟨w2.1, w2.2.1, w2.2.2⟩ ⟨w3.1, w3.2.1, w3.2.2⟩).mono fun e W' ⟨he, bel⟩ => ?_
  subst he
  exact ⟨_, rfl, _, _, _, [], _, [], hW', trodAll_mk1 (shut_bool Try.underlying4 _), (trodAll_cons_mk (Below.trod laidOut (by kernel_rfl) (of_decide_eq_true (by kernel_rfl)) k0 bel lt0) (trodAll_cons_mk (Below.trod laidOut (by kernel_rfl) (of_decide_eq_true (by kernel_rfl)) k1 bel lt1) (trodAll_cons_mk (Below.trod laidOut (by kernel_rfl) (of_decide_eq_true (by kernel_rfl)) k2 bel lt2) (trodAll_cons_mk (Below.trod laidOut (by kernel_rfl) (of_decide_eq_true (by kernel_rfl)) k3 bel lt3) trodAll_mk0)))), rfl, bel.frame _, fun h => by cases h⟩

theorem over : Rows.AlignBackSaid :=
  OpenClaim.holds_of_wide 7 Try.f7 rfl rfl rfl rfl rfl rfl rfl ⟨rfl, rfl, rfl, rfl, rfl⟩ rfl rfl rfl rfl rfl (by kernel_rfl) Try.func7 (by kernel_rfl)
    (of_decide_eq_true (by kernel_rfl)) (by unfold Func.isWrapper; first | (rw [if_pos (by decide +kernel)]; kernel_rfl) | (rw [if_neg (by decide +kernel)]; exact ⟨rfl, rfl⟩))
    (fun os started H enc _ => lifted os started H enc)

/-- The statement. -/
theorem proved : Rows.AlignBackSaid := over

end Go.Proofs.Ytbljfaocmeeljaa.alignBack
