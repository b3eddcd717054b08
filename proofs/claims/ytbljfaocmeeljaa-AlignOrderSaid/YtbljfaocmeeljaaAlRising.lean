/- The walk through tactuslaw27.rising: voices that sound in a slice, with ascending pitches. -/
import Derived.Test.YtbljfaocmeeljaaAlMade
import Derived.Test.YtbljfaocmeeljaaAlTurn
import Derived.Test.YtbljfaocmeeljaaAlSounds
namespace Go.Proofs.Ytbljfaocmeeljaa
open Go.RowKit
def csL (bs : List Bool) : Array Value := (bs.map Value.bool).toArray
theorem csL_get {bs : List Bool} {k : Nat} {b : Bool} (h : bs[k]? = some b) : (csL bs)[k]? = some (.bool b) := by unfold csL; simp [h]
theorem csL_set (bs : List Bool) (k : Nat) (b : Bool) : (csL bs).setIfInBounds k (.bool b) = csL (bs.set k b) := by unfold csL; simp [List.map_set]
set_option maxRecDepth 100000 in
theorem flag_info : (Try.prog.info? 4).map (fun i => (i.zero, i.size, i.bytes)) = some (some (.bool false), 1, 1) := by kernel_rfl
theorem made4_false : madeCells #[Value.bool false] 4 = csL [false, false, false, false] := by kernel_rfl
/-- Which voices were seen behind j of those who sound. -/
def Seen (o : List Nat) (j : Nat) (bs : List Bool) : Prop := bs.length = 4 ∧ ∀ (k : Nat) b, bs[k]? = some b → (b = true ↔ k ∈ o.take j)
theorem Seen.next {o : List Nat} {j k : Nat} {bs : List Bool} (h : Seen o j bs) (hk : o[j]? = some k) : Seen o (j + 1) (bs.set k true) := by
  refine ⟨by rw [List.length_set]; exact h.1, fun i b hb => ?_⟩
  rw [take_get hk, List.mem_append, List.mem_singleton]
  rw [List.getElem?_set] at hb
  by_cases e : k = i
  · subst e
    rw [if_pos rfl] at hb
    split at hb
    · cases hb; simp
    · cases hb
  · rw [if_neg e] at hb
    rw [h.2 i b hb]
    constructor
    · exact .inl
    · rintro (h1 | h1)
      · exact h1
      · exact absurd h1.symm e
theorem nodup_take {o : List Nat} (h : o.Nodup) {j k : Nat} (hk : o[j]? = some k) : k ∉ o.take j := by
  intro hm
  obtain ⟨i, hi, e⟩ := List.getElem_of_mem hm
  rw [List.length_take] at hi
  obtain ⟨hj, ek⟩ := List.getElem?_eq_some_iff.1 hk
  rw [List.getElem_take] at e
  exact List.pairwise_iff_getElem.1 h i j (by omega) hj (by omega) (by rw [e, ek])
/-- The last height is not above that of voice k. -/
def Last (l : List (List Ev)) (t : Tm) (o : List Nat) (j : Nat) (last : Int) : Prop := (j = 0 ∧ last = -100000) ∨ ∃ (i k e : Nat) (v : List Ev) (x : Ev), j = i + 1 ∧ o[i]? = some k ∧ l[k]? = some v ∧ onS v t = (e : Int) ∧ v[e]? = some x ∧ pchk x.pit = 0 ∧ last = hgt x.pit
theorem Last.le {l : List (List Ev)} {t : Tm} {o : List Nat} {j k e : Nat} {last : Int} {v : List Ev} {x : Ev} (h : Last l t o j last) (ho : o.Pairwise (fun a b => ltV l t a b = true)) (hk : o[j]? = some k) (hv : l[k]? = some v) (he : onS v t = (e : Int)) (hx : v[e]? = some x) (hp : pchk x.pit = 0) : last ≤ hgt x.pit := by
  rcases h with ⟨rfl, rfl⟩ | ⟨i, k', e', v', x', rfl, h1, h2, h3, h4, h5, rfl⟩
  · have := pchk_bd hp
    unfold hgt; omega
  · obtain ⟨i1, r1⟩ := List.getElem?_eq_some_iff.1 h1
    obtain ⟨i2, r2⟩ := List.getElem?_eq_some_iff.1 hk
    have := List.pairwise_iff_getElem.1 ho i (i + 1) i1 i2 (by omega)
    rw [r1, r2] at this
    unfold ltV at this
    rw [key_ev h2 h3 h4, key_ev hv he hx] at this
    exact hgt_le h5 hp this
set_option maxRecDepth 100000 in
set_option maxHeartbeats 8000000 in
theorem rising_any {M : Int} (A Ae Aw : Option Addr) (c ce cw : Nat) (l : List (List Ev)) (t : Tm) (a0 a1 d0 d1 : Int) (w : World) (hs : SetQ M l) (hl4 : l.length = 4) (hl10 : ∀ v ∈ l, v.length ≤ 10) (hpit : ∀ v ∈ l, ∀ x ∈ v, x.rest = false → pchk x.pit = 0) (ht : ok t)
    (h : ReadsV w w.heap.size A 4 l) (he : Reads w w.heap.size 1 Ae 4 (csN (l.map fun v => onS v t))) (hw : Reads w w.heap.size 1 Aw (whoS l t).length (csJ (whoS l t))) :
    Calls Try.prog 40 #[.slice A 4 c, .agg #[.int .i64 a0, .int .i64 a1, .int .i64 d0, .int .i64 d1, .slice Ae 4 ce], .slice Aw (whoS l t).length cw] w fun e w' => e = .returned (.bool true) ∧ Below w.heap.size w w' := by
  obtain ⟨W1, W2, W3⟩ := who_spec l t
  have W4 := who_len l t
  obtain ⟨o, ho⟩ : ∃ o, o = whoS l t := ⟨_, rfl⟩
  rw [← ho] at W1 W2 W3 W4 hw ⊢
  rw [hl4] at W3 W4
  obtain ⟨N, hN⟩ : ∃ N, N = o.length := ⟨_, rfl⟩
  rw [← hN] at W4 hw ⊢
  have HN := Lib.hid hN.symm
  have HL := Lib.hid hl4
  have H10 := Lib.hid hl10
  have HW1 := Lib.hid W1
  have HW2 := Lib.hid W2
  have HW3 := Lib.hid W3
  have HP := Lib.hid hpit
  clear hl4 hl10 W1 W2 W3 ho hN hpit
  have hmk : ∀ u : World, (Instr.makeSlice 38 (.int .i64 4) (.int .i64 4)).run Try.prog u = .ok (.slice (some ⟨u.heap.size, 0, none⟩) 4 4) (u.alloc (.cells (csL [false, false, false, false]) 4)) := fun u => by
    obtain ⟨j0, hj0, gz0, gz1, gz2⟩ := info_parts flag_info
    have := run_makeSlice (P := Try.prog) u 38 4 j0 (.bool false) Try.underlying38 hj0 gz0 .i64 .i64 4 4 (by omega) (Int.le_refl _) (by rw [gz1]; simp) (by rw [gz2]; show ((1 : Nat) : Int) * 4 ≤ _; omega) (by omega)
    rw [gz1] at this
    simp only [Value.cells] at this
    exact this.trans (by rw [show madeCells #[Value.bool false] (Int.toNat 4 * 1) = csL [false, false, false, false] from made4_false]; rfl)
  have T0 : Blk (w.alloc (.cells #[.int .i64 a0, .int .i64 a1, .int .i64 d0, .int .i64 d1, .slice Ae 4 ce] 59)) w.heap.size 59 #[.int .i64 a0, .int .i64 a1, .int .i64 d0, .int .i64 d1, .slice Ae 4 ce] := Blk.new _ _ _
  go_enter Try.func40, Try.ntmps40
  go_wp2_with fail
  obtain ⟨w1, hw1⟩ : ∃ w1, w1 = w.alloc (.cells #[.int .i64 a0, .int .i64 a1, .int .i64 d0, .int .i64 d1, .slice Ae 4 ce] 59) := ⟨_, rfl⟩
  have b1 : Below w.heap.size w w1 := by rw [hw1]; exact below_alloc (Below.refl _ _) _
  rw [← hw1] at T0 ⊢
  have z1 : w1.heap.size = w.heap.size + 1 := by rw [hw1]; simp
  have Z1 := Lib.hid z1
  clear hw1 z1
  obtain ⟨w2, hw2⟩ : ∃ w2, w2 = w1.alloc (.cells (csL [false, false, false, false]) 4) := ⟨_, rfl⟩
  have b2 : Below w1.heap.size w1 w2 := by rw [hw2]; exact below_alloc (Below.refl _ _) _
  have S2 : Blk w2 w1.heap.size 4 (csL [false, false, false, false]) := by rw [hw2]; exact Blk.new _ _ _
  rw [Z1.out] at S2
  rw [← hw2]
  clear hw2
  have r1 := rdV h b1
  have e1 := rd1 he b1
  have q1 := rd1 hw b1
  clear h he hw hmk
  go_loopg [9, 7, 10, 11, 12] N (fun gh i la _ _ _ wr => ∃ (j : Nat) (last : Int) (bs : List Bool), j + gh = N ∧ i = .int .i64 (j : Int) ∧ la = .int .i64 last ∧ Hid (Last l t o j last) ∧ Hid (Seen o j bs) ∧ Blk wr (w.heap.size + 1) 4 (csL bs) ∧ Below w1.heap.size w1 wr)
  case atStart => exact ⟨0, -100000, [false, false, false, false], by omega, by simp, rfl, Lib.hid (.inl ⟨rfl, rfl⟩), Lib.hid ⟨rfl, fun k b hb => by
    rw [List.take_zero]
    match k, hb with
    | 0, hb => simp at hb; simp [← hb]
    | 1, hb => simp at hb; simp [← hb]
    | 2, hb => simp at hb; simp [← hb]
    | 3, hb => simp at hb; simp [← hb]
    | k + 4, hb => simp at hb⟩, S2, b2⟩
  case round =>
    clear S2 b2
    obtain ⟨j, last, bs, hjg, rfl, rfl, hlast, hseen, BS, kr⟩ := hrel
    have wj : IntKind.i64.wrap ((j : Int) + 1) = (j : Int) + 1 := IntWalk.i64_in _ (by omega)
    have T1 := T0.kept kr
    have t4 : wr.cell? ⟨w.heap.size, 4, none⟩ = some (.slice Ae 4 ce) := T1.cell 4
    have lT := T1.lt
    have lS := BS.lt
    cases gk with
    | zero =>
      have d0' : ¬ ((j : Int) < (N : Int)) := by omega
      have hjN : j = N := by omega
      have HSN := Lib.hid (show bs.length = 4 ∧ ∀ (k : Nat) b, bs[k]? = some b → (b = true ↔ k ∈ o) from ⟨hseen.out.1, fun k b hb => by
        have := hseen.out.2 k b hb
        rwa [hjN, List.take_of_length_le (by rw [HN.out]; exact Nat.le_refl _)] at this⟩)
      obtain ⟨wz, rfl⟩ : ∃ wz : World, wz = wr := ⟨_, rfl⟩
      clear hjN hjg hlast hseen
      go_wp2_with fail
      go_loopg [13, 14] 4 (fun g2 i _ wy => ∃ (k : Nat), k + g2 = 4 ∧ i = .int .i64 (k : Int) ∧ Below wz.heap.size wz wy)
      case atStart => exact ⟨0, by omega, by simp, Below.refl _ _⟩
      case round =>
        obtain ⟨k, hkg, rfl, ky⟩ := hrel
        have wk : IntKind.i64.wrap ((k : Int) + 1) = (k : Int) + 1 := IntWalk.i64_in _ (by omega)
        have kf := below_call (below_call b1 kr) ky
        cases gk with
        | zero =>
          have d1' : ¬ ((k : Int) < 4) := by omega
          clear hkg
          go_wp2
          go_ret
          exact ⟨rfl, kf⟩
        | succ g2 =>
          have k4 : k < 4 := by omega
          have d1' : (k : Int) < 4 := by omega
          have k8 := below_call kr ky
          have T2 := T1.kept ky
          have t4 : wr.cell? ⟨w.heap.size, 4, none⟩ = some (.slice Ae 4 ce) := T2.cell 4
          have lT := T2.lt
          have BS2 := BS.kept ky
          have lS := BS2.lt
          obtain ⟨v, hv⟩ := get_some (l := l) (k := k) (by have := HL.out; omega)
          have hvm := List.mem_of_getElem? hv
          obtain ⟨b, hb⟩ := get_some (l := bs) (k := k) (by have := HSN.out.1; omega)
          have s0 : wr.cell? ⟨w.heap.size + 1, k, none⟩ = some (.bool b) := (BS2.cell k).trans (csL_get hb)
          have hbs : b = soundB v t := by
            have h1 := HSN.out.2 k b hb
            have h2 := HW3.out k
            rw [show l.getD k [] = v by simp [List.getD, hv]] at h2
            rw [h2] at h1
            cases b with
            | true => exact (h1.1 rfl).2.symm
            | false => cases hsb : soundB v t with
              | false => rfl
              | true => exact absurd (h1.2 ⟨k4, hsb⟩) (by simp)
          obtain ⟨be, oe, hAe, hbe, hce⟩ := Reads.elem (f := cI) (fun _ => rfl) (e1.below (Nat.le_refl _) k8) (k := k) k4 (x := onS v t) (by rw [List.getElem?_map, hv]; rfl)
          have y0 : wr.cell? ⟨be, oe + k, none⟩ = some (.int .i64 (onS v t)) := by have h0 := hce 0 _ rfl; simpa using h0
          obtain ⟨bv, ov, A', n', c', hAv, habv, cv, hre, hn', hvn⟩ := r1.voice (Nat.le_refl _) k8 k4 hv
          have lbe : be < wr.heap.size := by have := k8.size; omega
          rcases sound_at hs hvm ht with ⟨h1, h2⟩ | ⟨e, x, h1, h2, h3⟩
          · rw [h2] at hbs
            subst hbs
            rw [h1] at y0
            clear hv hvm hb hce hre hvn h1 h2
            subst hAe hAv
            go_wp2
            go_roundg g2
            case measure => omega
            case rel => exact ⟨k + 1, by omega, by go_num, ky⟩
          · rw [h3] at hbs
            rw [h1] at y0
            have hen : e < n' := by have := (List.getElem?_eq_some_iff.1 h2).1; omega
            obtain ⟨bx, ox, hAx, hbx, hcx⟩ := hre.ev k8.size (Below.refl _ _) hen h2
            obtain ⟨c0, c1, c2, c3, c4, c5, c6, c7, c8, c9⟩ := ten hcx
            have hen' : (e : Int) < (n' : Int) := by omega
            obtain ⟨rst, hrst⟩ : ∃ b, b = x.rest := ⟨_, rfl⟩
            rw [← hrst] at c7 hbs
            clear hv hvm hb hce hre hvn h1 h2 h3 hcx c0 c1 c2 c3 c4 c5 c6 c8 c9 hrst
            subst hAe hAv hAx
            cases rst
            · obtain rfl : b = true := by simpa using hbs
              clear hbs
              go_wp2
              go_roundg g2
              case measure => omega
              case rel => exact ⟨k + 1, by omega, by go_num, ky⟩
            · obtain rfl : b = false := by simpa using hbs
              clear hbs
              go_wp2
              go_roundg g2
              case measure => omega
              case rel => exact ⟨k + 1, by omega, by go_num, ky⟩
    | succ gh =>
      have hjN : j < N := by omega
      have d0' : (j : Int) < (N : Int) := by omega
      obtain ⟨k, hk⟩ := get_some (l := o) (k := j) (by have := HN.out; omega)
      obtain ⟨k4, ksound⟩ := (HW3.out k).1 (List.mem_of_getElem? hk)
      obtain ⟨v, hv⟩ := get_some (l := l) (k := k) (by have := HL.out; omega)
      have hvm := List.mem_of_getElem? hv
      rw [show l.getD k [] = v by simp [List.getD, hv]] at ksound
      obtain ⟨e, x, hon, hx, hxr⟩ : ∃ (e : Nat) (x : Ev), onS v t = (e : Int) ∧ v[e]? = some x ∧ x.rest = false := by
        rcases sound_at hs hvm ht with ⟨_, h2⟩ | ⟨e, x, h1, h2, h3⟩
        · rw [h2] at ksound; cases ksound
        · rw [h3] at ksound; exact ⟨e, x, h1, h2, by simpa using ksound⟩
      have hxp := HP.out v hvm x (List.mem_of_getElem? hx) hxr
      have hpb := pchk_bd hxp
      have hle := hlast.out.le HW1.out hk hv hon hx hxp
      have HNL := Lib.hid (show Last l t o (j + 1) (hgt x.pit) from .inr ⟨j, k, e, v, x, rfl, hk, hv, hon, hx, hxp, rfl⟩)
      have HNS := Lib.hid (hseen.out.next hk)
      obtain ⟨b, hb⟩ := get_some (l := bs) (k := k) (by rw [hseen.out.1]; exact k4)
      have hbf : b = false := by
        cases b with
        | false => rfl
        | true => exact absurd ((hseen.out.2 k true hb).1 rfl) (nodup_take HW2.out hk)
      subst hbf
      have s0 : wr.cell? ⟨w.heap.size + 1, k, none⟩ = some (.bool false) := (BS.cell k).trans (csL_get hb)
      -- the events' numbers, the voices
      obtain ⟨bo, oo, hAo, hbo, hco⟩ := Reads.elem (f := cI) (l := o.map fun (x : Nat) => (x : Int)) (fun _ => rfl) (q1.below (Nat.le_refl _) kr) (k := j) hjN (x := (k : Int)) (by rw [List.getElem?_map, hk]; rfl)
      have g0 : wr.cell? ⟨bo, oo + j, none⟩ = some (.int .i64 (k : Int)) := by have h0 := hco 0 _ rfl; simpa using h0
      obtain ⟨be, oe, hAe, hbe, hce⟩ := Reads.elem (f := cI) (fun _ => rfl) (e1.below (Nat.le_refl _) kr) (k := k) k4 (x := (e : Int)) (by rw [List.getElem?_map, hv]; show some (onS v t) = _; rw [hon])
      have y0 : wr.cell? ⟨be, oe + k, none⟩ = some (.int .i64 (e : Int)) := by have h0 := hce 0 _ rfl; simpa using h0
      obtain ⟨bv, ov, A', n', c', hAv, habv, cv, hre, hn', hvn⟩ := r1.voice (Nat.le_refl _) kr k4 hv
      have hen : e < n' := by have := (List.getElem?_eq_some_iff.1 hx).1; omega
      obtain ⟨bx, ox, hAx, hbx, hcx⟩ := hre.ev kr.size (Below.refl _ _) hen hx
      obtain ⟨⟨x0, x1⟩, ⟨x2, x3⟩, ⟨p0, p1, p2⟩, rst, sg, ps⟩ := x
      obtain ⟨c0, c1, c2, c3, c4, c5, c6, c7, c8, c9⟩ := ten hcx
      simp only at hxr c4 c5 c6 c7 hpb hle HNL
      subst hxr
      unfold hgt at hle HNL
      simp only at hle HNL
      have lbo : bo < wr.heap.size := by have := kr.size; omega
      have lbe : be < wr.heap.size := by have := kr.size; omega
      have f1 : decide ((k : Int) < 0) = false := by simp
      have f2 : decide (4 ≤ (k : Int)) = false := decide_eq_false (by omega)
      have f3 : decide ((e : Int) < 0) = false := by simp
      have f4 : decide (n' ≤ e) = false := decide_eq_false (by omega)
      have f5 : (k : Int) < 4 := by omega
      have f6 : (e : Int) < (n' : Int) := by omega
      obtain ⟨m0, m1, m2, m3, m4, m5⟩ := hpb
      have i1 : IntKind.i64.wrap (7 * p1) = 7 * p1 := IntWalk.i64_in _ (by omega)
      have i2 : IntKind.i64.wrap (7 * p1 + p0) = 7 * p1 + p0 := IntWalk.i64_in _ (by omega)
      have i3 : IntKind.i64.wrap (10 * (7 * p1 + p0)) = 10 * (7 * p1 + p0) := IntWalk.i64_in _ (by omega)
      have i4 : IntKind.i64.wrap (10 * (7 * p1 + p0) + p2) = 10 * (7 * p1 + p0) + p2 := IntWalk.i64_in _ (by omega)
      have f7 : ¬ (10 * (7 * p1 + p0) + p2 < last) := by omega
      have fS := BS.frozen
      clear hk ksound hv hvm hon hx hxp hle hb hco hce hcx hre hvn hn' hlast
      subst hAo hAe hAv hAx
      go_wp2_with fail
      refine wp_region_calm (by kernel_rfl) (by kernel_rfl) ?_
      repeat (go_big_quiet_step (fail))
      refine wpQuiet_nil ?_
      intro wd gd
      have kd := below_call kr gd
      have BSd := BS.kept gd
      have T1d := T1.kept gd
      have t4 : wd.cell? ⟨w.heap.size, 4, none⟩ = some (.slice (some ⟨be, oe, none⟩) 4 ce) := T1d.cell 4
      have lT := T1d.lt
      have lS := BSd.lt
      have g0 := (gd.cell (p := ⟨bo, oo + j, none⟩) lbo).trans g0
      have y0 := (gd.cell (p := ⟨be, oe + k, none⟩) lbe).trans y0
      have cv := (gd.cell (p := ⟨bv, ov + k, none⟩) habv).trans cv
      have c4 := (gd.cell (p := ⟨bx, ox + e * 10 + 4, none⟩) hbx).trans c4
      have c5 := (gd.cell (p := ⟨bx, ox + e * 10 + 5, none⟩) hbx).trans c5
      have c6 := (gd.cell (p := ⟨bx, ox + e * 10 + 6, none⟩) hbx).trans c6
      have s0 := (gd.cell (p := ⟨w.heap.size + 1, k, none⟩) (by have := BS.lt; simpa using this)).trans s0
      have lbo : bo < wd.heap.size := by have := gd.size; omega
      have lbe : be < wd.heap.size := by have := gd.size; omega
      have habv : bv < wd.heap.size := by have := gd.size; omega
      have hbx : bx < wd.heap.size := by have := gd.size; omega
      have fS := BSd.frozen
      go_wp2_with fail
      go_region
      have BQ : Blk ((wd.alloc (.cells #[.int .i64 p0, .int .i64 p1, .int .i64 p2] 65)).drew) wd.heap.size 65 #[.int .i64 p0, .int .i64 p1, .int .i64 p2] := (Blk.new _ _ _).drew
      have BSq : Blk ((wd.alloc (.cells #[.int .i64 p0, .int .i64 p1, .int .i64 p2] 65)).drew) (w.heap.size + 1) 4 (csL bs) := (BSd.alloc _).drew
      have bq : Below wd.heap.size wd ((wd.alloc (.cells #[.int .i64 p0, .int .i64 p1, .int .i64 p2] 65)).drew) := by repeat (first | with_reducible exact Below.refl _ _ | with_reducible assumption | with_reducible refine below_drewN ?_ _ | with_reducible refine Below.drew ?_ | with_reducible refine below_alloc ?_ _ | (with_reducible refine Below.setCell ?_ ?_ _; rotate_left; ((try simp only); omega)))
      have hbk := hseen.out.1
      generalize (wd.alloc (.cells #[.int .i64 p0, .int .i64 p1, .int .i64 p2] 65)).drew = wq at BQ BSq bq ⊢
      have kq := below_call kd bq
      have s0 := (bq.cell (p := ⟨w.heap.size + 1, k, none⟩) lS).trans s0
      have fS := BSq.frozen
      have lS := BSq.lt
      have lQ := BQ.lt
      have n0 : wq.cell? ⟨wd.heap.size, 0, none⟩ = some (.int .i64 p0) := BQ.cell 0
      have n1 : wq.cell? ⟨wd.heap.size, 1, none⟩ = some (.int .i64 p1) := BQ.cell 1
      have n2 : wq.cell? ⟨wd.heap.size, 2, none⟩ = some (.int .i64 p2) := BQ.cell 2
      have HZ := Lib.hid (show w1.heap.size ≤ w.heap.size + 1 by rw [Z1.out]; exact Nat.le_refl _)
      clear hbk BSd BS g0 y0 cv c4 c5 c6 t4
      go_wp2
      go_roundg gh
      case measure => omega
      case rel => exact ⟨j + 1, _, bs.set k true, by omega, by go_num, rfl, HNL, HNS, by rw [← csL_set]; exact BSq.set_ _ _, kq.setCell HZ.out _⟩
end Go.Proofs.Ytbljfaocmeeljaa
