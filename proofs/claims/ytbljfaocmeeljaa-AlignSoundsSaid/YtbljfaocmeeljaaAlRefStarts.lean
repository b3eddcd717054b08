/- Who starts in a slice, by the reference. -/
import Derived.Test.YtbljfaocmeeljaaAlStarts
import Derived.Test.YtbljfaocmeeljaaAlRefSlices
namespace Go.Proofs.Ytbljfaocmeeljaa
open Go.RowKit
set_option maxRecDepth 100000 in
set_option maxHeartbeats 8000000 in
theorem refStarts_any (A : Option Addr) (n c : Nat) (l : List (List Ev)) (j : Int) (B : Nat) (w : World) (h : ReadsV w B A n l) (hB : B ≤ w.heap.size) (hn : n ≤ 9223372036854775807) :
    Calls Try.prog 22 #[.slice A n c, .int .i64 j] w fun e w' => ∃ v, e = .returned (.tuple #[v, .int .i64 (startsE l j).2]) ∧ w'.ownsRow w.heap.size 4 1 v (startsE l j).1.length (csB (startsE l j).1) ∧ Below w.heap.size w w' := by
  have HL := Lib.hid h.len
  have q1 := refSlices_any A n c l B w h hB hn
  obtain ⟨i0, hi0, hz0, hz1, hz2⟩ := info_parts bool_info
  go_enter Try.func22, Try.ntmps22
  go_wp2_with fail
  refine q1.mono ?_
  rintro e w1 ⟨v1, rfl, ho1, k1⟩
  clear q1
  by_cases he : (slicesE l).2 = 0
  · obtain ⟨hz, hsl⟩ := slicesE_ok he
    obtain ⟨As, cs, rfl, rs⟩ := ho1.reads
    have HKL := Lib.hid (show (slicesE l).1.length = (momS l).length - 1 by rw [hsl]; simp)
    rw [hsl] at rs
    simp only [List.length_map, List.length_range] at rs
    rw [HKL.out, he]
    obtain ⟨K, hK⟩ : ∃ K, K = (momS l).length - 1 := ⟨_, rfl⟩
    rw [← hK] at rs HKL ⊢
    have HK := Lib.hid hK
    have HE := Lib.hid he
    clear hK he hsl ho1
    by_cases hj0 : j < 0
    · have E := Lib.hid (show startsE l j = ([], 2) by unfold startsE; rw [if_neg (fun h0 => h0 HE.out), if_pos (.inl hj0)])
      go_wp2
      refine ret_of (by simp [results, Try.results22, go_sem, *]; repeat' (first | rfl | apply And.intro)) rfl ⟨.slice none 0 0, ?_, ?_, by repeat (first | with_reducible exact Below.refl _ _ | with_reducible assumption | with_reducible refine below_drewN ?_ _ | with_reducible refine Below.drew ?_ | with_reducible refine below_alloc ?_ _ | (with_reducible refine Below.setCell ?_ ?_ _; rotate_left; ((try simp only); omega)))⟩
      · rw [E.out]
      · rw [E.out]; exact ⟨rfl, .inl ⟨rfl, rfl⟩⟩
    by_cases hj1 : (K : Int) ≤ j
    · have E := Lib.hid (show startsE l j = ([], 2) by unfold startsE; rw [if_neg (fun h0 => h0 HE.out), HKL.out, if_pos (.inr hj1)])
      have d0 : decide (j < 0) = false := decide_eq_false hj0
      go_wp2
      refine ret_of (by simp [results, Try.results22, go_sem, *]; repeat' (first | rfl | apply And.intro)) rfl ⟨.slice none 0 0, ?_, ?_, by repeat (first | with_reducible exact Below.refl _ _ | with_reducible assumption | with_reducible refine below_drewN ?_ _ | with_reducible refine Below.drew ?_ | with_reducible refine below_alloc ?_ _ | (with_reducible refine Below.setCell ?_ ?_ _; rotate_left; ((try simp only); omega)))⟩
      · rw [E.out]
      · rw [E.out]; exact ⟨rfl, .inl ⟨rfl, rfl⟩⟩
    obtain ⟨i, rfl⟩ : ∃ i : Nat, j = (i : Int) := ⟨j.toNat, by omega⟩
    have hik : i < K := by omega
    have hik' : (i : Int) < (K : Int) := by omega
    have hki' : ¬ ((K : Int) ≤ (i : Int)) := by omega
    have hg : ((List.range K).map (slOf l (momS l)))[i]? = some (slOf l (momS l) i) := by rw [List.getElem?_map, List.getElem?_range hik]; rfl
    obtain ⟨s, hs⟩ : ∃ s, s = slOf l (momS l) i := ⟨_, rfl⟩
    rw [← hs] at hg
    obtain ⟨f1, f2, _, f4, f5⟩ := set_facts hz
    have HV := Lib.hid f2
    have HOK := Lib.hid (ok_mAt f5 (i := i) (by have := HK.out; omega))
    obtain ⟨bs, os, p, q, kc, rfl, hbs, hq, hr, c0, c1, c2, c3, c4⟩ := rs.el (Nat.le_refl _) (Below.refl _ w1) hik hg
    clear hg
    obtain ⟨⟨y0, y1⟩, ⟨d0, d1⟩, evs⟩ := s
    have HY := Lib.hid (show ((y0, y1) : Tm) = mAt (momS l) i from congrArg Sl.at_ hs)
    have hev : evs = l.map fun v => onS v (mAt (momS l) i) := congrArg Sl.evs hs
    rw [← HY.out] at hev
    rw [← HY.out] at HOK
    subst hev
    simp only at c0 c1 c2 c3 c4 hq hr
    have E := Lib.hid (show startsE l (i : Int) = (l.map fun v => startB v (y0, y1), 0) by unfold startsE; rw [if_neg (fun h0 => h0 HE.out), HKL.out, if_neg (by omega), HY.out, Int.toNat_natCast])
    have hqn : q = n := by rw [← hq, List.length_map]; exact HL.out
    subst hqn
    have h8 : q ≤ 8 := by have := HL.out; omega
    obtain ⟨w2, hw2⟩ : ∃ w2, w2 = w1 := ⟨_, rfl⟩
    have r2 := hr
    have k2 := k1
    have hb2 := Below.refl w1.heap.size w1
    subst hw2
    clear hs hz f1 f2 f4 f5 hq hr c2 c3 rs
    go_wp2_with fail
    have HR := Lib.hid r2
    go_loopg [8, 9, 10] q (fun g u i _ wr => ∃ k : Nat, k + g = q ∧ i = .int .i64 k ∧ Below w2.heap.size w2 wr ∧ wr.ownsRow w2.heap.size 4 1 u k (csB ((l.take k).map fun v => startB v (y0, y1))))
    case atStart => exact ⟨0, by omega, by simp, Below.refl _ _, by simp [csB]; exact ⟨rfl, .inl ⟨rfl, rfl⟩⟩⟩
    case round =>
      obtain ⟨k, hkg, rfl, kr, hrow⟩ := hrel
      have kw := below_call k2 kr
      have s0 := (kr.cell (p := ⟨bs, os + i * 5, none⟩) hbs).trans c0
      have s1 := (kr.cell (p := ⟨bs, os + i * 5 + 1, none⟩) hbs).trans c1
      have s4 := (kr.cell (p := ⟨bs, os + i * 5 + 4, none⟩) hbs).trans c4
      have lS : bs < wr.heap.size := Nat.lt_of_lt_of_le hbs kr.size
      have wk : IntKind.i64.wrap ((k : Int) + 1) = (k : Int) + 1 := IntWalk.i64_in _ (by omega)
      cases gk with
      | zero =>
        obtain rfl : k = q := by omega
        have E2 := Lib.hid (show (l.take k) = l from List.take_of_length_le (by have := HL.out; omega))
        have d0 : ¬ ((k : Int) < (k : Int)) := by omega
        go_wp2
        rw [E2.out] at hrow
        refine ret_of (by simp [results, Try.results22, go_sem, *]; repeat' (first | rfl | apply And.intro)) rfl ⟨u8, ?_, ?_, kw⟩
        · rw [E.out]
        · rw [E.out, List.length_map, HL.out]
          exact own_lower hrow k1.size
      | succ g =>
        have hk : k < q := by omega
        have hk' : (k : Int) < (q : Int) := by omega
        obtain ⟨v, hv⟩ := get_some (l := l) (k := k) (by have := HL.out; omega)
        have hvm := List.mem_of_getElem? hv
        obtain ⟨hck, hval, hvl⟩ := HV.out v hvm
        obtain ⟨be, oe, hpe, hbe, he⟩ := Reads.elem (f := cI) (l := l.map fun v => onS v (y0, y1)) (fun _ => rfl) (HR.out.below (Nat.le_refl _) kr) hk (by rw [List.getElem?_map, hv]; rfl)
        subst hpe
        have e0 : wr.cell? ⟨be, oe + k, none⟩ = some (.int .i64 (onS v (y0, y1))) := by have := he 0 _ rfl; simpa using this
        have HT := Lib.hid (take_map (fun v => startB v (y0, y1)) hv)
        obtain ⟨b, off, A', n', c', rfl, hab, cv, hre, hn', hvn⟩ := h.voice hB kw hk hv
        have hSB : startB v (y0, y1) = match onS v (y0, y1) with | .ofNat k => (match v[k]? with | some x => decide (x.at_ = (y0, y1)) | none => false) | .negSucc _ => false := rfl
        clear he hv hvm
        rcases on_char hval HOK.out with ⟨kk, x, hx, _, hon⟩ | hon
        · have hkl := (List.getElem?_eq_some_iff.1 hx).1
          have hHS := Lib.hid (show startB v (y0, y1) = decide (x.at_ = (y0, y1)) by rw [hSB, hon]; simp [hx])
          rw [hon] at e0
          obtain ⟨b2, off2, hA2, hab2, hc2⟩ := hre.ev (Nat.le_trans hB kw.size) (Below.refl _ wr) (k := kk) (by omega) hx
          subst hA2
          obtain ⟨x0c, x1c, _⟩ := ten hc2
          have hkk : (kk : Int) < (n' : Int) := by omega
          have hkk0 : (0 : Int) ≤ (kk : Int) := by omega
          clear hc2 hSB hon hx
          obtain ⟨⟨x0, x1⟩, hxa⟩ : ∃ y, y = x.at_ := ⟨_, rfl⟩
          rw [← hxa] at x0c x1c hHS
          clear hxa
          simp only at x0c x1c
          by_cases g0 : x0 = y0
          · have f0 : (x0 == y0) = true := by simp [g0]
            by_cases g1 : x1 = y1
            · have f1 : (x1 == y1) = true := by simp [g1]
              have HSB := Lib.hid (show startB v (y0, y1) = true by rw [hHS.out]; simp [g0, g1])
              clear hHS
              go_wp2_with fail
              refine wp_region_calm_move 19 (by kernel_rfl) (.tmp 8) rfl rfl (by omega) (by kernel_rfl) ?_
              simp only [Nat.reduceSub, List.take_succ_cons, List.take_zero, List.drop_succ_cons, List.drop_zero]
              go_simp
              repeat (go_big_quiet_step (fail))
              refine wpQuiet_nil ?_
              intro wd gd
              have kd := kr.size
              have kd2 := gd.size
              go_wp2_with (at_builtin; (refine wpList_append_any _ rfl (.tmp 41) (.tmp 60) 38 rfl w2.heap.size 4 i0 _ 1 1 Try.underlying38 hi0 hz0 hz1 hz2 rfl (by omega) u8 k (csB ((l.take k).map fun v => startB v (y0, y1))) rfl (own_call (own_call hrow gd) (below_alloc (Below.refl _ _) _)) (wd.heap.size + 1) (some ⟨wd.heap.size, 0, none⟩) 1 1 (csB [true]) rfl (Reads.newAt _ _ _ 1 1 _ rfl rfl) (one_csB _) (by simp only [maxLen]; omega) (by omega) (by simp; omega) ?_); intro v4 w4 hown4 hg4 hat4)
              have hB4 : Below w2.heap.size wr w4 := Below.grown (B := w2.heap.size) (a := wr) ((below_alloc gd (.cells #[.bool true] 4)).mono kd) hg4 (by simp; omega) (fun x hx => (hrow.lt x hx).1)
              try refine NoPanic.normal ?_
              go_wp2
              go_roundg g
              case measure => omega
              case rel => exact ⟨k + 1, by omega, by go_num, kr.trans hB4, by rw [HT.out, csB_append, HSB.out]; exact hown4⟩
            · have f1 : (x1 == y1) = false := by simp [g1]
              have HSB := Lib.hid (show startB v (y0, y1) = false by rw [hHS.out]; simp [g1])
              clear hHS
              go_wp2_with fail
              refine wp_region_calm_move 19 (by kernel_rfl) (.tmp 8) rfl rfl (by omega) (by kernel_rfl) ?_
              simp only [Nat.reduceSub, List.take_succ_cons, List.take_zero, List.drop_succ_cons, List.drop_zero]
              go_simp
              repeat (go_big_quiet_step (fail))
              refine wpQuiet_nil ?_
              intro wd gd
              have kd := kr.size
              have kd2 := gd.size
              go_wp2_with (at_builtin; (refine wpList_append_any _ rfl (.tmp 41) (.tmp 60) 38 rfl w2.heap.size 4 i0 _ 1 1 Try.underlying38 hi0 hz0 hz1 hz2 rfl (by omega) u8 k (csB ((l.take k).map fun v => startB v (y0, y1))) rfl (own_call (own_call hrow gd) (below_alloc (Below.refl _ _) _)) (wd.heap.size + 1) (some ⟨wd.heap.size, 0, none⟩) 1 1 (csB [false]) rfl (Reads.newAt _ _ _ 1 1 _ rfl rfl) (one_csB _) (by simp only [maxLen]; omega) (by omega) (by simp; omega) ?_); intro v4 w4 hown4 hg4 hat4)
              have hB4 : Below w2.heap.size wr w4 := Below.grown (B := w2.heap.size) (a := wr) ((below_alloc gd (.cells #[.bool false] 4)).mono kd) hg4 (by simp; omega) (fun x hx => (hrow.lt x hx).1)
              try refine NoPanic.normal ?_
              go_wp2
              go_roundg g
              case measure => omega
              case rel => exact ⟨k + 1, by omega, by go_num, kr.trans hB4, by rw [HT.out, csB_append, HSB.out]; exact hown4⟩
          · have f0 : (x0 == y0) = false := by simp [g0]
            have HSB := Lib.hid (show startB v (y0, y1) = false by rw [hHS.out]; simp [g0])
            clear hHS
            go_wp2_with fail
            refine wp_region_calm_move 19 (by kernel_rfl) (.tmp 8) rfl rfl (by omega) (by kernel_rfl) ?_
            simp only [Nat.reduceSub, List.take_succ_cons, List.take_zero, List.drop_succ_cons, List.drop_zero]
            go_simp
            repeat (go_big_quiet_step (fail))
            refine wpQuiet_nil ?_
            intro wd gd
            have kd := kr.size
            have kd2 := gd.size
            go_wp2_with (at_builtin; (refine wpList_append_any _ rfl (.tmp 41) (.tmp 60) 38 rfl w2.heap.size 4 i0 _ 1 1 Try.underlying38 hi0 hz0 hz1 hz2 rfl (by omega) u8 k (csB ((l.take k).map fun v => startB v (y0, y1))) rfl (own_call (own_call hrow gd) (below_alloc (Below.refl _ _) _)) (wd.heap.size + 1) (some ⟨wd.heap.size, 0, none⟩) 1 1 (csB [false]) rfl (Reads.newAt _ _ _ 1 1 _ rfl rfl) (one_csB _) (by simp only [maxLen]; omega) (by omega) (by simp; omega) ?_); intro v4 w4 hown4 hg4 hat4)
            have hB4 : Below w2.heap.size wr w4 := Below.grown (B := w2.heap.size) (a := wr) ((below_alloc gd (.cells #[.bool false] 4)).mono kd) hg4 (by simp; omega) (fun x hx => (hrow.lt x hx).1)
            try refine NoPanic.normal ?_
            go_wp2
            go_roundg g
            case measure => omega
            case rel => exact ⟨k + 1, by omega, by go_num, kr.trans hB4, by rw [HT.out, csB_append, HSB.out]; exact hown4⟩
        · have HSB := Lib.hid (show startB v (y0, y1) = false by rw [hSB, hon]; rfl)
          rw [hon] at e0
          clear hSB hon
          have n1 : decide ((0 : Int) ≤ -1) = false := rfl
          go_wp2_with fail
          refine wp_region_calm_move 19 (by kernel_rfl) (.tmp 8) rfl rfl (by omega) (by kernel_rfl) ?_
          simp only [Nat.reduceSub, List.take_succ_cons, List.take_zero, List.drop_succ_cons, List.drop_zero]
          go_simp
          repeat (go_big_quiet_step (fail))
          refine wpQuiet_nil ?_
          intro wd gd
          have kd := kr.size
          have kd2 := gd.size
          go_wp2_with (at_builtin; (refine wpList_append_any _ rfl (.tmp 41) (.tmp 60) 38 rfl w2.heap.size 4 i0 _ 1 1 Try.underlying38 hi0 hz0 hz1 hz2 rfl (by omega) u8 k (csB ((l.take k).map fun v => startB v (y0, y1))) rfl (own_call (own_call hrow gd) (below_alloc (Below.refl _ _) _)) (wd.heap.size + 1) (some ⟨wd.heap.size, 0, none⟩) 1 1 (csB [false]) rfl (Reads.newAt _ _ _ 1 1 _ rfl rfl) (one_csB _) (by simp only [maxLen]; omega) (by omega) (by simp; omega) ?_); intro v4 w4 hown4 hg4 hat4)
          have hB4 : Below w2.heap.size wr w4 := Below.grown (B := w2.heap.size) (a := wr) ((below_alloc gd (.cells #[.bool false] 4)).mono kd) hg4 (by simp; omega) (fun x hx => (hrow.lt x hx).1)
          try refine NoPanic.normal ?_
          go_wp2
          go_roundg g
          case measure => omega
          case rel => exact ⟨k + 1, by omega, by go_num, kr.trans hB4, by rw [HT.out, csB_append, HSB.out]; exact hown4⟩
  · have hne : ((slicesE l).2 != 0) = true := by simpa using he
    have E := Lib.hid (show startsE l j = ([], (slicesE l).2) by unfold startsE; rw [if_pos he])
    clear he ho1
    go_wp2
    refine ret_of (by simp [results, Try.results22, go_sem, *]; repeat' (first | rfl | apply And.intro)) rfl ⟨.slice none 0 0, ?_, ?_, by repeat (first | with_reducible exact Below.refl _ _ | with_reducible assumption | with_reducible refine below_drewN ?_ _ | with_reducible refine Below.drew ?_ | with_reducible refine below_alloc ?_ _ | (with_reducible refine Below.setCell ?_ ?_ _; rotate_left; ((try simp only); omega)))⟩
    · rw [E.out]
    · rw [E.out]; exact ⟨rfl, .inl ⟨rfl, rfl⟩⟩
end Go.Proofs.Ytbljfaocmeeljaa
