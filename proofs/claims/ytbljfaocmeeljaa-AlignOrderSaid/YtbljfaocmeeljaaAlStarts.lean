/- Who starts in a slice, by the program. -/
import Derived.Test.YtbljfaocmeeljaaAlSlice
import Derived.Test.YtbljfaocmeeljaaGround
namespace Go.Proofs.Ytbljfaocmeeljaa
open Go.RowKit
def cB (b : Bool) : List Value := [.bool b]
def csB (l : List Bool) : List Value := l.flatMap cB
theorem csB_append (l m : List Bool) : csB (l ++ m) = csB l ++ csB m := by unfold csB; rw [List.flatMap_append]
theorem one_csB (l : List Bool) : ∀ u ∈ csB l, u.oneCell' = true := by
  intro u hu
  obtain ⟨t, _, ht⟩ := List.mem_flatMap.1 hu
  simp [cB] at ht
  subst ht; rfl
set_option maxRecDepth 100000 in
theorem bool_info : (Try.prog.info? 4).map (fun i => (i.zero, i.size, i.bytes)) = some (some (.bool false), 1, 1) := by kernel_rfl
/-- The cases of a slice asked for. -/
theorem sliceE_ok {l : List (List Ev)} {j : Int} (h : (sliceE l j).2 = 0) : ∃ i : Nat, j = (i : Int) ∧ i + 1 < (momS l).length ∧ (slicesE l).2 = 0 ∧ (checkA l).1 = 0 ∧ sliceE l j = (slOf l (momS l) i, 0) ∧ ¬ (j < 0 ∨ ((slicesE l).1.length : Int) ≤ j) := by
  unfold sliceE at h ⊢
  by_cases h1 : (slicesE l).2 ≠ 0
  · rw [if_pos h1] at h; exact absurd h h1
  · rw [if_neg h1] at h ⊢
    by_cases h2 : j < 0 ∨ ((slicesE l).1.length : Int) ≤ j
    · rw [if_pos h2] at h; cases h
    · rw [if_neg h2]
      obtain ⟨hz, hs⟩ := slicesE_ok (l := l) (by omega)
      have h3 : ((slicesE l).1.length) = (momS l).length - 1 := by rw [hs]; simp
      exact ⟨j.toNat, by omega, by omega, by omega, hz, rfl, h2⟩
theorem sliceE_err {α : Type} {l : List (List Ev)} {j : Int} (h : (sliceE l j).2 ≠ 0) (z x : α) : (if (slicesE l).2 ≠ 0 then (z, (slicesE l).2) else if j < 0 ∨ ((slicesE l).1.length : Int) ≤ j then (z, 2) else (x, 0)) = (z, (sliceE l j).2) := by
  unfold sliceE at h ⊢
  by_cases h1 : (slicesE l).2 ≠ 0
  · rw [if_pos h1, if_pos h1]
  · rw [if_neg h1] at h
    rw [if_neg h1, if_neg h1]
    by_cases h2 : j < 0 ∨ ((slicesE l).1.length : Int) ≤ j
    · rw [if_pos h2, if_pos h2]
    · rw [if_neg h2] at h; exact absurd rfl h
theorem take_map {α β : Type} (f : α → β) {l : List α} {k : Nat} {x : α} (h : l[k]? = some x) : (l.take (k + 1)).map f = (l.take k).map f ++ [f x] := by rw [take_get h, List.map_append]; rfl
set_option maxRecDepth 100000 in
set_option maxHeartbeats 8000000 in
theorem starts_any (A : Option Addr) (n c : Nat) (l : List (List Ev)) (j : Int) (B : Nat) (w : World) (h : ReadsV w B A n l) (hB : B ≤ w.heap.size) (hn : n ≤ 9223372036854775807) :
    Calls Try.prog 21 #[.slice A n c, .int .i64 j] w fun e w' => ∃ v, e = .returned (.tuple #[v, .int .i64 (startsE l j).2]) ∧ w'.ownsRow w.heap.size 4 1 v (startsE l j).1.length (csB (startsE l j).1) ∧ Below w.heap.size w w' := by
  have HL := Lib.hid h.len
  have q1 := slice_any A n c l j B w h hB hn
  obtain ⟨i0, hi0, hz0, hz1, hz2⟩ := info_parts bool_info
  go_enter Try.func21, Try.ntmps21
  go_wp2_with fail
  refine q1.mono ?_
  rintro e w1 ⟨⟨⟨y0, y1⟩, ⟨d0, d1⟩, evs⟩, p, q, kc, rfl, hs, hq, hr, k1⟩
  clear q1
  simp only at hq hr
  by_cases he : (sliceE l j).2 = 0
  · obtain ⟨i, rfl, hi, he2, hz, hsl, hno⟩ := sliceE_ok he
    obtain ⟨f1, f2, _, f4, f5⟩ := set_facts hz
    have HV := Lib.hid f2
    have HOK := Lib.hid (ok_mAt f5 (i := i) (by omega))
    rw [hsl] at hs
    have HY := Lib.hid (show ((y0, y1) : Tm) = mAt (momS l) i from congrArg Sl.at_ hs)
    have hev : evs = l.map fun v => onS v (mAt (momS l) i) := congrArg Sl.evs hs
    rw [← HY.out] at hev
    rw [← HY.out] at HOK
    subst hev
    have E := Lib.hid (show startsE l (i : Int) = (l.map fun v => startB v (y0, y1), 0) by unfold startsE; rw [if_neg (by omega), if_neg hno, HY.out, Int.toNat_natCast])
    have hqn : q = n := by rw [← hq, List.length_map]; exact HL.out
    subst hqn
    have h8 : q ≤ 8 := by have := HL.out; omega
    rw [he]
    clear hs hsl he he2 hz hno hi f1 f2 f4 f5 hq
    have sE : Blk (w1.alloc (.cells #[.int .i64 y0, .int .i64 y1, .int .i64 d0, .int .i64 d1, .slice p q kc] 59)) w1.heap.size 59 #[.int .i64 y0, .int .i64 y1, .int .i64 d0, .int .i64 d1, .slice p q kc] := Blk.new _ _ _
    obtain ⟨s0, s1, s4⟩ : (w1.alloc (.cells #[.int .i64 y0, .int .i64 y1, .int .i64 d0, .int .i64 d1, .slice p q kc] 59)).cell? ⟨w1.heap.size, 0, none⟩ = some (.int .i64 y0) ∧ (w1.alloc (.cells #[.int .i64 y0, .int .i64 y1, .int .i64 d0, .int .i64 d1, .slice p q kc] 59)).cell? ⟨w1.heap.size, 1, none⟩ = some (.int .i64 y1) ∧ (w1.alloc (.cells #[.int .i64 y0, .int .i64 y1, .int .i64 d0, .int .i64 d1, .slice p q kc] 59)).cell? ⟨w1.heap.size, 4, none⟩ = some (.slice p q kc) := ⟨sE.cell 0, sE.cell 1, sE.cell 4⟩
    obtain ⟨w2, hw2⟩ : ∃ w2, w2 = w1.alloc (.cells #[.int .i64 y0, .int .i64 y1, .int .i64 d0, .int .i64 d1, .slice p q kc] 59) := ⟨_, rfl⟩
    have hb2 : Below w1.heap.size w1 w2 := by rw [hw2]; exact below_alloc (Below.refl _ _) _
    have hs2 := Lib.hid (show w2.heap.size = w1.heap.size + 1 by rw [hw2]; simp)
    have sE2 : Blk w2 w1.heap.size 59 #[.int .i64 y0, .int .i64 y1, .int .i64 d0, .int .i64 d1, .slice p q kc] := by rw [hw2]; exact sE
    have r2 := (hr.below (Nat.le_refl _) hb2).more hb2.size
    have k2 := below_call k1 hb2
    go_wp2_with fail
    rw [← hw2]
    clear sE s0 s1 s4 hw2 hr
    have HR := Lib.hid r2
    go_loopg [8, 9, 10, 23] q (fun g u _ _ i wr => ∃ k : Nat, k + g = q ∧ i = .int .i64 k ∧ Below w2.heap.size w2 wr ∧ wr.ownsRow w2.heap.size 4 1 u k (csB ((l.take k).map fun v => startB v (y0, y1))))
    case atStart => exact ⟨0, by omega, by simp, Below.refl _ _, by simp [csB]; exact ⟨rfl, .inl ⟨rfl, rfl⟩⟩⟩
    case round =>
      obtain ⟨k, hkg, rfl, kr, hrow⟩ := hrel
      have kw := below_call k2 kr
      have bS := sE2.kept kr
      obtain ⟨s0, s1⟩ : wr.cell? ⟨w1.heap.size, 0, none⟩ = some (.int .i64 y0) ∧ wr.cell? ⟨w1.heap.size, 1, none⟩ = some (.int .i64 y1) := ⟨bS.cell 0, bS.cell 1⟩
      have lS := bS.lt
      cases gk with
      | zero =>
        obtain rfl : k = q := by omega
        have E2 := Lib.hid (show (l.take k) = l from List.take_of_length_le (by have := HL.out; omega))
        have d0 : ¬ ((k : Int) < (k : Int)) := by omega
        go_wp2
        rw [E2.out] at hrow
        refine ret_of (by simp [results, Try.results21, go_sem, *]; repeat' (first | rfl | apply And.intro)) rfl ⟨u8, ?_, ?_, kw⟩
        · rw [E.out]
        · rw [E.out, List.length_map, HL.out]
          exact own_lower hrow (Nat.le_trans k1.size hb2.size)
      | succ g =>
        have hk : k < q := by omega
        have hk' : (k : Int) < (q : Int) := by omega
        obtain ⟨v, hv⟩ := get_some (l := l) (k := k) (by have := HL.out; omega)
        have hvm := List.mem_of_getElem? hv
        obtain ⟨hck, hval, hvl⟩ := HV.out v hvm
        obtain ⟨be, oe, hpe, hbe, he⟩ := Reads.elem (f := cI) (l := l.map fun v => onS v (y0, y1)) (fun _ => rfl) (HR.out.below (Nat.le_refl _) kr) hk (by rw [List.getElem?_map, hv]; rfl)
        subst hpe
        have e0 : wr.cell? ⟨be, oe + k, none⟩ = some (.int .i64 (onS v (y0, y1))) := by have := he 0 _ rfl; simpa using this
        have HT := Lib.hid (take_map (fun v => startB v (y0, y1)) hv)
        obtain ⟨b, off, A', n', c', rfl, hab, cv, hre, hn', hvn⟩ := h.voice hB kw hk hv
        have hSB : startB v (y0, y1) = match onS v (y0, y1) with | .ofNat k => (match v[k]? with | some x => decide (x.at_ = (y0, y1)) | none => false) | .negSucc _ => false := rfl
        clear he hv hvm
        rcases on_char hval HOK.out with ⟨kk, x, hx, _, hon⟩ | hon
        · have hkl := (List.getElem?_eq_some_iff.1 hx).1
          have hHS := Lib.hid (show startB v (y0, y1) = decide (x.at_ = (y0, y1)) by rw [hSB, hon]; simp [hx])
          rw [hon] at e0
          obtain ⟨b2, off2, hA2, hab2, hc2⟩ := hre.ev (Nat.le_trans hB kw.size) (Below.refl _ wr) (k := kk) (by omega) hx
          subst hA2
          obtain ⟨x0c, x1c, _⟩ := ten hc2
          have hkk : (kk : Int) < (n' : Int) := by omega
          have hkk0 : (0 : Int) ≤ (kk : Int) := by omega
          clear hc2 hSB hon hx
          obtain ⟨⟨x0, x1⟩, hxa⟩ : ∃ y, y = x.at_ := ⟨_, rfl⟩
          rw [← hxa] at x0c x1c hHS
          clear hxa
          simp only at x0c x1c
          by_cases g0 : x0 = y0
          · have f0 : (x0 == y0) = true := by simp [g0]
            by_cases g1 : x1 = y1
            · have f1 : (x1 == y1) = true := by simp [g1]
              have HSB := Lib.hid (show startB v (y0, y1) = true by rw [hHS.out]; simp [g0, g1])
              clear hHS
              go_wp2_with fail
              refine wp_region_calm_move 16 (by kernel_rfl) (.tmp 8) rfl rfl (by omega) (by kernel_rfl) ?_
              simp only [Nat.reduceSub, List.take_succ_cons, List.take_zero, List.drop_succ_cons, List.drop_zero]
              go_simp
              repeat (go_big_quiet_step (fail))
              refine wpQuiet_nil ?_
              intro wd gd
              have kd := kr.size
              have kd2 := gd.size
              go_wp2_with (at_builtin; (refine wpList_append_any _ rfl (.tmp 28) (.tmp 44) 38 rfl w2.heap.size 4 i0 _ 1 1 Try.underlying38 hi0 hz0 hz1 hz2 rfl (by omega) u8 k (csB ((l.take k).map fun v => startB v (y0, y1))) rfl (own_call (own_call hrow gd) (below_alloc (Below.refl _ _) _)) (wd.heap.size + 1) (some ⟨wd.heap.size, 0, none⟩) 1 1 (csB [true]) rfl (Reads.newAt _ _ _ 1 1 _ rfl rfl) (one_csB _) (by simp only [maxLen]; omega) (by omega) (by simp; omega) ?_); intro v4 w4 hown4 hg4 hat4)
              have hB4 : Below w2.heap.size wr w4 := Below.grown (B := w2.heap.size) (a := wr) ((below_alloc gd (.cells #[.bool true] 4)).mono kd) hg4 (by simp; omega) (fun x hx => (hrow.lt x hx).1)
              try refine NoPanic.normal ?_
              go_wp2
              go_roundg g
              case measure => omega
              case rel => exact ⟨k + 1, by omega, by go_num, kr.trans hB4, by rw [HT.out, csB_append, HSB.out]; exact hown4⟩
            · have f1 : (x1 == y1) = false := by simp [g1]
              have HSB := Lib.hid (show startB v (y0, y1) = false by rw [hHS.out]; simp [g1])
              clear hHS
              go_wp2_with fail
              refine wp_region_calm_move 16 (by kernel_rfl) (.tmp 8) rfl rfl (by omega) (by kernel_rfl) ?_
              simp only [Nat.reduceSub, List.take_succ_cons, List.take_zero, List.drop_succ_cons, List.drop_zero]
              go_simp
              repeat (go_big_quiet_step (fail))
              refine wpQuiet_nil ?_
              intro wd gd
              have kd := kr.size
              have kd2 := gd.size
              go_wp2_with (at_builtin; (refine wpList_append_any _ rfl (.tmp 28) (.tmp 44) 38 rfl w2.heap.size 4 i0 _ 1 1 Try.underlying38 hi0 hz0 hz1 hz2 rfl (by omega) u8 k (csB ((l.take k).map fun v => startB v (y0, y1))) rfl (own_call (own_call hrow gd) (below_alloc (Below.refl _ _) _)) (wd.heap.size + 1) (some ⟨wd.heap.size, 0, none⟩) 1 1 (csB [false]) rfl (Reads.newAt _ _ _ 1 1 _ rfl rfl) (one_csB _) (by simp only [maxLen]; omega) (by omega) (by simp; omega) ?_); intro v4 w4 hown4 hg4 hat4)
              have hB4 : Below w2.heap.size wr w4 := Below.grown (B := w2.heap.size) (a := wr) ((below_alloc gd (.cells #[.bool false] 4)).mono kd) hg4 (by simp; omega) (fun x hx => (hrow.lt x hx).1)
              try refine NoPanic.normal ?_
              go_wp2
              go_roundg g
              case measure => omega
              case rel => exact ⟨k + 1, by omega, by go_num, kr.trans hB4, by rw [HT.out, csB_append, HSB.out]; exact hown4⟩
          · have f0 : (x0 == y0) = false := by simp [g0]
            have HSB := Lib.hid (show startB v (y0, y1) = false by rw [hHS.out]; simp [g0])
            clear hHS
            go_wp2_with fail
            refine wp_region_calm_move 16 (by kernel_rfl) (.tmp 8) rfl rfl (by omega) (by kernel_rfl) ?_
            simp only [Nat.reduceSub, List.take_succ_cons, List.take_zero, List.drop_succ_cons, List.drop_zero]
            go_simp
            repeat (go_big_quiet_step (fail))
            refine wpQuiet_nil ?_
            intro wd gd
            have kd := kr.size
            have kd2 := gd.size
            go_wp2_with (at_builtin; (refine wpList_append_any _ rfl (.tmp 28) (.tmp 44) 38 rfl w2.heap.size 4 i0 _ 1 1 Try.underlying38 hi0 hz0 hz1 hz2 rfl (by omega) u8 k (csB ((l.take k).map fun v => startB v (y0, y1))) rfl (own_call (own_call hrow gd) (below_alloc (Below.refl _ _) _)) (wd.heap.size + 1) (some ⟨wd.heap.size, 0, none⟩) 1 1 (csB [false]) rfl (Reads.newAt _ _ _ 1 1 _ rfl rfl) (one_csB _) (by simp only [maxLen]; omega) (by omega) (by simp; omega) ?_); intro v4 w4 hown4 hg4 hat4)
            have hB4 : Below w2.heap.size wr w4 := Below.grown (B := w2.heap.size) (a := wr) ((below_alloc gd (.cells #[.bool false] 4)).mono kd) hg4 (by simp; omega) (fun x hx => (hrow.lt x hx).1)
            try refine NoPanic.normal ?_
            go_wp2
            go_roundg g
            case measure => omega
            case rel => exact ⟨k + 1, by omega, by go_num, kr.trans hB4, by rw [HT.out, csB_append, HSB.out]; exact hown4⟩
        · have HSB := Lib.hid (show startB v (y0, y1) = false by rw [hSB, hon]; rfl)
          rw [hon] at e0
          clear hSB hon
          have n1 : decide ((0 : Int) ≤ -1) = false := rfl
          go_wp2_with fail
          refine wp_region_calm_move 16 (by kernel_rfl) (.tmp 8) rfl rfl (by omega) (by kernel_rfl) ?_
          simp only [Nat.reduceSub, List.take_succ_cons, List.take_zero, List.drop_succ_cons, List.drop_zero]
          go_simp
          repeat (go_big_quiet_step (fail))
          refine wpQuiet_nil ?_
          intro wd gd
          have kd := kr.size
          have kd2 := gd.size
          go_wp2_with (at_builtin; (refine wpList_append_any _ rfl (.tmp 28) (.tmp 44) 38 rfl w2.heap.size 4 i0 _ 1 1 Try.underlying38 hi0 hz0 hz1 hz2 rfl (by omega) u8 k (csB ((l.take k).map fun v => startB v (y0, y1))) rfl (own_call (own_call hrow gd) (below_alloc (Below.refl _ _) _)) (wd.heap.size + 1) (some ⟨wd.heap.size, 0, none⟩) 1 1 (csB [false]) rfl (Reads.newAt _ _ _ 1 1 _ rfl rfl) (one_csB _) (by simp only [maxLen]; omega) (by omega) (by simp; omega) ?_); intro v4 w4 hown4 hg4 hat4)
          have hB4 : Below w2.heap.size wr w4 := Below.grown (B := w2.heap.size) (a := wr) ((below_alloc gd (.cells #[.bool false] 4)).mono kd) hg4 (by simp; omega) (fun x hx => (hrow.lt x hx).1)
          try refine NoPanic.normal ?_
          go_wp2
          go_roundg g
          case measure => omega
          case rel => exact ⟨k + 1, by omega, by go_num, kr.trans hB4, by rw [HT.out, csB_append, HSB.out]; exact hown4⟩
  · have hne : ((sliceE l j).2 != 0) = true := by simpa using he
    have E := Lib.hid (show startsE l j = ([], (sliceE l j).2) from sliceE_err he _ _)
    clear he hr hs
    go_wp2
    refine ret_of (by simp [results, Try.results21, go_sem, *]; repeat' (first | rfl | apply And.intro)) rfl ⟨.slice none 0 0, ?_, ?_, by repeat (first | with_reducible exact Below.refl _ _ | with_reducible assumption | with_reducible refine below_drewN ?_ _ | with_reducible refine Below.drew ?_ | with_reducible refine below_alloc ?_ _ | (with_reducible refine Below.setCell ?_ ?_ _; rotate_left; ((try simp only); omega)))⟩
    · rw [E.out]
    · rw [E.out]; exact ⟨rfl, .inl ⟨rfl, rfl⟩⟩
end Go.Proofs.Ytbljfaocmeeljaa
