/- Who sounds in a slice, from the lowest, by the program. -/
import Derived.Test.YtbljfaocmeeljaaAlIns
import Derived.Test.YtbljfaocmeeljaaAlOrder
namespace Go.Proofs.Ytbljfaocmeeljaa
open Go.RowKit
theorem one_of_check (l : List Ev) : ∀ (now : Int × Int) (i : Int), (checkFrom now i l).1 = 0 → ∀ x ∈ l, oneS x = 0 := by
  induction l with
  | nil => intro _ _ _ x hx; simp at hx
  | cons y l ih =>
    intro now i h x hx
    rw [checkFrom] at h
    split at h
    · rename_i hs; exact absurd h hs
    · rename_i hs
      have hs' : stepS now y = 0 := by simpa using hs
      rcases List.mem_cons.1 hx with rfl | hx
      · unfold stepS at hs'
        split at hs'
        · rename_i h1; exact absurd hs' h1
        · rename_i h1; simpa using h1
      · exact ih (nextS y) (i + 1) h x hx
theorem pit_ok {v : List Ev} (h : (checkS v).1 = 0) {x : Ev} (hx : x ∈ v) (hr : x.rest = false) : pchk x.pit = 0 := by
  unfold checkS at h
  split at h
  · cases h
  · have := one_of_check v (0, 1) 0 h x hx
    unfold oneS at this
    repeat' split at this
    all_goals first | (exfalso; omega) | skip
    all_goals rename_i h5 _
    all_goals simp only [hr, true_and] at h5
    all_goals omega
theorem ReadsV.more {w : World} {B B' n : Nat} {A : Option Addr} {l : List (List Ev)} (h : ReadsV w B A n l) (hB : B ≤ B') : ReadsV w B' A n l := by
  obtain ⟨ds, h1, h2, h3⟩ := h
  exact ⟨ds, h1, h2.more hB, fun k d v hd hv => ⟨(h3 k d v hd hv).1.more hB, (h3 k d v hd hv).2⟩⟩
def evK (l : List (List Ev)) (t : Tm) (k : Nat) : Ev := (eventAt (l.getD k []) t).getD ⟨(0, 0), (0, 0), (0, 0, 0), false, 0, 0⟩
def sndP (l : List (List Ev)) (t : Tm) (k : Nat) : List Nat := (List.range k).filter fun k => soundB (l.getD k []) t
theorem sndP_next (l : List (List Ev)) (t : Tm) (k : Nat) : sndP l t (k + 1) = sndP l t k ++ if soundB (l.getD k []) t = true then [k] else [] := by
  unfold sndP
  rw [List.range_succ, List.filter_append]
  simp [List.filter_cons]
theorem sndP_len (l : List (List Ev)) (t : Tm) (k : Nat) : (sndP l t k).length ≤ k := by
  unfold sndP
  exact Nat.le_trans (List.length_filter_le _ _) (by simp)
theorem sound_ev {l : List (List Ev)} {t : Tm} {k : Nat} (h : soundB (l.getD k []) t = true) : eventAt (l.getD k []) t = some (evK l t k) ∧ (evK l t k).rest = false := by
  unfold soundB at h
  unfold evK
  split at h
  · rename_i x hx; rw [hx]; exact ⟨rfl, by simpa using h⟩
  · cases h
theorem csJ_append (a b : List Nat) : csJ (a ++ b) = csJ a ++ csJ b := by unfold csJ; rw [List.map_append, csN_append]
theorem one_csJ (l : List Nat) : ∀ u ∈ csJ l, u.oneCell' = true := one_csN _
set_option maxRecDepth 100000 in
set_option maxHeartbeats 8000000 in
theorem ins_nil (f : Value) (w : World) : Calls Try.prog 92 #[.slice none 0 0, .int .i64 0, .int .i64 0, f] w fun e w' => e = .returned (.tuple #[]) ∧ w' = w := by
  go_enter Try.func92, Try.ntmps92
  go_wp2
  go_loopg [8] 0 (fun _ i wr => i = .int .i64 1 ∧ wr = w)
  case atStart => exact ⟨by simp, rfl⟩
  case round =>
    obtain ⟨rfl, rfl⟩ := hrel
    go_wp2
    refine bodyPost_end (results_none rfl _ _ _) rfl ?_
    exact ⟨rfl, rfl⟩
set_option maxRecDepth 100000 in
set_option maxHeartbeats 8000000 in
theorem pdq_nil (f : Value) (lim : Int) (w : World) : Calls Try.prog 80 #[.slice none 0 0, .int .i64 0, .int .i64 0, .int .i64 lim, f] w fun e w' => e = .returned (.tuple #[]) ∧ w' = w := by
  go_enter Try.func80, Try.ntmps80
  go_wp2
  go_loopg [1, 2] 0 (fun _ i j wr => i = .int .i64 0 ∧ j = .int .i64 0 ∧ wr = w)
  case atStart => exact ⟨rfl, rfl, rfl⟩
  case round =>
    obtain ⟨rfl, rfl, rfl⟩ := hrel
    go_wp2_with fail
    refine (ins_nil f _).mono ?_
    rintro e w2 ⟨rfl, rfl⟩
    go_wp2
    refine bodyPost_ret (results_none rfl _ _ _) rfl ?_
    exact ⟨rfl, rfl⟩
set_option maxRecDepth 100000 in
set_option maxHeartbeats 8000000 in
theorem sort_nil (f : Value) (w : World) : Calls Try.prog 52 #[.slice none 0 0, f] w fun e w' => e = .returned (.tuple #[]) ∧ w' = w := by
  have q2 := Try.bits_Len 0 w (by omega) (by omega)
  go_enter Try.func52, Try.ntmps52
  go_wp2_with fail
  refine q2.mono ?_
  rintro e w2 ⟨rfl, rfl⟩
  go_wp2_with fail
  refine (pdq_nil f _ _).mono ?_
  rintro e w3 ⟨rfl, rfl⟩
  go_wp2
  refine bodyPost_end (results_none rfl _ _ _) rfl ?_
  exact ⟨rfl, rfl⟩
set_option maxRecDepth 100000 in
set_option maxHeartbeats 8000000 in
theorem sounds_any (A : Option Addr) (n c : Nat) (l : List (List Ev)) (j : Int) (B : Nat) (w : World) (h : ReadsV w B A n l) (hB : B ≤ w.heap.size) (hn : n ≤ 9223372036854775807) :
    Calls Try.prog 24 #[.slice A n c, .int .i64 j] w fun e w' => ∃ v, e = .returned (.tuple #[v, .int .i64 (soundsE l j).2]) ∧ w'.ownsRow w.heap.size 3 1 v (soundsE l j).1.length (csJ (soundsE l j).1) ∧ Below w.heap.size w w' := by
  have HL := Lib.hid h.len
  have q1 := slice_any A n c l j B w h hB hn
  obtain ⟨i0, hi0, hz0, hz1, hz2⟩ := info_parts num_info
  go_enter Try.func24, Try.ntmps24
  go_wp2_with fail
  refine q1.mono ?_
  rintro e w1 ⟨⟨⟨y0, y1⟩, ⟨d0', d1'⟩, evs⟩, p, q, kc, rfl, hs, hq, hr, k1⟩
  clear q1
  simp only at hq hr
  by_cases he : (sliceE l j).2 = 0
  · obtain ⟨i, rfl, hi, he2, hz, hsl, hno⟩ := sliceE_ok he
    obtain ⟨f1, f2, _, f4, f5⟩ := set_facts hz
    have HV := Lib.hid f2
    have HOK := Lib.hid (ok_mAt f5 (i := i) (by omega))
    rw [hsl] at hs
    have HY := Lib.hid (show ((y0, y1) : Tm) = mAt (momS l) i from congrArg Sl.at_ hs)
    have hev : evs = l.map fun v => onS v (mAt (momS l) i) := congrArg Sl.evs hs
    rw [← HY.out] at hev
    rw [← HY.out] at HOK
    subst hev
    have E := Lib.hid (show soundsE l (i : Int) = (insAll (ltV l (y0, y1)) (sndS l (y0, y1)), 0) by unfold soundsE; rw [if_neg (by omega), if_neg hno, HY.out, Int.toNat_natCast])
    have hqn : q = n := by rw [← hq, List.length_map]; exact HL.out
    subst hqn
    have h8 : q ≤ 8 := by have := HL.out; omega
    rw [he]
    clear hs hsl he he2 hz hno hi f1 f2 f4 f5 hq
    have sE : Blk (w1.alloc (.cells #[.int .i64 y0, .int .i64 y1, .int .i64 d0', .int .i64 d1', .slice p q kc] 59)) w1.heap.size 59 #[.int .i64 y0, .int .i64 y1, .int .i64 d0', .int .i64 d1', .slice p q kc] := Blk.new _ _ _
    obtain ⟨s0, s1, s4⟩ : (w1.alloc (.cells #[.int .i64 y0, .int .i64 y1, .int .i64 d0', .int .i64 d1', .slice p q kc] 59)).cell? ⟨w1.heap.size, 0, none⟩ = some (.int .i64 y0) ∧ (w1.alloc (.cells #[.int .i64 y0, .int .i64 y1, .int .i64 d0', .int .i64 d1', .slice p q kc] 59)).cell? ⟨w1.heap.size, 1, none⟩ = some (.int .i64 y1) ∧ (w1.alloc (.cells #[.int .i64 y0, .int .i64 y1, .int .i64 d0', .int .i64 d1', .slice p q kc] 59)).cell? ⟨w1.heap.size, 4, none⟩ = some (.slice p q kc) := ⟨sE.cell 0, sE.cell 1, sE.cell 4⟩
    obtain ⟨w2, hw2⟩ : ∃ w2, w2 = w1.alloc (.cells #[.int .i64 y0, .int .i64 y1, .int .i64 d0', .int .i64 d1', .slice p q kc] 59) := ⟨_, rfl⟩
    have hb2 : Below w1.heap.size w1 w2 := by rw [hw2]; exact below_alloc (Below.refl _ _) _
    have hs2 := Lib.hid (show w2.heap.size = w1.heap.size + 1 by rw [hw2]; simp)
    have sE2 : Blk w2 w1.heap.size 59 #[.int .i64 y0, .int .i64 y1, .int .i64 d0', .int .i64 d1', .slice p q kc] := by rw [hw2]; exact sE
    have r2 := (hr.below (Nat.le_refl _) hb2).more hb2.size
    have k2 := below_call k1 hb2
    go_wp2_with fail
    rw [← hw2]
    clear sE s0 s1 s4 hw2 hr
    have HR := Lib.hid r2
    go_loopg [8, 9, 10, 23] q (fun g u _ _ i wr => ∃ k : Nat, k + g = q ∧ i = .int .i64 k ∧ Below w2.heap.size w2 wr ∧ wr.ownsRow w2.heap.size 3 1 u (sndP l (y0, y1) k).length (csJ (sndP l (y0, y1) k)))
    case atStart => exact ⟨0, by omega, by simp, Below.refl _ _, ⟨rfl, .inl ⟨rfl, rfl⟩⟩⟩
    case round =>
      obtain ⟨k, hkg, rfl, kr, hrow⟩ := hrel
      have kw := below_call k2 kr
      have bS := sE2.kept kr
      obtain ⟨s0, s1⟩ : wr.cell? ⟨w1.heap.size, 0, none⟩ = some (.int .i64 y0) ∧ wr.cell? ⟨w1.heap.size, 1, none⟩ = some (.int .i64 y1) := ⟨bS.cell 0, bS.cell 1⟩
      have lS := bS.lt
      cases gk with
      | zero =>
        obtain rfl : k = q := by omega
        have d0 : ¬ ((k : Int) < (k : Int)) := by omega
        have hSP := Lib.hid (show sndP l (y0, y1) k = sndS l (y0, y1) by unfold sndP sndS; rw [HL.out])
        obtain ⟨s2, s3, s4⟩ : wr.cell? ⟨w1.heap.size, 2, none⟩ = some (.int .i64 d0') ∧ wr.cell? ⟨w1.heap.size, 3, none⟩ = some (.int .i64 d1') ∧ wr.cell? ⟨w1.heap.size, 4, none⟩ = some (.slice p k kc) := ⟨bS.cell 2, bS.cell 3, bS.cell 4⟩
        rw [hSP.out] at hrow
        have hml : (sndS l (y0, y1)).length ≤ 8 := by have := sndP_len l (y0, y1) k; rw [hSP.out] at this; omega
        obtain ⟨L, hLdef⟩ : ∃ L, L = sndS l (y0, y1) := ⟨_, rfl⟩
        have HLD := Lib.hid hLdef
        rw [← hLdef] at hrow hml
        clear hLdef
        have kf := kr.size
        have hlow : w.heap.size ≤ w2.heap.size := Nat.le_trans k1.size hb2.size
        rcases hrow.2 with ⟨rfl, h0⟩ | ⟨g, cap, cur, rfl, hgb, _⟩
        · have hL0 : L = [] := List.length_eq_zero_iff.1 h0
          have E2 := Lib.hid (show insAll (ltV l (y0, y1)) (sndS l (y0, y1)) = [] by rw [← HLD.out, hL0]; rfl)
          go_wp2_with fail
          refine (sort_nil _ _).mono ?_
          rintro e w5 ⟨rfl, rfl⟩
          go_wp2
          refine ret_of (by simp [results, Try.results24, go_sem, *]; repeat' (first | rfl | apply And.intro)) rfl ⟨.slice none 0 0, ?_, ?_, kw⟩
          · rw [E.out]
          · rw [E.out, E2.out]; exact ⟨rfl, .inl ⟨rfl, rfl⟩⟩
        · have hcmp : CmpOk 53 (.agg #[.slice A k c, .int .i64 y0, .int .i64 y1, .int .i64 d0', .int .i64 d1', .slice p k kc]) w2.heap.size wr L (fun x y => ordS (evK l (y0, y1) x) (evK l (y0, y1) y) x y) := by
            intro W hW x hx y hy
            rw [HLD.out] at hx hy
            have mx := List.mem_filter.1 hx
            have my := List.mem_filter.1 hy
            have lx := List.mem_range.1 mx.1
            have ly := List.mem_range.1 my.1
            have sx := sound_ev (l := l) (t := (y0, y1)) (by simpa using mx.2)
            have sy := sound_ev (l := l) (t := (y0, y1)) (by simpa using my.2)
            have px : ∀ z, z < l.length → eventAt (l.getD z []) (y0, y1) = some (evK l (y0, y1) z) → (evK l (y0, y1) z).rest = false → pchk (evK l (y0, y1) z).pit = 0 := fun z hz h1 h2 => by
              obtain ⟨v, hv⟩ := get_some (l := l) (k := z) hz
              have gv : l.getD z [] = v := by simp [List.getD, hv]
              rw [gv] at h1
              obtain ⟨kk, _, hk⟩ := eventAt_on h1
              exact pit_ok (HV.out v (List.mem_of_getElem? hv)).1 (List.mem_of_getElem? hk) h2
            have hWs := hW.size
            have kW : Below w2.heap.size w2 W := kr.trans hW
            exact order_any A k c l y0 y1 d0' d1' p k kc w2.heap.size x y _ _ W (((h.below hB k2).more (Nat.le_trans hB k2.size)).below (Nat.le_refl _) kW) (HR.out.below (Nat.le_refl _) kW) (by omega) (by have := HL.out; omega) (by have := HL.out; omega) sx.1 sy.1 (px x lx sx.1 sx.2) (px y ly sy.1 sy.2)
          have hlt : ∀ x ∈ L, ∀ y ∈ L, decide (ordS (evK l (y0, y1) x) (evK l (y0, y1) y) x y < 0) = ltV l (y0, y1) x y := by
            intro x hx y hy
            rw [HLD.out] at hx hy
            exact ord_lt (sound_ev (by simpa using (List.mem_filter.1 hx).2)).1 (sound_ev (by simpa using (List.mem_filter.1 hy).2)).1
          have q5 := sort_any g L.length cap L _ _ _ w2.heap.size wr hrow hml hcmp hlt
          have E2 := Lib.hid (show insAll (ltV l (y0, y1)) (sndS l (y0, y1)) = sorts (ltV l (y0, y1)) 1 (L.length - 1) L by
            rw [HLD.out, sorts_all (ltV_tot l (y0, y1)) (fun _ _ => trivial) (snd_nodup l (y0, y1))])
          clear hcmp hlt
          go_wp2_with fail
          refine q5.mono ?_
          rintro e w5 ⟨rfl, ho5, hb5⟩
          go_wp2
          refine ret_of (by simp [results, Try.results24, go_sem, *]; repeat' (first | rfl | apply And.intro)) rfl ⟨.slice (some ⟨g, 0, none⟩) L.length cap, ?_, ?_, kw.trans (hb5.mono hlow)⟩
          · rw [E.out]
          · rw [E.out, E2.out]
            have hl5 : (sorts (ltV l (y0, y1)) 1 (L.length - 1) L).length = L.length := by have := ho5.1; rw [csJ_len] at this; omega
            show World.ownsRow _ _ _ _ _ (sorts (ltV l (y0, y1)) 1 (L.length - 1) L).length (csJ (sorts (ltV l (y0, y1)) 1 (L.length - 1) L))
            rw [hl5]
            exact own_lower ho5 hlow
      | succ g =>
        have hk : k < q := by omega
        have hk' : (k : Int) < (q : Int) := by omega
        obtain ⟨v, hv⟩ := get_some (l := l) (k := k) (by have := HL.out; omega)
        have hvm := List.mem_of_getElem? hv
        obtain ⟨hck, hval, hvl⟩ := HV.out v hvm
        obtain ⟨be, oe, hpe, hbe, he⟩ := Reads.elem (f := cI) (l := l.map fun v => onS v (y0, y1)) (fun _ => rfl) (HR.out.below (Nat.le_refl _) kr) hk (by rw [List.getElem?_map, hv]; rfl)
        subst hpe
        have e0 : wr.cell? ⟨be, oe + k, none⟩ = some (.int .i64 (onS v (y0, y1))) := by have := he 0 _ rfl; simpa using this
        obtain ⟨b, off, A', n', c', rfl, hab, cv, hre, hn', hvn⟩ := h.voice hB kw hk hv
        have gv : l.getD k [] = v := by simp [List.getD, hv]
        have hSN := sndP_next l (y0, y1) k
        rw [gv] at hSN
        have hlen9 : (sndP l (y0, y1) k).length ≤ 8 := by have := sndP_len l (y0, y1) k; omega
        have hSB : soundB v (y0, y1) = match eventAt v (y0, y1) with | some x => !x.rest | none => false := rfl
        have hEA : eventAt v (y0, y1) = match onS v (y0, y1) with | .ofNat k => v[k]? | .negSucc _ => none := rfl
        clear he hv hvm gv
        rcases on_char hval HOK.out with ⟨kk, x, hx, _, hon⟩ | hon
        · have hkl := (List.getElem?_eq_some_iff.1 hx).1
          have hHS : soundB v (y0, y1) = !x.rest := by rw [hSB, hEA, hon]; simp [hx]
          rw [hHS] at hSN
          rw [hon] at e0
          obtain ⟨b2, off2, hA2, hab2, hc2⟩ := hre.ev (Nat.le_trans hB kw.size) (Below.refl _ wr) (k := kk) (by omega) hx
          subst hA2
          obtain ⟨_, _, _, _, _, _, _, x7, _⟩ := ten hc2
          have hkk : (kk : Int) < (n' : Int) := by omega
          have hkk0 : (0 : Int) ≤ (kk : Int) := by omega
          clear hc2 hSB hEA hon hx hHS
          obtain ⟨rs, hrs⟩ : ∃ rs, rs = x.rest := ⟨_, rfl⟩
          rw [← hrs] at x7 hSN
          clear hrs
          cases rs
          · have HSP := Lib.hid (show sndP l (y0, y1) (k + 1) = sndP l (y0, y1) k ++ [k] by rw [hSN]; rfl)
            clear hSN
            have kd := kr.size
            go_wp2_with (at_builtin; (refine wpList_append_any _ rfl (.tmp 41) (.tmp 43) 42 rfl w2.heap.size 3 i0 _ 1 8 Try.underlying42 hi0 hz0 hz1 hz2 rfl (by omega) u8 (sndP l (y0, y1) k).length (csJ (sndP l (y0, y1) k)) rfl (own_call hrow (below_alloc (Below.refl _ _) _)) (wr.heap.size + 1) (some ⟨wr.heap.size, 0, none⟩) 1 1 (csJ [k]) rfl (Reads.newAt _ _ _ 1 1 _ rfl rfl) (one_csJ _) (by simp only [maxLen]; omega) (by omega) (by simp; omega) ?_); intro v4 w4 hown4 hg4 hat4)
            have hB4 : Below w2.heap.size wr w4 := Below.grown (B := w2.heap.size) (a := wr) ((below_alloc (Below.refl wr.heap.size wr) (.cells #[.int .i64 (k : Int)] 3)).mono kd) hg4 (by simp; omega) (fun x hx => (hrow.lt x hx).1)
            go_roundg g
            case measure => omega
            case rel => exact ⟨k + 1, by omega, by go_num, kr.trans hB4, by rw [HSP.out, List.length_append, csJ_append]; exact hown4⟩
          · have HSP := Lib.hid (show sndP l (y0, y1) (k + 1) = sndP l (y0, y1) k by rw [hSN]; simp)
            clear hSN
            go_wp2
            go_roundg g
            case measure => omega
            case rel => exact ⟨k + 1, by omega, by go_num, kr, by rw [HSP.out]; exact hrow⟩
        · have HSP := Lib.hid (show sndP l (y0, y1) (k + 1) = sndP l (y0, y1) k by rw [hSN, hSB, hEA, hon]; exact List.append_nil _)
          rw [hon] at e0
          clear hSB hEA hon hSN
          have n1 : decide ((0 : Int) ≤ -1) = false := rfl
          go_wp2
          go_roundg g
          case measure => omega
          case rel => exact ⟨k + 1, by omega, by go_num, kr, by rw [HSP.out]; exact hrow⟩
  · have hne : ((sliceE l j).2 != 0) = true := by simpa using he
    have E := Lib.hid (show soundsE l j = ([], (sliceE l j).2) from sliceE_err he _ _)
    clear he hr hs
    go_wp2
    refine ret_of (by simp [results, Try.results24, go_sem, *]; repeat' (first | rfl | apply And.intro)) rfl ⟨.slice none 0 0, ?_, ?_, by repeat (first | with_reducible exact Below.refl _ _ | with_reducible assumption | with_reducible refine below_drewN ?_ _ | with_reducible refine Below.drew ?_ | with_reducible refine below_alloc ?_ _ | (with_reducible refine Below.setCell ?_ ?_ _; rotate_left; ((try simp only); omega)))⟩
    · rw [E.out]
    · rw [E.out]; exact ⟨rfl, .inl ⟨rfl, rfl⟩⟩
end Go.Proofs.Ytbljfaocmeeljaa
