/- Voices upside down, moved and stretched: the reference's walks. -/
import Derived.Test.YtiphacmmglohaaaAll
namespace Go.Proofs.Ytiphacmmglohaaa
open Go.RowKit
theorem csE_split (done rest : List Ev) (y : Ev) : csE (done ++ y :: rest) = csE done ++ .int .i64 y.at_.1 :: .int .i64 y.at_.2 :: .int .i64 y.dur.1 :: .int .i64 y.dur.2 :: .int .i64 y.pit.1 :: .int .i64 y.pit.2.1 :: .int .i64 y.pit.2.2 :: .bool y.rest :: .int .i64 y.sign :: .int .i64 y.pass :: csE rest := by
  rw [csE_append]; rfl
theorem csE_set_pit (done rest : List Ev) (x : Ev) (p q r : Int) : (((csE (done ++ x :: rest)).set (done.length * 10 + 4) (.int .i64 p)).set (done.length * 10 + 5) (.int .i64 q)).set (done.length * 10 + 6) (.int .i64 r) = csE (done ++ { x with pit := (p, q, r) } :: rest) := by
  rw [csE_split, csE_split, ← csE_len done]; simp
theorem csE_set_dur (done rest : List Ev) (x : Ev) (p q : Int) : ((csE (done ++ x :: rest)).set (done.length * 10 + 2) (.int .i64 p)).set (done.length * 10 + 3) (.int .i64 q) = csE (done ++ { x with dur := (p, q) } :: rest) := by
  rw [csE_split, csE_split, ← csE_len done]; simp
theorem own_pit {w : World} {base n cap g : Nat} {done rest : List Ev} {x : Ev} (h : w.ownsRow base 59 10 (.slice (some ⟨g, 0, none⟩) n cap) n (csE (done ++ x :: rest))) (k : Nat) (hk : done.length = k) (p q r : Int) :
    (((w.setCell ⟨g, k * 10 + 4, none⟩ (.int .i64 p)).setCell ⟨g, k * 10 + 5, none⟩ (.int .i64 q)).setCell ⟨g, k * 10 + 6, none⟩ (.int .i64 r)).ownsRow base 59 10 (.slice (some ⟨g, 0, none⟩) n cap) n (csE (done ++ { x with pit := (p, q, r) } :: rest)) := by
  subst hk; rw [← csE_set_pit]; exact ((h.stored _ _).1.stored _ _).1.stored _ _ |>.1
theorem own_dur {w : World} {base n cap g : Nat} {done rest : List Ev} {x : Ev} (h : w.ownsRow base 59 10 (.slice (some ⟨g, 0, none⟩) n cap) n (csE (done ++ x :: rest))) (k : Nat) (hk : done.length = k) (p q : Int) :
    ((w.setCell ⟨g, k * 10 + 2, none⟩ (.int .i64 p)).setCell ⟨g, k * 10 + 3, none⟩ (.int .i64 q)).ownsRow base 59 10 (.slice (some ⟨g, 0, none⟩) n cap) n (csE (done ++ { x with dur := (p, q) } :: rest)) := by
  subst hk; rw [← csE_set_dur]; exact ((h.stored _ _).1.stored _ _).1
theorem undrew {w w' : World} (h : Below w.drew.heap.size w.drew w') : Below w.heap.size w w' := ⟨h.os, h.tape, h.output, h.size, h.block⟩
/-- A copy in a new row, by append to an empty literal. -/
theorem lit_row (w : World) : (w.alloc (.cells #[] 59)).ownsRow w.heap.size 59 10 (.slice (some ⟨w.heap.size, 0, none⟩) 0 0) 0 [] := World.ownsRow_lit w #[] 0 (Nat.le_refl _) (by simp [maxLen]) rfl
theorem grown_lit {w w1 : World} {B : Nat} {a : World} (hb : Below B a w) (hB : B ≤ w.heap.size) (hg : (w.alloc (.cells #[] 59)).grownBy w1 (Value.slice (some ⟨w.heap.size, 0, none⟩) 0 0).ownBlock) : Below B a w1 :=
  (hb.alloc hB _).grown hg (by simp; omega) (fun k hk => by simp [Value.ownBlock] at hk; omega)
set_option maxRecDepth 100000 in
set_option maxHeartbeats 2000000 in
theorem refMirrorE_any (A : Option Addr) (n c : Nat) (l : List Ev) (axis : Int × Int × Int) (B : Nat) (w : World) (h : Reads w B 10 A n (csE l)) (hB : B ≤ w.heap.size) (hn : n ≤ 5000) :
    Calls Try.prog 24 #[.slice A n c, vP axis] w fun e w' => ∃ A' c', e = .returned (.tuple #[.slice A' (mirrorS l axis).1.length c', .int .i64 (mirrorS l axis).2]) ∧ OwnE w' w.heap.size (mirrorS l axis).1.length A' c' (mirrorS l axis).1 ∧ Below w.heap.size w w' := by
  have HL : Hid (l.length = n) := Lib.hid h.evlen
  obtain ⟨i0, hi0, hz0, hz1, hz2⟩ := info_parts event_info
  obtain ⟨xa, xb, xc⟩ := axis
  have r0 : Blk (w.alloc (.cells #[.int .i64 xa, .int .i64 xb, .int .i64 xc] 35)) w.heap.size 35 #[.int .i64 xa, .int .i64 xb, .int .i64 xc] := Blk.new _ _ _
  have k0 : Below w.heap.size w (w.alloc (.cells #[.int .i64 xa, .int .i64 xb, .int .i64 xc] 35)) := by repeat (first | exact Below.refl _ _ | refine below_drewN ?_ _ | refine Below.drew ?_ | refine below_alloc ?_ _ | (refine below_call ?_ (by assumption)) | (refine Below.setCell ?_ ?_ _; rotate_left; (simp; try omega)))
  have hc := refEvCheck_any A n c l B _ (h.below hB k0) (by simp; omega) (by omega)
  obtain ⟨⟨y, yy⟩, hy⟩ : ∃ y, y = checkS l := ⟨_, rfl⟩
  rw [← hy] at hc
  by_cases hz : y = 0
  · subst hz
    obtain ⟨z, hz⟩ : ∃ z, z = pchk (xa, xb, xc) := ⟨_, rfl⟩
    have hp := refPcheck_any (xa, xb, xc)
    rw [← hz] at hp
    by_cases h0 : z = 0
    · subst h0
      have E := Lib.hid (show mirrorS l (xa, xb, xc) = mapS (pitchedS fun p => mirrorP p (xa, xb, xc)) l by unfold mirrorS; rw [← hy, if_neg (fun h => h rfl), ← hz, if_neg (fun h => h rfl)]; exact all_pitched _ l (by rw [← hy]))
      clear hy hz
      generalize hf : (fun p => mirrorP p (xa, xb, xc)) = f at E
      have F := Lib.hid hf; clear hf
      go_enter Try.func24, Try.ntmps24
      go_wp2_with fail
      refine hc.mono ?_
      rintro e w1 ⟨rfl, hb1⟩
      have r1 := r0.kept hb1
      have e1 := r1.cell; have z1 := r1.lt
      have k1 := below_call k0 hb1
      go_wp2_with fail
      refine (hp _).mono ?_
      rintro e w2 ⟨rfl, hb2⟩
      have r2 := r1.kept hb2
      have k2 := below_call k1 hb2
      go_wp2_with (at_builtin; (refine wpList_append_any _ rfl (.tmp 23) (.tmp 24) _ rfl w2.heap.size 59 i0 _ 10 80 Try.underlying22 hi0 hz0 hz1 hz2 rfl (by omega) (.slice (some ⟨w2.heap.size, 0, none⟩) 0 0) 0 [] rfl (lit_row w2) w.heap.size A n c (csE l) rfl ((h.below hB (below_alloc k2 _)).more hB) (one_csE l) (by simp only [maxLen]; omega) (by omega) (by simp) ?_); intro v1 w3 hown1 hg1 hat1)
      have hne : some w.heap.size ≠ (Value.slice (some ⟨w2.heap.size, 0, none⟩) 0 0).ownBlock := by simp [Value.ownBlock]; have := r2.lt; omega
      have r3 := Blk.grown_ (r2.alloc _) hg1 hne
      have k3 : Below w.heap.size w w3 := grown_lit k2 k2.size hg1
      simp only [Nat.zero_add, List.nil_append] at hown1
      obtain ⟨A1, c1, hv, ho1⟩ := ownE_form hown1
      subst hv
      have hs2 := k2.size
      go_loopw [6, 9] (fun _ i wr => ∃ (k : Nat) (done : List Ev), k ≤ n ∧ i = .int .i64 k ∧ done.length = k ∧ Hid (mapAt (pitchedS f) done (l.drop k) = mapS (pitchedS f) l) ∧ wr.ownsRow (w2.heap.size) 59 10 (.slice A1 n c1) n (csE (done ++ l.drop k)) ∧ Below w.heap.size w wr ∧ Blk wr w.heap.size 35 #[.int .i64 xa, .int .i64 xb, .int .i64 xc]) (fun _ i _ => n - (intOf i).toNat)
      case atStart => exact ⟨0, [], by omega, rfl, rfl, Lib.hid (mapAt_nil _ _), ho1.1, k3, r3⟩
      case round =>
        obtain ⟨k, done, hk, rfl, hdn, hs, hown, k0, r4⟩ := hrel
        by_cases hlt : k < n
        · have hlt' : (k : Int) < (n : Int) := by omega
          obtain ⟨x, hx⟩ := get_some (l := l) (k := k) (by have := HL.out; omega)
          have HD := drop_get hx
          rw [HD] at hown
          have HDH := Lib.hid HD; clear HD
          obtain ⟨g, cap, he, hgb, hgr⟩ := hown.form (by omega)
          cases he
          have hcs := own_elem hown hdn hlt
          obtain ⟨⟨a, a'⟩, ⟨d, d'⟩, ⟨p, q, r⟩, rst, sg, ps⟩ := x
          have c4 : wr.cell? ⟨g, k * 10 + 4, none⟩ = some (.int .i64 p) := hcs 4 (by omega)
          have c5 : wr.cell? ⟨g, k * 10 + 5, none⟩ = some (.int .i64 q) := hcs 5 (by omega)
          have c6 : wr.cell? ⟨g, k * 10 + 6, none⟩ = some (.int .i64 r) := hcs 6 (by omega)
          have c7 : wr.cell? ⟨g, k * 10 + 7, none⟩ = some (.bool rst) := hcs 7 (by omega)
          have er := r4.cell; have zr := r4.lt
          clear hcs hx
          cases rst with
          | true =>
            go_wp2
            go_roundw
            case rel =>
              refine ⟨k + 1, done ++ [⟨(a, a'), (d, d'), (p, q, r), true, sg, ps⟩], by omega, by go_num, by simp [hdn], ?_, ?_, k0, r4⟩
              · have hr := hs.out
                rw [HDH.out, mapAt_ok _ _ _ _ rfl] at hr
                exact Lib.hid hr
              · rw [List.append_assoc]
                exact hown
            case measure => simp [intOf]; omega
          | false =>
            obtain ⟨⟨⟨yp, yq, yr⟩, ye⟩, hy⟩ : ∃ y, y = f (p, q, r) := ⟨_, rfl⟩
            have hq := refMirror_any (p, q, r) (xa, xb, xc)
            rw [show mirrorP (p, q, r) (xa, xb, xc) = ((yp, yq, yr), ye) by rw [hy, ← F.out]] at hq
            have Y := Lib.hid (show pitchedS f ⟨(a, a'), (d, d'), (p, q, r), false, sg, ps⟩ = (⟨(a, a'), (d, d'), (yp, yq, yr), false, sg, ps⟩, ye) by unfold pitchedS; rw [← hy]; rfl)
            clear hy
            have HQ := Lib.hid hq; clear hq
            go_wp2_with fail
            have r4z := r2.lt
            go_region_with ((go_at_call 64; refine (HQ.out _).mono ?_; rintro e w4 ⟨rfl, hb4'⟩; have hb4 := undrew hb4'; have ho2 := own_call hown hb4; have k4 := below_call k0 hb4; have r5 := r4.kept hb4; have zr5 := r5.lt; have hcs := own_elem ho2 hdn hlt; have c4 : w4.cell? ⟨g, k * 10 + 4, none⟩ = some (.int .i64 p) := hcs 4 (by omega); have c5 : w4.cell? ⟨g, k * 10 + 5, none⟩ = some (.int .i64 q) := hcs 5 (by omega); have c6 : w4.cell? ⟨g, k * 10 + 6, none⟩ = some (.int .i64 r) := hcs 6 (by omega); have fz := ho2.frozenAt; have OW := Lib.hid (own_pit ho2 k hdn yp yq yr); have BW := Lib.hid (((k4.setCell (p := ⟨g, k * 10 + 4, none⟩) (by simp only; omega) (.int .i64 yp)).setCell (p := ⟨g, k * 10 + 5, none⟩) (by simp only; omega) (.int .i64 yq)).setCell (p := ⟨g, k * 10 + 6, none⟩) (by simp only; omega) (.int .i64 yr)); clear hcs hb4' ho2))
            all_goals clear hown
            all_goals
             go_wp2_with fail
             · go_ret2
               have h0 : (ye != 0) = true := by assumption
               have hr := hs.out
               rw [HDH.out, mapAt_bad _ _ _ _ (by rw [Y.out]; simpa using h0), Y.out] at hr
               rw [E.out, ← hr]
               exact ⟨none, 0, rfl, OwnE.nil_ _ _, BW.out⟩
             · go_roundw
               case rel =>
                 have h0 : (ye != 0) = false := by assumption
                 refine ⟨k + 1, done ++ [⟨(a, a'), (d, d'), (yp, yq, yr), false, sg, ps⟩], by omega, by go_num, by simp [hdn], ?_, ?_, BW.out, ((r5.far (show _ ≠ _ by simp only; omega) _).far (show _ ≠ _ by simp only; omega) _).far (show _ ≠ _ by simp only; omega) _⟩
                 · have hr := hs.out
                   rw [HDH.out, mapAt_ok _ _ _ _ (by rw [Y.out]; simpa using h0), Y.out] at hr
                   exact Lib.hid hr
                 · rw [List.append_assoc]
                   exact OW.out
               case measure => simp [intOf]; omega
        · have hr := hs.out
          rw [List.drop_eq_nil_of_le (by have := HL.out; omega), mapAt_end] at hr
          rw [List.drop_eq_nil_of_le (by have := HL.out; omega), List.append_nil] at hown
          have hkn : k = n := by omega
          subst hkn
          go_wp2
          go_ret2
          rw [E.out, ← hr]
          subst hdn
          obtain ⟨A', c', e, ho⟩ := ownE_form hown
          cases e
          exact ⟨_, _, rfl, ho.lower (by omega), k0⟩
    · have hz' : (z != 0) = true := by simpa using h0
      have E := Lib.hid (show mirrorS l (xa, xb, xc) = ([], z) by unfold mirrorS; rw [← hy, if_neg (fun h => h rfl), ← hz, if_pos h0])
      clear hy hz
      go_enter Try.func24, Try.ntmps24
      go_wp2_with fail
      refine hc.mono ?_
      rintro e w1 ⟨rfl, hb1⟩
      have r1 := r0.kept hb1
      have e1 := r1.cell; have z1 := r1.lt
      have k1 := below_call k0 hb1
      go_wp2_with fail
      refine (hp _).mono ?_
      rintro e w2 ⟨rfl, hb2⟩
      have k2 := below_call k1 hb2
      go_wp2_with fail
      go_ret2
      rw [E.out]
      exact ⟨none, 0, rfl, OwnE.nil_ _ _, by repeat (first | with_reducible exact Below.refl _ _ | with_reducible assumption | with_reducible refine below_drewN ?_ _ | with_reducible refine Below.drew ?_ | with_reducible refine below_alloc ?_ _ | (with_reducible refine Below.setCell ?_ ?_ _; rotate_left; ((try simp only); omega)))⟩
  · have hz' : (y != 0) = true := by simpa using hz
    have E := Lib.hid (show mirrorS l (xa, xb, xc) = ([], y) by unfold mirrorS; rw [← hy, if_pos hz])
    clear hy
    go_enter Try.func24, Try.ntmps24
    go_wp2_with fail
    refine hc.mono ?_
    rintro e w1 ⟨rfl, hb1⟩
    have k1 := below_call k0 hb1
    go_wp2_with fail
    go_ret2
    rw [E.out]
    exact ⟨none, 0, rfl, OwnE.nil_ _ _, by repeat (first | with_reducible exact Below.refl _ _ | with_reducible assumption | with_reducible refine below_drewN ?_ _ | with_reducible refine Below.drew ?_ | with_reducible refine below_alloc ?_ _ | (with_reducible refine Below.setCell ?_ ?_ _; rotate_left; ((try simp only); omega)))⟩
set_option maxRecDepth 100000 in
set_option maxHeartbeats 2000000 in
theorem refMoveE_any (A : Option Addr) (n c : Nat) (l : List Ev) (steps : Int) (B : Nat) (w : World) (h : Reads w B 10 A n (csE l)) (hB : B ≤ w.heap.size) (hn : n ≤ 5000) :
    Calls Try.prog 26 #[.slice A n c, .int .i64 steps] w fun e w' => ∃ A' c', e = .returned (.tuple #[.slice A' (moveS l steps).1.length c', .int .i64 (moveS l steps).2]) ∧ OwnE w' w.heap.size (moveS l steps).1.length A' c' (moveS l steps).1 ∧ Below w.heap.size w w' := by
  have HL : Hid (l.length = n) := Lib.hid h.evlen
  obtain ⟨i0, hi0, hz0, hz1, hz2⟩ := info_parts event_info
  have hc := refEvCheck_any A n c l B w h hB (by omega)
  obtain ⟨⟨y, yy⟩, hy⟩ : ∃ y, y = checkS l := ⟨_, rfl⟩
  rw [← hy] at hc
  by_cases hz : y = 0
  · subst hz
    have E := Lib.hid (show moveS l steps = mapS (pitchedS fun p => moveP p steps) l by unfold moveS; rw [← hy, if_neg (fun h => h rfl)]; exact all_pitched _ l (by rw [← hy]))
    clear hy
    generalize hf : (fun p => moveP p steps) = f at E
    have F := Lib.hid hf; clear hf
    go_enter Try.func26, Try.ntmps26
    go_wp2_with fail
    refine hc.mono ?_
    rintro e w1 ⟨rfl, hb1⟩
    go_wp2_with (at_builtin; (refine wpList_append_any _ rfl (.tmp 18) (.tmp 19) _ rfl w1.heap.size 59 i0 _ 10 80 Try.underlying22 hi0 hz0 hz1 hz2 rfl (by omega) (.slice (some ⟨w1.heap.size, 0, none⟩) 0 0) 0 [] rfl (lit_row w1) w.heap.size A n c (csE l) rfl ((h.below hB (below_alloc hb1 _)).more hB) (one_csE l) (by simp only [maxLen]; omega) (by omega) (by simp) ?_); intro v1 w3 hown1 hg1 hat1)
    have k3 : Below w.heap.size w w3 := grown_lit hb1 hb1.size hg1
    simp only [Nat.zero_add, List.nil_append] at hown1
    obtain ⟨A1, c1, hv, ho1⟩ := ownE_form hown1
    subst hv
    have hs2 := hb1.size
    go_loopw [6, 9] (fun _ i wr => ∃ (k : Nat) (done : List Ev), k ≤ n ∧ i = .int .i64 k ∧ done.length = k ∧ Hid (mapAt (pitchedS f) done (l.drop k) = mapS (pitchedS f) l) ∧ wr.ownsRow (w1.heap.size) 59 10 (.slice A1 n c1) n (csE (done ++ l.drop k)) ∧ Below w.heap.size w wr) (fun _ i _ => n - (intOf i).toNat)
    case atStart => exact ⟨0, [], by omega, rfl, rfl, Lib.hid (mapAt_nil _ _), ho1.1, k3⟩
    case round =>
      obtain ⟨k, done, hk, rfl, hdn, hs, hown, k0⟩ := hrel
      by_cases hlt : k < n
      · have hlt' : (k : Int) < (n : Int) := by omega
        obtain ⟨x, hx⟩ := get_some (l := l) (k := k) (by have := HL.out; omega)
        have HD := drop_get hx
        rw [HD] at hown
        have HDH := Lib.hid HD; clear HD
        obtain ⟨g, cap, he, hgb, hgr⟩ := hown.form (by omega)
        cases he
        have hcs := own_elem hown hdn hlt
        obtain ⟨⟨a, a'⟩, ⟨d, d'⟩, ⟨p, q, r⟩, rst, sg, ps⟩ := x
        have c4 : wr.cell? ⟨g, k * 10 + 4, none⟩ = some (.int .i64 p) := hcs 4 (by omega)
        have c5 : wr.cell? ⟨g, k * 10 + 5, none⟩ = some (.int .i64 q) := hcs 5 (by omega)
        have c6 : wr.cell? ⟨g, k * 10 + 6, none⟩ = some (.int .i64 r) := hcs 6 (by omega)
        have c7 : wr.cell? ⟨g, k * 10 + 7, none⟩ = some (.bool rst) := hcs 7 (by omega)
        clear hcs hx
        cases rst with
        | true =>
          go_wp2
          go_roundw
          case rel =>
            refine ⟨k + 1, done ++ [⟨(a, a'), (d, d'), (p, q, r), true, sg, ps⟩], by omega, by go_num, by simp [hdn], ?_, ?_, k0⟩
            · have hr := hs.out
              rw [HDH.out, mapAt_ok _ _ _ _ rfl] at hr
              exact Lib.hid hr
            · rw [List.append_assoc]
              exact hown
          case measure => simp [intOf]; omega
        | false =>
          obtain ⟨⟨⟨yp, yq, yr⟩, ye⟩, hy⟩ : ∃ y, y = f (p, q, r) := ⟨_, rfl⟩
          have hq := refMove_any (p, q, r) steps
          rw [show moveP (p, q, r) steps = ((yp, yq, yr), ye) by rw [hy, ← F.out]] at hq
          have Y := Lib.hid (show pitchedS f ⟨(a, a'), (d, d'), (p, q, r), false, sg, ps⟩ = (⟨(a, a'), (d, d'), (yp, yq, yr), false, sg, ps⟩, ye) by unfold pitchedS; rw [← hy]; rfl)
          clear hy
          have HQ := Lib.hid hq; clear hq
          go_wp2_with fail
          refine (HQ.out _).mono ?_
          rintro e w4 ⟨rfl, hb4⟩
          have ho2 := own_call hown hb4
          have k4 := below_call k0 hb4
          have hcs := own_elem ho2 hdn hlt
          have c4 : w4.cell? ⟨g, k * 10 + 4, none⟩ = some (.int .i64 p) := hcs 4 (by omega)
          have c5 : w4.cell? ⟨g, k * 10 + 5, none⟩ = some (.int .i64 q) := hcs 5 (by omega)
          have c6 : w4.cell? ⟨g, k * 10 + 6, none⟩ = some (.int .i64 r) := hcs 6 (by omega)
          have fz := ho2.frozenAt
          have OW := Lib.hid (own_pit ho2 k hdn yp yq yr)
          have BW := Lib.hid (((k4.setCell (p := ⟨g, k * 10 + 4, none⟩) (by simp only; omega) (.int .i64 yp)).setCell (p := ⟨g, k * 10 + 5, none⟩) (by simp only; omega) (.int .i64 yq)).setCell (p := ⟨g, k * 10 + 6, none⟩) (by simp only; omega) (.int .i64 yr))
          clear hcs hown ho2
          go_wp2_with fail
          · go_ret2
            have h0 : (ye != 0) = true := by assumption
            have hr := hs.out
            rw [HDH.out, mapAt_bad _ _ _ _ (by rw [Y.out]; simpa using h0), Y.out] at hr
            rw [E.out, ← hr]
            exact ⟨none, 0, rfl, OwnE.nil_ _ _, BW.out⟩
          · go_roundw
            case rel =>
              have h0 : (ye != 0) = false := by assumption
              refine ⟨k + 1, done ++ [⟨(a, a'), (d, d'), (yp, yq, yr), false, sg, ps⟩], by omega, by go_num, by simp [hdn], ?_, ?_, BW.out⟩
              · have hr := hs.out
                rw [HDH.out, mapAt_ok _ _ _ _ (by rw [Y.out]; simpa using h0), Y.out] at hr
                exact Lib.hid hr
              · rw [List.append_assoc]
                exact OW.out
            case measure => simp [intOf]; omega
      · have hr := hs.out
        rw [List.drop_eq_nil_of_le (by have := HL.out; omega), mapAt_end] at hr
        rw [List.drop_eq_nil_of_le (by have := HL.out; omega), List.append_nil] at hown
        have hkn : k = n := by omega
        subst hkn
        go_wp2
        go_ret2
        rw [E.out, ← hr]
        subst hdn
        obtain ⟨A', c', e, ho⟩ := ownE_form hown
        cases e
        exact ⟨_, _, rfl, ho.lower (by omega), k0⟩
  · have hz' : (y != 0) = true := by simpa using hz
    have E := Lib.hid (show moveS l steps = ([], y) by unfold moveS; rw [← hy, if_pos hz])
    clear hy
    go_enter Try.func26, Try.ntmps26
    go_wp2_with fail
    refine hc.mono ?_
    rintro e w1 ⟨rfl, hb1⟩
    go_wp2_with fail
    go_ret2
    rw [E.out]
    exact ⟨none, 0, rfl, OwnE.nil_ _ _, hb1⟩
end Go.Proofs.Ytiphacmmglohaaa
