/- The walk through span.Parse. -/
import Derived.Test.YtfafjdbdpbjklaaDoorRead
import Derived.WalkMore
namespace Go.Proofs.YtfafjdbdpbjklaaDoor
open Go.RowKit

/-- A text, cut at its first stroke, as the scan knows it ahead of byte pos. -/
def Cut (s : ByteArray) (pos : Nat) : Prop := cutAt s.data.toList = (s.data.toList.take pos ++ (cutAt (s.data.toList.drop pos)).1, (cutAt (s.data.toList.drop pos)).2)
theorem Cut.start (s : ByteArray) : Cut s 0 := by unfold Cut; simp
theorem take_snoc (s : ByteArray) (pos : Nat) (hp : pos < s.size) : s.data.toList.take (pos + 1) = s.data.toList.take pos ++ [s[pos]'hp] := by
  have h' : pos < s.data.toList.length := by rw [Array.length_toList]; exact hp
  rw [List.take_add_one, List.getElem?_eq_getElem h']; rfl
theorem Cut.next {s : ByteArray} {pos : Nat} (h : Cut s pos) (hp : pos < s.size) (hb : ¬ (s[pos]'hp).toNat = 47) : Cut s (pos + 1) := by
  unfold Cut at h ⊢
  have hb' : ¬ (s[pos]'hp) = 47 := by intro e; apply hb; rw [e]; rfl
  rw [drop_cons s pos hp, cutAt, if_neg hb'] at h
  rw [h, take_snoc s pos hp]
  simp
theorem Cut.stroke {s : ByteArray} {pos : Nat} (h : Cut s pos) (hp : pos < s.size) (hb : (s[pos]'hp).toNat = 47) : cutAt s.data.toList = ((s.extract 0 pos).data.toList, some (s.extract (pos + 1) s.size).data.toList) := by
  unfold Cut at h
  have hb' : (s[pos]'hp) = 47 := by apply UInt8.toNat_inj.1; rw [hb]; rfl
  rw [drop_cons s pos hp, cutAt, if_pos hb'] at h
  rw [h, list_extract, list_extract]
  have : s.data.toList.take s.size = s.data.toList := List.take_of_length_le (by rw [Array.length_toList]; exact Nat.le_refl _)
  rw [this]; simp
theorem Cut.done {s : ByteArray} {pos : Nat} (h : Cut s pos) (hp : ¬ pos < s.size) : cutAt s.data.toList = (s.data.toList, none) := by
  unfold Cut at h
  rw [drop_end s pos hp] at h
  rw [h]
  have : s.data.toList.take pos = s.data.toList := List.take_of_length_le (by rw [Array.length_toList]; exact Nat.not_lt.1 hp)
  rw [this]; simp [cutAt]
theorem numS_bad (a : List UInt8) (h : ¬ ∀ b ∈ a, dig b) : (numS a).2 = false := by
  rw [numS_plain]
  apply Bool.eq_false_iff.2
  intro e
  exact h (plainS_digs a e)
theorem Cut.bad {s : ByteArray} {pos : Nat} (h : Cut s pos) (hp : pos < s.size) (hb : 57 < (s[pos]'hp).toNat) : parS s.data.toList = (0, 0, 3) := by
  unfold Cut at h
  have hb' : ¬ (s[pos]'hp) = 47 := by intro e; rw [e] at hb; exact absurd hb (by decide)
  rw [drop_cons s pos hp, cutAt, if_neg hb'] at h
  unfold parS parP
  have : (numS (cutAt s.data.toList).1).2 = false := by
    apply numS_bad
    intro hd
    have := hd (s[pos]'hp) (by rw [h]; simp)
    unfold dig at this; omega
  rw [if_pos (Or.inl this)]

set_option maxHeartbeats 1000000 in
theorem parse_any (s : ByteArray) (w : World) (hs : (s.size : Int) ≤ 9223372036854775806) :
    Calls Tryd.prog 36 #[.string s] w fun e w' => e = .returned (vT (parS s.data.toList)) ∧ Below w.heap.size w w' := by
  go_enter Tryd.func36, Tryd.ntmps36
  go_wp2; go_step3; go_wp2; go_step3; go_wp2
  have hz : (w.alloc (.cells #[.int .i64 0, .int .i64 0] 23)).heap.size = w.heap.size + 1 := by simp
  go_loopw [4, 5, 6] (fun a b c w' => ∃ (pos : Nat), w' = (w.alloc (.cells #[.int .i64 0, .int .i64 0] 23)).iter s pos ∧ a = .string s ∧ b = .string ⟨#[]⟩ ∧ c = .bool false ∧ Hid (Cut s pos)) (fun _ _ _ w' => s.size - w'.iterPos (w.alloc (.cells #[.int .i64 0, .int .i64 0] 23)).heap.size)
  case atStart => exact ⟨0, rfl, rfl, rfl, rfl, Lib.hid (Cut.start s)⟩
  case round =>
    obtain ⟨pos, rfl, rfl, rfl, rfl, hg⟩ := hrel
    have hb0 : Below w.heap.size w ((w.alloc (.cells #[.int .i64 0, .int .i64 0] 23)).iter s pos) := below_iter (below_alloc (Below.refl _ _) _) _ _
    have hi : ∀ q, Below (w.alloc (.cells #[.int .i64 0, .int .i64 0] 23)).heap.size (w.alloc (.cells #[.int .i64 0, .int .i64 0] 23)) ((w.alloc (.cells #[.int .i64 0, .int .i64 0] 23)).iter s q) := fun q => below_iter (Below.refl _ _) s q
    have c0 : ∀ q, ((w.alloc (.cells #[.int .i64 0, .int .i64 0] 23)).iter s q).cell? ⟨w.heap.size, 0, none⟩ = some (.int .i64 0) := fun q => ((bcell (hi q)).1 _ _ (by simp)).trans (by simp [go_sem])
    have c1 : ∀ q, ((w.alloc (.cells #[.int .i64 0, .int .i64 0] 23)).iter s q).cell? ⟨w.heap.size, 1, none⟩ = some (.int .i64 0) := fun q => ((bcell (hi q)).1 _ _ (by simp)).trans (by simp [go_sem])
    have f0 : ∀ q o, ((w.alloc (.cells #[.int .i64 0, .int .i64 0] 23)).iter s q).frozen? ⟨w.heap.size, o, none⟩ = false := fun q o => ((bcell (hi q)).2 _ _ (by simp)).trans (by simp [go_sem])
    clear hi
    by_cases hp : pos < s.size
    · by_cases ha : (s[pos]'hp).toNat < 128
      · have hnx := fun ty => run_next_ascii (P := Tryd.prog) (w.alloc (.cells #[.int .i64 0, .int .i64 0] 23)) s pos ty hp ha
        simp only [hz] at hnx
        by_cases hv : (s[pos]'hp).toNat = 47
        · have hcut := Lib.hid (Cut.stroke hg.out hp hv)
          have hv' : ((s[pos]'hp).toNat : Int) = 47 := by omega
          have r1 : Blk ((w.alloc (.cells #[.int .i64 0, .int .i64 0] 23)).iter s (pos + 1)).drew w.heap.size 23 #[.int .i64 0, .int .i64 0] := ((Blk.new w _ _).alloc _).drew
          have kb1 : Below w.heap.size w ((w.alloc (.cells #[.int .i64 0, .int .i64 0] 23)).iter s (pos + 1)).drew := Below.drew (below_iter (below_alloc (Below.refl _ _) _) _ _)
          go_wp2
          go_region
          clear hnx hb0
          generalize ((w.alloc (.cells #[.int .i64 0, .int .i64 0] 23)).iter s (pos + 1)).drew = w1 at *
          clear c0 c1 f0 hz hg
          generalize hx : s.extract 0 pos = x at *
          generalize hy : s.extract (pos + 1) s.size = y at *
          have hxs : (x.size : Int) ≤ 9223372036854775806 := by rw [← hx, ByteArray.size_extract]; omega
          have hys : (y.size : Int) ≤ 9223372036854775806 := by rw [← hy, ByteArray.size_extract]; omega
          clear hx hy
          go_wp2_with (first | (go_at_call 54; refine (number_any _ _ (by first | omega | (simp; omega))).mono ?_; rintro e w2 ⟨rfl, hb2⟩; have r2 := r1.kept hb2; have e20 := r2.cell 0; have e21 := r2.cell 1; have g20 := r2.frozen 0; have g21 := r2.frozen 1; have z2 := r2.lt; simp only [List.getElem?_toArray, List.getElem?_cons_zero, List.getElem?_cons_succ] at e20 e21; have kb2 := below_call kb1 hb2) | (go_at_call 54; refine (number_any _ _ (by first | omega | (simp; omega))).mono ?_; rintro e w3 ⟨rfl, hb3⟩; have r3 := r2.kept hb3; have e30 := r3.cell 0; have e31 := r3.cell 1; have g30 := r3.frozen 0; have g31 := r3.frozen 1; have z3 := r3.lt; simp only [List.getElem?_toArray, List.getElem?_cons_zero, List.getElem?_cons_succ] at e30 e31; have kb3 := below_call kb2 hb3) | (go_at_call 15; refine (check_any _ _ _).mono ?_; rintro e w4 ⟨rfl, hb4⟩; have r4 := (r3.alloc _).kept hb4; have e40 := r4.cell 0; have e41 := r4.cell 1; have g40 := r4.frozen 0; have g41 := r4.frozen 1; have t4 := (Blk.new w3 _ _).kept hb4; have e42 := t4.cell 0; have e43 := t4.cell 1; have z4 := r4.lt; have z5 := t4.lt; simp only [List.getElem?_toArray, List.getElem?_cons_zero, List.getElem?_cons_succ] at e40 e41 e42 e43; have kb4 := below_call (below_alloc kb3 _) hb4))
          all_goals
            first | rw [Exit.noGoto_ret] | skip
            first
              | refine ret_of (by simp [results, Tryd.results36, go_sem, e40, e41, e42, e43]; repeat' (first | rfl | apply And.intro)) rfl ⟨vT_ret ?_, ?_⟩
              | refine ret_of (by simp [results, Tryd.results36, go_sem, e30, e31, z3]; repeat' (first | rfl | apply And.intro)) rfl ⟨vT_ret ?_, ?_⟩
            · unfold parS
              rw [hcut.out]
              show _ = parP x.data.toList (some y.data.toList)
              rw [parP_some]
              clear r1 r2 r3
              generalize numS x.data.toList = nx at *
              generalize numS y.data.toList = ny at *
              clear kb1 kb2 kb3 hb2 hb3 hcut
              simp_all
              try first | omega | (rw [if_neg (by omega), if_neg (by omega)])
            · repeat (first | exact Below.refl _ _ | refine below_drewN ?_ _ | refine Below.drew ?_ | refine below_alloc ?_ _ | (refine below_call ?_ (by assumption)) | (refine Below.setCell ?_ ?_ _; rotate_left; (simp; try omega)))
        · by_cases hk : 57 < (s[pos]'hp).toNat
          · have hres := Lib.hid (Cut.bad hg.out hp hk)
            go_wp2
            all_goals
              first | rw [Exit.noGoto_ret] | skip
              refine ret_of (by simp [results, Tryd.results36, go_sem, c0, c1]; repeat' (first | rfl | apply And.intro)) rfl ⟨vT_ret ?_, ?_⟩
              · rw [hres.out]
              · repeat (first | exact Below.refl _ _ | refine below_drewN ?_ _ | refine Below.drew ?_ | refine below_alloc ?_ _ | (refine below_call ?_ (by assumption)) | (refine Below.setCell ?_ ?_ _; rotate_left; (simp; try omega)))
          · have hcut := Lib.hid (Cut.next hg.out hp hv)
            go_wp2
            refine ⟨⟨pos + 1, rfl, rfl, rfl, rfl, hcut⟩, by first | (rw [World.iterPos_iter, World.iterPos_iter]; omega) | (simp only [← hz, World.iterPos_iter]; omega)⟩
      · have hhi := decode_high s pos hp (Nat.not_lt.1 ha)
        have hnx := fun ty => run_next_any (P := Tryd.prog) (w.alloc (.cells #[.int .i64 0, .int .i64 0] 23)) s pos ty hp
        simp only [hz] at hnx
        obtain ⟨hi1, hi2⟩ := hhi
        have hhi : 57 < (s[pos]'hp).toNat := by omega
        have hres := Lib.hid (Cut.bad hg.out hp hhi)
        go_wp2
        all_goals
          first | rw [Exit.noGoto_ret] | skip
          refine ret_of (by simp [results, Tryd.results36, go_sem, c0, c1]; repeat' (first | rfl | apply And.intro)) rfl ⟨vT_ret ?_, ?_⟩
          · rw [hres.out]
          · repeat (first | exact Below.refl _ _ | refine below_drewN ?_ _ | refine Below.drew ?_ | refine below_alloc ?_ _ | (refine below_call ?_ (by assumption)) | (refine Below.setCell ?_ ?_ _; rotate_left; (simp; try omega)))
    · have hnx := fun ty => run_next_end (P := Tryd.prog) (w.alloc (.cells #[.int .i64 0, .int .i64 0] 23)) s pos ty hp
      simp only [hz] at hnx
      have hcut := Lib.hid (Cut.done hg.out hp)
      have r1 : Blk ((w.alloc (.cells #[.int .i64 0, .int .i64 0] 23)).iter s pos) w.heap.size 23 #[.int .i64 0, .int .i64 0] := (Blk.new w _ _).alloc _
      generalize (w.alloc (.cells #[.int .i64 0, .int .i64 0] 23)).iter s pos = w1 at *
      have kb1 := hb0
      go_wp2_with (first | (go_at_call 54; refine (number_any _ _ (by first | omega | (simp; omega))).mono ?_; rintro e w2 ⟨rfl, hb2⟩; have r2 := r1.kept hb2; have e20 := r2.cell 0; have e21 := r2.cell 1; have g20 := r2.frozen 0; have g21 := r2.frozen 1; have z2 := r2.lt; simp only [List.getElem?_toArray, List.getElem?_cons_zero, List.getElem?_cons_succ] at e20 e21; have kb2 := below_call kb1 hb2) | (go_at_call 15; refine (check_any _ _ _).mono ?_; rintro e w4 ⟨rfl, hb4⟩; have r4 := (r2.alloc _).kept hb4; have e40 := r4.cell 0; have e41 := r4.cell 1; have g40 := r4.frozen 0; have g41 := r4.frozen 1; have t4 := (Blk.new w2 _ _).kept hb4; have e42 := t4.cell 0; have e43 := t4.cell 1; have z4 := r4.lt; have z5 := t4.lt; simp only [List.getElem?_toArray, List.getElem?_cons_zero, List.getElem?_cons_succ] at e40 e41 e42 e43; have kb4 := below_call (below_alloc kb2 _) hb4))
      all_goals
        first | rw [Exit.noGoto_ret] | skip
        first
          | refine ret_of (by simp [results, Tryd.results36, go_sem, e40, e41, e42, e43]; repeat' (first | rfl | apply And.intro)) rfl ⟨vT_ret ?_, ?_⟩
          | refine ret_of (by simp [results, Tryd.results36, go_sem, e20, e21, z2]; repeat' (first | rfl | apply And.intro)) rfl ⟨vT_ret ?_, ?_⟩
        · unfold parS
          rw [hcut.out]
          show _ = parP s.data.toList none
          rw [parP_none]
          generalize numS s.data.toList = nx at *
          clear kb1 kb2 hb2 hcut r1 r2
          simp_all
          try omega
        · repeat (first | exact Below.refl _ _ | refine below_drewN ?_ _ | refine Below.drew ?_ | refine below_alloc ?_ _ | (refine below_call ?_ (by assumption)) | (refine Below.setCell ?_ ?_ _; rotate_left; (simp; try omega)))
end Go.Proofs.YtfafjdbdpbjklaaDoor
