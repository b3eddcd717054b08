/- The walk through the reference's Parse. -/
import Derived.Test.YtfafjdbdpbjklaaDoorParse
namespace Go.Proofs.YtfafjdbdpbjklaaDoor
open Go.RowKit

theorem parR_none (a : List UInt8) : parR a none = if plainS a = false then (0, 0, 3) else if (numT 1099511627776 a 0).2 = false then (0, 0, 4) else ((numT 1099511627776 a 0).1, 1, 0) := rfl
theorem parR_some (a d : List UInt8) : parR a (some d) = if plainS a = false then (0, 0, 3) else if plainS d = false then (0, 0, 3) else if (numT 1099511627776 a 0).2 = false then (0, 0, 4) else if (numT 1048576 d 0).2 = false then (0, 0, 4) else if (numT 1048576 d 0).1 < 2 ∨ gg (numT 1099511627776 a 0).1 (numT 1048576 d 0).1 ≠ 1 then (0, 0, 3) else ((numT 1099511627776 a 0).1, (numT 1048576 d 0).1, 0) := rfl
theorem numT_range (most : Int) (l : List UInt8) (hd : ∀ b ∈ l, dig b) : ∀ n : Int, 0 ≤ n → n ≤ most → 0 ≤ (numT most l n).1 ∧ (numT most l n).1 ≤ most := by
  induction l with
  | nil => intro n h0 h1; exact ⟨h0, h1⟩
  | cons b l ih =>
    intro n h0 h1
    have hb : dig b := hd b (by simp)
    unfold dig at hb
    rw [numT]
    split
    · exact ⟨by simp, by simpa using Int.le_trans h0 h1⟩
    · exact ih (fun c hc => hd c (by simp [hc])) _ (by omega) (by omega)

/-- The bytes of a text, under a name that the walk does not open. -/
@[irreducible] def bytesOf (s : ByteArray) : List UInt8 := s.data.toList
theorem bytesOf_eq (s : ByteArray) : bytesOf s = s.data.toList := by unfold bytesOf; rfl
theorem plain_b (s : ByteArray) (w : World) (hs : (s.size : Int) ≤ 9223372036854775806) :
    Calls Tryd.prog 55 #[.string s] w fun e w' => e = .returned (.bool (plainS (bytesOf s))) ∧ Below w.heap.size w w' := by
  rw [bytesOf_eq]; exact plain_any s w hs
theorem refNumber_b (s : ByteArray) (most : Int) (w : World) (hs : (s.size : Int) ≤ 9223372036854775806) (hm0 : 0 ≤ most) (hm : most ≤ 1099511627776) (hd : Hid (∀ b ∈ bytesOf s, dig b)) :
    Calls Tryd.prog 56 #[.string s, .int .i64 most] w fun e w' => e = .returned (.tuple #[.int .i64 (numT most (bytesOf s) 0).1, .bool (numT most (bytesOf s) 0).2]) ∧ Below w.heap.size w w' := by
  have hd := hd.out; rw [bytesOf_eq] at hd ⊢; exact refNumber_any s most w hs hm0 hm hd
set_option maxHeartbeats 1000000 in
theorem refParse_any (s : ByteArray) (w : World) (hs : (s.size : Int) ≤ 9223372036854775806) :
    Calls Tryd.prog 37 #[.string s] w fun e w' => e = .returned (vT (parS s.data.toList)) ∧ Below w.heap.size w w' := by
  go_enter Tryd.func37, Tryd.ntmps37
  go_wp2
  go_loopw [4, 5] (fun c i w' => ∃ (pos cut : Nat), w' = (w.alloc (.cells #[.int .i64 0, .int .i64 0] 23)) ∧ i = .int .i64 pos ∧ c = .int .i64 cut ∧ pos ≤ s.size ∧ ((cut = s.size ∧ Hid (Cut s pos)) ∨ (cut < s.size ∧ Hid (cutAt s.data.toList = ((s.extract 0 cut).data.toList, some (s.extract (cut + 1) s.size).data.toList))))) (fun _ i _ => s.size - (intOf i).toNat)
  case atStart => exact ⟨0, s.size, rfl, rfl, rfl, by omega, Or.inl ⟨rfl, Lib.hid (Cut.start s)⟩⟩
  case round =>
    obtain ⟨pos, cut, rfl, rfl, rfl, hp, hg⟩ := hrel
    have r0 : Blk (w.alloc (.cells #[.int .i64 0, .int .i64 0] 23)) w.heap.size 23 #[.int .i64 0, .int .i64 0] := Blk.new w _ _
    have k0 : Below w.heap.size w (w.alloc (.cells #[.int .i64 0, .int .i64 0] 23)) := below_alloc (Below.refl _ _) _
    rcases hg with ⟨rfl, hg⟩ | ⟨hcl, hg⟩
    · by_cases hlt : pos < s.size
      · by_cases hv : (s[pos]'hlt).toNat = 47
        · have hn := Lib.hid (Cut.stroke hg.out hlt hv)
          have hv' : ((s[pos]'hlt).toNat : Int) = 47 := by omega
          go_wp2
          refine ⟨⟨pos + 1, pos, (by first | rfl | trivial), by simp, rfl, by omega, Or.inr ⟨hlt, hn⟩⟩, by simp [intOf]; omega⟩
        · have hn := Lib.hid (Cut.next hg.out hlt hv)
          have hv' : ((((s[pos]'hlt).toNat : Int)) == 47) = false := by simp; omega
          go_wp2
          refine ⟨⟨pos + 1, s.size, (by first | rfl | trivial), by simp, rfl, by omega, Or.inl ⟨rfl, hn⟩⟩, by simp [intOf]; omega⟩
      · have hn := Lib.hid (Cut.done hg.out hlt)
        rcases hpa : plainS s.data.toList with _ | _
        · go_wp2_with (go_at_call 55; refine (plain_any _ _ hs).mono ?_; rintro e wn ⟨rfl, hbn⟩; have rn : Blk wn w.heap.size _ _ := Blk.kept (by first | exact rn | exact r0) hbn; have en0 := rn.cell 0; have en1 := rn.cell 1; have gn0 := rn.frozen 0; have gn1 := rn.frozen 1; have zn := rn.lt; simp only [List.getElem?_toArray, List.getElem?_cons_zero, List.getElem?_cons_succ] at en0 en1; have kn : Below w.heap.size w wn := below_call (by first | exact kn | exact k0) hbn)
          all_goals
            refine ret_of (by simp [results, Tryd.results37, go_sem, en0, en1]; repeat' (first | rfl | apply And.intro)) rfl ⟨vT_ret ?_, ?_⟩
            · unfold parS
              rw [hn.out]
              show _ = parP s.data.toList none
              rw [← par_eq, parR_none, if_pos hpa]
            · repeat (first | exact Below.refl _ _ | refine below_drewN ?_ _ | refine Below.drew ?_ | refine below_alloc ?_ _ | (refine below_call ?_ (by assumption)) | (refine Below.setCell ?_ ?_ _; rotate_left; (simp; try omega)))
        · have hd := Lib.hid (plainS_digs _ hpa)
          go_wp2_with (first | (go_at_call 55; refine (plain_any _ _ hs).mono ?_; rintro e wn ⟨rfl, hbn⟩; have rn : Blk wn w.heap.size _ _ := Blk.kept (by first | exact rn | exact r0) hbn; have en0 := rn.cell 0; have en1 := rn.cell 1; have gn0 := rn.frozen 0; have gn1 := rn.frozen 1; have zn := rn.lt; simp only [List.getElem?_toArray, List.getElem?_cons_zero, List.getElem?_cons_succ] at en0 en1; have kn : Below w.heap.size w wn := below_call (by first | exact kn | exact k0) hbn) | (go_at_call 56; refine (refNumber_any _ _ _ hs (by omega) (by omega) hd.out).mono ?_; rintro e wn ⟨rfl, hbn⟩; have rn : Blk wn w.heap.size _ _ := Blk.kept (by first | exact rn | exact r0) hbn; have en0 := rn.cell 0; have en1 := rn.cell 1; have gn0 := rn.frozen 0; have gn1 := rn.frozen 1; have zn := rn.lt; simp only [List.getElem?_toArray, List.getElem?_cons_zero, List.getElem?_cons_succ] at en0 en1; have kn : Below w.heap.size w wn := below_call (by first | exact kn | exact k0) hbn))
          all_goals
            refine ret_of (by simp [results, Tryd.results37, go_sem, en0, en1]; repeat' (first | rfl | apply And.intro)) rfl ⟨vT_ret ?_, ?_⟩
            · unfold parS
              rw [hn.out]
              show _ = parP s.data.toList none
              rw [← par_eq, parR_none, if_neg (by rw [hpa]; decide)]
              generalize numT 1099511627776 s.data.toList 0 = x at *
              simp_all
            · repeat (first | exact Below.refl _ _ | refine below_drewN ?_ _ | refine Below.drew ?_ | refine below_alloc ?_ _ | (refine below_call ?_ (by assumption)) | (refine Below.setCell ?_ ?_ _; rotate_left; (simp; try omega)))
    · have hxs : ((s.extract 0 cut).size : Int) ≤ 9223372036854775806 := by rw [ByteArray.size_extract]; omega
      have hys : ((s.extract (cut + 1) s.size).size : Int) ≤ 9223372036854775806 := by rw [ByteArray.size_extract]; omega
      have hne : ((cut : Int) == (s.size : Int)) = false := by simp; omega
      have hout := Lib.hid (show parS s.data.toList = parR (bytesOf (s.extract 0 cut)) (some (bytesOf (s.extract (cut + 1) s.size))) by unfold parS; rw [hg.out, bytesOf_eq, bytesOf_eq]; exact (par_eq _ _).symm)
      clear hg
      rcases hpx : plainS (bytesOf (s.extract 0 cut)) with _ | _
      · go_wp2_with (go_at_call 55; refine (plain_b _ _ (by assumption)).mono ?_; rintro e wn ⟨rfl, hbn⟩; have rn : Blk wn w.heap.size _ _ := Blk.kept (by first | exact rn | exact r0) hbn; have en0 := rn.cell 0; have en1 := rn.cell 1; have gn0 := rn.frozen 0; have gn1 := rn.frozen 1; have zn := rn.lt; simp only [List.getElem?_toArray, List.getElem?_cons_zero, List.getElem?_cons_succ] at en0 en1; have kn : Below w.heap.size w wn := below_call (by first | exact kn | exact k0) hbn)
        all_goals
          refine ret_of (by simp [results, Tryd.results37, go_sem, en0, en1]; repeat' (first | rfl | apply And.intro)) rfl ⟨vT_ret ?_, ?_⟩
          · rw [hout.out, parR_some, if_pos hpx]
          · repeat (first | exact Below.refl _ _ | refine below_drewN ?_ _ | refine Below.drew ?_ | refine below_alloc ?_ _ | (refine below_call ?_ (by assumption)) | (refine Below.setCell ?_ ?_ _; rotate_left; (simp; try omega)))
      · have hdx := Lib.hid (plainS_digs _ hpx)
        rcases hpy : plainS (bytesOf (s.extract (cut + 1) s.size)) with _ | _
        · go_wp2_with (go_at_call 55; refine (plain_b _ _ (by assumption)).mono ?_; rintro e wn ⟨rfl, hbn⟩; have rn : Blk wn w.heap.size _ _ := Blk.kept (by first | exact rn | exact r0) hbn; have en0 := rn.cell 0; have en1 := rn.cell 1; have gn0 := rn.frozen 0; have gn1 := rn.frozen 1; have zn := rn.lt; simp only [List.getElem?_toArray, List.getElem?_cons_zero, List.getElem?_cons_succ] at en0 en1; have kn : Below w.heap.size w wn := below_call (by first | exact kn | exact k0) hbn)
          all_goals
            refine ret_of (by simp [results, Tryd.results37, go_sem, en0, en1]; repeat' (first | rfl | apply And.intro)) rfl ⟨vT_ret ?_, ?_⟩
            · rw [hout.out, parR_some, if_neg (by rw [hpx]; decide), if_pos hpy]
            · repeat (first | exact Below.refl _ _ | refine below_drewN ?_ _ | refine Below.drew ?_ | refine below_alloc ?_ _ | (refine below_call ?_ (by assumption)) | (refine Below.setCell ?_ ?_ _; rotate_left; (simp; try omega)))
        · have hdy := Lib.hid (plainS_digs _ hpy)
          have hrx := numT_range 1099511627776 _ hdx.out 0 (by omega) (by omega)
          have hry := numT_range 1048576 _ hdy.out 0 (by omega) (by omega)
          go_wp2_with (first | (go_at_call 55; refine (plain_b _ _ (by assumption)).mono ?_; rintro e wn ⟨rfl, hbn⟩; have rn : Blk wn w.heap.size _ _ := Blk.kept (by first | exact rn | exact r0) hbn; have en0 := rn.cell 0; have en1 := rn.cell 1; have gn0 := rn.frozen 0; have gn1 := rn.frozen 1; have zn := rn.lt; simp only [List.getElem?_toArray, List.getElem?_cons_zero, List.getElem?_cons_succ] at en0 en1; have kn : Below w.heap.size w wn := below_call (by first | exact kn | exact k0) hbn) | (go_at_call 56; refine (refNumber_b _ _ _ (by assumption) (by omega) (by omega) (by assumption)).mono ?_; rintro e wn ⟨rfl, hbn⟩; have rn : Blk wn w.heap.size _ _ := Blk.kept (by first | exact rn | exact r0) hbn; have en0 := rn.cell 0; have en1 := rn.cell 1; have gn0 := rn.frozen 0; have gn1 := rn.frozen 1; have zn := rn.lt; simp only [List.getElem?_toArray, List.getElem?_cons_zero, List.getElem?_cons_succ] at en0 en1; have kn : Below w.heap.size w wn := below_call (by first | exact kn | exact k0) hbn) | (go_at_call 46; refine (gcd_any _ _ _ (by omega) (by omega) (by omega) (by omega)).mono ?_; rintro e wn ⟨rfl, rfl⟩))
          all_goals
            refine ret_of (by simp [results, Tryd.results37, go_sem, en0, en1]; repeat' (first | rfl | apply And.intro)) rfl ⟨vT_ret ?_, ?_⟩
            · rw [hout.out, parR_some, if_neg (by rw [hpx]; decide), if_neg (by rw [hpy]; decide)]
              clear hdx hdy hout
              generalize numT 1099511627776 (bytesOf (s.extract 0 cut)) 0 = u at *
              generalize numT 1048576 (bytesOf (s.extract (cut + 1) s.size)) 0 = v at *
              simp_all
              try omega
            · repeat (first | exact Below.refl _ _ | refine below_drewN ?_ _ | refine Below.drew ?_ | refine below_alloc ?_ _ | (refine below_call ?_ (by assumption)) | (refine Below.setCell ?_ ?_ _; rotate_left; (simp; try omega)))
end Go.Proofs.YtfafjdbdpbjklaaDoor
