/- The walks through the reference's digits and Text. -/
import Derived.Test.YtfafjdbdpbjklaaDoorText
import Derived.Laws.BytesArg
namespace Go.Proofs.YtfafjdbdpbjklaaDoor
open Go.RowKit

theorem dec_small (v : Nat) (h : v < 10) : Lib.decDigits v = [UInt8.ofNat (48 + v)] := by rw [Lib.decDigits, dif_pos h]
theorem dec_big (v : Nat) (h : ¬ v < 10) : Lib.decDigits v = Lib.decDigits (v / 10) ++ [UInt8.ofNat (48 + v % 10)] := by rw [Lib.decDigits, dif_neg h]
/-- What is left to write of the number m, when l has been written and v is left. -/
def DigL (m v : Nat) (l : List UInt8) : Prop := Lib.decDigits m = if v = 0 ∧ l ≠ [] then l else Lib.decDigits v ++ l
theorem DigL.start (m : Nat) : DigL m m [] := by unfold DigL; rw [if_neg (by simp)]; simp
theorem DigL.next {m v : Nat} {l : List UInt8} (h : DigL m v l) (hv : 0 < v ∨ l = []) : DigL m (v / 10) (UInt8.ofNat (48 + v % 10) :: l) := by
  unfold DigL at h ⊢
  rw [if_neg (by rintro ⟨rfl, hl⟩; rcases hv with hv | hv; · omega
                 · exact hl hv)] at h
  rw [h]
  by_cases hs : v < 10
  · rw [if_pos ⟨by omega, by simp⟩, dec_small v hs, Nat.mod_eq_of_lt hs]; rfl
  · rw [if_neg (by rintro ⟨h1, _⟩; omega), dec_big v hs]; simp
theorem DigL.done {m : Nat} {l : List UInt8} (h : DigL m 0 l) (hl : l ≠ []) : Lib.itoa m = l := by
  unfold DigL at h
  rw [Lib.itoa_nonneg, h, if_pos ⟨rfl, hl⟩]
theorem DigL.len {m v : Nat} {l : List UInt8} (h : DigL m v l) (hm : (m : Int) ≤ 9223372036854775807) : l.length ≤ 21 := by
  have := Lib.itoa_length_le m (by omega) hm
  rw [Lib.itoa_nonneg] at this
  unfold DigL at h
  rw [h] at this
  split at this
  · exact this
  · rw [List.length_append] at this; omega

theorem str_one (W : World) (v : Nat) :
    (convert 64 9 (.slice (some ⟨W.heap.size, 0, none⟩) 1 1)).run Tryd.prog (W.alloc (.cells #[.int .u8 (48 + (v : Int) % 10)] 5)) = .ok (.string ⟨[UInt8.ofNat (48 + v % 10)].toArray⟩) (W.alloc (.cells #[.int .u8 (48 + (v : Int) % 10)] 5)) := by
  have hst : strOfNums [48 + (v : Int) % 10] = ⟨[UInt8.ofNat (48 + v % 10)].toArray⟩ := by
    unfold strOfNums
    simp only [List.map_cons, List.map_nil]
    rw [show (48 + (v : Int) % 10).toNat = 48 + v % 10 by omega]
  rw [← hst]
  refine run_convert_bytes_arg (P := Tryd.prog) (W.alloc (.cells #[.int .u8 (48 + (v : Int) % 10)] 5)) 64 5 Tryd.underlying64 Tryd.underlying5 W.heap.size 0 1 1 [48 + (v : Int) % 10] rfl (fun i hi => ?_) 9 Tryd.underlying9
  obtain rfl : i = 0 := by omega
  exact (Blk.new W _ _).cell 0
theorem cat_one (b : UInt8) (l : List UInt8) : ByteArray.mk [b].toArray ++ ByteArray.mk l.toArray = ByteArray.mk (b :: l).toArray := by rw [ByteArray.mk_append_mk]; rfl

set_option maxHeartbeats 1000000 in
theorem digits_any (m : Nat) (w : World) (hm : (m : Int) ≤ 1099511627776) :
    Calls Tryd.prog 53 #[.int .i64 m] w fun e w' => e = .returned (.string ⟨(Lib.itoa m).toArray⟩) ∧ Below w.heap.size w w' := by
  go_enter Tryd.func53, Tryd.ntmps53
  go_wp2
  go_loopw [0, 3] (fun n o wr => ∃ (v : Nat) (l : List UInt8), n = .int .i64 v ∧ o = .string ⟨l.toArray⟩ ∧ v ≤ m ∧ Hid (DigL m v l) ∧ Below w.heap.size w wr) (fun n o _ => 2 * (intOf n).toNat + (match o with | .string s => if s.size = 0 then 1 else 0 | _ => 0))
  case atStart => exact ⟨m, [], rfl, rfl, by omega, Lib.hid (DigL.start m), Below.refl _ _⟩
  case round =>
    obtain ⟨v, l, rfl, rfl, hv, hd, hb⟩ := hrel
    have hlen := hd.out.len (by omega)
    have kc := str_one wr v
    have HAP := Lib.hid (cat_one (UInt8.ofNat (48 + v % 10)) l)
    generalize hx : ByteArray.mk [UInt8.ofNat (48 + v % 10)].toArray = x at *
    have hxl : x.size = 1 := by rw [← hx]; rfl
    have hls : (ByteArray.mk l.toArray).size ≤ 21 := by simpa [ByteArray.size] using hlen
    have fin : ∀ (hn : Hid (DigL m (v / 10) (UInt8.ofNat (48 + v % 10) :: l))), (∃ (v' : Nat) (l' : List UInt8), Value.int IntKind.i64 ((v : Int) / 10) = Value.int IntKind.i64 v' ∧ Value.string (x ++ ⟨l.toArray⟩) = Value.string ⟨l'.toArray⟩ ∧ v' ≤ m ∧ Hid (DigL m v' l') ∧ Below w.heap.size w (wr.alloc (.cells #[.int .u8 (48 + (v : Int) % 10)] 5))) :=
      fun hn => ⟨v / 10, _, by simp, by rw [HAP.out], by omega, hn, below_alloc hb _⟩
    have hne : ¬ (x ++ ByteArray.mk l.toArray).size = 0 := by rw [ByteArray.size_append]; omega
    have FIN := Lib.hid fin; clear fin
    have hxl : x.size ≤ 21 := by omega
    have HNE := Lib.hid hne; clear hne
    clear hx
    by_cases h0 : 0 < v
    · have hn := Lib.hid (hd.out.next (.inl h0))
      go_wp2
      refine ⟨FIN.out hn, ?_⟩
      have := HNE.out
      simp only [intOf, if_neg this]
      omega
    · obtain rfl : v = 0 := by omega
      cases l with
      | nil =>
        have hn := Lib.hid (hd.out.next (.inr rfl))
        simp at kc
        go_wp2
        refine ⟨FIN.out hn, ?_⟩
        have := HNE.out
        show _ + (if (x ++ ByteArray.mk [].toArray).size = 0 then 1 else 0) < _ + (if (ByteArray.mk ([] : List UInt8).toArray).size = 0 then 1 else 0)
        rw [if_neg this, if_pos (show (ByteArray.mk ([] : List UInt8).toArray).size = 0 from rfl)]
        simp [intOf]
      | cons b l =>
        have hdone := Lib.hid (hd.out.done (by simp))
        go_wp2
        go_ret
        refine ⟨?_, hb⟩
        show Ending.returned (Value.string ⟨(b :: l).toArray⟩) = _
        rw [hdone.out]
theorem digits_int (n : Int) (w : World) (h0 : 0 ≤ n) (h1 : n ≤ 1099511627776) :
    Calls Tryd.prog 53 #[.int .i64 n] w fun e w' => e = .returned (.string ⟨(Lib.itoa n).toArray⟩) ∧ Below w.heap.size w w' := by
  obtain ⟨m, rfl⟩ := Int.eq_ofNat_of_zero_le h0
  exact digits_any m w h1
set_option maxHeartbeats 400000 in
theorem refText_any (n d : Int) (w : World) :
    Calls Tryd.prog 35 #[.agg #[.int .i64 n, .int .i64 d]] w fun e w' => e = .returned (.tuple #[.string ⟨(textS n d).1.toArray⟩, .int .i64 (textS n d).2]) ∧ Below w.heap.size w w' := by
  by_cases hz : chk n d = 0
  · obtain ⟨a1, a2, a3, a4, a5⟩ := ok_of_chk hz
    simp only at a1 a2 a3 a4
    clear a5
    by_cases h1 : d = 1
    · subst h1
      go_enter Tryd.func35, Tryd.ntmps35
      go_wp2_with (first | (go_at_call 16; refine (refCheck_any _ _ _).mono ?_; rintro e w1 ⟨rfl, hb1⟩; have hc1 := (bcell hb1).1; have hf1 := (bcell hb1).2) | (go_at_call 53; refine (digits_int _ _ (by omega) (by omega)).mono ?_; rintro e w2 ⟨rfl, hb2'⟩; have hb2 := below_call hb1 hb2'))
      go_ret2
      refine ⟨?_, ?_⟩
      · unfold textS txt; rw [if_neg (by rw [hz]; exact fun h => h rfl), if_pos rfl]; rfl
      · repeat (first | exact Below.refl _ _ | refine below_drewN ?_ _ | refine Below.drew ?_ | refine below_alloc ?_ _ | (refine below_call ?_ (by assumption)) | (refine Below.setCell ?_ ?_ _; rotate_left; (simp; try omega)))
    · have l1 : ((Lib.itoa n).length : Int) ≤ 21 := by have := Lib.itoa_length_le n (by omega) (by omega); omega
      have l2 : ((Lib.itoa d).length : Int) ≤ 21 := by have := Lib.itoa_length_le d (by omega) (by omega); omega
      have hB : (d == 1) = false := by simpa using h1
      go_enter Tryd.func35, Tryd.ntmps35
      go_wp2_with (go_at_call 16; refine (refCheck_any _ _ _).mono ?_; rintro e w1 ⟨rfl, hb1⟩; have hc1 := (bcell hb1).1; have hf1 := (bcell hb1).2)
      have z0 : w.heap.size < w1.heap.size := (by have hsz := hb1.size; simp at hsz; omega)
      refine wp_region_calm (by kernel_rfl) (by kernel_rfl) ?_
      repeat (go_big_quiet_step ((go_at_call 53; exact calm_call (digits_int _ _ (by omega) (by omega)))))
      refine wpQuiet_nil ?_
      intro w2 hb2
      go_wp2_with fail
      go_ret2
      refine ⟨?_, ?_⟩
      · unfold textS txt; rw [if_neg (by rw [hz]; exact fun h => h rfl), if_neg h1]; simpa using txt_bytes n d
      · repeat (first | exact Below.refl _ _ | refine below_drewN ?_ _ | refine Below.drew ?_ | refine below_alloc ?_ _ | (refine below_call ?_ (by assumption)) | (refine Below.setCell ?_ ?_ _; rotate_left; (simp; try omega)))
  · go_enter Tryd.func35, Tryd.ntmps35
    go_wp2_with (go_at_call 16; refine (refCheck_any _ _ _).mono ?_; rintro e w1 ⟨rfl, hb1⟩; have hc1 := (bcell hb1).1; have hf1 := (bcell hb1).2)
    go_ret2
    refine ⟨?_, ?_⟩
    · unfold textS; rw [if_pos hz]; rfl
    · repeat (first | exact Below.refl _ _ | refine below_drewN ?_ _ | refine Below.drew ?_ | refine below_alloc ?_ _ | (refine below_call ?_ (by assumption)) | (refine Below.setCell ?_ ?_ _; rotate_left; (simp; try omega)))
end Go.Proofs.YtfafjdbdpbjklaaDoor
