/- The walk through span.Text. -/
import Derived.Test.YtfafjdbdpbjklaaDoorSpanC
import Derived.Test.YtfafjdbdpbjklaaDoorShelf
import Derived.Lib.ItoaLen
import Derived.Laws.Concat
namespace Go.Proofs.YtfafjdbdpbjklaaDoor
open Go.RowKit

/-- From the world w on, strconv.Itoa writes the number n. -/
def ItoaAt (w : World) (n : Int) : Prop := ∀ W, Below w.heap.size w W → Calls Tryd.prog 52 #[.int .i64 n] W fun e w' => e = .returned (.string ⟨(Lib.itoa n).toArray⟩) ∧ Below W.heap.size W w'
theorem ItoaAt.later {w W : World} {n : Int} (h : ItoaAt w n) (hb : Below w.heap.size w W) : ItoaAt W n := fun _ h1 => h _ (below_call hb h1)
theorem itoa_small (w : World) (n : Int) (h0 : 0 ≤ n) (h1 : n < 100) : ItoaAt w n := by
  intro W _
  obtain ⟨m, rfl⟩ := Int.eq_ofNat_of_zero_le h0
  refine (Tryd.strconv_Itoa_small m (by omega) W).mono ?_
  rintro e w' ⟨he, rfl⟩
  rw [Lib.itoa_nonneg]
  exact ⟨he, Below.refl _ _⟩
def txt (n d : Int) : List UInt8 := if d = 1 then Lib.itoa n else Lib.itoa n ++ [47] ++ Lib.itoa d
theorem txt_bytes (n d : Int) : ByteArray.mk (Lib.itoa n).toArray ++ ByteArray.mk #[47] ++ ByteArray.mk (Lib.itoa d).toArray = ByteArray.mk (Lib.itoa n ++ [47] ++ Lib.itoa d).toArray := by
  rw [show (ByteArray.mk #[47]) = ByteArray.mk [47].toArray from rfl, ByteArray.mk_append_mk, ByteArray.mk_append_mk]
def textS (n d : Int) : List UInt8 × Int := if chk n d ≠ 0 then ([], chk n d) else (txt n d, 0)

set_option maxHeartbeats 400000 in
theorem text_any (n d : Int) (w : World) (hn : ItoaAt w n) (hd : ItoaAt w d) :
    Calls Tryd.prog 34 #[.agg #[.int .i64 n, .int .i64 d]] w fun e w' => e = .returned (.tuple #[.string ⟨(textS n d).1.toArray⟩, .int .i64 (textS n d).2]) ∧ Below w.heap.size w w' := by
  by_cases hz : chk n d = 0
  · obtain ⟨a1, a2, a3, a4, a5⟩ := ok_of_chk hz
    simp only at a1 a2 a3 a4
    clear a5
    by_cases h1 : d = 1
    · subst h1
      go_enter Tryd.func34, Tryd.ntmps34
      go_wp2_with (first | (go_at_call 15; refine (check_any _ _ _).mono ?_; rintro e w1 ⟨rfl, hb1⟩; have hc1 := (bcell hb1).1; have hf1 := (bcell hb1).2) | (go_at_call 52; refine (hn _ (by repeat (first | exact Below.refl _ _ | refine below_drewN ?_ _ | refine Below.drew ?_ | refine below_alloc ?_ _ | (refine below_call ?_ (by assumption)) | (refine Below.setCell ?_ ?_ _; rotate_left; (simp; try omega))))).mono ?_; rintro e w2 ⟨rfl, hb2'⟩; have hb2 := below_call hb1 hb2'))
      go_ret2
      refine ⟨?_, ?_⟩
      · unfold textS txt; rw [if_neg (by rw [hz]; exact fun h => h rfl), if_pos rfl]; rfl
      · repeat (first | exact Below.refl _ _ | refine below_drewN ?_ _ | refine Below.drew ?_ | refine below_alloc ?_ _ | (refine below_call ?_ (by assumption)) | (refine Below.setCell ?_ ?_ _; rotate_left; (simp; try omega)))
    · have l1 : ((Lib.itoa n).length : Int) ≤ 21 := by have := Lib.itoa_length_le n (by omega) (by omega); omega
      have l2 : ((Lib.itoa d).length : Int) ≤ 21 := by have := Lib.itoa_length_le d (by omega) (by omega); omega
      have hB : (d == 1) = false := by simpa using h1
      go_enter Tryd.func34, Tryd.ntmps34
      go_wp2_with (go_at_call 15; refine (check_any _ _ _).mono ?_; rintro e w1 ⟨rfl, hb1⟩; have hc1 := (bcell hb1).1; have hf1 := (bcell hb1).2)
      have z0 : w.heap.size < w1.heap.size := (by have hsz := hb1.size; simp at hsz; omega)
      refine wp_region_calm (by kernel_rfl) (by kernel_rfl) ?_
      repeat (go_big_quiet_step ((go_at_call 52; (first | exact calm_call (hn _ (below_call (by repeat (first | exact Below.refl _ _ | refine below_drewN ?_ _ | refine Below.drew ?_ | refine below_alloc ?_ _ | (refine below_call ?_ (by assumption)) | (refine Below.setCell ?_ ?_ _; rotate_left; (simp; try omega)))) (Calm.h _))) | exact calm_call (hd _ (below_call (by repeat (first | exact Below.refl _ _ | refine below_drewN ?_ _ | refine Below.drew ?_ | refine below_alloc ?_ _ | (refine below_call ?_ (by assumption)) | (refine Below.setCell ?_ ?_ _; rotate_left; (simp; try omega)))) (Calm.h _)))))))
      refine wpQuiet_nil ?_
      intro w2 hb2
      go_wp2_with fail
      go_ret2
      refine ⟨?_, ?_⟩
      · unfold textS txt; rw [if_neg (by rw [hz]; exact fun h => h rfl), if_neg h1]; simpa using txt_bytes n d
      · repeat (first | exact Below.refl _ _ | refine below_drewN ?_ _ | refine Below.drew ?_ | refine below_alloc ?_ _ | (refine below_call ?_ (by assumption)) | (refine Below.setCell ?_ ?_ _; rotate_left; (simp; try omega)))
  · go_enter Tryd.func34, Tryd.ntmps34
    go_wp2_with (go_at_call 15; refine (check_any _ _ _).mono ?_; rintro e w1 ⟨rfl, hb1⟩; have hc1 := (bcell hb1).1; have hf1 := (bcell hb1).2)
    go_ret2
    refine ⟨?_, ?_⟩
    · unfold textS; rw [if_pos hz]; rfl
    · repeat (first | exact Below.refl _ _ | refine below_drewN ?_ _ | refine Below.drew ?_ | refine below_alloc ?_ _ | (refine below_call ?_ (by assumption)) | (refine Below.setCell ?_ ?_ _; rotate_left; (simp; try omega)))
end Go.Proofs.YtfafjdbdpbjklaaDoor
