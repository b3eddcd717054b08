/- The walks through the functions of the layer span, third part: sums of lists, texts of small times. -/
import Derived.Test.YtfafjdbdpbjklaaDoorSpanB
import Derived.Test.YtfafjdbdpbjklaaDoorShelf
namespace Go.Proofs.YtfafjdbdpbjklaaDoor
open Go.RowKit

theorem sumFrom_bad {s t : Int × Int} {l : List (Int × Int)} (h : (addS s t).2.2 ≠ 0) : sumFrom s (t :: l) = (0, 0, (addS s t).2.2) := by unfold sumFrom; rw [if_pos h]
theorem sumFrom_next {s t : Int × Int} {l : List (Int × Int)} (h : (addS s t).2.2 = 0) : sumFrom s (t :: l) = sumFrom ((addS s t).1, (addS s t).2.1) l := by
  conv => lhs; unfold sumFrom
  rw [if_neg (by rw [h]; exact fun h => h rfl)]

set_option maxHeartbeats 1000000 in
theorem sum_any (A : Option Addr) (n c : Nat) (l : List (Int × Int)) (B : Nat) (w : World) (h : Reads w B 2 A n (csT l)) (hB : B ≤ w.heap.size) (hn : n ≤ 9223372036854775807) :
    Calls Tryd.prog 19 #[.slice A n c] w fun e w' => e = .returned (vT (sumS l)) ∧ Below w.heap.size w w' := by
  have hl : l.length = n := h.len (f := cT) (fun _ => rfl) (by omega)
  have HL := Lib.hid hl; clear hl
  have hR : Reads (w.alloc (.cells #[.int .i64 0, .int .i64 0] 23)) B 2 A n (csT l) := h.below hB (below_alloc (Below.refl _ _) _)
  by_cases hz : firstS l = 0
  · go_enter Tryd.func19, Tryd.ntmps19
    go_wp2_with (go_at_call 47; refine (first_any _ _ _ l B _ hR (by simp; omega) hn).mono ?_; rintro e w1 ⟨rfl, hb1⟩; have hc1 := (bcell hb1).1; have hf1 := (bcell hb1).2)
    have hW1 : Below w.heap.size w w1 := by repeat (first | exact Below.refl _ _ | refine below_drewN ?_ _ | refine Below.drew ?_ | refine below_alloc ?_ _ | (refine below_call ?_ (by assumption)) | (refine Below.setCell ?_ ?_ _; rotate_left; (simp; try omega)))
    have hsz1 : w.heap.size < w1.heap.size := by (have hsz := hb1.size; simp at hsz; omega)
    have hres : Blk w1 w.heap.size 23 #[.int .i64 0, .int .i64 0] := (Blk.new w _ _).kept hb1
    have hRw : Reads w1 B 2 A n (csT l) := h.below hB hW1
    clear hc1 hf1 hb1 hR
    go_loopw [7, 8, 18] (fun _ _ i wr => ∃ (k : Nat) (s s' : Int), k ≤ n ∧ i = .int .i64 k ∧ Hid (sumFrom (s, s') (l.drop k) = sumFrom (0, 1) l) ∧ Below w1.heap.size w1 wr ∧ w1.heap.size < wr.heap.size ∧ Blk wr w1.heap.size 23 #[.int .i64 s, .int .i64 s']) (fun _ _ i _ => n - (intOf i).toNat)
    case atStart => exact ⟨0, 0, 1, by omega, rfl, rfl, (Below.refl _ _).alloc (Nat.le_refl _) _, by simp, Blk.new _ _ _⟩
    case round =>
      obtain ⟨k, s, s', hk, rfl, hs, hb, hzr, hsum⟩ := hrel
      have hres' := hres.kept hb
      have s0 := hsum.cell 0
      have s1 := hsum.cell 1
      have sf0 := hsum.frozen 0
      have sf1 := hsum.frozen 1
      have r0 := hres'.cell 0
      have r1 := hres'.cell 1
      have rf0 := hres'.frozen 0
      have rf1 := hres'.frozen 1
      have zw : w.heap.size < wr.heap.size := by omega
      have zw' : w.heap.size < wr.heap.size + 1 := by omega
      have zr' : w1.heap.size < wr.heap.size + 1 := by omega
      have zne : w1.heap.size ≠ w.heap.size := by omega
      simp only [List.getElem?_toArray, List.getElem?_cons_zero, List.getElem?_cons_succ] at s0 s1 r0 r1
      by_cases hlt : k < n
      · obtain ⟨⟨p, q⟩, hx⟩ := get_some (l := l) (k := k) (by have := HL.out; omega)
        have HD := Lib.hid (drop_get hx)
        obtain ⟨b, off, rfl, hab, hc⟩ := hRw.elem (f := cT) (fun _ => rfl) hlt hx
        have c0 := hc 0 _ rfl
        have c1 := hc 1 _ rfl
        rw [← hb.cell (by simp; omega)] at c0 c1
        simp only [Nat.add_zero, ← Nat.add_assoc] at c0 c1
        clear hc hx
        by_cases he : (addS (s, s') (p, q)).2.2 = 0
        · go_wp2_with (go_at_call 24; refine (add_any (_, _) (_, _) _).mono ?_; rintro e w2 ⟨rfl, hb2⟩; have hc2 := (bcell hb2).1; have hf2 := (bcell hb2).2)
          go_roundw
          case rel =>
            refine ⟨k + 1, _, _, by omega, by go_num, ?_, ?_, ?_, ((((hsum.alloc _).kept hb2).set_ 0 _).set_ 1 _)⟩
            · have h1 := hs.out
              rw [HD.out, sumFrom_next he] at h1
              exact h1
            · repeat (first | exact Below.refl _ _ | refine below_drewN ?_ _ | refine Below.drew ?_ | refine below_alloc ?_ _ | (refine below_call ?_ (by assumption)) | (refine Below.setCell ?_ ?_ _; rotate_left; (simp; try omega)))
            · have := hb2.size; simp at this; simp [World.setCell]; omega
          case measure => simp [intOf]; omega
        · go_wp2_with (go_at_call 24; refine (add_any (_, _) (_, _) _).mono ?_; rintro e w2 ⟨rfl, hb2⟩; have hc2 := (bcell hb2).1; have hf2 := (bcell hb2).2)
          refine ret_of (by simp [results, Tryd.results19, go_sem, *]; repeat' (first | rfl | apply And.intro)) rfl ⟨vT_ret ?_, ?_⟩
          · unfold sumS; rw [if_neg (by rw [hz]; exact fun h => h rfl), ← hs.out, HD.out, sumFrom_bad he]
          · repeat (first | exact Below.refl _ _ | refine below_drewN ?_ _ | refine Below.drew ?_ | refine below_alloc ?_ _ | (refine below_call ?_ (by assumption)) | (refine Below.setCell ?_ ?_ _; rotate_left; (simp; try omega)))
      · go_wp2
        refine ret_of (by simp [results, Tryd.results19, go_sem, *]; repeat' (first | rfl | apply And.intro)) rfl ⟨vT_ret ?_, ?_⟩
        · unfold sumS; rw [if_neg (by rw [hz]; exact fun h => h rfl), ← hs.out, List.drop_eq_nil_of_le (by have := HL.out; omega)]; rfl
        · repeat (first | exact Below.refl _ _ | refine below_drewN ?_ _ | refine Below.drew ?_ | refine below_alloc ?_ _ | (refine below_call ?_ (by assumption)) | (refine Below.setCell ?_ ?_ _; rotate_left; (simp; try omega)))
  · go_enter Tryd.func19, Tryd.ntmps19
    go_wp2_with (go_at_call 47; refine (first_any _ _ _ l B _ hR (by simp; omega) hn).mono ?_; rintro e w1 ⟨rfl, hb1⟩; have hc1 := (bcell hb1).1; have hf1 := (bcell hb1).2)
    refine ret_of (by simp [results, Tryd.results19, go_sem, hc1]; repeat' (first | rfl | apply And.intro)) rfl ⟨vT_ret ?_, ?_⟩
    · unfold sumS; rw [if_pos hz]
    · repeat (first | exact Below.refl _ _ | refine below_drewN ?_ _ | refine Below.drew ?_ | refine below_alloc ?_ _ | (refine below_call ?_ (by assumption)) | (refine Below.setCell ?_ ?_ _; rotate_left; (simp; try omega)))
end Go.Proofs.YtfafjdbdpbjklaaDoor
