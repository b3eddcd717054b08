/- The walk through the reference's Parse: a search through all intervals. -/
import Derived.Test.YtmbnpblejhlefaaDoorChRefName
import Derived.Test.YtmbnpblejhlefaaDoorChParseMath
import Derived.Deep.LoopGhost
namespace Go.Proofs.YtmbnpblejhlefaaDoor
open Go.RowKit
/-- No interval ahead of the steps k (of the half-tones h among those of k) has the name. -/
def Pass1 (s : ByteArray) (k : Int) : Prop := ∀ x : Int × Int, 0 ≤ x.1 → x.1 < k → nameX x = s → s = ⟨#[]⟩
def Pass2 (s : ByteArray) (k h : Int) : Prop := Pass1 s k ∧ ∀ x : Int × Int, x.1 = k → x.2 < h → nameX x = s → s = ⟨#[]⟩
theorem pass_start (s : ByteArray) : Pass1 s 0 := fun x h0 h1 _ => by omega
theorem pass_in {s : ByteArray} {k h : Int} (hp : Pass1 s k) (hh : h = 12 * (k / 7) - 2) : Pass2 s k h :=
  ⟨hp, fun x h1 h2 hn => by
    by_cases hs : s = ⟨#[]⟩
    · exact hs
    · have := nameX_bd (x := x) (by rw [hn]; exact hs)
      rw [h1] at this
      omega⟩
theorem pass_step {s : ByteArray} {k h : Int} (hp : Pass2 s k h) (hn : nameX (k, h) = s → s = ⟨#[]⟩) : Pass2 s k (h + 1) :=
  ⟨hp.1, fun x h1 h2 he => by
    by_cases hh : x.2 < h
    · exact hp.2 x h1 hh he
    · have : x = (k, h) := Prod.ext h1 (by simp only; omega)
      exact hn (this ▸ he)⟩
theorem pass_out {s : ByteArray} {k h : Int} (hp : Pass2 s k h) (hh : h = 12 * (k / 7) + 14) : Pass1 s (k + 1) := fun x h0 h1 hn => by
  by_cases hx : x.1 < k
  · exact hp.1 x h0 hx hn
  · by_cases hs : s = ⟨#[]⟩
    · exact hs
    · have := nameX_bd (x := x) (by rw [hn]; exact hs)
      have e : x.1 = k := by omega
      rw [e] at this
      exact hp.2 x e (by omega) hn
theorem pass_end {s : ByteArray} {k : Int} (hp : Pass1 s k) (hk : k = 63) : ParseS s ((0, 0), 3) := .inr ⟨rfl, fun x h0 h1 hn => hp x h0 (by omega) hn⟩
theorem parse_ex (s : ByteArray) : ∃ r, ParseS s r := by
  by_cases h : ∃ x : Int × Int, 0 ≤ x.1 ∧ x.1 ≤ 62 ∧ nameX x = s ∧ s ≠ ⟨#[]⟩
  · obtain ⟨x, h0, h1, h2, h3⟩ := h
    exact ⟨_, .inl ⟨x, rfl, h0, h1, h2, h3⟩⟩
  · exact ⟨_, .inr ⟨rfl, fun x h0 h1 h2 => by
      by_cases hs : s = ⟨#[]⟩
      · exact hs
      · exact absurd ⟨x, h0, h1, h2, hs⟩ h⟩⟩
theorem str_ne {s t : ByteArray} (h : ¬ s = t) : (s.toList == t.toList) = false := by
  rw [beq_eq_false_iff_ne, Lib.toList_data, Lib.toList_data]
  exact fun e => h (bytes_ext e)
/-- The end of a Parse. -/
def Parsed (s : ByteArray) (w : World) (e : Ending) (w' : World) : Prop := (∃ r, ParseS s r ∧ e = .returned (vIE r)) ∧ Below w.heap.size w w'
set_option maxRecDepth 100000 in
set_option maxHeartbeats 4000000 in
theorem rParse_any (s : ByteArray) (w : World) :
    Calls Tryd.prog 26 #[.string s] w (Parsed s w) := by
  go_enter Tryd.func26, Tryd.ntmps26
  go_wp2
  go_loopg [4, 5, 6, 7] 63 (fun g i _ _ _ wr => ∃ k : Nat, k + g = 63 ∧ i = .int .i64 k ∧ Hid (Pass1 s k) ∧ Below w.heap.size w wr ∧ Blk wr w.heap.size 38 #[.int .i64 0, .int .i64 0])
  case atStart => exact ⟨0, by omega, rfl, Lib.hid (pass_start s), by repeat (first | with_reducible exact Below.refl _ _ | with_reducible assumption | with_reducible refine below_drewN ?_ _ | with_reducible refine Below.drew ?_ | with_reducible refine below_alloc ?_ _ | (with_reducible refine Below.setCell ?_ ?_ _; rotate_left; ((try simp only); omega))), by with_reducible exact Blk.new _ _ _⟩
  case round =>
    obtain ⟨k, hkg, rfl, hp, k0, bR⟩ := hrel
    have hcR := bR.cell
    have hR0 := hcR 0
    have hR1 := hcR 1
    have hF0 := bR.frozen 0
    have hF1 := bR.frozen 1
    have hRl := bR.lt
    clear hcR
    cases gk with
    | zero =>
      have d : decide ((k : Int) ≤ 62) = false := by simp; omega
      have HE := Lib.hid (pass_end hp.out (by omega))
      go_wp2
      refine ret_of (by simp [results, Tryd.results26, go_sem, hR0, hR1]; repeat' (first | rfl | apply And.intro)) rfl ?_
      exact ⟨⟨((0, 0), 3), HE.out, rfl⟩, by repeat (first | with_reducible exact Below.refl _ _ | with_reducible assumption | with_reducible refine below_drewN ?_ _ | with_reducible refine Below.drew ?_ | with_reducible refine below_alloc ?_ _ | (with_reducible refine Below.setCell ?_ ?_ _; rotate_left; ((try simp only); omega)))⟩
    | succ g =>
      have d : decide ((k : Int) ≤ 62) = true := by simp; omega
      obtain ⟨wo, rfl⟩ : ∃ wo : World, wo = wr := ⟨_, rfl⟩
      go_wp2
      go_loopg [6, 7] 16 (fun g2 h _ wy => ∃ h' : Int, h' + g2 = 12 * ((k : Int) / 7) + 14 ∧ 12 * ((k : Int) / 7) - 2 ≤ h' ∧ h = .int .i64 h' ∧ Hid (Pass2 s k h') ∧ Below w.heap.size w wy ∧ Blk wy w.heap.size 38 #[.int .i64 0, .int .i64 0])
      case atStart => exact ⟨12 * ((k : Int) / 7) - 2, by omega, by omega, rfl, Lib.hid (pass_in hp.out rfl), k0, bR⟩
      case round =>
        clear hR0 hR1 hF0 hF1 hRl bR k0
        obtain ⟨h, hhg, hlo, rfl, hp2, k0, bR⟩ := hrel
        have hcR := bR.cell
        have hR0 := hcR 0
        have hR1 := hcR 1
        have hF0 := bR.frozen 0
        have hF1 := bR.frozen 1
        have hRl := bR.lt
        clear hcR
        have hk63 : (k : Int) ≤ 62 := by omega
        cases gk with
        | zero =>
          have d2 : decide (h ≤ 12 * ((k : Int) / 7) + 13) = false := by simp; omega
          have HO := Lib.hid (pass_out hp2.out (by omega))
          go_wp2
          go_roundg g
          case measure => omega
          case rel => exact ⟨k + 1, by omega, rfl, Lib.hid (by have := HO.out; simpa using this), k0, bR⟩
        | succ g2 =>
          have d2 : decide (h ≤ 12 * ((k : Int) / 7) + 13) = true := by simp; omega
          have hl : -400 ≤ h ∧ h ≤ 400 := by omega
          by_cases hs : s = ⟨#[]⟩
          · have HN := Lib.hid (pass_step hp2.out (fun _ => hs))
            clear hp hp2
            subst hs
            go_wp2
            go_roundg g2
            case measure => omega
            case rel => exact ⟨h + 1, by omega, by omega, rfl, HN, by repeat (first | with_reducible exact Below.refl _ _ | with_reducible assumption | with_reducible refine below_drewN ?_ _ | with_reducible refine Below.drew ?_ | with_reducible refine below_alloc ?_ _ | (with_reducible refine Below.setCell ?_ ?_ _; rotate_left; ((try simp only); omega))), by repeat (first | with_reducible exact bR | with_reducible exact Blk.new _ _ _ | (with_reducible refine Blk.newAt _ _ _ _ ?_; first | rfl | (simp; done)) | with_reducible apply Blk.alloc | with_reducible apply Blk.drewN | with_reducible apply Blk.drew | with_reducible apply Blk.set_to | (with_reducible apply Blk.far_; (simp only [ne_eq]; omega)) | rfl)⟩
          · have es := notEmpty hs
            have q1 := fun W => rnamed_any ((k : Int), h) W (by simp only; omega) hk63 hl.1 hl.2
            by_cases hn : nameX ((k : Int), h) = s
            · have HY : Hid (ParseS s (((k : Int), h), 0)) := Lib.hid (.inl ⟨((k : Int), h), rfl, by simp only; omega, hk63, hn, hs⟩)
              rw [hn] at q1
              clear hn hs hp hp2
              go_wp2_with fail
              refine (q1 _).mono ?_
              rintro e w1 ⟨rfl, hb1⟩
              have bX : Blk w1 wr.heap.size 38 #[.int .i64 k, .int .i64 h] := Blk.kept (by repeat (first | with_reducible exact bR | with_reducible exact Blk.new _ _ _ | (with_reducible refine Blk.newAt _ _ _ _ ?_; first | rfl | (simp; done)) | with_reducible apply Blk.alloc | with_reducible apply Blk.drewN | with_reducible apply Blk.drew | with_reducible apply Blk.set_to | (with_reducible apply Blk.far_; (simp only [ne_eq]; omega)) | rfl)) hb1
              have bQ : Blk w1 w.heap.size 38 #[.int .i64 0, .int .i64 0] := Blk.kept (by repeat (first | with_reducible exact bR | with_reducible exact Blk.new _ _ _ | (with_reducible refine Blk.newAt _ _ _ _ ?_; first | rfl | (simp; done)) | with_reducible apply Blk.alloc | with_reducible apply Blk.drewN | with_reducible apply Blk.drew | with_reducible apply Blk.set_to | (with_reducible apply Blk.far_; (simp only [ne_eq]; omega)) | rfl)) hb1
              have cX0 := bX.cell 0
              have cX1 := bX.cell 1
              have cQ0 := bQ.cell 0
              have cQ1 := bQ.cell 1
              have fQ0 := bQ.frozen 0
              have fQ1 := bQ.frozen 1
              have lQ := bQ.lt
              have kb : Below w.heap.size w w1 := below_call (by repeat (first | with_reducible exact Below.refl _ _ | with_reducible assumption | with_reducible refine below_drewN ?_ _ | with_reducible refine Below.drew ?_ | with_reducible refine below_alloc ?_ _ | (with_reducible refine Below.setCell ?_ ?_ _; rotate_left; ((try simp only); omega)))) hb1
              go_wp2
              refine ret_of (by simp [results, Tryd.results26, go_sem, cQ0, cQ1]; repeat' (first | rfl | apply And.intro)) rfl ?_
              exact ⟨⟨(((k : Int), h), 0), HY.out, rfl⟩, by repeat (first | with_reducible exact Below.refl _ _ | with_reducible assumption | with_reducible refine below_drewN ?_ _ | with_reducible refine Below.drew ?_ | with_reducible refine below_alloc ?_ _ | (with_reducible refine Below.setCell ?_ ?_ _; rotate_left; ((try simp only); omega)))⟩
            · have HN := Lib.hid (pass_step hp2.out (fun e => absurd e hn))
              obtain ⟨tx, htx⟩ : ∃ t, t = nameX ((k : Int), h) := ⟨_, rfl⟩
              rw [← htx] at q1 hn
              have en := str_ne hn
              clear hn hs hp hp2 htx
              go_wp2_with fail
              refine (q1 _).mono ?_
              rintro e w1 ⟨rfl, hb1⟩
              have bQ : Blk w1 w.heap.size 38 #[.int .i64 0, .int .i64 0] := Blk.kept (by repeat (first | with_reducible exact bR | with_reducible exact Blk.new _ _ _ | (with_reducible refine Blk.newAt _ _ _ _ ?_; first | rfl | (simp; done)) | with_reducible apply Blk.alloc | with_reducible apply Blk.drewN | with_reducible apply Blk.drew | with_reducible apply Blk.set_to | (with_reducible apply Blk.far_; (simp only [ne_eq]; omega)) | rfl)) hb1
              have kb : Below w.heap.size w w1 := below_call (by repeat (first | with_reducible exact Below.refl _ _ | with_reducible assumption | with_reducible refine below_drewN ?_ _ | with_reducible refine Below.drew ?_ | with_reducible refine below_alloc ?_ _ | (with_reducible refine Below.setCell ?_ ?_ _; rotate_left; ((try simp only); omega)))) hb1
              go_wp2
              go_roundg g2
              case measure => omega
              case rel => exact ⟨h + 1, by omega, by omega, rfl, HN, kb, bQ⟩
end Go.Proofs.YtmbnpblejhlefaaDoor
