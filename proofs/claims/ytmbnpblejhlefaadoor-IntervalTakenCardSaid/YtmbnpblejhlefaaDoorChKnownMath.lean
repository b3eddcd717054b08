/- The chapter's examples of kinds, names, chords, and of texts that are names: plain facts. -/
import Derived.Test.YtmbnpblejhlefaaDoorChParse
import Derived.Test.YtmbnpblejhlefaaDoorChAwake
namespace Go.Proofs.YtmbnpblejhlefaaDoor
open Go.RowKit
theorem nameX_two {x : Int × Int} {c v : Nat} (hn : noneX x = false) (hl : letterX (simI x) = c) (hc : c ≠ 0) (hv : x.1 + 1 = (v : Int)) (h10 : 10 ≤ v) (h100 : v < 100) : nameX x = ⟨#[UInt8.ofNat c, UInt8.ofNat (48 + v / 10), UInt8.ofNat (48 + v % 10)]⟩ := by
  unfold nameX
  rw [hn, hl, if_neg (by simp [hc]), hv, itoa_two v h10 h100]
  rfl
theorem nameX_one {x : Int × Int} {c v : Nat} (hn : noneX x = false) (hl : letterX (simI x) = c) (hc : c ≠ 0) (hv : x.1 + 1 = (v : Int)) (h10 : v < 10) : nameX x = ⟨#[UInt8.ofNat c, UInt8.ofNat (48 + v)]⟩ := by
  unfold nameX
  rw [hn, hl, if_neg (by simp [hc]), hv, itoa_one v h10]
  rfl
theorem nameE_at {p q : Int × Int × Int} {x : Int × Int} {s : ByteArray} (hu : upE p q = (x, 0)) (hx : nameX x = s) (hs : s ≠ ⟨#[]⟩) : nameE p q = (s, 0) := by
  unfold nameE
  rw [hu]
  simp only
  rw [hx, if_neg (fun h => h rfl), if_neg hs]
theorem nameE_none {p q : Int × Int × Int} {x : Int × Int} (hu : upE p q = (x, 0)) (hl : letterX (simI x) = 0) : nameE p q = (⟨#[]⟩, 18) := by
  unfold nameE
  rw [hu]
  simp only
  rw [if_neg (fun h => h rfl), if_pos (by unfold nameX; rw [if_pos (.inr hl)])]
theorem bytes_ne {s : ByteArray} {c : UInt8} {r : List UInt8} (h : s.data.toList = c :: r) : s ≠ ⟨#[]⟩ := fun h0 => by rw [h0] at h; cases h
theorem en_0 : kindE (0, 4, 0) (4, 4, 0) = (1, 0) ∧ kindE (4, 4, 0) (0, 4, 0) = (1, 0) ∧ nameE (0, 4, 0) (4, 4, 0) = (⟨#[80, 53]⟩, 0) ∧ nameE (4, 4, 0) (0, 4, 0) = (⟨#[80, 53]⟩, 0) := by
  have hx : nameX (4, 7) = ⟨#[80, 53]⟩ := nameX_one (v := 5) (by decide +kernel) (show letterX (simI (4, 7)) = 80 by decide +kernel) (by decide) rfl (by decide)
  exact ⟨by decide +kernel, by decide +kernel, nameE_at (x := (4, 7)) (by decide +kernel) hx (bytes_ne rfl), nameE_at (x := (4, 7)) (by decide +kernel) hx (bytes_ne rfl)⟩
theorem en_1 : kindE (3, 4, 0) (6, 4, 0) = (4, 0) ∧ kindE (6, 4, 0) (3, 4, 0) = (4, 0) ∧ nameE (3, 4, 0) (6, 4, 0) = (⟨#[65, 52]⟩, 0) ∧ nameE (6, 4, 0) (3, 4, 0) = (⟨#[65, 52]⟩, 0) := by
  have hx : nameX (3, 6) = ⟨#[65, 52]⟩ := nameX_one (v := 4) (by decide +kernel) (show letterX (simI (3, 6)) = 65 by decide +kernel) (by decide) rfl (by decide)
  exact ⟨by decide +kernel, by decide +kernel, nameE_at (x := (3, 6)) (by decide +kernel) hx (bytes_ne rfl), nameE_at (x := (3, 6)) (by decide +kernel) hx (bytes_ne rfl)⟩
theorem en_2 : kindE (0, 4, 0) (2, 4, -1) = (2, 0) ∧ kindE (2, 4, -1) (0, 4, 0) = (2, 0) ∧ nameE (0, 4, 0) (2, 4, -1) = (⟨#[109, 51]⟩, 0) ∧ nameE (2, 4, -1) (0, 4, 0) = (⟨#[109, 51]⟩, 0) := by
  have hx : nameX (2, 3) = ⟨#[109, 51]⟩ := nameX_one (v := 3) (by decide +kernel) (show letterX (simI (2, 3)) = 109 by decide +kernel) (by decide) rfl (by decide)
  exact ⟨by decide +kernel, by decide +kernel, nameE_at (x := (2, 3)) (by decide +kernel) hx (bytes_ne rfl), nameE_at (x := (2, 3)) (by decide +kernel) hx (bytes_ne rfl)⟩
theorem en_3 : kindE (0, 4, 0) (2, 4, 1) = (5, 0) ∧ kindE (2, 4, 1) (0, 4, 0) = (5, 0) ∧ nameE (0, 4, 0) (2, 4, 1) = (⟨#[65, 51]⟩, 0) ∧ nameE (2, 4, 1) (0, 4, 0) = (⟨#[65, 51]⟩, 0) := by
  have hx : nameX (2, 5) = ⟨#[65, 51]⟩ := nameX_one (v := 3) (by decide +kernel) (show letterX (simI (2, 5)) = 65 by decide +kernel) (by decide) rfl (by decide)
  exact ⟨by decide +kernel, by decide +kernel, nameE_at (x := (2, 5)) (by decide +kernel) hx (bytes_ne rfl), nameE_at (x := (2, 5)) (by decide +kernel) hx (bytes_ne rfl)⟩
theorem en_4 : kindE (0, 4, 1) (0, 4, 0) = (5, 0) ∧ kindE (0, 4, 0) (0, 4, 1) = (5, 0) ∧ nameE (0, 4, 1) (0, 4, 0) = (⟨#[65, 49]⟩, 0) ∧ nameE (0, 4, 0) (0, 4, 1) = (⟨#[65, 49]⟩, 0) := by
  have hx : nameX (0, 1) = ⟨#[65, 49]⟩ := nameX_one (v := 1) (by decide +kernel) (show letterX (simI (0, 1)) = 65 by decide +kernel) (by decide) rfl (by decide)
  exact ⟨by decide +kernel, by decide +kernel, nameE_at (x := (0, 1)) (by decide +kernel) hx (bytes_ne rfl), nameE_at (x := (0, 1)) (by decide +kernel) hx (bytes_ne rfl)⟩
theorem en_5 : kindE (0, 4, 0) (0, 6, 0) = (1, 0) ∧ kindE (0, 6, 0) (0, 4, 0) = (1, 0) ∧ nameE (0, 4, 0) (0, 6, 0) = (⟨#[80, 49, 53]⟩, 0) ∧ nameE (0, 6, 0) (0, 4, 0) = (⟨#[80, 49, 53]⟩, 0) := by
  have hx : nameX (14, 24) = ⟨#[80, 49, 53]⟩ := nameX_two (v := 15) (by decide +kernel) (show letterX (simI (14, 24)) = 80 by decide +kernel) (by decide) rfl (by decide) (by decide)
  exact ⟨by decide +kernel, by decide +kernel, nameE_at (x := (14, 24)) (by decide +kernel) hx (bytes_ne rfl), nameE_at (x := (14, 24)) (by decide +kernel) hx (bytes_ne rfl)⟩
theorem en_6 : kindE (0, 4, 0) (2, 5, 0) = (2, 0) ∧ kindE (2, 5, 0) (0, 4, 0) = (2, 0) ∧ nameE (0, 4, 0) (2, 5, 0) = (⟨#[77, 49, 48]⟩, 0) ∧ nameE (2, 5, 0) (0, 4, 0) = (⟨#[77, 49, 48]⟩, 0) := by
  have hx : nameX (9, 16) = ⟨#[77, 49, 48]⟩ := nameX_two (v := 10) (by decide +kernel) (show letterX (simI (9, 16)) = 77 by decide +kernel) (by decide) rfl (by decide) (by decide)
  exact ⟨by decide +kernel, by decide +kernel, nameE_at (x := (9, 16)) (by decide +kernel) hx (bytes_ne rfl), nameE_at (x := (9, 16)) (by decide +kernel) hx (bytes_ne rfl)⟩
theorem en_7 : kindE (0, 4, 0) (0, 5, -1) = (5, 0) ∧ kindE (0, 5, -1) (0, 4, 0) = (5, 0) ∧ nameE (0, 4, 0) (0, 5, -1) = (⟨#[100, 56]⟩, 0) ∧ nameE (0, 5, -1) (0, 4, 0) = (⟨#[100, 56]⟩, 0) := by
  have hx : nameX (7, 11) = ⟨#[100, 56]⟩ := nameX_one (v := 8) (by decide +kernel) (show letterX (simI (7, 11)) = 100 by decide +kernel) (by decide) rfl (by decide)
  exact ⟨by decide +kernel, by decide +kernel, nameE_at (x := (7, 11)) (by decide +kernel) hx (bytes_ne rfl), nameE_at (x := (7, 11)) (by decide +kernel) hx (bytes_ne rfl)⟩
theorem en_8 : kindE (2, 4, 1) (3, 4, -1) = (5, 0) ∧ kindE (3, 4, -1) (2, 4, 1) = (5, 0) ∧ nameE (2, 4, 1) (3, 4, -1) = (⟨#[]⟩, 18) ∧ nameE (3, 4, -1) (2, 4, 1) = (⟨#[]⟩, 18) :=
  ⟨by decide +kernel, by decide +kernel, nameE_none (x := (1, -1)) (by decide +kernel) (by decide +kernel), nameE_none (x := (1, -1)) (by decide +kernel) (by decide +kernel)⟩
theorem nx_m3 : nameX (2, 3) = ⟨#[109, 51]⟩ := nameX_one (v := 3) (by decide +kernel) (show letterX (simI (2, 3)) = 109 by decide +kernel) (by decide) rfl (by decide)
theorem nx_P8 : nameX (7, 12) = ⟨#[80, 56]⟩ := nameX_one (v := 8) (by decide +kernel) (show letterX (simI (7, 12)) = 80 by decide +kernel) (by decide) rfl (by decide)
theorem nx_d2 : nameX (1, 0) = ⟨#[100, 50]⟩ := nameX_one (v := 2) (by decide +kernel) (show letterX (simI (1, 0)) = 100 by decide +kernel) (by decide) rfl (by decide)
/-- A text that is no name of an interval. -/
def NoName (s : ByteArray) : Prop := ∀ x : Int × Int, 0 ≤ x.1 → x.1 ≤ 62 → nameX x = s → s = ⟨#[]⟩
theorem no_name {s : ByteArray} {c0 : Nat} {r : List UInt8} {k : Int} (hs : s.data.toList = UInt8.ofNat c0 :: r) (hc0 : c0 < 256) (ha : Lib.atoi r = some k)
    (h : (k < 1 ∨ 63 < k) ∨ Lib.itoa k ≠ r ∨ (offS c0 ((k - 1) % 7)).2 = false ∨ nameX (madeX c0 k) = ⟨#[]⟩) : NoName s := fun x h0 h1 hn => by
  by_cases he : s = ⟨#[]⟩
  · exact he
  · exfalso
    obtain ⟨c, hsh, h2, h3⟩ := nameX_shape h0 h1 hn he
    obtain ⟨e1, e2⟩ := shape_atoi hsh hs
    rw [ha] at e2
    have e3 := Option.some.inj e2
    have e4 := hsh.2.1
    rw [hs] at e4
    have e5 := byte_inj hc0 hsh.1 (List.cons.inj e4).1
    subst e5
    have e6 := hsh.2.2
    rcases h with h | h | h | h
    · omega
    · rw [e3] at h; exact h e1.symm
    · rw [e3, show x.1 + 1 - 1 = x.1 by omega, h2] at h; cases h
    · rw [e3, h3, hn] at h; exact he h
theorem rf_d1 : NoName ⟨#[100, 49]⟩ := no_name (c0 := 100) (r := [49]) (k := 1) rfl (by decide) (by decide) (.inr (.inr (.inr (by unfold nameX; rw [if_pos (.inl (by decide +kernel))]))))
theorem rf_P3 : NoName ⟨#[80, 51]⟩ := no_name (c0 := 80) (r := [51]) (k := 3) rfl (by decide) (by decide) (.inr (.inr (.inl (by decide))))
theorem rf_P64 : NoName ⟨#[80, 54, 52]⟩ := no_name (c0 := 80) (r := [54, 52]) (k := 64) rfl (by decide) (by decide) (.inl (.inr (by decide)))
theorem rf_M03 : NoName ⟨#[77, 48, 51]⟩ := no_name (c0 := 77) (r := [48, 51]) (k := 3) rfl (by decide) (by decide) (.inr (.inl (by rw [show ((3 : Int)) = ((3 : Nat) : Int) from rfl, itoa_one 3 (by decide)]; decide)))
theorem rf_none : NoName ⟨#[]⟩ := fun _ _ _ _ => rfl
theorem kc_1 : clashE (chordOf [29, 31, 34]) = ([], 0) := by decide +kernel
theorem kc_2 : clashE (chordOf [28, 28, 31]) = ([(0, 2, 3), (1, 2, 3)], 0) := by decide +kernel
theorem kb_1 : bassE (chordOf [30, 28, 28]) = (1, 0) := by decide +kernel
theorem kb_2 : bassE [] = (0, 18) := by decide +kernel
theorem kf_1 : fitsE (chordOf [28]) 28 35 = (chordOf [28, 30, 32, 33, 35], 0) := by decide +kernel
theorem kf_2 : fitsE (chordOf [28]) 35 28 = ([], 0) := by decide +kernel
theorem kf_3 : fitsE [] 28 29 = (chordOf [28, 29], 0) := by decide +kernel
end Go.Proofs.YtmbnpblejhlefaaDoor
