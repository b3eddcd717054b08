/- How long the transformed voices are. -/
import Derived.Test.YtiphacmmglohaaaCutMath
namespace Go.Proofs.Ytiphacmmglohaaa
theorem chainFrom_len (l : List Ev) : ∀ now, (chainFrom now l).1.length ≤ l.length := by
  induction l with
  | nil => intro _; simp [chainFrom]
  | cons x l ih =>
    intro now
    rw [chainFrom]
    split
    · simp
    · split
      · simp
      · simp only [List.length_cons]; have := ih ((addS now x.dur).1, (addS now x.dur).2.1); omega
theorem mapS_le (g : Ev → Ev × Int) (l : List Ev) : (mapS g l).1.length ≤ l.length := by
  induction l with
  | nil => simp [mapS]
  | cons x l ih =>
    rw [mapS]
    split
    · simp
    · split
      · simp
      · simp only [List.length_cons]; omega
theorem allS_le (g : Ev → Ev × Int) (l : List Ev) : (allS g l).1.length ≤ l.length := by
  unfold allS
  split
  · simp
  · have h1 := chainFrom_len (mapS g l).1 (0, 1); have h2 := mapS_le g l; unfold chainS; omega
theorem cutOne_le (f t : Int × Int) (x : Ev) : (cutOne f t x).1.length ≤ 1 := by
  rw [cutOne_v]; (repeat' split) <;> simp
theorem cutAll_le (f t : Int × Int) (l : List Ev) : (cutAll f t l).1.length ≤ l.length := by
  induction l with
  | nil => simp [cutAll]
  | cons x l ih =>
    rw [cutAll]
    split
    · simp
    · split
      · simp
      · simp only [List.length_append, List.length_cons]; have := cutOne_le f t x; omega
theorem retroS_len (l : List Ev) (h : l.length ≤ 4000) : (retroS l).1.length ≤ 4000 := by
  unfold retroS; split
  · simp
  · have := chainFrom_len l.reverse (0, 1); rw [List.length_reverse] at this; unfold chainS; omega
theorem mirrorS_len (l : List Ev) (a : Int × Int × Int) (h : l.length ≤ 4000) : (mirrorS l a).1.length ≤ 4000 := by
  unfold mirrorS; split
  · simp
  · split
    · simp
    · have := allS_le (pitchedS fun p => mirrorP p a) l; omega
theorem moveS_len (l : List Ev) (s : Int) (h : l.length ≤ 4000) : (moveS l s).1.length ≤ 4000 := by
  unfold moveS; split
  · simp
  · have := allS_le (pitchedS fun p => moveP p s) l; omega
theorem stretchS_len (l : List Ev) (b : Int × Int) (h : l.length ≤ 4000) : (stretchS l b).1.length ≤ 4000 := by
  unfold stretchS; split
  · simp
  · split
    · simp
    · have := allS_le (stretchedS b) l; omega
theorem delayS_len (l : List Ev) (b : Int × Int) (_ : l.length ≤ 3999) : (delayS l b).1.length ≤ 4000 := by
  unfold delayS; split
  · simp
  · split
    · simp
    · split
      · simp
      · have := chainFrom_len (restEv b :: l) (0, 1); simp only [List.length_cons] at this; unfold chainS; omega
theorem joinS_len (l m : List Ev) (_ : l.length + m.length ≤ 4000) : (joinS l m).1.length ≤ 4000 := by
  unfold joinS; split
  · simp
  · split
    · simp
    · split
      · simp
      · have := chainFrom_len (l ++ m) (0, 1); rw [List.length_append] at this; unfold chainS; omega
theorem cutS_len (l : List Ev) (f t : Int × Int) (h : l.length ≤ 4000) : (cutS l f t).1.length ≤ 4000 := by
  rw [cutS_v]; split
  · simp
  · split
    · simp
    · split
      · simp
      · split
        · simp
        · have h1 := chainFrom_len (cutAll f t l).1 (0, 1); have h2 := cutAll_le f t l; unfold chainS; omega
end Go.Proofs.Ytiphacmmglohaaa
