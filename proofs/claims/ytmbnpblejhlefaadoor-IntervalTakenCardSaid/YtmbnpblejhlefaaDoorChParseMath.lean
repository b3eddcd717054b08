/- Plain mathematics of names of intervals that are read: a name that is not empty tells its interval; no walk. -/
import Derived.Test.YtmbnpblejhlefaaDoorChDigits
import Derived.Test.YtmbnpblejhlefaaDoorChLetter
import Derived.Lib.Atoi
namespace Go.Proofs.YtmbnpblejhlefaaDoor
theorem letter_is (x : Int × Int) : letterX x = 0 ∨ letterX x = 80 ∨ letterX x = 77 ∨ letterX x = 109 ∨ letterX x = 65 ∨ letterX x = 100 := by
  unfold letterX
  (repeat' split) <;> simp
theorem atoi_d1 : ∀ v : Fin 10, Lib.atoi [UInt8.ofNat (48 + v.val)] = some (v.val : Int) := by decide
theorem atoi_d2 : ∀ v : Fin 64, 10 ≤ v.val → Lib.atoi [UInt8.ofNat (48 + v.val / 10), UInt8.ofNat (48 + v.val % 10)] = some (v.val : Int) := by decide
theorem atoi_itoa (v : Nat) (h : v < 64) : Lib.atoi (Lib.itoa (v : Int)) = some (v : Int) := by
  by_cases h1 : v < 10
  · rw [itoa_one v h1]; exact atoi_d1 ⟨v, h1⟩
  · rw [itoa_two v (by omega) (by omega)]; exact atoi_d2 ⟨v, h⟩ (by simp only; omega)
theorem itoa_len (v : Nat) (h : v < 64) : (Lib.itoa (v : Int)).length = 1 ∨ (Lib.itoa (v : Int)).length = 2 := by
  by_cases h1 : v < 10
  · rw [itoa_one v h1]; exact .inl rfl
  · rw [itoa_two v (by omega) (by omega)]; exact .inr rfl
theorem empty_of {t : ByteArray} (h : t.data.toList = []) : t = ⟨#[]⟩ := by
  cases t with
  | mk d => have : d = #[] := by simpa using h
            rw [this]
theorem bytes_ext {s t : ByteArray} (h : s.data.toList = t.data.toList) : s = t := by
  cases s; cases t; simp only at h; congr 1; exact Array.toList_inj.1 h
theorem nameX_list {x : Int × Int} (h : nameX x ≠ ⟨#[]⟩) : noneX x = false ∧ letterX (simI x) ≠ 0 ∧ (nameX x).data.toList = UInt8.ofNat (letterX (simI x)) :: Lib.itoa (x.1 + 1) := by
  unfold nameX at h ⊢
  by_cases hc : noneX x = true ∨ letterX (simI x) = 0
  · rw [if_pos hc] at h; exact absurd rfl h
  · rw [if_neg hc]
    exact ⟨by cases hn : noneX x with
      | true => exact absurd (.inl hn) hc
      | false => rfl, fun h0 => hc (.inr h0), by simp [ByteArray.data_append]⟩
theorem letter_inj {s h h' : Int} (ha : letterX (s, h) ≠ 0) (e : letterX (s, h) = letterX (s, h')) : h = h' := by
  rw [letter_more, letter_more] at e
  rw [letter_more] at ha
  cases hp : pureB s <;> simp only [hp] at e ha <;> grind
theorem byte_inj {a b : Nat} (ha : a < 256) (hb : b < 256) (h : UInt8.ofNat a = UInt8.ofNat b) : a = b := by
  have := congrArg UInt8.toNat h
  simp at this
  omega
theorem letter_lt (x : Int × Int) : letterX x < 256 := by rcases letter_is x with h | h | h | h | h | h <;> omega
theorem nameX_inj {x y : Int × Int} (hx : 0 ≤ x.1) (hx' : x.1 ≤ 62) (hy : 0 ≤ y.1) (hy' : y.1 ≤ 62) (h : nameX x = nameX y) (hne : nameX x ≠ ⟨#[]⟩) : x = y := by
  obtain ⟨_, a1, a2⟩ := nameX_list hne
  obtain ⟨_, _, b2⟩ := nameX_list (h ▸ hne)
  rw [h, b2] at a2
  obtain ⟨e1, e2⟩ := List.cons.inj a2
  have e3 := byte_inj (letter_lt _) (letter_lt _) e1
  obtain ⟨u, v⟩ := x
  obtain ⟨u', v'⟩ := y
  simp only at hx hx' hy hy' e2
  obtain ⟨m, hm⟩ : ∃ m : Nat, u + 1 = (m : Int) := ⟨(u + 1).toNat, by omega⟩
  obtain ⟨m', hm'⟩ : ∃ m : Nat, u' + 1 = (m : Int) := ⟨(u' + 1).toNat, by omega⟩
  rw [hm, hm'] at e2
  have c1 := atoi_itoa m (by omega)
  have c2 := atoi_itoa m' (by omega)
  rw [e2, c1] at c2
  have e4 := Option.some.inj c2
  obtain rfl : u = u' := by omega
  unfold simI at e3 a1
  simp only at e3 a1
  have e5 := letter_inj a1 e3.symm
  obtain rfl : v = v' := by omega
  rfl
theorem letter_bd {s h : Int} (ha : letterX (s, h) ≠ 0) : halfS s - 2 ≤ h ∧ h ≤ halfS s + 1 := by
  rw [letter_more] at ha
  (repeat' split at ha) <;> first | omega | exact absurd rfl ha
/-- An interval with a name is among the reference's candidates. -/
theorem nameX_bd {x : Int × Int} (h : nameX x ≠ ⟨#[]⟩) : 12 * (x.1 / 7) - 2 ≤ x.2 ∧ x.2 ≤ 12 * (x.1 / 7) + 13 := by
  obtain ⟨_, a1, _⟩ := nameX_list h
  unfold simI at a1
  have := letter_bd a1
  have := halfS_bd (x.1 % 7)
  omega
/-- What the interval of a text is, with its error. -/
def ParseS (s : ByteArray) (r : (Int × Int) × Int) : Prop :=
  (∃ x : Int × Int, r = (x, 0) ∧ 0 ≤ x.1 ∧ x.1 ≤ 62 ∧ nameX x = s ∧ s ≠ ⟨#[]⟩) ∨ (r = ((0, 0), 3) ∧ ∀ x : Int × Int, 0 ≤ x.1 → x.1 ≤ 62 → nameX x = s → s = ⟨#[]⟩)
theorem ParseS.yes {s : ByteArray} {r : (Int × Int) × Int} (h : ParseS s r) {x : Int × Int} (h0 : 0 ≤ x.1) (h1 : x.1 ≤ 62) (hn : nameX x = s) (hs : s ≠ ⟨#[]⟩) : r = (x, 0) := by
  rcases h with ⟨y, rfl, y0, y1, yn, _⟩ | ⟨_, hno⟩
  · rw [nameX_inj y0 y1 h0 h1 (yn.trans hn.symm) (by rw [yn]; exact hs)]
  · exact absurd (hno x h0 h1 hn) hs
theorem ParseS.no {s : ByteArray} {r : (Int × Int) × Int} (h : ParseS s r) (hn : ∀ x : Int × Int, 0 ≤ x.1 → x.1 ≤ 62 → nameX x = s → s = ⟨#[]⟩) : r = ((0, 0), 3) := by
  rcases h with ⟨y, rfl, y0, y1, yn, hs⟩ | ⟨hr, _⟩
  · exact absurd (hn y y0 y1 yn) hs
  · exact hr
theorem ParseS.one {s : ByteArray} {r r' : (Int × Int) × Int} (h : ParseS s r) (h' : ParseS s r') : r = r' := by
  rcases h with ⟨y, rfl, y0, y1, yn, hs⟩ | ⟨hr, hno⟩
  · exact (h'.yes y0 y1 yn hs).symm
  · rw [hr, h'.no hno]
/-! ### The program's way: a letter and a number -/
/-- The interval of a letter and a number. -/
def madeX (c : Nat) (n : Int) : Int × Int := (n - 1, 12 * ((n - 1) / 7) + halfS ((n - 1) % 7) + (offS c ((n - 1) % 7)).1)
/-- Whether a text that has a name's shape passes the program's tests: the letter c, then l. -/
def shapeB (s : ByteArray) (c : Nat) (n : Int) : Prop := c < 256 ∧ s.data.toList = UInt8.ofNat c :: Lib.itoa n ∧ 1 ≤ n ∧ n ≤ 63
theorem letter_has {x : Int × Int} (h : letterX x ≠ 0) : hasB (letterX x) x = true := by
  unfold letterX at h ⊢
  (repeat' split) <;> first | assumption | (exfalso; simp_all)
theorem nameX_shape {x : Int × Int} {s : ByteArray} (h0 : 0 ≤ x.1) (h1 : x.1 ≤ 62) (hn : nameX x = s) (hs : s ≠ ⟨#[]⟩) :
    ∃ c, shapeB s c (x.1 + 1) ∧ (offS c (x.1 % 7)).2 = true ∧ madeX c (x.1 + 1) = x := by
  subst hn
  obtain ⟨_, a1, a2⟩ := nameX_list hs
  refine ⟨letterX (simI x), ⟨letter_lt _, a2, by omega, by omega⟩, ?_⟩
  have hh := letter_has a1
  generalize letterX (simI x) = c at hh
  unfold hasB simI at hh
  simp only [Bool.and_eq_true, beq_iff_eq] at hh
  refine ⟨hh.1, ?_⟩
  unfold madeX
  obtain ⟨u, v⟩ := x
  simp only at hh ⊢
  rw [show u + 1 - 1 = u by omega]
  congr 1
  omega
theorem shape_one {s : ByteArray} {c c' : Nat} {n n' : Int} (h : shapeB s c n) (h' : shapeB s c' n') : c = c' ∧ n = n' := by
  obtain ⟨a1, a2, a3, a4⟩ := h
  obtain ⟨b1, b2, b3, b4⟩ := h'
  rw [a2] at b2
  obtain ⟨e1, e2⟩ := List.cons.inj b2
  obtain ⟨m, rfl⟩ := Int.eq_ofNat_of_zero_le (show 0 ≤ n by omega)
  obtain ⟨m', rfl⟩ := Int.eq_ofNat_of_zero_le (show 0 ≤ n' by omega)
  have c1 := atoi_itoa m (by omega)
  have c2 := atoi_itoa m' (by omega)
  rw [e2, c2] at c1
  exact ⟨byte_inj a1 b1 e1, by have := Option.some.inj c1; omega⟩
/-- No shape: no interval. -/
theorem ParseS.noShape {s : ByteArray} (h : ∀ c n, ¬ shapeB s c n) : ParseS s ((0, 0), 3) :=
  .inr ⟨rfl, fun x h0 h1 hn => by
    by_cases hs : s = ⟨#[]⟩
    · exact hs
    · obtain ⟨c, hc, _⟩ := nameX_shape h0 h1 hn hs
      exact absurd hc (h _ _)⟩
/-- A shape whose letter has no interval of these steps. -/
theorem ParseS.noOff {s : ByteArray} {c : Nat} {n : Int} (h : shapeB s c n) (ho : (offS c ((n - 1) % 7)).2 = false) : ParseS s ((0, 0), 3) :=
  .inr ⟨rfl, fun x h0 h1 hn => by
    by_cases hs : s = ⟨#[]⟩
    · exact hs
    · obtain ⟨c', hc, h2, _⟩ := nameX_shape h0 h1 hn hs
      obtain ⟨rfl, rfl⟩ := shape_one h hc
      rw [show x.1 + 1 - 1 = x.1 by omega, h2] at ho
      cases ho⟩
/-- A shape whose interval is called otherwise. -/
theorem ParseS.noName {s : ByteArray} {c : Nat} {n : Int} (h : shapeB s c n) (ho : nameX (madeX c n) ≠ s) : ParseS s ((0, 0), 3) :=
  .inr ⟨rfl, fun x h0 h1 hn => by
    by_cases hs : s = ⟨#[]⟩
    · exact hs
    · obtain ⟨c', hc, _, h3⟩ := nameX_shape h0 h1 hn hs
      obtain ⟨rfl, rfl⟩ := shape_one h hc
      rw [h3] at ho
      exact absurd hn ho⟩
theorem ParseS.isName {s : ByteArray} {c : Nat} {n : Int} (h : shapeB s c n) (ho : nameX (madeX c n) = s) : ParseS s (madeX c n, 0) := by
  obtain ⟨_, a2, a3, a4⟩ := h
  exact .inl ⟨_, rfl, by unfold madeX; simp only; omega, by unfold madeX; simp only; omega, ho, fun h0 => by rw [h0] at a2; cases a2⟩
end Go.Proofs.YtmbnpblejhlefaaDoor
