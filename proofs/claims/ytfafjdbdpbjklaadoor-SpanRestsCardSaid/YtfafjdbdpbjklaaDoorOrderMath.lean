/- Plain mathematics of sums of lists of small times: they are whole multiples of 1/24. -/
import Derived.Test.YtfafjdbdpbjklaaDoorBackMath
namespace Go.Proofs.YtfafjdbdpbjklaaDoor
theorem sum24_from (ms : List Int) : ∀ s : Int, 0 ≤ s → s + 576 * ms.length ≤ 1099511627776 → (∀ m ∈ ms, 0 ≤ m ∧ m ≤ 576) → sumFrom (c24 s) (ms.map c24) = ((c24 (s + ms.sum)).1, (c24 (s + ms.sum)).2, 0) ∧ 0 ≤ s + ms.sum ∧ s + ms.sum ≤ s + 576 * ms.length := by
  induction ms with
  | nil => intro s h0 h1 _; simp [sumFrom]; exact h0
  | cons m ms ih =>
    intro s h0 h1 hm
    have hm0 := hm m (by simp)
    simp only [List.length_cons] at h1
    have ea := c24_add (m := s) (n := m) ⟨h0, by omega⟩ ⟨hm0.1, by omega⟩ ⟨by omega, by omega⟩
    obtain ⟨e, h2, h3⟩ := ih (s + m) (by omega) (by omega) (fun x hx => hm x (by simp [hx]))
    simp only [List.map_cons, List.sum_cons, List.length_cons]
    refine ⟨?_, by omega, by omega⟩
    rw [sumFrom, ea]
    simp only [ne_eq, not_true_eq_false, if_false]
    rw [show ((c24 (s + m)).1, (c24 (s + m)).2) = c24 (s + m) from rfl, e, show s + (m + ms.sum) = s + m + ms.sum by omega]
theorem first24 (ms : List Int) (h : ∀ m ∈ ms, 0 ≤ m ∧ m ≤ 576) : firstS (ms.map c24) = 0 := by
  induction ms with
  | nil => rfl
  | cons m ms ih =>
    have h0 := h m (by simp)
    rw [List.map_cons, firstS_next (chk_of_ok (c24_ok ⟨h0.1, by omega⟩).1)]
    exact ih fun x hx => h x (by simp [hx])
theorem c24_zero : c24 0 = (0, 1) := by decide +kernel
theorem sum24 (ms : List Int) (hl : ms.length ≤ 1000) (h : ∀ m ∈ ms, 0 ≤ m ∧ m ≤ 576) : sumS (ms.map c24) = ((c24 ms.sum).1, (c24 ms.sum).2, 0) ∧ 0 ≤ ms.sum ∧ ms.sum ≤ 576 * ms.length := by
  obtain ⟨e, h1, h2⟩ := sum24_from ms 0 (by omega) (by omega) h
  unfold sumS
  rw [first24 ms h, if_neg (fun h => h rfl), ← c24_zero, e, Int.zero_add]
  exact ⟨rfl, by omega, by omega⟩
/-- The small times made of at most so many numbers. -/
def spL (most : Nat) (l : List Int) : List (Int × Int) := (l.take most).map spS
theorem spL_of {most k : Nat} {l : List Int} (h : l.take k = l.take most) (hk : k ≤ l.length) : spL most l = (l.take k).map spS ∧ (spL most l).length = k := by
  unfold spL; rw [h]; refine ⟨rfl, ?_⟩; rw [← h, List.length_map, List.length_take]; omega
theorem spL_24 (most : Nat) (l : List Int) : spL most l = ((l.take most).map k24).map c24 ∧ ((l.take most).map k24).length ≤ most ∧ ∀ m ∈ (l.take most).map k24, 0 ≤ m ∧ m ≤ 576 := by
  refine ⟨?_, by rw [List.length_map, List.length_take]; omega, fun m hm => ?_⟩
  · unfold spL; rw [List.map_map]; congr 1; funext n; exact (spS_24 n).1
  · obtain ⟨n, _, rfl⟩ := List.mem_map.1 hm
    have := spS_24 n; omega
theorem order_facts (l : List Int) (cut : Nat) : ∃ a c d : Int × Int, sumS (spL 40 l) = (a.1, a.2, 0) ∧ sumS ((spL 40 l).drop cut ++ (spL 40 l).take cut) = (a.1, a.2, 0) ∧ sumS ((spL 40 l).take cut) = (c.1, c.2, 0) ∧ sumS ((spL 40 l).drop cut) = (d.1, d.2, 0) ∧ addS c d = (a.1, a.2, 0) := by
  obtain ⟨e, hl, hm⟩ := spL_24 40 l
  rw [e]
  generalize (l.take 40).map k24 = ms at *
  rw [← List.map_drop, ← List.map_take, ← List.map_append]
  obtain ⟨e1, _, _⟩ := sum24 ms (by omega) hm
  obtain ⟨e2, _, _⟩ := sum24 (ms.drop cut ++ ms.take cut) (by rw [List.length_append, List.length_drop, List.length_take]; omega) (fun m h => hm m (by rcases List.mem_append.1 h with h | h <;> first | exact List.mem_of_mem_drop h | exact List.mem_of_mem_take h))
  obtain ⟨e3, a3, b3⟩ := sum24 (ms.take cut) (by rw [List.length_take]; omega) (fun m h => hm m (List.mem_of_mem_take h))
  obtain ⟨e4, a4, b4⟩ := sum24 (ms.drop cut) (by rw [List.length_drop]; omega) (fun m h => hm m (List.mem_of_mem_drop h))
  have es : (ms.take cut).sum + (ms.drop cut).sum = ms.sum := by rw [← List.sum_append, List.take_append_drop]
  have l3 : (ms.take cut).length ≤ 40 := by rw [List.length_take]; omega
  have l4 : (ms.drop cut).length ≤ 40 := by rw [List.length_drop]; omega
  refine ⟨c24 ms.sum, c24 (ms.take cut).sum, c24 (ms.drop cut).sum, e1, ?_, e3, e4, ?_⟩
  · rw [e2, List.sum_append, Int.add_comm, es]
  · rw [c24_add ⟨a3, by omega⟩ ⟨a4, by omega⟩ ⟨by omega, by omega⟩, es]
/-- A whole multiple and a rest. -/
theorem rest_facts (a b : Int) : ∃ (q : Int) (r m : Int × Int), 0 ≤ q ∧ q ≤ 1000 ∧ wholeS (spS a) (spS b) = (q, r.1, r.2, 0) ∧ tS q 1 = (q, 1) ∧ mulS (q, 1) (spS b) = (m.1, m.2, 0) ∧ addS m r = ((spS a).1, (spS a).2, 0) ∧ (cmpS r (spS b)).1 < 0 ∧ (cmpS r (spS b)).2 = 0 := by
  obtain ⟨ea, a1, a2, _, _⟩ := spS_24 a
  obtain ⟨eb, b1, b2, _, _⟩ := spS_24 b
  rw [ea, eb]
  generalize k24 a = m at *
  generalize k24 b = n at *
  clear ea eb
  have hm : in24 m := ⟨by omega, by omega⟩
  have hn : in24 n := ⟨by omega, by omega⟩
  obtain ⟨k1, e1, _⟩ := c24_ok hm
  obtain ⟨k2, e2, _⟩ := c24_ok hn
  have q0 : 0 ≤ m / n := Int.ediv_nonneg (by omega) (by omega)
  have q1 : m / n ≤ m := Int.ediv_le_self _ (by omega)
  have r0 := Int.emod_nonneg m (show n ≠ 0 by omega)
  have r1 := Int.emod_lt_of_pos m (show 0 < n by omega)
  have hdm := Int.mul_ediv_add_emod m n
  have hr : in24 (m % n) := ⟨r0, by omega⟩
  obtain ⟨k3, e3, _⟩ := c24_ok hr
  have hqn : in24 (n * (m / n)) := ⟨Int.mul_nonneg (by omega) q0, by omega⟩
  obtain ⟨k4, e4, _⟩ := c24_ok hqn
  have hb0 := c24_pos hn (by omega)
  have hq1 : ok (m / n, 1) := ⟨q0, by show m / n ≤ _; omega, by simp, by simp, by simp [gg]⟩
  have p2 := k1.2.2.1
  have p4 := k2.2.2.1
  have hD : 0 < (c24 n).1 * (c24 m).2 := Int.mul_pos (by omega) (by omega)
  have hEQ : (c24 m).1 * (c24 n).2 = (c24 n).1 * (c24 m).2 * (m / n) + ((c24 m).1 * (c24 n).2 - (c24 n).1 * (c24 m).2 * (m / n)) := by omega
  have h24 : ((c24 m).1 * (c24 n).2 - (c24 n).1 * (c24 m).2 * (m / n)) * 24 = m % n * ((c24 m).2 * (c24 n).2) := by
    generalize m / n = q at *
    generalize m % n = r at *
    generalize (c24 m).1 = x at *
    generalize (c24 m).2 = x' at *
    generalize (c24 n).1 = y at *
    generalize (c24 n).2 = y' at *
    grind
  have hD24 : (c24 n).1 * (c24 m).2 * 24 = n * ((c24 m).2 * (c24 n).2) := by
    generalize (c24 m).1 = x at *
    generalize (c24 m).2 = x' at *
    generalize (c24 n).1 = y at *
    generalize (c24 n).2 = y' at *
    grind
  have hpp : 0 < (c24 m).2 * (c24 n).2 := Int.mul_pos (by omega) (by omega)
  have hlo : 0 ≤ (c24 m).1 * (c24 n).2 - (c24 n).1 * (c24 m).2 * (m / n) := by
    have : 0 ≤ m % n * ((c24 m).2 * (c24 n).2) := Int.mul_nonneg r0 (by omega)
    omega
  have hhi : (c24 m).1 * (c24 n).2 - (c24 n).1 * (c24 m).2 * (m / n) < (c24 n).1 * (c24 m).2 := by
    have : m % n * ((c24 m).2 * (c24 n).2) < n * ((c24 m).2 * (c24 n).2) := Int.mul_lt_mul_of_pos_right r1 hpp
    omega
  have hdiv : (c24 m).1 * (c24 n).2 / ((c24 n).1 * (c24 m).2) = m / n ∧ (c24 m).1 * (c24 n).2 % ((c24 n).1 * (c24 m).2) = (c24 m).1 * (c24 n).2 - (c24 n).1 * (c24 m).2 * (m / n) := by
    refine (Int.ediv_emod_unique hD).2 ⟨by rw [Int.add_comm]; exact hEQ.symm, hlo, hhi⟩
  have hmk : mk ((c24 m).1 * (c24 n).2 - (c24 n).1 * (c24 m).2 * (m / n)) ((c24 m).2 * (c24 n).2) = ((c24 (m % n)).1, (c24 (m % n)).2, 0) := by
    refine mk_val hlo (by omega) k3 (cancel (show (1 : Int) ≤ 24 by omega) ?_)
    generalize (c24 m).1 * (c24 n).2 - (c24 n).1 * (c24 m).2 * (m / n) = u at *
    generalize (c24 m).2 * (c24 n).2 = v at *
    generalize (c24 (m % n)).1 = t at *
    generalize (c24 (m % n)).2 = t' at *
    grind
  refine ⟨m / n, c24 (m % n), c24 (n * (m / n)), q0, by omega, ?_, ?_, ?_, ?_, ?_, ?_⟩
  · unfold wholeS
    rw [both_of_ok k1 k2, if_neg (fun h => h rfl), if_neg (by omega), hdiv.1, hdiv.2, hmk]
    simp
  · unfold tS
    have : gg (m / n) 1 = 1 := by simp [gg]
    rw [this]; simp
  · refine mul_val hq1 k2 k4 (cancel (show (1 : Int) ≤ 24 by omega) ?_)
    simp only
    generalize m / n = q at *
    generalize (c24 n).1 = y at *
    generalize (c24 n).2 = y' at *
    generalize (c24 (n * q)).1 = t at *
    generalize (c24 (n * q)).2 = t' at *
    grind
  · rw [c24_add hqn hr ⟨by omega, by omega⟩, hdm]
  · rw [c24_cmp hr hn]; unfold sgn; rw [if_pos (by omega)]; simp
  · rw [c24_cmp hr hn]
end Go.Proofs.YtfafjdbdpbjklaaDoor
