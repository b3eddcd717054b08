/- Plain mathematics: the voices of a setting in another order; who sounds, from the lowest. -/
import Derived.Test.YtbljfaocmeeljaaPlain
namespace Go.Proofs.Ytbljfaocmeeljaa
/-- Another order of the voices. -/
def turnL (n : Nat) (l : List (List Ev)) : List (List Ev) := l.drop n ++ l.take n
theorem turn_mem {n : Nat} {l : List (List Ev)} (v : List Ev) : v ∈ turnL n l ↔ v ∈ l := by
  unfold turnL
  rw [List.mem_append]
  conv => rhs; rw [← List.take_append_drop n l]
  rw [List.mem_append, or_comm]
theorem turn_len (n : Nat) (l : List (List Ev)) : (turnL n l).length = l.length := by unfold turnL; rw [List.length_append, List.length_drop, List.length_take]; omega
theorem turn_set {M : Int} {l : List (List Ev)} (h : SetQ M l) (n : Nat) : SetQ M (turnL n l) := ⟨h.pos, h.big, by rw [turn_len]; exact h.len, fun v hv => h.each v ((turn_mem v).1 hv)⟩
theorem turn_mom {M : Int} {l : List (List Ev)} (h : SetQ M l) (n : Nat) : momS (turnL n l) = momS l := by
  refine sa_ext (setq_sa (turn_set h n)).1 (setq_sa h).1 fun t => ?_
  rw [mem_mom, mem_mom]
  constructor
  · rintro ⟨v, hv, r⟩; exact ⟨v, (turn_mem v).1 hv, r⟩
  · rintro ⟨v, hv, r⟩; exact ⟨v, (turn_mem v).2 hv, r⟩
theorem turn_get {n k : Nat} {l : List (List Ev)} (hl : l.length = 4) (hn : n < 4) (hk : k < 4) : (turnL n l)[k]? = l[(n + k) % 4]? := by
  unfold turnL
  rcases Nat.lt_or_ge k (4 - n) with h | h
  · rw [List.getElem?_append_left (by rw [List.length_drop]; omega), List.getElem?_drop, Nat.mod_eq_of_lt (by omega)]
  · rw [List.getElem?_append_right (by rw [List.length_drop]; omega), List.length_drop, hl, List.getElem?_take, if_pos (by omega)]
    congr 1
    rw [show n + k = (k - (4 - n)) + 4 by omega, Nat.add_mod_right, Nat.mod_eq_of_lt (by omega)]
/-! ### Who sounds -/
theorem sound_at {l : List (List Ev)} {M : Int} (h : SetQ M l) {v : List Ev} (hv : v ∈ l) {t : Tm} (ht : ok t) : (onS v t = -1 ∧ soundB v t = false) ∨ ∃ (e : Nat) (x : Ev), onS v t = (e : Int) ∧ v[e]? = some x ∧ soundB v t = !x.rest := by
  rcases on_char (setq_val h v hv) ht with ⟨k, x, hk, _, e⟩ | e
  · refine .inr ⟨k, x, e, hk, ?_⟩
    unfold soundB eventAt
    rw [e]
    show (match v[k]? with | some x => !x.rest | none => false) = _
    rw [hk]
  · refine .inl ⟨e, ?_⟩
    unfold soundB eventAt
    rw [e]; rfl
theorem key_ev {l : List (List Ev)} {t : Tm} {k e : Nat} {v : List Ev} {x : Ev} (hv : l[k]? = some v) (he : onS v t = (e : Int)) (hx : v[e]? = some x) : keyOf l t k = (numP x.pit, x.pit.2.2, (k : Int)) := by
  unfold keyOf eventAt
  rw [show l.getD k [] = v by simp [List.getD, hv], he]
  show (match v[e]? with | some x => _ | none => _) = _
  rw [hx]
def whoS (l : List (List Ev)) (t : Tm) : List Nat := insAll (ltV l t) (sndS l t)
theorem who_spec (l : List (List Ev)) (t : Tm) : (whoS l t).Pairwise (fun a b => ltV l t a b = true) ∧ (whoS l t).Nodup ∧ (∀ k, k ∈ whoS l t ↔ k < l.length ∧ soundB (l.getD k []) t = true) := by
  obtain ⟨h1, h2⟩ := insAll_spec (ltV_tot l t) (sndS l t) [] (fun _ _ => trivial) (fun _ _ => trivial) (by rw [List.append_nil]; exact snd_nodup l t) List.Pairwise.nil
  rw [List.append_nil] at h2
  refine ⟨h1, h2.nodup_iff.2 (snd_nodup l t), fun k => ?_⟩
  show k ∈ insAll _ _ ↔ _
  rw [show k ∈ insAll (ltV l t) (sndS l t) ↔ k ∈ sndS l t from h2.mem_iff]
  unfold sndS
  rw [List.mem_filter, List.mem_range]
theorem who_len (l : List (List Ev)) (t : Tm) : (whoS l t).length ≤ l.length := by
  obtain ⟨_, h2⟩ := insAll_spec (ltV_tot l t) (sndS l t) [] (fun _ _ => trivial) (fun _ _ => trivial) (by rw [List.append_nil]; exact snd_nodup l t) List.Pairwise.nil
  rw [List.append_nil] at h2
  have h3 : (whoS l t).length = (sndS l t).length := h2.length_eq
  rw [h3]
  unfold sndS
  have := List.length_filter_le (fun k => soundB (l.getD k []) t) (List.range l.length)
  rwa [List.length_range] at this
theorem sounds_set {M : Int} {l : List (List Ev)} (h : SetQ M l) {n : Nat} (hn : n < (momS l).length - 1) : soundsE l (n : Int) = (whoS l (mAt (momS l) n), 0) := by
  unfold soundsE
  rw [setq_slices h, if_neg (fun h => h rfl), if_neg (by simp; omega)]
  rfl
/-- The height by which the law orders pitches. -/
def hgt (p : Int × Int × Int) : Int := 10 * (7 * p.2.1 + p.1) + p.2.2
theorem hgt_le {a b : Int × Int × Int} {i j : Int} (ha : pchk a = 0) (hb : pchk b = 0) (h : ltK (numP a, a.2.2, i) (numP b, b.2.2, j) = true) : hgt a ≤ hgt b := by
  have h1 := pchk_bd ha
  have h2 := pchk_bd hb
  unfold ltK at h
  rw [decide_eq_true_eq] at h
  unfold numP at h
  unfold hgt
  simp only at h
  omega
end Go.Proofs.Ytbljfaocmeeljaa
