
/- The program's Treat. -/
import Derived.Test.YtmlcnmnpkemdpaaGreatDoorDsCount
namespace Go.Proofs.YtmlcnmnpkemdpaaGreatDoor
open Go.RowKit
theorem treatsE_err {l : List (List Ev)} (m a b : Int) (h : (slicesE l).2 ≠ 0) : treatsE l m a b = (0, (slicesE l).2) := by unfold treatsE; rw [if_pos h]
theorem treatsE_out {l : List (List Ev)} {m a b : Int} (h : (slicesE l).2 = 0) {K n : Nat} (hK : K = (momS l).length - 1) (hn : l.length = n) (ho : m < 0 ∨ (K : Int) ≤ m ∨ a < 0 ∨ (n : Int) ≤ a ∨ b < 0 ∨ (n : Int) ≤ b) : treatsE l m a b = (0, 2) := by
  subst hK hn; unfold treatsE; rw [if_neg (fun hh => hh h), if_pos ho]
theorem treatsE_none {l : List (List Ev)} {k a b : Nat} (h : (slicesE l).2 = 0) {K n : Nat} (hK : K = (momS l).length - 1) (hn : l.length = n) (hk : k < K) (ha : a < n) (hb : b < n) (h0 : a = b ∨ clE l (mAt (momS l) k) a b = 0) : treatsE l k a b = (0, 0) := by
  subst hK hn
  unfold treatsE
  rw [if_neg (fun hh => hh h), if_neg (by omega), if_pos]
  rcases h0 with h0 | h0
  · exact .inl (by omega)
  · exact .inr (by simpa using h0)
theorem treatsE_in {l : List (List Ev)} {k a b : Nat} (h : (slicesE l).2 = 0) {K n : Nat} (hK : K = (momS l).length - 1) (hn : l.length = n) (hk : k < K) (ha : a < n) (hb : b < n) (h0 : a ≠ b) (h1 : clE l (mAt (momS l) k) a b ≠ 0) :
    treatsE l k a b = (treatD l (momS l) (backF l (momS l) a b (evI l (momS l) k a) (evI l (momS l) k b) k k) a b, 0) := by
  subst hK hn
  unfold treatsE
  rw [if_neg (fun hh => hh h), if_neg (by omega), if_neg]
  · simp only [Int.toNat_natCast]
  · rintro (h2 | h2)
    · omega
    · simp only [Int.toNat_natCast] at h2; exact h1 h2
theorem backF_le {l : List (List Ev)} {m : List Tm} {a b : Nat} {i k : Int} : ∀ (j f : Nat), j ≤ f → backF l m a b i k j f ≤ f := by
  intro j
  induction j with
  | zero => intro f _; exact Nat.le_refl _
  | succ j ih =>
    intro f hf
    unfold backF
    split
    · split
      · exact Nat.le_trans (ih j (Nat.le_refl _)) (by omega)
      · exact ih f (by omega)
    · exact Nat.le_refl _
end Go.Proofs.YtmlcnmnpkemdpaaGreatDoor
