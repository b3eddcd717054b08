/- Parts of the proofs of layer 31: ChInter. -/
import Derived.Test.YtpkmiegccfhpnaaGreatDoorK05
namespace Go.Proofs.YtpkmiegccfhpnaaGreatDoor
open Go.RowKit
structure Shr (G : Prop) : Prop where
  out : G
theorem share {G p : Prop} (k : Shr G → p) (g : G) : p := k ⟨g⟩
theorem lay_blk {W we : World} {t : TypeId} {cs : Array Value} {G : Prop} (hb : Below W.heap.size W we) (g : Nat) (B : Blk W g t cs) (h : g < we.heap.size → (∀ i, we.cell? ⟨g, i, none⟩ = cs[i]?) → (∀ i, we.frozen? ⟨g, i, none⟩ = false) → Blk we g t cs → G) : G := h (B.kept hb).lt (B.kept hb).cell (B.kept hb).frozen (B.kept hb)
theorem pick_two {W wx : World} {a b lo : Nat} {t : TypeId} {z z' y y' u u' v v' : Value} {p : Prop} (hwx : wx = (((W.setCell ⟨a, 0, none⟩ u).setCell ⟨a, 1, none⟩ u').setCell ⟨b, 0, none⟩ v).setCell ⟨b, 1, none⟩ v') (hab : a ≠ b) (Ba : Blk W a t #[z, z']) (Bb : Blk W b t #[y, y']) (la : lo ≤ a) (lb : lo ≤ b) (k : ∀ gU gV, gU = a → gV = b → lo ≤ gU → Blk wx gU t #[u, u'] → lo ≤ gV → Blk wx gV t #[v, v'] → p) : p := by
  refine k a b rfl rfl la ?_ lb ?_
  · subst hwx
    exact Blk.far_ hab (Blk.far_ hab (Blk.set_to (Blk.set_to Ba rfl) rfl))
  · subst hwx
    exact Blk.set_to (Blk.set_to (Blk.far_ (Ne.symm hab) (Blk.far_ (Ne.symm hab) Bb)) rfl) rfl
theorem lo_of {p q : Int × Int × Int} {x y u v : Int} (hx : x = numP p) (hy : y = numP q) (hu : u = htP p) (hv : v = htP q) : (y < x ∨ (y = x ∧ v < u) → loP p q = q ∧ hiP p q = p) ∧ (¬ (y < x ∨ (y = x ∧ v < u)) → loP p q = p ∧ hiP p q = q) := by
  subst hx hy hu hv
  unfold loP hiP
  exact ⟨fun h => by rw [if_pos (show lowB p q from h), if_pos (show lowB p q from h)]; exact ⟨rfl, rfl⟩, fun h => by rw [if_neg (show ¬ lowB p q from h), if_neg (show ¬ lowB p q from h)]; exact ⟨rfl, rfl⟩⟩
set_option maxRecDepth 100000 in
set_option maxHeartbeats 1000000 in
theorem lower_ok (p q : Int × Int × Int) (hp : pchk p = 0) (hq : pchk q = 0) (w : World) (ht : Tabs w) :
    Calls Tryz.prog 173 #[vP p, vP q] w fun e w' => e = .returned (.tuple #[vP (loP p q), vP (hiP p q)]) ∧ Below w.heap.size w w' := by
  have q1 := number_ok p hp
  have q2 := number_ok q hq
  have q3 := height_ok p hp
  have q4 := height_ok q hq
  obtain ⟨x, hx⟩ : ∃ x, x = numP p := ⟨_, rfl⟩
  obtain ⟨y, hy⟩ : ∃ x, x = numP q := ⟨_, rfl⟩
  obtain ⟨u, hu⟩ : ∃ x, x = htP p := ⟨_, rfl⟩
  obtain ⟨v, hv⟩ : ∃ x, x = htP q := ⟨_, rfl⟩
  have E := Lib.hid (lo_of hx hy hu hv)
  rw [← hx] at q1
  rw [← hy] at q2
  rw [← hu] at q3
  rw [← hv] at q4
  clear hx hy hu hv hp hq
  obtain ⟨a, b, c⟩ := p
  obtain ⟨a', b', c'⟩ := q
  go_enter Tryz.func173, Tryz.ntmps173
  go_wp2_with fail
  refine (q1 _).mono ?_
  rintro e w1 ⟨rfl, hb1⟩
  have BP1 : Blk w1 (w.heap.size) 47 #[.int .i64 a, .int .i64 b, .int .i64 c] := by
    refine Blk.kept ?_ hb1
    repeat (first | with_reducible exact Blk.new _ _ _ | (with_reducible refine Blk.newAt _ _ _ _ ?_; first | rfl | (simp; done)) | with_reducible apply Blk.alloc | with_reducible apply Blk.drewN | with_reducible apply Blk.drew | with_reducible apply Blk.set_to | (with_reducible apply Blk.far_; (simp only [ne_eq]; omega)) | rfl)
  have cP0_1 : w1.cell? ⟨w.heap.size, 0, none⟩ = some (.int .i64 a) := BP1.cell 0
  have cP1_1 : w1.cell? ⟨w.heap.size, 1, none⟩ = some (.int .i64 b) := BP1.cell 1
  have cP2_1 : w1.cell? ⟨w.heap.size, 2, none⟩ = some (.int .i64 c) := BP1.cell 2
  have lP1 : w.heap.size < w1.heap.size := BP1.lt
  have mP1 : w.heap.size < w1.heap.size + 1 := by omega
  have nP1 : w.heap.size < w1.heap.size + 1 + 1 := by omega
  have BQ1 : Blk w1 (w.heap.size + 1) 47 #[.int .i64 a', .int .i64 b', .int .i64 c'] := by
    refine Blk.kept ?_ hb1
    repeat (first | with_reducible exact Blk.new _ _ _ | (with_reducible refine Blk.newAt _ _ _ _ ?_; first | rfl | (simp; done)) | with_reducible apply Blk.alloc | with_reducible apply Blk.drewN | with_reducible apply Blk.drew | with_reducible apply Blk.set_to | (with_reducible apply Blk.far_; (simp only [ne_eq]; omega)) | rfl)
  have cQ0_1 : w1.cell? ⟨w.heap.size + 1, 0, none⟩ = some (.int .i64 a') := BQ1.cell 0
  have cQ1_1 : w1.cell? ⟨w.heap.size + 1, 1, none⟩ = some (.int .i64 b') := BQ1.cell 1
  have cQ2_1 : w1.cell? ⟨w.heap.size + 1, 2, none⟩ = some (.int .i64 c') := BQ1.cell 2
  have lQ1 : w.heap.size + 1 < w1.heap.size := BQ1.lt
  have mQ1 : w.heap.size + 1 < w1.heap.size + 1 := by omega
  have nQ1 : w.heap.size + 1 < w1.heap.size + 1 + 1 := by omega
  have BR1 : Blk w1 (w.heap.size + 1 + 1) 47 #[.int .i64 0, .int .i64 0, .int .i64 0] := by
    refine Blk.kept ?_ hb1
    repeat (first | with_reducible exact Blk.new _ _ _ | (with_reducible refine Blk.newAt _ _ _ _ ?_; first | rfl | (simp; done)) | with_reducible apply Blk.alloc | with_reducible apply Blk.drewN | with_reducible apply Blk.drew | with_reducible apply Blk.set_to | (with_reducible apply Blk.far_; (simp only [ne_eq]; omega)) | rfl)
  have cR0_1 : w1.cell? ⟨w.heap.size + 1 + 1, 0, none⟩ = some (.int .i64 0) := BR1.cell 0
  have cR1_1 : w1.cell? ⟨w.heap.size + 1 + 1, 1, none⟩ = some (.int .i64 0) := BR1.cell 1
  have cR2_1 : w1.cell? ⟨w.heap.size + 1 + 1, 2, none⟩ = some (.int .i64 0) := BR1.cell 2
  have lR1 : w.heap.size + 1 + 1 < w1.heap.size := BR1.lt
  have mR1 : w.heap.size + 1 + 1 < w1.heap.size + 1 := by omega
  have nR1 : w.heap.size + 1 + 1 < w1.heap.size + 1 + 1 := by omega
  have fR0_1 := BR1.frozen 0
  have fR1_1 := BR1.frozen 1
  have fR2_1 := BR1.frozen 2
  have BS1 : Blk w1 (w.heap.size + 1 + 1 + 1) 47 #[.int .i64 0, .int .i64 0, .int .i64 0] := by
    refine Blk.kept ?_ hb1
    repeat (first | with_reducible exact Blk.new _ _ _ | (with_reducible refine Blk.newAt _ _ _ _ ?_; first | rfl | (simp; done)) | with_reducible apply Blk.alloc | with_reducible apply Blk.drewN | with_reducible apply Blk.drew | with_reducible apply Blk.set_to | (with_reducible apply Blk.far_; (simp only [ne_eq]; omega)) | rfl)
  have cS0_1 : w1.cell? ⟨w.heap.size + 1 + 1 + 1, 0, none⟩ = some (.int .i64 0) := BS1.cell 0
  have cS1_1 : w1.cell? ⟨w.heap.size + 1 + 1 + 1, 1, none⟩ = some (.int .i64 0) := BS1.cell 1
  have cS2_1 : w1.cell? ⟨w.heap.size + 1 + 1 + 1, 2, none⟩ = some (.int .i64 0) := BS1.cell 2
  have lS1 : w.heap.size + 1 + 1 + 1 < w1.heap.size := BS1.lt
  have mS1 : w.heap.size + 1 + 1 + 1 < w1.heap.size + 1 := by omega
  have nS1 : w.heap.size + 1 + 1 + 1 < w1.heap.size + 1 + 1 := by omega
  have fS0_1 := BS1.frozen 0
  have fS1_1 := BS1.frozen 1
  have fS2_1 := BS1.frozen 2
  have eRP1 : w.heap.size + 1 + 1 ≠ w.heap.size := by omega
  have ePR1 : w.heap.size ≠ w.heap.size + 1 + 1 := by omega
  have eRQ1 : w.heap.size + 1 + 1 ≠ w.heap.size + 1 := by omega
  have eQR1 : w.heap.size + 1 ≠ w.heap.size + 1 + 1 := by omega
  have eSP1 : w.heap.size + 1 + 1 + 1 ≠ w.heap.size := by omega
  have ePS1 : w.heap.size ≠ w.heap.size + 1 + 1 + 1 := by omega
  have eSQ1 : w.heap.size + 1 + 1 + 1 ≠ w.heap.size + 1 := by omega
  have eQS1 : w.heap.size + 1 ≠ w.heap.size + 1 + 1 + 1 := by omega
  have eSR1 : w.heap.size + 1 + 1 + 1 ≠ w.heap.size + 1 + 1 := by omega
  have eRS1 : w.heap.size + 1 + 1 ≠ w.heap.size + 1 + 1 + 1 := by omega
  have hs1 : w.heap.size ≤ w1.heap.size := by have h := hb1.size; (try simp at h); omega
  go_wp2_with fail
  refine (q2 _).mono ?_
  rintro e w2 ⟨rfl, hb2⟩
  have BP2 : Blk w2 (w.heap.size) 47 #[.int .i64 a, .int .i64 b, .int .i64 c] := by
    refine Blk.kept ?_ hb2
    repeat (first | with_reducible exact BP1 | with_reducible exact Blk.new _ _ _ | (with_reducible refine Blk.newAt _ _ _ _ ?_; first | rfl | (simp; done)) | with_reducible apply Blk.alloc | with_reducible apply Blk.drewN | with_reducible apply Blk.drew | with_reducible apply Blk.set_to | (with_reducible apply Blk.far_; (simp only [ne_eq]; omega)) | rfl)
  have cP0_2 : w2.cell? ⟨w.heap.size, 0, none⟩ = some (.int .i64 a) := BP2.cell 0
  have cP1_2 : w2.cell? ⟨w.heap.size, 1, none⟩ = some (.int .i64 b) := BP2.cell 1
  have cP2_2 : w2.cell? ⟨w.heap.size, 2, none⟩ = some (.int .i64 c) := BP2.cell 2
  have lP2 : w.heap.size < w2.heap.size := BP2.lt
  have mP2 : w.heap.size < w2.heap.size + 1 := by omega
  have nP2 : w.heap.size < w2.heap.size + 1 + 1 := by omega
  have BQ2 : Blk w2 (w.heap.size + 1) 47 #[.int .i64 a', .int .i64 b', .int .i64 c'] := by
    refine Blk.kept ?_ hb2
    repeat (first | with_reducible exact BQ1 | with_reducible exact Blk.new _ _ _ | (with_reducible refine Blk.newAt _ _ _ _ ?_; first | rfl | (simp; done)) | with_reducible apply Blk.alloc | with_reducible apply Blk.drewN | with_reducible apply Blk.drew | with_reducible apply Blk.set_to | (with_reducible apply Blk.far_; (simp only [ne_eq]; omega)) | rfl)
  have cQ0_2 : w2.cell? ⟨w.heap.size + 1, 0, none⟩ = some (.int .i64 a') := BQ2.cell 0
  have cQ1_2 : w2.cell? ⟨w.heap.size + 1, 1, none⟩ = some (.int .i64 b') := BQ2.cell 1
  have cQ2_2 : w2.cell? ⟨w.heap.size + 1, 2, none⟩ = some (.int .i64 c') := BQ2.cell 2
  have lQ2 : w.heap.size + 1 < w2.heap.size := BQ2.lt
  have mQ2 : w.heap.size + 1 < w2.heap.size + 1 := by omega
  have nQ2 : w.heap.size + 1 < w2.heap.size + 1 + 1 := by omega
  have BR2 : Blk w2 (w.heap.size + 1 + 1) 47 #[.int .i64 0, .int .i64 0, .int .i64 0] := by
    refine Blk.kept ?_ hb2
    repeat (first | with_reducible exact BR1 | with_reducible exact Blk.new _ _ _ | (with_reducible refine Blk.newAt _ _ _ _ ?_; first | rfl | (simp; done)) | with_reducible apply Blk.alloc | with_reducible apply Blk.drewN | with_reducible apply Blk.drew | with_reducible apply Blk.set_to | (with_reducible apply Blk.far_; (simp only [ne_eq]; omega)) | rfl)
  have cR0_2 : w2.cell? ⟨w.heap.size + 1 + 1, 0, none⟩ = some (.int .i64 0) := BR2.cell 0
  have cR1_2 : w2.cell? ⟨w.heap.size + 1 + 1, 1, none⟩ = some (.int .i64 0) := BR2.cell 1
  have cR2_2 : w2.cell? ⟨w.heap.size + 1 + 1, 2, none⟩ = some (.int .i64 0) := BR2.cell 2
  have lR2 : w.heap.size + 1 + 1 < w2.heap.size := BR2.lt
  have mR2 : w.heap.size + 1 + 1 < w2.heap.size + 1 := by omega
  have nR2 : w.heap.size + 1 + 1 < w2.heap.size + 1 + 1 := by omega
  have fR0_2 := BR2.frozen 0
  have fR1_2 := BR2.frozen 1
  have fR2_2 := BR2.frozen 2
  have BS2 : Blk w2 (w.heap.size + 1 + 1 + 1) 47 #[.int .i64 0, .int .i64 0, .int .i64 0] := by
    refine Blk.kept ?_ hb2
    repeat (first | with_reducible exact BS1 | with_reducible exact Blk.new _ _ _ | (with_reducible refine Blk.newAt _ _ _ _ ?_; first | rfl | (simp; done)) | with_reducible apply Blk.alloc | with_reducible apply Blk.drewN | with_reducible apply Blk.drew | with_reducible apply Blk.set_to | (with_reducible apply Blk.far_; (simp only [ne_eq]; omega)) | rfl)
  have cS0_2 : w2.cell? ⟨w.heap.size + 1 + 1 + 1, 0, none⟩ = some (.int .i64 0) := BS2.cell 0
  have cS1_2 : w2.cell? ⟨w.heap.size + 1 + 1 + 1, 1, none⟩ = some (.int .i64 0) := BS2.cell 1
  have cS2_2 : w2.cell? ⟨w.heap.size + 1 + 1 + 1, 2, none⟩ = some (.int .i64 0) := BS2.cell 2
  have lS2 : w.heap.size + 1 + 1 + 1 < w2.heap.size := BS2.lt
  have mS2 : w.heap.size + 1 + 1 + 1 < w2.heap.size + 1 := by omega
  have nS2 : w.heap.size + 1 + 1 + 1 < w2.heap.size + 1 + 1 := by omega
  have fS0_2 := BS2.frozen 0
  have fS1_2 := BS2.frozen 1
  have fS2_2 := BS2.frozen 2
  clear BP1 lP1 mP1 nP1 cP0_1 cP1_1 cP2_1 BQ1 lQ1 mQ1 nQ1 cQ0_1 cQ1_1 cQ2_1 BR1 lR1 mR1 nR1 cR0_1 cR1_1 cR2_1 fR0_1 fR1_1 fR2_1 BS1 lS1 mS1 nS1 cS0_1 cS1_1 cS2_1 fS0_1 fS1_1 fS2_1
  have hs2 : w.heap.size ≤ w2.heap.size := by have h := hb2.size; (try simp at h); omega
  go_wp2_with fail
  refine Calls.mono (q3 _ ?_) ?_
  · exact ht.kept (by repeat (first | exact Below.refl _ _ | refine below_drewN ?_ _ | refine Below.drew ?_ | refine below_alloc ?_ _ | (refine below_call ?_ (by assumption)) | (refine Below.setCell ?_ ?_ _; rotate_left; (simp; try omega))))
  rintro e w3 ⟨rfl, hb3⟩
  have BP3 : Blk w3 (w.heap.size) 47 #[.int .i64 a, .int .i64 b, .int .i64 c] := by
    refine Blk.kept ?_ hb3
    repeat (first | with_reducible exact BP2 | with_reducible exact Blk.new _ _ _ | (with_reducible refine Blk.newAt _ _ _ _ ?_; first | rfl | (simp; done)) | with_reducible apply Blk.alloc | with_reducible apply Blk.drewN | with_reducible apply Blk.drew | with_reducible apply Blk.set_to | (with_reducible apply Blk.far_; (simp only [ne_eq]; omega)) | rfl)
  have cP0_3 : w3.cell? ⟨w.heap.size, 0, none⟩ = some (.int .i64 a) := BP3.cell 0
  have cP1_3 : w3.cell? ⟨w.heap.size, 1, none⟩ = some (.int .i64 b) := BP3.cell 1
  have cP2_3 : w3.cell? ⟨w.heap.size, 2, none⟩ = some (.int .i64 c) := BP3.cell 2
  have lP3 : w.heap.size < w3.heap.size := BP3.lt
  have mP3 : w.heap.size < w3.heap.size + 1 := by omega
  have nP3 : w.heap.size < w3.heap.size + 1 + 1 := by omega
  have BQ3 : Blk w3 (w.heap.size + 1) 47 #[.int .i64 a', .int .i64 b', .int .i64 c'] := by
    refine Blk.kept ?_ hb3
    repeat (first | with_reducible exact BQ2 | with_reducible exact Blk.new _ _ _ | (with_reducible refine Blk.newAt _ _ _ _ ?_; first | rfl | (simp; done)) | with_reducible apply Blk.alloc | with_reducible apply Blk.drewN | with_reducible apply Blk.drew | with_reducible apply Blk.set_to | (with_reducible apply Blk.far_; (simp only [ne_eq]; omega)) | rfl)
  have cQ0_3 : w3.cell? ⟨w.heap.size + 1, 0, none⟩ = some (.int .i64 a') := BQ3.cell 0
  have cQ1_3 : w3.cell? ⟨w.heap.size + 1, 1, none⟩ = some (.int .i64 b') := BQ3.cell 1
  have cQ2_3 : w3.cell? ⟨w.heap.size + 1, 2, none⟩ = some (.int .i64 c') := BQ3.cell 2
  have lQ3 : w.heap.size + 1 < w3.heap.size := BQ3.lt
  have mQ3 : w.heap.size + 1 < w3.heap.size + 1 := by omega
  have nQ3 : w.heap.size + 1 < w3.heap.size + 1 + 1 := by omega
  have BR3 : Blk w3 (w.heap.size + 1 + 1) 47 #[.int .i64 0, .int .i64 0, .int .i64 0] := by
    refine Blk.kept ?_ hb3
    repeat (first | with_reducible exact BR2 | with_reducible exact Blk.new _ _ _ | (with_reducible refine Blk.newAt _ _ _ _ ?_; first | rfl | (simp; done)) | with_reducible apply Blk.alloc | with_reducible apply Blk.drewN | with_reducible apply Blk.drew | with_reducible apply Blk.set_to | (with_reducible apply Blk.far_; (simp only [ne_eq]; omega)) | rfl)
  have cR0_3 : w3.cell? ⟨w.heap.size + 1 + 1, 0, none⟩ = some (.int .i64 0) := BR3.cell 0
  have cR1_3 : w3.cell? ⟨w.heap.size + 1 + 1, 1, none⟩ = some (.int .i64 0) := BR3.cell 1
  have cR2_3 : w3.cell? ⟨w.heap.size + 1 + 1, 2, none⟩ = some (.int .i64 0) := BR3.cell 2
  have lR3 : w.heap.size + 1 + 1 < w3.heap.size := BR3.lt
  have mR3 : w.heap.size + 1 + 1 < w3.heap.size + 1 := by omega
  have nR3 : w.heap.size + 1 + 1 < w3.heap.size + 1 + 1 := by omega
  have fR0_3 := BR3.frozen 0
  have fR1_3 := BR3.frozen 1
  have fR2_3 := BR3.frozen 2
  have BS3 : Blk w3 (w.heap.size + 1 + 1 + 1) 47 #[.int .i64 0, .int .i64 0, .int .i64 0] := by
    refine Blk.kept ?_ hb3
    repeat (first | with_reducible exact BS2 | with_reducible exact Blk.new _ _ _ | (with_reducible refine Blk.newAt _ _ _ _ ?_; first | rfl | (simp; done)) | with_reducible apply Blk.alloc | with_reducible apply Blk.drewN | with_reducible apply Blk.drew | with_reducible apply Blk.set_to | (with_reducible apply Blk.far_; (simp only [ne_eq]; omega)) | rfl)
  have cS0_3 : w3.cell? ⟨w.heap.size + 1 + 1 + 1, 0, none⟩ = some (.int .i64 0) := BS3.cell 0
  have cS1_3 : w3.cell? ⟨w.heap.size + 1 + 1 + 1, 1, none⟩ = some (.int .i64 0) := BS3.cell 1
  have cS2_3 : w3.cell? ⟨w.heap.size + 1 + 1 + 1, 2, none⟩ = some (.int .i64 0) := BS3.cell 2
  have lS3 : w.heap.size + 1 + 1 + 1 < w3.heap.size := BS3.lt
  have mS3 : w.heap.size + 1 + 1 + 1 < w3.heap.size + 1 := by omega
  have nS3 : w.heap.size + 1 + 1 + 1 < w3.heap.size + 1 + 1 := by omega
  have fS0_3 := BS3.frozen 0
  have fS1_3 := BS3.frozen 1
  have fS2_3 := BS3.frozen 2
  clear BP2 lP2 mP2 nP2 cP0_2 cP1_2 cP2_2 BQ2 lQ2 mQ2 nQ2 cQ0_2 cQ1_2 cQ2_2 BR2 lR2 mR2 nR2 cR0_2 cR1_2 cR2_2 fR0_2 fR1_2 fR2_2 BS2 lS2 mS2 nS2 cS0_2 cS1_2 cS2_2 fS0_2 fS1_2 fS2_2
  have hs3 : w.heap.size ≤ w3.heap.size := by have h := hb3.size; (try simp at h); omega
  go_wp2_with fail
  refine Calls.mono (q4 _ ?_) ?_
  · exact ht.kept (by repeat (first | exact Below.refl _ _ | refine below_drewN ?_ _ | refine Below.drew ?_ | refine below_alloc ?_ _ | (refine below_call ?_ (by assumption)) | (refine Below.setCell ?_ ?_ _; rotate_left; (simp; try omega))))
  rintro e w4 ⟨rfl, hb4⟩
  have BP4 : Blk w4 (w.heap.size) 47 #[.int .i64 a, .int .i64 b, .int .i64 c] := by
    refine Blk.kept ?_ hb4
    repeat (first | with_reducible exact BP3 | with_reducible exact Blk.new _ _ _ | (with_reducible refine Blk.newAt _ _ _ _ ?_; first | rfl | (simp; done)) | with_reducible apply Blk.alloc | with_reducible apply Blk.drewN | with_reducible apply Blk.drew | with_reducible apply Blk.set_to | (with_reducible apply Blk.far_; (simp only [ne_eq]; omega)) | rfl)
  have cP0_4 : w4.cell? ⟨w.heap.size, 0, none⟩ = some (.int .i64 a) := BP4.cell 0
  have cP1_4 : w4.cell? ⟨w.heap.size, 1, none⟩ = some (.int .i64 b) := BP4.cell 1
  have cP2_4 : w4.cell? ⟨w.heap.size, 2, none⟩ = some (.int .i64 c) := BP4.cell 2
  have lP4 : w.heap.size < w4.heap.size := BP4.lt
  have mP4 : w.heap.size < w4.heap.size + 1 := by omega
  have nP4 : w.heap.size < w4.heap.size + 1 + 1 := by omega
  have BQ4 : Blk w4 (w.heap.size + 1) 47 #[.int .i64 a', .int .i64 b', .int .i64 c'] := by
    refine Blk.kept ?_ hb4
    repeat (first | with_reducible exact BQ3 | with_reducible exact Blk.new _ _ _ | (with_reducible refine Blk.newAt _ _ _ _ ?_; first | rfl | (simp; done)) | with_reducible apply Blk.alloc | with_reducible apply Blk.drewN | with_reducible apply Blk.drew | with_reducible apply Blk.set_to | (with_reducible apply Blk.far_; (simp only [ne_eq]; omega)) | rfl)
  have cQ0_4 : w4.cell? ⟨w.heap.size + 1, 0, none⟩ = some (.int .i64 a') := BQ4.cell 0
  have cQ1_4 : w4.cell? ⟨w.heap.size + 1, 1, none⟩ = some (.int .i64 b') := BQ4.cell 1
  have cQ2_4 : w4.cell? ⟨w.heap.size + 1, 2, none⟩ = some (.int .i64 c') := BQ4.cell 2
  have lQ4 : w.heap.size + 1 < w4.heap.size := BQ4.lt
  have mQ4 : w.heap.size + 1 < w4.heap.size + 1 := by omega
  have nQ4 : w.heap.size + 1 < w4.heap.size + 1 + 1 := by omega
  have BR4 : Blk w4 (w.heap.size + 1 + 1) 47 #[.int .i64 0, .int .i64 0, .int .i64 0] := by
    refine Blk.kept ?_ hb4
    repeat (first | with_reducible exact BR3 | with_reducible exact Blk.new _ _ _ | (with_reducible refine Blk.newAt _ _ _ _ ?_; first | rfl | (simp; done)) | with_reducible apply Blk.alloc | with_reducible apply Blk.drewN | with_reducible apply Blk.drew | with_reducible apply Blk.set_to | (with_reducible apply Blk.far_; (simp only [ne_eq]; omega)) | rfl)
  have cR0_4 : w4.cell? ⟨w.heap.size + 1 + 1, 0, none⟩ = some (.int .i64 0) := BR4.cell 0
  have cR1_4 : w4.cell? ⟨w.heap.size + 1 + 1, 1, none⟩ = some (.int .i64 0) := BR4.cell 1
  have cR2_4 : w4.cell? ⟨w.heap.size + 1 + 1, 2, none⟩ = some (.int .i64 0) := BR4.cell 2
  have lR4 : w.heap.size + 1 + 1 < w4.heap.size := BR4.lt
  have mR4 : w.heap.size + 1 + 1 < w4.heap.size + 1 := by omega
  have nR4 : w.heap.size + 1 + 1 < w4.heap.size + 1 + 1 := by omega
  have fR0_4 := BR4.frozen 0
  have fR1_4 := BR4.frozen 1
  have fR2_4 := BR4.frozen 2
  have BS4 : Blk w4 (w.heap.size + 1 + 1 + 1) 47 #[.int .i64 0, .int .i64 0, .int .i64 0] := by
    refine Blk.kept ?_ hb4
    repeat (first | with_reducible exact BS3 | with_reducible exact Blk.new _ _ _ | (with_reducible refine Blk.newAt _ _ _ _ ?_; first | rfl | (simp; done)) | with_reducible apply Blk.alloc | with_reducible apply Blk.drewN | with_reducible apply Blk.drew | with_reducible apply Blk.set_to | (with_reducible apply Blk.far_; (simp only [ne_eq]; omega)) | rfl)
  have cS0_4 : w4.cell? ⟨w.heap.size + 1 + 1 + 1, 0, none⟩ = some (.int .i64 0) := BS4.cell 0
  have cS1_4 : w4.cell? ⟨w.heap.size + 1 + 1 + 1, 1, none⟩ = some (.int .i64 0) := BS4.cell 1
  have cS2_4 : w4.cell? ⟨w.heap.size + 1 + 1 + 1, 2, none⟩ = some (.int .i64 0) := BS4.cell 2
  have lS4 : w.heap.size + 1 + 1 + 1 < w4.heap.size := BS4.lt
  have mS4 : w.heap.size + 1 + 1 + 1 < w4.heap.size + 1 := by omega
  have nS4 : w.heap.size + 1 + 1 + 1 < w4.heap.size + 1 + 1 := by omega
  have fS0_4 := BS4.frozen 0
  have fS1_4 := BS4.frozen 1
  have fS2_4 := BS4.frozen 2
  clear BP3 lP3 mP3 nP3 cP0_3 cP1_3 cP2_3 BQ3 lQ3 mQ3 nQ3 cQ0_3 cQ1_3 cQ2_3 BR3 lR3 mR3 nR3 cR0_3 cR1_3 cR2_3 fR0_3 fR1_3 fR2_3 BS3 lS3 mS3 nS3 cS0_3 cS1_3 cS2_3 fS0_3 fS1_3 fS2_3
  have hs4 : w.heap.size ≤ w4.heap.size := by have h := hb4.size; (try simp at h); omega
  have kb : Below w.heap.size w w4 := by repeat (first | exact Below.refl _ _ | refine below_drewN ?_ _ | refine Below.drew ?_ | refine below_alloc ?_ _ | (refine below_call ?_ (by assumption)) | (refine Below.setCell ?_ ?_ _; rotate_left; (simp; try omega)))
  clear q1 q2 q3 q4
  go_wp2
  all_goals
    go_region
    go_wp2
    refine ret_of (by simp [results, Tryz.results173, go_sem, *]; repeat' (first | rfl | apply And.intro)) rfl ⟨?_, by repeat (first | with_reducible exact Below.refl _ _ | with_reducible assumption | with_reducible refine below_drewN ?_ _ | with_reducible refine Below.drew ?_ | with_reducible refine below_alloc ?_ _ | (with_reducible refine Below.setCell ?_ ?_ _; rotate_left; ((try simp only); omega)))⟩
    first
      | rw [(E.out.1 (by omega)).1, (E.out.1 (by omega)).2]
      | rw [(E.out.2 (by omega)).1, (E.out.2 (by omega)).2]
set_option maxRecDepth 100000 in
set_option maxHeartbeats 8000000 in
theorem btw_ok (p q : Int × Int × Int) (hp : pchk p = 0) (hq : pchk q = 0) (w : World) (ht : Tabs w) :
    Calls Tryz.prog 88 #[vP p, vP q] w fun e w' => e = .returned (.tuple #[.agg #[.int .i64 (btw p q).1, .int .i64 (btw p q).2], .int .i64 0]) ∧ Below w.heap.size w w' := by
  obtain ⟨g0, g1, g2, g3, g4, g5⟩ := pchk_ok hp
  obtain ⟨h0, h1, h2, h3, h4, h5⟩ := pchk_ok hq
  have HP := htP_bd hp
  have HQ := htP_bd hq
  have hbp : (pchk p != 0) = false := by simpa using hp
  have hbq : (pchk q != 0) = false := by simpa using hq
  have NP := Lib.hid (show btw p q = (7 * q.2.1 + q.1 - (7 * p.2.1 + p.1), htP q - htP p) by rfl)
  obtain ⟨a, b, c⟩ := p
  obtain ⟨a', b', c'⟩ := q
  simp only at g0 g1 g2 g3 g4 g5 h0 h1 h2 h3 h4 h5 NP
  have z1 := fun w ht => toneHeight_any a b c w ht g0 g1 g2 g3 g4 g5
  have z2 := fun w ht => toneHeight_any a' b' c' w ht h0 h1 h2 h3 h4 h5
  have i0 : ∀ w, (Instr.index 158 (.agg #[.int .i64 a, .int .i64 b, .int .i64 c, .int .i64 a', .int .i64 b', .int .i64 c']) (.int .i64 0)).run Tryz.prog w = .ok (.agg #[.int .i64 a, .int .i64 b, .int .i64 c]) w := fun _ => by kernel_rfl
  have i1 : ∀ w, (Instr.index 158 (.agg #[.int .i64 a, .int .i64 b, .int .i64 c, .int .i64 a', .int .i64 b', .int .i64 c']) (.int .i64 1)).run Tryz.prog w = .ok (.agg #[.int .i64 a', .int .i64 b', .int .i64 c']) w := fun _ => by kernel_rfl
  go_enter Tryz.func88, Tryz.ntmps88
  go_wp2
  go_loopw [7, 8, 14] (fun _ _ i wr => ∃ k : Nat, k ≤ 2 ∧ i = .int .i64 k ∧ Below w.heap.size w wr ∧ Blk wr w.heap.size 47 #[.int .i64 a, .int .i64 b, .int .i64 c] ∧ Blk wr (w.heap.size + 1) 47 #[.int .i64 a', .int .i64 b', .int .i64 c'] ∧ Blk wr (w.heap.size + 1 + 1) 131 #[.int .i64 0, .int .i64 0]) (fun _ _ i _ => 2 - (intOf i).toNat)
  case atStart => exact ⟨0, by omega, rfl, by repeat (first | exact Below.refl _ _ | refine below_drewN ?_ _ | refine Below.drew ?_ | refine below_alloc ?_ _ | (refine below_call ?_ (by assumption)) | (refine Below.setCell ?_ ?_ _; rotate_left; (simp; try omega))), ((Blk.new _ _ _).alloc _).alloc _, Blk.alloc (Blk.newAt _ _ _ _ (by simp)) _, Blk.newAt _ _ _ _ (by simp)⟩
  case round =>
    obtain ⟨k, hk, rfl, k0, r0, s0, q0⟩ := hrel
    have en := r0.cell; have gn := r0.frozen; have zn := r0.lt
    have fn := s0.cell; have hn := s0.frozen; have yn := s0.lt
    have qn := q0.cell; have un := q0.frozen; have vn := q0.lt
    match k, hk with
    | 0, _ =>
      rw [show ((0 : Nat) : Int) = 0 by rfl]
      go_wp2_with (go_at_call 120; refine (pcheck_any (_, _, _) _).mono ?_; rintro e w1 ⟨rfl, hb1⟩; have r2 := (r0.alloc _).kept hb1; have s2 := (s0.alloc _).kept hb1; have q2 := (q0.alloc _).kept hb1; have k2 := below_call (below_alloc k0 _) hb1; have cq := q2.cell; have fq := q2.frozen; have vq := q2.lt)
      go_roundw
      case rel => exact ⟨1, by omega, rfl, k2, r2, s2, q2⟩
      case measure => simp [intOf]
    | 1, _ =>
      rw [show ((1 : Nat) : Int) = 1 by rfl]
      go_wp2_with (go_at_call 120; refine (pcheck_any (_, _, _) _).mono ?_; rintro e w1 ⟨rfl, hb1⟩; have r2 := (r0.alloc _).kept hb1; have s2 := (s0.alloc _).kept hb1; have q2 := (q0.alloc _).kept hb1; have k2 := below_call (below_alloc k0 _) hb1; have cq := q2.cell; have fq := q2.frozen; have vq := q2.lt)
      go_roundw
      case rel => exact ⟨2, by omega, rfl, k2, r2, s2, q2⟩
      case measure => simp [intOf]
    | 2, _ =>
      rw [show ((2 : Nat) : Int) = 2 by rfl]
      have o1 := fun w => of_any' a b c w g0 g1 g2 g3
      have o2 := fun w => of_any' a' b' c' w h0 h1 h2 h3
      clear hp hq hbp hbq i0 i1
      go_wp2_with fail
      obtain ⟨wv, hwv⟩ : ∃ x, x = wr := ⟨_, rfl⟩
      rw [← hwv] at k0 r0 s0 q0 ⊢
      clear en gn zn fn hn yn qn un vn hwv
      have zF := r0.lt; have zT := s0.lt
      have f0 : wv.cell? ⟨w.heap.size, 0, none⟩ = some (.int .i64 a) := r0.cell 0
      have f1 : wv.cell? ⟨w.heap.size, 1, none⟩ = some (.int .i64 b) := r0.cell 1
      have f2 : wv.cell? ⟨w.heap.size, 2, none⟩ = some (.int .i64 c) := r0.cell 2
      have t0 : wv.cell? ⟨w.heap.size + 1, 0, none⟩ = some (.int .i64 a') := s0.cell 0
      have t1 : wv.cell? ⟨w.heap.size + 1, 1, none⟩ = some (.int .i64 b') := s0.cell 1
      have t2 : wv.cell? ⟨w.heap.size + 1, 2, none⟩ = some (.int .i64 c') := s0.cell 2
      -- pair
      apply share
      · intro main
        go_region_held3 (fun w' => w'.cell? ⟨w.heap.size, 0, none⟩ = some (.int .i64 a) ∧ w'.cell? ⟨w.heap.size, 1, none⟩ = some (.int .i64 b) ∧ w'.cell? ⟨w.heap.size, 2, none⟩ = some (.int .i64 c) ∧ w'.cell? ⟨w.heap.size + 1, 0, none⟩ = some (.int .i64 a') ∧ w'.cell? ⟨w.heap.size + 1, 1, none⟩ = some (.int .i64 b') ∧ w'.cell? ⟨w.heap.size + 1, 2, none⟩ = some (.int .i64 c') ∧ Below wv.heap.size wv w') ((refine (fun hb => ⟨(hb.cell (p := ⟨_, _, none⟩) zF).trans f0, (hb.cell (p := ⟨_, _, none⟩) zF).trans f1, (hb.cell (p := ⟨_, _, none⟩) zF).trans f2, (hb.cell (p := ⟨_, _, none⟩) zT).trans t0, (hb.cell (p := ⟨_, _, none⟩) zT).trans t1, (hb.cell (p := ⟨_, _, none⟩) zT).trans t2, hb⟩) ?_; repeat (first | exact Below.refl _ _ | exact hBe | exact hBd | exact (show _ ∧ _ ∧ _ ∧ _ ∧ _ ∧ _ ∧ Below wv.heap.size wv _ by assumption).2.2.2.2.2.2 | refine Below.drew ?_ | refine below_alloc ?_ _ | (refine Below.setCell ?_ ?_ _; rotate_left; (first | (have hz := hBd.size; have hz' := hBe.size; show wv.heap.size ≤ _; simp only; omega) | (have hz := hBd.size; show wv.heap.size ≤ _; simp only; omega) | (show wv.heap.size ≤ _; simp only; omega)))))) (first | (go_at_call 121; (with_reducible refine (o1 _).mono ?_); rintro e wd ⟨rfl, hbd⟩; have hBd := below_call (show _ ∧ _ ∧ _ ∧ _ ∧ _ ∧ _ ∧ Below wv.heap.size wv _ by assumption).2.2.2.2.2.2 hbd; have hcd := (bcell hbd).1; have hfd := (bcell hbd).2; (try (refine lay_blk hbd (wv.heap.size) (t := 161) (cs := #[.int .i64 0, .int .i64 0]) ?_ ?_; (focus ((repeat (first | with_reducible exact Blk.new _ _ _ | (with_reducible refine Blk.newAt _ _ _ _ ?_; first | rfl | (simp; done)) | with_reducible apply Blk.alloc | with_reducible apply Blk.drewN | with_reducible apply Blk.drew | with_reducible assumption)); done)); intro lzP lcP lfP lbP)); (try (refine lay_blk hbd (wv.heap.size + 1) (t := 161) (cs := #[.int .i64 0, .int .i64 0]) ?_ ?_; (focus ((repeat (first | with_reducible exact Blk.new _ _ _ | (with_reducible refine Blk.newAt _ _ _ _ ?_; first | rfl | (simp; done)) | with_reducible apply Blk.alloc | with_reducible apply Blk.drewN | with_reducible apply Blk.drew | with_reducible assumption)); done)); intro lzQ lcQ lfQ lbQ))) | (go_at_call 121; (with_reducible refine (o2 _).mono ?_); rintro e we ⟨rfl, hbe⟩; have hBe := below_call (show _ ∧ _ ∧ _ ∧ _ ∧ _ ∧ _ ∧ Below wv.heap.size wv _ by assumption).2.2.2.2.2.2 hbe; have hce := (bcell hbe).1; have hfe := (bcell hbe).2; (try (refine lay_blk hbe (wv.heap.size) (t := 161) (cs := #[.int .i64 0, .int .i64 0]) ?_ ?_; (focus ((repeat (first | with_reducible exact Blk.new _ _ _ | (with_reducible refine Blk.newAt _ _ _ _ ?_; first | rfl | (simp; done)) | with_reducible apply Blk.alloc | with_reducible apply Blk.drewN | with_reducible apply Blk.drew | with_reducible assumption | with_reducible apply Blk.kept (hb := hbd))); done)); intro lzR lcR lfR lbR)); (try (refine lay_blk hbe (wv.heap.size + 1) (t := 161) (cs := #[.int .i64 0, .int .i64 0]) ?_ ?_; (focus ((repeat (first | with_reducible exact Blk.new _ _ _ | (with_reducible refine Blk.newAt _ _ _ _ ?_; first | rfl | (simp; done)) | with_reducible apply Blk.alloc | with_reducible apply Blk.drewN | with_reducible apply Blk.drew | with_reducible assumption | with_reducible apply Blk.kept (hb := hbd))); done)); intro lzS lcS lfS lbS)); (try (refine lay_blk hbe (wd.heap.size) (t := 161) (cs := #[.int .i64 0, .int .i64 0]) ?_ ?_; (focus ((repeat (first | with_reducible exact Blk.new _ _ _ | (with_reducible refine Blk.newAt _ _ _ _ ?_; first | rfl | (simp; done)) | with_reducible apply Blk.alloc | with_reducible apply Blk.drewN | with_reducible apply Blk.drew | with_reducible assumption)); done)); intro lzT lcT lfT lbT)); (try (refine lay_blk hbe (wd.heap.size + 1) (t := 161) (cs := #[.int .i64 0, .int .i64 0]) ?_ ?_; (focus ((repeat (first | with_reducible exact Blk.new _ _ _ | (with_reducible refine Blk.newAt _ _ _ _ ?_; first | rfl | (simp; done)) | with_reducible apply Blk.alloc | with_reducible apply Blk.drewN | with_reducible apply Blk.drew | with_reducible assumption)); done)); intro lzU lcU lfU lbU))))
        all_goals
          have hB5 := (show _ ∧ _ ∧ _ ∧ _ ∧ _ ∧ _ ∧ Below wv.heap.size wv _ by assumption).2.2.2.2.2.2
          have hz1 := hbd.size
          have hz2 := hbe.size
          simp at hz1 hz2
          obtain ⟨wx, hwx⟩ := name_world hB5
          rw [← hwx] at hB5 ⊢
          first
            | ((first | (refine pick_block (wv := wx) (lo := wv.heap.size) (t := 161) (wv.heap.size + 1) #[.int .i64 (7 * b + a), .int .i64 c] ?_ ?_ ?_; (focus omega); (focus (rw [hwx]; repeat (first | with_reducible exact Blk.new _ _ _ | (with_reducible refine Blk.newAt _ _ _ _ ?_; first | rfl | (simp; done)) | with_reducible apply Blk.alloc | with_reducible apply Blk.drewN | with_reducible apply Blk.drew | with_reducible apply Blk.set_to | (with_reducible apply Blk.far_; (simp only [ne_eq]; omega)) | (with_reducible apply Blk.kept (hb := hbd)) | (with_reducible apply Blk.kept (hb := hbe)) | rfl))); intro gU hgU lU BU; rw [← hgU]; clear hgU) | (refine pick_block (wv := wx) (lo := wv.heap.size) (t := 161) (wd.heap.size + 1) #[.int .i64 (7 * b + a), .int .i64 c] ?_ ?_ ?_; (focus omega); (focus (rw [hwx]; repeat (first | with_reducible exact Blk.new _ _ _ | (with_reducible refine Blk.newAt _ _ _ _ ?_; first | rfl | (simp; done)) | with_reducible apply Blk.alloc | with_reducible apply Blk.drewN | with_reducible apply Blk.drew | with_reducible apply Blk.set_to | (with_reducible apply Blk.far_; (simp only [ne_eq]; omega)) | (with_reducible apply Blk.kept (hb := hbd)) | (with_reducible apply Blk.kept (hb := hbe)) | rfl))); intro gU hgU lU BU; rw [← hgU]; clear hgU) | (refine pick_block (wv := wx) (lo := wv.heap.size) (t := 161) (we.heap.size + 1) #[.int .i64 (7 * b + a), .int .i64 c] ?_ ?_ ?_; (focus omega); (focus (rw [hwx]; repeat (first | with_reducible exact Blk.new _ _ _ | (with_reducible refine Blk.newAt _ _ _ _ ?_; first | rfl | (simp; done)) | with_reducible apply Blk.alloc | with_reducible apply Blk.drewN | with_reducible apply Blk.drew | with_reducible apply Blk.set_to | (with_reducible apply Blk.far_; (simp only [ne_eq]; omega)) | (with_reducible apply Blk.kept (hb := hbd)) | (with_reducible apply Blk.kept (hb := hbe)) | rfl))); intro gU hgU lU BU; rw [← hgU]; clear hgU)); (first | (refine pick_block (wv := wx) (lo := wv.heap.size) (t := 161) (wv.heap.size + 1) #[.int .i64 (7 * b' + a'), .int .i64 c'] ?_ ?_ ?_; (focus omega); (focus (rw [hwx]; repeat (first | with_reducible exact Blk.new _ _ _ | (with_reducible refine Blk.newAt _ _ _ _ ?_; first | rfl | (simp; done)) | with_reducible apply Blk.alloc | with_reducible apply Blk.drewN | with_reducible apply Blk.drew | with_reducible apply Blk.set_to | (with_reducible apply Blk.far_; (simp only [ne_eq]; omega)) | (with_reducible apply Blk.kept (hb := hbd)) | (with_reducible apply Blk.kept (hb := hbe)) | rfl))); intro gV hgV lV BV; rw [← hgV]; clear hgV) | (refine pick_block (wv := wx) (lo := wv.heap.size) (t := 161) (wd.heap.size + 1) #[.int .i64 (7 * b' + a'), .int .i64 c'] ?_ ?_ ?_; (focus omega); (focus (rw [hwx]; repeat (first | with_reducible exact Blk.new _ _ _ | (with_reducible refine Blk.newAt _ _ _ _ ?_; first | rfl | (simp; done)) | with_reducible apply Blk.alloc | with_reducible apply Blk.drewN | with_reducible apply Blk.drew | with_reducible apply Blk.set_to | (with_reducible apply Blk.far_; (simp only [ne_eq]; omega)) | (with_reducible apply Blk.kept (hb := hbd)) | (with_reducible apply Blk.kept (hb := hbe)) | rfl))); intro gV hgV lV BV; rw [← hgV]; clear hgV) | (refine pick_block (wv := wx) (lo := wv.heap.size) (t := 161) (we.heap.size + 1) #[.int .i64 (7 * b' + a'), .int .i64 c'] ?_ ?_ ?_; (focus omega); (focus (rw [hwx]; repeat (first | with_reducible exact Blk.new _ _ _ | (with_reducible refine Blk.newAt _ _ _ _ ?_; first | rfl | (simp; done)) | with_reducible apply Blk.alloc | with_reducible apply Blk.drewN | with_reducible apply Blk.drew | with_reducible apply Blk.set_to | (with_reducible apply Blk.far_; (simp only [ne_eq]; omega)) | (with_reducible apply Blk.kept (hb := hbd)) | (with_reducible apply Blk.kept (hb := hbe)) | rfl))); intro gV hgV lV BV; rw [← hgV]; clear hgV) | (refine pick_block (wv := wx) (lo := wv.heap.size) (t := 161) (wv.heap.size) #[.int .i64 (7 * b' + a'), .int .i64 c'] ?_ ?_ ?_; (focus omega); (focus (rw [hwx]; repeat (first | with_reducible exact Blk.new _ _ _ | (with_reducible refine Blk.newAt _ _ _ _ ?_; first | rfl | (simp; done)) | with_reducible apply Blk.alloc | with_reducible apply Blk.drewN | with_reducible apply Blk.drew | with_reducible apply Blk.set_to | (with_reducible apply Blk.far_; (simp only [ne_eq]; omega)) | (with_reducible apply Blk.kept (hb := hbd)) | (with_reducible apply Blk.kept (hb := hbe)) | rfl))); intro gV hgV lV BV; rw [← hgV]; clear hgV) | (refine pick_block (wv := wx) (lo := wv.heap.size) (t := 161) (wd.heap.size) #[.int .i64 (7 * b' + a'), .int .i64 c'] ?_ ?_ ?_; (focus omega); (focus (rw [hwx]; repeat (first | with_reducible exact Blk.new _ _ _ | (with_reducible refine Blk.newAt _ _ _ _ ?_; first | rfl | (simp; done)) | with_reducible apply Blk.alloc | with_reducible apply Blk.drewN | with_reducible apply Blk.drew | with_reducible apply Blk.set_to | (with_reducible apply Blk.far_; (simp only [ne_eq]; omega)) | (with_reducible apply Blk.kept (hb := hbd)) | (with_reducible apply Blk.kept (hb := hbe)) | rfl))); intro gV hgV lV BV; rw [← hgV]; clear hgV) | (refine pick_block (wv := wx) (lo := wv.heap.size) (t := 161) (we.heap.size) #[.int .i64 (7 * b' + a'), .int .i64 c'] ?_ ?_ ?_; (focus omega); (focus (rw [hwx]; repeat (first | with_reducible exact Blk.new _ _ _ | (with_reducible refine Blk.newAt _ _ _ _ ?_; first | rfl | (simp; done)) | with_reducible apply Blk.alloc | with_reducible apply Blk.drewN | with_reducible apply Blk.drew | with_reducible apply Blk.set_to | (with_reducible apply Blk.far_; (simp only [ne_eq]; omega)) | (with_reducible apply Blk.kept (hb := hbd)) | (with_reducible apply Blk.kept (hb := hbe)) | rfl))); intro gV hgV lV BV; rw [← hgV]; clear hgV)); revert BV; revert lV; revert BU; revert lU; revert gV; revert gU; revert hB5; clear hwx; revert wx; exact main.out)
            | ((first | (refine pick_block (wv := wx) (lo := wv.heap.size) (t := 161) (wv.heap.size + 1) #[.int .i64 (7 * b' + a'), .int .i64 c'] ?_ ?_ ?_; (focus omega); (focus (rw [hwx]; repeat (first | with_reducible exact Blk.new _ _ _ | (with_reducible refine Blk.newAt _ _ _ _ ?_; first | rfl | (simp; done)) | with_reducible apply Blk.alloc | with_reducible apply Blk.drewN | with_reducible apply Blk.drew | with_reducible apply Blk.set_to | (with_reducible apply Blk.far_; (simp only [ne_eq]; omega)) | (with_reducible apply Blk.kept (hb := hbd)) | (with_reducible apply Blk.kept (hb := hbe)) | rfl))); intro gV hgV lV BV; rw [← hgV]; clear hgV) | (refine pick_block (wv := wx) (lo := wv.heap.size) (t := 161) (wd.heap.size + 1) #[.int .i64 (7 * b' + a'), .int .i64 c'] ?_ ?_ ?_; (focus omega); (focus (rw [hwx]; repeat (first | with_reducible exact Blk.new _ _ _ | (with_reducible refine Blk.newAt _ _ _ _ ?_; first | rfl | (simp; done)) | with_reducible apply Blk.alloc | with_reducible apply Blk.drewN | with_reducible apply Blk.drew | with_reducible apply Blk.set_to | (with_reducible apply Blk.far_; (simp only [ne_eq]; omega)) | (with_reducible apply Blk.kept (hb := hbd)) | (with_reducible apply Blk.kept (hb := hbe)) | rfl))); intro gV hgV lV BV; rw [← hgV]; clear hgV) | (refine pick_block (wv := wx) (lo := wv.heap.size) (t := 161) (we.heap.size + 1) #[.int .i64 (7 * b' + a'), .int .i64 c'] ?_ ?_ ?_; (focus omega); (focus (rw [hwx]; repeat (first | with_reducible exact Blk.new _ _ _ | (with_reducible refine Blk.newAt _ _ _ _ ?_; first | rfl | (simp; done)) | with_reducible apply Blk.alloc | with_reducible apply Blk.drewN | with_reducible apply Blk.drew | with_reducible apply Blk.set_to | (with_reducible apply Blk.far_; (simp only [ne_eq]; omega)) | (with_reducible apply Blk.kept (hb := hbd)) | (with_reducible apply Blk.kept (hb := hbe)) | rfl))); intro gV hgV lV BV; rw [← hgV]; clear hgV)); (first | (refine pick_block (wv := wx) (lo := wv.heap.size) (t := 161) (wv.heap.size + 1) #[.int .i64 (7 * b + a), .int .i64 c] ?_ ?_ ?_; (focus omega); (focus (rw [hwx]; repeat (first | with_reducible exact Blk.new _ _ _ | (with_reducible refine Blk.newAt _ _ _ _ ?_; first | rfl | (simp; done)) | with_reducible apply Blk.alloc | with_reducible apply Blk.drewN | with_reducible apply Blk.drew | with_reducible apply Blk.set_to | (with_reducible apply Blk.far_; (simp only [ne_eq]; omega)) | (with_reducible apply Blk.kept (hb := hbd)) | (with_reducible apply Blk.kept (hb := hbe)) | rfl))); intro gU hgU lU BU; rw [← hgU]; clear hgU) | (refine pick_block (wv := wx) (lo := wv.heap.size) (t := 161) (wd.heap.size + 1) #[.int .i64 (7 * b + a), .int .i64 c] ?_ ?_ ?_; (focus omega); (focus (rw [hwx]; repeat (first | with_reducible exact Blk.new _ _ _ | (with_reducible refine Blk.newAt _ _ _ _ ?_; first | rfl | (simp; done)) | with_reducible apply Blk.alloc | with_reducible apply Blk.drewN | with_reducible apply Blk.drew | with_reducible apply Blk.set_to | (with_reducible apply Blk.far_; (simp only [ne_eq]; omega)) | (with_reducible apply Blk.kept (hb := hbd)) | (with_reducible apply Blk.kept (hb := hbe)) | rfl))); intro gU hgU lU BU; rw [← hgU]; clear hgU) | (refine pick_block (wv := wx) (lo := wv.heap.size) (t := 161) (we.heap.size + 1) #[.int .i64 (7 * b + a), .int .i64 c] ?_ ?_ ?_; (focus omega); (focus (rw [hwx]; repeat (first | with_reducible exact Blk.new _ _ _ | (with_reducible refine Blk.newAt _ _ _ _ ?_; first | rfl | (simp; done)) | with_reducible apply Blk.alloc | with_reducible apply Blk.drewN | with_reducible apply Blk.drew | with_reducible apply Blk.set_to | (with_reducible apply Blk.far_; (simp only [ne_eq]; omega)) | (with_reducible apply Blk.kept (hb := hbd)) | (with_reducible apply Blk.kept (hb := hbe)) | rfl))); intro gU hgU lU BU; rw [← hgU]; clear hgU) | (refine pick_block (wv := wx) (lo := wv.heap.size) (t := 161) (wv.heap.size) #[.int .i64 (7 * b + a), .int .i64 c] ?_ ?_ ?_; (focus omega); (focus (rw [hwx]; repeat (first | with_reducible exact Blk.new _ _ _ | (with_reducible refine Blk.newAt _ _ _ _ ?_; first | rfl | (simp; done)) | with_reducible apply Blk.alloc | with_reducible apply Blk.drewN | with_reducible apply Blk.drew | with_reducible apply Blk.set_to | (with_reducible apply Blk.far_; (simp only [ne_eq]; omega)) | (with_reducible apply Blk.kept (hb := hbd)) | (with_reducible apply Blk.kept (hb := hbe)) | rfl))); intro gU hgU lU BU; rw [← hgU]; clear hgU) | (refine pick_block (wv := wx) (lo := wv.heap.size) (t := 161) (wd.heap.size) #[.int .i64 (7 * b + a), .int .i64 c] ?_ ?_ ?_; (focus omega); (focus (rw [hwx]; repeat (first | with_reducible exact Blk.new _ _ _ | (with_reducible refine Blk.newAt _ _ _ _ ?_; first | rfl | (simp; done)) | with_reducible apply Blk.alloc | with_reducible apply Blk.drewN | with_reducible apply Blk.drew | with_reducible apply Blk.set_to | (with_reducible apply Blk.far_; (simp only [ne_eq]; omega)) | (with_reducible apply Blk.kept (hb := hbd)) | (with_reducible apply Blk.kept (hb := hbe)) | rfl))); intro gU hgU lU BU; rw [← hgU]; clear hgU) | (refine pick_block (wv := wx) (lo := wv.heap.size) (t := 161) (we.heap.size) #[.int .i64 (7 * b + a), .int .i64 c] ?_ ?_ ?_; (focus omega); (focus (rw [hwx]; repeat (first | with_reducible exact Blk.new _ _ _ | (with_reducible refine Blk.newAt _ _ _ _ ?_; first | rfl | (simp; done)) | with_reducible apply Blk.alloc | with_reducible apply Blk.drewN | with_reducible apply Blk.drew | with_reducible apply Blk.set_to | (with_reducible apply Blk.far_; (simp only [ne_eq]; omega)) | (with_reducible apply Blk.kept (hb := hbd)) | (with_reducible apply Blk.kept (hb := hbe)) | rfl))); intro gU hgU lU BU; rw [← hgU]; clear hgU)); revert BV; revert lV; revert BU; revert lU; revert gV; revert gU; revert hB5; clear hwx; revert wx; exact main.out)
            | ((first | (refine pick_block (wv := wx) (lo := wv.heap.size) (t := 161) (wv.heap.size) #[.int .i64 (7 * b + a), .int .i64 c] ?_ ?_ ?_; (focus omega); (focus (rw [hwx]; repeat (first | with_reducible exact Blk.new _ _ _ | (with_reducible refine Blk.newAt _ _ _ _ ?_; first | rfl | (simp; done)) | with_reducible apply Blk.alloc | with_reducible apply Blk.drewN | with_reducible apply Blk.drew | with_reducible apply Blk.set_to | (with_reducible apply Blk.far_; (simp only [ne_eq]; omega)) | (with_reducible apply Blk.kept (hb := hbd)) | (with_reducible apply Blk.kept (hb := hbe)) | rfl))); intro gU hgU lU BU; rw [← hgU]; clear hgU) | (refine pick_block (wv := wx) (lo := wv.heap.size) (t := 161) (wd.heap.size) #[.int .i64 (7 * b + a), .int .i64 c] ?_ ?_ ?_; (focus omega); (focus (rw [hwx]; repeat (first | with_reducible exact Blk.new _ _ _ | (with_reducible refine Blk.newAt _ _ _ _ ?_; first | rfl | (simp; done)) | with_reducible apply Blk.alloc | with_reducible apply Blk.drewN | with_reducible apply Blk.drew | with_reducible apply Blk.set_to | (with_reducible apply Blk.far_; (simp only [ne_eq]; omega)) | (with_reducible apply Blk.kept (hb := hbd)) | (with_reducible apply Blk.kept (hb := hbe)) | rfl))); intro gU hgU lU BU; rw [← hgU]; clear hgU) | (refine pick_block (wv := wx) (lo := wv.heap.size) (t := 161) (we.heap.size) #[.int .i64 (7 * b + a), .int .i64 c] ?_ ?_ ?_; (focus omega); (focus (rw [hwx]; repeat (first | with_reducible exact Blk.new _ _ _ | (with_reducible refine Blk.newAt _ _ _ _ ?_; first | rfl | (simp; done)) | with_reducible apply Blk.alloc | with_reducible apply Blk.drewN | with_reducible apply Blk.drew | with_reducible apply Blk.set_to | (with_reducible apply Blk.far_; (simp only [ne_eq]; omega)) | (with_reducible apply Blk.kept (hb := hbd)) | (with_reducible apply Blk.kept (hb := hbe)) | rfl))); intro gU hgU lU BU; rw [← hgU]; clear hgU)); (first | (refine pick_block (wv := wx) (lo := wv.heap.size) (t := 161) (wv.heap.size) #[.int .i64 (7 * b' + a'), .int .i64 c'] ?_ ?_ ?_; (focus omega); (focus (rw [hwx]; repeat (first | with_reducible exact Blk.new _ _ _ | (with_reducible refine Blk.newAt _ _ _ _ ?_; first | rfl | (simp; done)) | with_reducible apply Blk.alloc | with_reducible apply Blk.drewN | with_reducible apply Blk.drew | with_reducible apply Blk.set_to | (with_reducible apply Blk.far_; (simp only [ne_eq]; omega)) | (with_reducible apply Blk.kept (hb := hbd)) | (with_reducible apply Blk.kept (hb := hbe)) | rfl))); intro gV hgV lV BV; rw [← hgV]; clear hgV) | (refine pick_block (wv := wx) (lo := wv.heap.size) (t := 161) (wd.heap.size) #[.int .i64 (7 * b' + a'), .int .i64 c'] ?_ ?_ ?_; (focus omega); (focus (rw [hwx]; repeat (first | with_reducible exact Blk.new _ _ _ | (with_reducible refine Blk.newAt _ _ _ _ ?_; first | rfl | (simp; done)) | with_reducible apply Blk.alloc | with_reducible apply Blk.drewN | with_reducible apply Blk.drew | with_reducible apply Blk.set_to | (with_reducible apply Blk.far_; (simp only [ne_eq]; omega)) | (with_reducible apply Blk.kept (hb := hbd)) | (with_reducible apply Blk.kept (hb := hbe)) | rfl))); intro gV hgV lV BV; rw [← hgV]; clear hgV) | (refine pick_block (wv := wx) (lo := wv.heap.size) (t := 161) (we.heap.size) #[.int .i64 (7 * b' + a'), .int .i64 c'] ?_ ?_ ?_; (focus omega); (focus (rw [hwx]; repeat (first | with_reducible exact Blk.new _ _ _ | (with_reducible refine Blk.newAt _ _ _ _ ?_; first | rfl | (simp; done)) | with_reducible apply Blk.alloc | with_reducible apply Blk.drewN | with_reducible apply Blk.drew | with_reducible apply Blk.set_to | (with_reducible apply Blk.far_; (simp only [ne_eq]; omega)) | (with_reducible apply Blk.kept (hb := hbd)) | (with_reducible apply Blk.kept (hb := hbe)) | rfl))); intro gV hgV lV BV; rw [← hgV]; clear hgV)); revert BV; revert lV; revert BU; revert lU; revert gV; revert gU; revert hB5; clear hwx; revert wx; exact main.out)
            | (refine pick_two (lo := wv.heap.size) (t := 161) (z := .int .i64 0) (z' := .int .i64 0) (y := .int .i64 0) (y' := .int .i64 0) hwx ?_ ?_ ?_ ?_ ?_ ?_; (focus (simp only [ne_eq]; omega)); (focus (repeat (first | with_reducible exact Blk.new _ _ _ | (with_reducible refine Blk.newAt _ _ _ _ ?_; first | rfl | (simp; done)) | with_reducible assumption | with_reducible apply Blk.alloc | with_reducible apply Blk.drewN | with_reducible apply Blk.drew | with_reducible apply Blk.kept (hb := hbe) | with_reducible apply Blk.kept (hb := hbd)))); (focus (repeat (first | with_reducible exact Blk.new _ _ _ | (with_reducible refine Blk.newAt _ _ _ _ ?_; first | rfl | (simp; done)) | with_reducible assumption | with_reducible apply Blk.alloc | with_reducible apply Blk.drewN | with_reducible apply Blk.drew | with_reducible apply Blk.kept (hb := hbe) | with_reducible apply Blk.kept (hb := hbd)))); (focus omega); (focus omega); intro gU gV hU hV lU BU lV BV; first | (rw [← hV, ← hU]; revert BV; revert lV; revert BU; revert lU; clear hU hV; revert gV; revert gU; revert hB5; clear hwx; revert wx; exact main.out) | (rw [← hU, ← hV]; revert BV; revert lV; revert BU; revert lU; clear hU hV; revert gV; revert gU; revert hB5; clear hwx; revert wx; exact main.out))
      -- end
      intro wx K5 gU gV lU rU lV rV
      have K := below_call k0 K5
      have ht5 : Tabs wx := ht.kept K
      have rq := q0.kept K5
      have cU := rU.cell; have zU := rU.lt; have cV := rV.cell; have zV := rV.lt; have zq := rq.lt
      clear f0 f1 f2 t0 t1 t2 zF zT r0 s0 o1 o2 q0 K5 lU lV
      go_wp2_with fail
      refine wp_region_calm_tail 11 (by kernel_rfl) (by kernel_rfl) ?_
      simp only [List.take_succ_cons, List.take_zero, List.drop_succ_cons, List.drop_zero]
      repeat (go_big_quiet_step ((go_at_call 122; (first | with_reducible exact calm_call (z1 _ (ht5.kept (Calm.h _))) | with_reducible exact calm_call (z2 _ (ht5.kept (Calm.h _)))))))
      refine wpQuiet_nil ?_
      intro w6 hb6
      have r6 := rq.kept hb6
      have c6 := r6.cell; have f6 := r6.frozen; have l6 := r6.lt
      have k6 := below_call K hb6
      go_wp2
      refine ret_of (by simp [results, Tryz.results88, go_sem, *]; repeat' (first | rfl | apply And.intro)) rfl ⟨?_, by repeat (first | with_reducible exact Below.refl _ _ | with_reducible assumption | with_reducible refine below_drewN ?_ _ | with_reducible refine Below.drew ?_ | with_reducible refine below_alloc ?_ _ | (with_reducible refine Below.setCell ?_ ?_ _; rotate_left; ((try simp only); omega)))⟩
      rw [NP.out]
    | k + 3, h => exact absurd h (by omega)
end Go.Proofs.YtpkmiegccfhpnaaGreatDoor
