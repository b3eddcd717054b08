/- Four voices made of numbers, as a setting. -/
import Derived.Test.YtbljfaocmeeljaaOpened
import Derived.Test.YtbljfaocmeeljaaAlKnown
import Derived.Test.YtbljfaocmeeljaaPlain
namespace Go.Proofs.Ytbljfaocmeeljaa
open Go.RowKit
/-- A list of numbers that came in. -/
structure Nums (w : World) (A : Option Addr) (n : Nat) (l : List Int) : Prop where
  reads : Reads w w.heap.size 1 A n (csI l)
  len : n ≤ 9223372036854775807
  fit : ∀ x ∈ l, -9223372036854775808 ≤ x ∧ x ≤ 9223372036854775807
theorem Nums.kept {w w' : World} {A : Option Addr} {n : Nat} {l : List Int} (h : Nums w A n l) (hb : Below w.heap.size w w') : Nums w' A n l := ⟨rdi h.reads hb, h.len, h.fit⟩
theorem Nums.voice {w : World} {A : Option Addr} {n : Nat} {l : List Int} (h : Nums w A n l) (c most : Nat) (hm : most ≤ 60) :
    Calls Try.prog 65 #[.slice A n c, .int .i64 most] w fun e w' => ∃ A' c', e = .returned (.slice A' (voiceS most l).length c') ∧ OwnE w' w.heap.size (voiceS most l).length A' c' (voiceS most l) ∧ Below w.heap.size w w' :=
  voice_any A n c l most w h.reads h.len h.fit hm
def made4 (a b c d : List Int) : List (List Ev) := [voiceS 10 a, voiceS 10 b, voiceS 8 c, voiceS 6 d]
theorem made_set (a b c d : List Int) : SetQ 2880 (made4 a b c d) where
  pos := by omega
  big := by omega
  len := by unfold made4; simp
  each := by
    intro v hv
    unfold made4 at hv
    simp only [List.mem_cons, List.not_mem_nil, or_false] at hv
    rcases hv with rfl | rfl | rfl | rfl
    · exact ⟨(voice_q 10 (by omega) a).1, (voice_q 10 (by omega) a).2.1⟩
    · exact ⟨(voice_q 10 (by omega) b).1, (voice_q 10 (by omega) b).2.1⟩
    · exact ⟨(voice_q 8 (by omega) c).1, (voice_q 8 (by omega) c).2.1⟩
    · exact ⟨(voice_q 6 (by omega) d).1, (voice_q 6 (by omega) d).2.1⟩
theorem made_len (a b c d : List Int) : ∀ v ∈ made4 a b c d, v.length ≤ 10 := by
  intro v hv
  unfold made4 at hv
  simp only [List.mem_cons, List.not_mem_nil, or_false] at hv
  rcases hv with rfl | rfl | rfl | rfl
  · exact (voice_q 10 (by omega) a).2.2
  · exact (voice_q 10 (by omega) b).2.2
  · exact Nat.le_trans (voice_q 8 (by omega) c).2.2 (by omega)
  · exact Nat.le_trans (voice_q 6 (by omega) d).2.2 (by omega)
def MadeRet (l : List (List Ev)) (w : World) (e : Ending) (w' : World) : Prop := ∃ A', e = .returned (.slice A' 4 4) ∧ ReadsV w' w'.heap.size A' 4 l ∧ Below w.heap.size w w'
theorem readsV_four {w : World} {B g : Nat} {v1 v2 v3 v4 : List Ev} {d1 d2 d3 d4 : Pl} (h : Reads w B 1 (some ⟨g, 0, none⟩) 4 (csV [d1, d2, d3, d4])) (h1 : Reads w B 10 d1.1 d1.2.1 (csE v1)) (h2 : Reads w B 10 d2.1 d2.2.1 (csE v2)) (h3 : Reads w B 10 d3.1 d3.2.1 (csE v3)) (h4 : Reads w B 10 d4.1 d4.2.1 (csE v4))
    (hn1 : d1.2.1 ≤ 9223372036854775807) (hn2 : d2.2.1 ≤ 9223372036854775807) (hn3 : d3.2.1 ≤ 9223372036854775807) (hn4 : d4.2.1 ≤ 9223372036854775807) :
    ReadsV w B (some ⟨g, 0, none⟩) 4 [v1, v2, v3, v4] := by
  refine ⟨[d1, d2, d3, d4], rfl, h, fun k d v hd hv => ?_⟩
  match k, hd, hv with
  | 0, hd, hv => simp at hd hv; subst hd; subst hv; exact ⟨h1, hn1⟩
  | 1, hd, hv => simp at hd hv; subst hd; subst hv; exact ⟨h2, hn2⟩
  | 2, hd, hv => simp at hd hv; subst hd; subst hv; exact ⟨h3, hn3⟩
  | 3, hd, hv => simp at hd hv; subst hd; subst hv; exact ⟨h4, hn4⟩
  | k + 4, hd, hv => simp at hd
set_option maxRecDepth 100000 in
set_option maxHeartbeats 1000000 in
theorem made_any {Aa Ab Ac Ad : Option Addr} {na nb nc nd : Nat} {a b c d : List Int} {w : World} (ha : Nums w Aa na a) (hb : Nums w Ab nb b) (hc : Nums w Ac nc c) (hd : Nums w Ad nd d) (ca cb cc cd : Nat) :
    Calls Try.prog 34 #[.slice Aa na ca, .slice Ab nb cb, .slice Ac nc cc, .slice Ad nd cd] w fun e w' => MadeRet (made4 a b c d) w e w' := by
  have q1 := fun W (h : Nums W Aa na a) => h.voice ca 10 (by omega)
  have q2 := fun W (h : Nums W Ab nb b) => h.voice cb 10 (by omega)
  have q3 := fun W (h : Nums W Ac nc c) => h.voice cc 8 (by omega)
  have q4 := fun W (h : Nums W Ad nd d) => h.voice cd 6 (by omega)
  have l1 := (voice_q 10 (by omega) a).2.2
  have l2 := (voice_q 10 (by omega) b).2.2
  have l3 := (voice_q 8 (by omega) c).2.2
  have l4 := (voice_q 6 (by omega) d).2.2
  unfold made4
  generalize voiceS 10 a = v1 at q1 l1 ⊢
  generalize voiceS 10 b = v2 at q2 l2 ⊢
  generalize voiceS 8 c = v3 at q3 l3 ⊢
  generalize voiceS 6 d = v4 at q4 l4 ⊢
  have L1 := Lib.hid l1; have L2 := Lib.hid l2; have L3 := Lib.hid l3; have L4 := Lib.hid l4
  clear l1 l2 l3 l4
  go_enter Try.func34, Try.ntmps34
  go_wp2_with fail
  refine (q1 _ ha).mono ?_
  rintro e w1 ⟨A1, c1, rfl, o1, b1⟩
  replace hb := hb.kept b1; replace hc := hc.kept b1; replace hd := hd.kept b1
  have r1 := o1.2.1
  clear ha o1 q1
  go_wp2_with fail
  refine (q2 _ hb).mono ?_
  rintro e w2 ⟨A2, c2, rfl, o2, b2⟩
  replace hc := hc.kept b2; replace hd := hd.kept b2
  replace r1 := rdk r1 b2
  have k2 := below_call b1 b2
  have r2 := o2.2.1
  clear hb o2 q2 b1 b2
  go_wp2_with fail
  refine (q3 _ hc).mono ?_
  rintro e w3 ⟨A3, c3, rfl, o3, b3⟩
  replace hd := hd.kept b3
  replace r1 := rdk r1 b3; replace r2 := rdk r2 b3
  have k3 := below_call k2 b3
  have r3 := o3.2.1
  clear hc o3 q3 b3 k2
  go_wp2_with fail
  refine (q4 _ hd).mono ?_
  rintro e w4 ⟨A4, c4, rfl, o4, b4⟩
  replace r1 := rdk r1 b4; replace r2 := rdk r2 b4; replace r3 := rdk r3 b4
  have k4 := below_call k3 b4
  have r4 := o4.2.1
  clear hd o4 q4 b4 k3
  go_wp2
  go_ret
  have K : Below w4.heap.size w4 (w4.alloc (.cells #[.slice A1 v1.length c1, .slice A2 v2.length c2, .slice A3 v3.length c3, .slice A4 v4.length c4] 61)) := below_alloc (Below.refl _ _) _
  have R : Reads (w4.alloc (.cells #[.slice A1 v1.length c1, .slice A2 v2.length c2, .slice A3 v3.length c3, .slice A4 v4.length c4] 61)) (w4.heap.size + 1) 1 (some ⟨w4.heap.size, 0, none⟩) 4 (csV [(A1, v1.length, c1), (A2, v2.length, c2), (A3, v3.length, c3), (A4, v4.length, c4)]) := Reads.newAt _ _ _ 4 1 _ rfl rfl
  refine ⟨_, rfl, readsV_four (R.more (by simp)) (rdk r1 K) (rdk r2 K) (rdk r3 K) (rdk r4 K) ?_ ?_ ?_ ?_, below_call k4 K⟩
  · have := L1.out; simp only; omega
  · have := L2.out; simp only; omega
  · have := L3.out; simp only; omega
  · have := L4.out; simp only; omega
end Go.Proofs.Ytbljfaocmeeljaa
