
/- The walk through the program's moments. -/
import Derived.Test.YtmlcnmnpkemdpaaDoorAlMerge
import Derived.Test.YtmlcnmnpkemdpaaDoorAlSlMem
namespace Go.Proofs.YtmlcnmnpkemdpaaDoor
open Go.RowKit
theorem momP_take {l : List (List Ev)} {i : Nat} {v : List Ev} (h : l[i]? = some v) : momP (l.take (i + 1)) = mrgS (momP (l.take i)) (ownV v) := by
  unfold momP
  rw [take_get h, List.foldl_append]; rfl
theorem mom_len {l : List (List Ev)} (h : ∀ v ∈ l, Val v ∧ v.length ≤ 2000) : (momP l).length ≤ 4000 * l.length := by
  rw [(mom_eq fun v hv => (h v hv).1).1]
  exact momS_len l fun v hv => (h v hv).2
set_option maxRecDepth 100000 in
set_option maxHeartbeats 4000000 in
theorem moments_any (A : Option Addr) (n c : Nat) (l : List (List Ev)) (B : Nat) (w : World) (h : ReadsV w B A n l) (hB : B ≤ w.heap.size) (hn : n ≤ 8) (hv : ∀ v ∈ l, (checkS v).1 = 0 ∧ Val v ∧ v.length ≤ 2000) :
    Calls Tryd.prog 42 #[.slice A n c] w fun e w' => ∃ v, e = .returned v ∧ w'.ownsRow w.heap.size 52 2 v (momS l).length (csT (momS l)) ∧ Below w.heap.size w w' := by
  have HL := Lib.hid h.len
  have HV := Lib.hid hv
  clear hv
  obtain ⟨i0, hi0, hz0, hz1, hz2⟩ := info_parts tm_info
  go_enter Tryd.func42, Tryd.ntmps42
  go_wp2
  go_loopg [3, 5, 6, 8, 9, 10, 13] n (fun g v _ _ _ _ _ i wr => ∃ k : Nat, k + g = n ∧ i = .int .i64 k ∧ wr.ownsRow w.heap.size 52 2 v (momP (l.take k)).length (csT (momP (l.take k))) ∧ Below w.heap.size w wr)
  case atStart => exact ⟨0, by omega, rfl, ⟨rfl, .inl ⟨rfl, rfl⟩⟩, Below.refl _ _⟩
  case round =>
    obtain ⟨k, hkg, rfl, hO, k0⟩ := hrel
    have hT := ReadsT.own hO rfl
    cases gk with
    | zero =>
      have hkn : k = n := by omega
      subst hkn
      have E := Lib.hid (show momP (l.take k) = momS l by rw [List.take_of_length_le (by have := HL.out; omega)]; exact (mom_eq fun v hv => (HV.out v hv).2.1).1)
      go_wp2
      go_ret
      rw [E.out] at hO
      exact ⟨_, rfl, hO, k0⟩
    | succ g =>
      clear hO
      have hkn : k < n := by omega
      have hkn' : (k : Int) < (n : Int) := by omega
      obtain ⟨v, hvk⟩ := get_some (l := l) (k := k) (by have := HL.out; omega)
      obtain ⟨hchk, hval, hvl⟩ := HV.out v (List.mem_of_getElem? hvk)
      have HVal := Lib.hid hval
      have HM := Lib.hid (momP_take hvk)
      have HO := Lib.hid (show OkL (momP (l.take k)) ∧ (momP (l.take k)).length ≤ 32000 from by
        have hsub : ∀ v ∈ l.take k, Val v ∧ v.length ≤ 2000 := fun v hv => (HV.out v (List.mem_of_mem_take hv)).2
        have e := mom_eq fun v hv => (hsub v hv).1
        refine ⟨by rw [e.1]; exact e.2.2, ?_⟩
        have := mom_len hsub
        have := List.length_take_le k l
        omega)
      obtain ⟨o, ho⟩ : ∃ o, o = momP (l.take k) := ⟨_, rfl⟩
      rw [← ho] at hT HM HO
      obtain ⟨wo, rfl⟩ : ∃ wo : World, wo = wr := ⟨_, rfl⟩
      obtain ⟨b, off, A', n', c', rfl, hab, cv, hr, hn', hvn⟩ := h.voice hB k0 hkn hvk
      have HE := Lib.hid (endS_val hchk)
      clear ho hvk hval hchk
      go_wp2
      go_loopg [6, 8, 19] n' (fun g2 u _ j wy => ∃ m : Nat, m + g2 = n' ∧ j = .int .i64 m ∧ wy.ownsRow wo.heap.size 52 2 u m (csT ((v.take m).map (·.at_))) ∧ Below wo.heap.size wo wy)
      case atStart => exact ⟨0, by omega, rfl, ⟨rfl, .inl ⟨rfl, rfl⟩⟩, Below.refl _ _⟩
      case round =>
        obtain ⟨m, hmg, rfl, hown, m0⟩ := hrel
        cases gk with
        | zero =>
          have hmn : m = n' := by omega
          subst hmn
          have hTv := List.take_of_length_le (l := v) (i := m) (by omega)
          rw [hTv] at hown
          have HTv := Lib.hid hTv
          clear hTv
          have q1 := fun W (hW : Below wo.heap.size wo W) => evEnd_any A' m c' v B W (hr.below (Nat.le_trans hB k0.size) hW) (Nat.le_trans (Nat.le_trans hB k0.size) hW.size) hn'
          rw [HE.out] at q1
          have HOw := Lib.hid (show ownV v = v.map (·.at_) ++ if v = [] then [] else [endV v] from rfl)
          have HSA := Lib.hid (own_sa HVal.out)
          have hvl2 : m ≤ 2000 := by omega
          obtain ⟨⟨z0, z1⟩, hz⟩ : ∃ z, z = endV v := ⟨_, rfl⟩
          rw [← hz] at q1 HOw
          clear hz
          go_wp2_with fail
          refine (q1 _ m0).mono ?_
          rintro e w2 ⟨rfl, hb2⟩
          have own2 := own_call hown hb2
          have m2 := below_call m0 hb2
          have bz : Blk (w2.alloc (.cells #[.int .i64 z0, .int .i64 z1] 52)) w2.heap.size 52 #[.int .i64 z0, .int .i64 z1] := Blk.new _ _ _
          have bz0 := bz.cell 0
          have bz1 := bz.cell 1
          have m3 : Below wo.heap.size wo (w2.alloc (.cells #[.int .i64 z0, .int .i64 z1] 52)) := below_alloc m2 _
          have own3 := own_call own2 (below_alloc (Below.refl w2.heap.size w2) (.cells #[.int .i64 z0, .int .i64 z1] 52))
          by_cases hm0 : m = 0
          · subst hm0
            have hv0 : v = [] := List.eq_nil_of_length_eq_zero hvn
            have HW := Lib.hid (show ownV v = [] by rw [hv0]; rfl)
            rw [hv0] at own3
            have rw3 : ReadsT _ _ ([] : List Tm) := ReadsT.own own3 rfl
            have hT3 := hT.kept m3
            have q2 := fun W u1 u2 (h1 : ReadsT W u1 o) (h2 : ReadsT W u2 []) => merged_any u1 u2 o [] W h1 h2 HO.out.1 (fun t h => by cases h) (by have := HO.out.2; simp; omega)
            rw [HW.out] at HM
            clear hv0 own2 own3 hown
            go_wp2_with fail
            refine (q2 _ _ _ hT3 rw3).mono ?_
            rintro e w4 ⟨u4, rfl, own4, hb4⟩
            go_wp2
            go_roundg g
            case measure => omega
            case rel => exact ⟨k + 1, by omega, rfl, by rw [HM.out]; exact own_lower own4 (below_call k0 m3).size, below_call (below_call k0 m3) hb4⟩
          · have hv0 : ¬ v = [] := fun h0 => by subst h0; exact hm0 hvn.symm
            have HW := Lib.hid (show ownV v = v.map (·.at_) ++ [(z0, z1)] by rw [HOw.out, if_neg hv0])
            have dm : decide (0 < m) = true := decide_eq_true (by omega)
            have dmi : decide ((0 : Int) < (m : Int)) = true := decide_eq_true (by omega)
            have hT3 := hT.kept m3
            rw [HW.out] at HM HSA
            have q2 := fun W u1 u2 (h1 : ReadsT W u1 o) (h2 : ReadsT W u2 (v.map (·.at_) ++ [(z0, z1)])) => merged_any u1 u2 o (v.map (·.at_) ++ [(z0, z1)]) W h1 h2 HO.out.1 HSA.out.2 (by have := HO.out.2; rw [List.length_append, List.length_map]; simp; omega)
            clear hv0 own2 hown hm0
            go_wp2_with (at_builtin; (refine wpList_append_any _ rfl (.tmp 37) (.tmp 39) 82 rfl wo.heap.size 52 i0 _ 2 16 Tryd.underlying82 hi0 hz0 hz1 hz2 rfl (by omega) _ m (csT (v.map (·.at_))) rfl (own_call own3 (below_alloc (Below.refl _ _) _)) (w2.heap.size + 1 + 1) (some ⟨w2.heap.size + 1, 0, none⟩) 1 1 (csT [(z0, z1)]) rfl (Reads.newAt _ _ _ 1 2 _ (by simp) rfl) (one_csT _) (by simp only [maxLen]; omega) (by omega) (by have := m2.size; simp; omega) ?_); intro v5 w5 hown5 hg5 hat5)
            have m5 : Below wo.heap.size wo w5 := Below.grown (B := wo.heap.size) (a := wo) (below_alloc m3 _) hg5 (by have := m2.size; simp; omega) (fun q hq => (own3.lt q hq).1)
            rw [← csT_append] at hown5
            have rw5 := ReadsT.own hown5 (by rw [List.length_append, List.length_map, hvn]; rfl)
            refine (q2 _ _ _ (hT.kept m5) rw5).mono ?_
            rintro e w4 ⟨u4, rfl, own4, hb4⟩
            go_wp2
            go_roundg g
            case measure => omega
            case rel => exact ⟨k + 1, by omega, rfl, by rw [HM.out]; exact own_lower own4 (below_call k0 m5).size, below_call (below_call k0 m5) hb4⟩
        | succ g2 =>
          have hmn : m < n' := by omega
          have hmn' : (m : Int) < (n' : Int) := by omega
          obtain ⟨x, hx⟩ := get_some (l := v) (k := m) (by omega)
          have HX := Lib.hid (show (v.take (m + 1)).map (·.at_) = (v.take m).map (·.at_) ++ [x.at_] by rw [take_get hx, List.map_append]; rfl)
          obtain ⟨b', off', rfl, hab', hc⟩ := hr.ev (Nat.le_trans hB k0.size) m0 hmn hx
          obtain ⟨⟨a, a'⟩, ⟨d, d'⟩, ⟨p, q, r⟩, rst, sg, ps⟩ := x
          obtain ⟨c0, c1, c2, c3, c4, c5, c6, c7, c8, c9⟩ := ten hc
          clear hc hx
          simp only at c0 c1 c2 c3 c4 c5 c6 c7 c8 c9
          have hvl2 : n' ≤ 2000 := by omega
          go_wp2_with (at_builtin; (refine wpList_append_any _ rfl (.tmp 23) (.tmp 26) 82 rfl wo.heap.size 52 i0 _ 2 16 Tryd.underlying82 hi0 hz0 hz1 hz2 rfl (by omega) _ m (csT ((v.take m).map (·.at_))) rfl (own_call hown (below_alloc (below_alloc (Below.refl _ _) _) _)) (wr.heap.size + 1 + 1) (some ⟨wr.heap.size + 1, 0, none⟩) 1 1 (csT [(a, a')]) rfl (Reads.newAt _ _ _ 1 2 _ (by simp) rfl) (one_csT _) (by simp only [maxLen]; omega) (by omega) (by have := m0.size; simp; omega) ?_); intro v5 w5 hown5 hg5 hat5)
          go_roundg g2
          case measure => omega
          case rel => exact ⟨m + 1, by omega, rfl, by rw [HX.out, csT_append]; exact hown5, Below.grown (B := wo.heap.size) (a := wo) (below_alloc (below_alloc m0 _) _) hg5 (by have := m0.size; simp; omega) (fun q hq => (hown.lt q hq).1)⟩
end Go.Proofs.YtmlcnmnpkemdpaaDoor
