
/- The law's copy of a setting. -/
import Derived.Test.YtmlcnmnpkemdpaaGreatDoorAlLight
import Derived.Test.YtmlcnmnpkemdpaaGreatDoorDsPlain
namespace Go.Proofs.YtmlcnmnpkemdpaaGreatDoor
open Go.RowKit
set_option maxRecDepth 100000 in
set_option maxHeartbeats 4000000 in
theorem own32_any (A : Option Addr) (n c : Nat) (l : List (List Ev)) (w : World) (h : ReadsV w w.heap.size A n l) (hn : n ≤ 10) (hv9 : ∀ v ∈ l, v.length ≤ 24) :
    Calls Tryz.prog 6 #[.slice A n c] w fun e w' => OwnRet n l w e w' := by
  have HL := Lib.hid h.len
  have HV9 := Lib.hid hv9
  have HNE : 56 ≠ 36 := by decide
  clear hv9
  obtain ⟨i0, hi0, hz0, hz1, hz2⟩ := info_parts voice_info
  obtain ⟨j0, hj0, yz0, yz1, yz2⟩ := info_parts event_info
  go_enter Tryz.func6, Tryz.ntmps6
  go_wp2
  go_loopg [3, 4] n (fun gh u i wr => ∃ (k : Nat) (ds : List Pl), k + gh = n ∧ i = .int .i64 (k : Int) ∧ wr.ownsRow w.heap.size 36 1 u k (csV ds) ∧ ds.length = k ∧ VocAt wr w.heap.size ds l ∧ Below w.heap.size w wr)
  case atStart => exact ⟨0, [], by omega, by simp, ⟨rfl, .inl ⟨rfl, rfl⟩⟩, rfl, fun k d v hd _ => by simp at hd, Below.refl _ _⟩
  case round =>
    obtain ⟨k, ds, hkg, rfl, hrow, hdl, hvs, k0⟩ := hrel
    have wk : IntKind.i64.wrap ((k : Int) + 1) = (k : Int) + 1 := IntWalk.i64_in _ (by omega)
    cases gk with
    | zero =>
      have hkn : k = n := by omega
      have d0 : ¬ ((k : Int) < (n : Int)) := by omega
      obtain ⟨A9, c9, rfl, r9, _, _⟩ := own_reads hrow
      have HF := Lib.hid (show ReadsV wr wr.heap.size A9 k l from ⟨ds, by rw [hdl, hkn]; exact HL.out.symm, r9, fun j d v hd hv => by
        obtain ⟨h1, h2⟩ := hvs j d v hd hv
        obtain ⟨A8, c8, e8, r8, _, _⟩ := own_reads h1
        cases e8
        exact ⟨r8, h2⟩⟩)
      have HK := Lib.hid hkn
      clear hdl hkn hkg
      go_wp2
      refine ret_of (by simp [results, Tryz.results6, go_sem, *]; repeat' (first | rfl | apply And.intro)) rfl ?_
      rw [← HK.out]
      exact ⟨A9, c9, rfl, HF.out, k0⟩
    | succ g =>
      have hkn : k < n := by omega
      have d0 : (k : Int) < (n : Int) := by omega
      obtain ⟨v, hv⟩ := get_some (l := l) (k := k) (by have := HL.out; omega)
      have hv24 := HV9.out v (List.mem_of_getElem? hv)
      obtain ⟨b, off, A', n', c', rfl, hab, cv, rv, hn', hvn⟩ := h.voice (Nat.le_refl _) k0 hkn hv
      have rv2 := rv
      have HVK := Lib.hid hv
      have HDL := Lib.hid hdl
      have HN' := Lib.hid hn'
      have hn24 : n' ≤ 24 := by omega
      have kz := k0.size
      clear hv hdl hvn hv24 hn'
      have lit := World.ownsRow_lit (e := 56) (size := 10) wr #[] 0 (Nat.le_refl _) (by simp [maxLen]) rfl
      go_wp2_with (first
        | (at_builtin; (refine wpList_append_any _ rfl (.tmp 12) (.tmp 16) 36 rfl wr.heap.size 56 j0 _ 10 80 Tryz.underlying36 hj0 yz0 yz1 yz2 rfl (by omega) (.slice (some ⟨wr.heap.size, 0, none⟩) 0 0) 0 [] rfl lit w.heap.size A' n' c' (csE v) rfl (rv2.below kz (below_alloc (Below.refl _ _) _)) (one_csE v) (by simp only [maxLen]; omega) (by omega) (by simp) ?_); intro v3 w3 hown3 hg3 hat3
           have k3 : Below wr.heap.size wr w3 := Below.grown (B := wr.heap.size) (below_alloc (Below.refl wr.heap.size wr) (.cells #[] 56)) hg3 (by simp) (fun x hx => by simp [Value.ownBlock] at hx; omega)
           simp only [Nat.zero_add, List.nil_append] at hown3
           obtain ⟨A3, c3, h3, r3, _, _⟩ := own_reads hown3
           subst h3
           have row3 := own_call hrow k3
           have vs3 := hvs.kept k3
           have z3 := k3.size)
        | (at_builtin; (refine wpList_append_any _ rfl (.tmp 11) (.tmp 18) 22 rfl w.heap.size 36 i0 _ 1 24 Tryz.underlying22 hi0 hz0 hz1 hz2 rfl (by omega) u3 k (csV ds) rfl (own_call row3 (below_alloc (Below.refl _ _) _)) (w3.heap.size + 1) (some ⟨w3.heap.size, 0, none⟩) 1 1 (csV [(A3, n', c3)]) rfl (Reads.newAt _ _ _ 1 1 _ rfl rfl) (one_csV _) (by simp only [maxLen]; omega) (by omega) (by simp; omega) ?_); intro v4 w4 hown4 hg4 hat4))
      have k2 := below_call k0 k3
      have hB4 : Below w.heap.size w3 w4 := Below.grown (B := w.heap.size) (a := w3) ((below_alloc (Below.refl w3.heap.size w3) (.cells #[.slice A3 n' c3] 36)).mono (by omega)) hg4 (by simp; omega) (fun x hx => (row3.lt x hx).1)
      have rowA := own_call row3 (below_alloc (Below.refl w3.heap.size w3) (.cells #[.slice A3 n' c3] 36))
      have HNV := Lib.hid (show VocAt w4 w.heap.size (ds ++ [(A3, n', c3)]) l from fun j d u hd hu => by
        rcases Nat.lt_or_ge j ds.length with hj | hj
        · rw [List.getElem?_append_left hj] at hd
          have h1 := vs3 j d u hd hu
          exact ⟨own_far (own_call h1.1 (below_alloc (Below.refl w3.heap.size w3) (.cells #[.slice A3 n' c3] 36))) rowA hg4 HNE, h1.2⟩
        · have hjk : j = k := by
            have h9 := (List.getElem?_eq_some_iff.1 hd).1
            rw [List.length_append, HDL.out] at h9
            rw [HDL.out] at hj
            have h10 : j < k + 1 := h9
            omega
          subst hjk
          rw [List.getElem?_append_right (by rw [HDL.out]; exact Nat.le_refl _), HDL.out] at hd
          simp at hd
          subst hd
          rw [HVK.out] at hu
          cases hu
          exact ⟨own_far (own_call (own_lower hown3 kz) (below_alloc (Below.refl w3.heap.size w3) (.cells #[.slice A3 n' c3] 36))) rowA hg4 HNE, HN'.out⟩)
      go_roundg g
      case measure => omega
      case rel => exact ⟨k + 1, ds ++ [(A3, n', c3)], by omega, by go_num, by rw [csV_append]; exact hown4, by rw [List.length_append, HDL.out]; rfl, HNV.out, k2.trans hB4⟩
set_option maxRecDepth 100000 in
set_option maxHeartbeats 4000000 in
theorem sameVoices_any (A A' : Option Addr) (n c c' : Nat) (l : List (List Ev)) (w : World) (h : ReadsV w w.heap.size A n l) (h' : ReadsV w w.heap.size A' n l) (hn : n ≤ 100) (hv9 : ∀ v ∈ l, v.length ≤ 24) :
    Calls Tryz.prog 15 #[.slice A n c, .slice A' n c'] w fun e w' => e = .returned (.bool true) ∧ Below w.heap.size w w' := by
  have HL := Lib.hid h.len
  have HV9 := Lib.hid hv9
  have HVA := Lib.hid (fun W (hW : Below w.heap.size w W) k v (hk : k < n) (hv : l[k]? = some v) => h.voice (Nat.le_refl _) hW hk hv)
  have HVB := Lib.hid (fun W (hW : Below w.heap.size w W) k v (hk : k < n) (hv : l[k]? = some v) => h'.voice (Nat.le_refl _) hW hk hv)
  clear hv9 h h'
  go_enter Tryz.func15, Tryz.ntmps15
  go_wp2
  go_loopg [5, 6] n (fun gh i _ wr => ∃ k : Nat, k + gh = n ∧ i = .int .i64 (k : Int) ∧ Below w.heap.size w wr)
  case atStart => exact ⟨0, by omega, by simp, Below.refl _ _⟩
  case round =>
    obtain ⟨k, hkg, rfl, k0⟩ := hrel
    have wk : IntKind.i64.wrap ((k : Int) + 1) = (k : Int) + 1 := IntWalk.i64_in _ (by omega)
    cases gk with
    | zero =>
      have d0 : ¬ ((k : Int) < (n : Int)) := by omega
      clear hkg
      go_wp2
      refine ret_of (by simp [results, Tryz.results15, go_sem, *]; repeat' (first | rfl | apply And.intro)) rfl ⟨rfl, k0⟩
    | succ g =>
      have hkn : k < n := by omega
      have d0 : (k : Int) < (n : Int) := by omega
      obtain ⟨v, hv⟩ := get_some (l := l) (k := k) (by have := HL.out; omega)
      have hv24 := HV9.out v (List.mem_of_getElem? hv)
      obtain ⟨b, off, A1, n1, c1, hA, hab, cv, rv, _, hvn⟩ := HVA.out w (Below.refl _ _) k v hkn hv
      obtain ⟨b', off', A2, n2, c2, hA', hab', cv', rv', _, hvn'⟩ := HVB.out w (Below.refl _ _) k v hkn hv
      subst hA hA'
      have hn12 : n2 = n1 := by omega
      subst hn12
      have e0 := (k0.cell (p := ⟨b, off + k, none⟩) hab).trans cv
      have e1 := (k0.cell (p := ⟨b', off' + k, none⟩) hab').trans cv'
      have l0 : b < wr.heap.size := by have := k0.size; omega
      have l1 : b' < wr.heap.size := by have := k0.size; omega
      have HVL := Lib.hid hvn
      have hn24 : n2 ≤ 24 := by omega
      clear hv hvn hvn' hv24
      go_wp2_with fail
      refine wp_region_calm (by kernel_rfl) (by kernel_rfl) ?_
      repeat (go_big_quiet_step (fail))
      refine wpQuiet_nil ?_
      intro wd gd
      have kd := below_call k0 gd
      clear e0 e1 l0 l1
      go_wp2_with fail
      go_loopg [6] n2 (fun g2 i wy => ∃ m : Nat, m + g2 = n2 ∧ i = .int .i64 (m : Int) ∧ Below w.heap.size w wy)
      case atStart => exact ⟨0, by omega, by simp, kd⟩
      case round =>
        obtain ⟨m, hmg, rfl, kr⟩ := hrel
        have wm : IntKind.i64.wrap ((m : Int) + 1) = (m : Int) + 1 := IntWalk.i64_in _ (by omega)
        have e0 := (kr.cell (p := ⟨b, off + k, none⟩) hab).trans cv
        have e1 := (kr.cell (p := ⟨b', off' + k, none⟩) hab').trans cv'
        have l0 : b < wr.heap.size := by have := kr.size; omega
        have l1 : b' < wr.heap.size := by have := kr.size; omega
        cases gk with
        | zero =>
          have d1 : ¬ ((m : Int) < (n2 : Int)) := by omega
          clear hmg
          go_wp2_with fail
          go_roundg g
          case measure => omega
          case rel => exact ⟨k + 1, by omega, by go_num, kr⟩
        | succ g2 =>
          have hmn : m < n2 := by omega
          have d1 : (m : Int) < (n2 : Int) := by omega
          obtain ⟨x, hx⟩ := get_some (l := v) (k := m) (by have := HVL.out; omega)
          obtain ⟨bx, ox, hAx, hbx, hcx⟩ := rv.ev (Nat.le_refl _) kr hmn hx
          obtain ⟨by_, oy, hAy, hby, hcy⟩ := rv'.ev (Nat.le_refl _) kr hmn hx
          subst hAx hAy
          obtain ⟨y0, y1, y2, y3, y4, y5, y6, y7, y8, y9⟩ := ten hcx
          obtain ⟨z0, z1, z2, z3, z4, z5, z6, z7, z8, z9⟩ := ten hcy
          clear hx hcx hcy
          go_wp2_with fail
          refine wp_region_calm (by kernel_rfl) (by kernel_rfl) ?_
          repeat (go_big_quiet_step (fail))
          refine wpQuiet_nil ?_
          intro we ge
          have ke := below_call kr ge
          go_wp2_with fail
          go_roundg g2
          case measure => omega
          case rel => exact ⟨m + 1, by omega, by go_num, ke⟩
end Go.Proofs.YtmlcnmnpkemdpaaGreatDoor
