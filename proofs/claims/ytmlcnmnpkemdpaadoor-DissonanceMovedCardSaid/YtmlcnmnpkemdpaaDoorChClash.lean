
/- The walk through the program's clashes. -/
import Derived.Test.YtmlcnmnpkemdpaaDoorChMade
namespace Go.Proofs.YtmlcnmnpkemdpaaDoor
open Go.RowKit
theorem Blk.grown_ {w w' : World} {g : Nat} {t : TypeId} {cs : Array Value} {row : Option Nat} (h : Blk w g t cs) (hg : w.grownBy w' row) (hne : some g ≠ row) : Blk w' g t cs := (hg.block g h.lt hne).trans h
theorem pick_two3 {W wx : World} {a b lo : Nat} {t : TypeId} {z0 z1 z2 y0 y1 y2 u0 u1 u2 v0 v1 v2 : Value} {p : Prop} (hwx : wx = (((((W.setCell ⟨a, 0, none⟩ u0).setCell ⟨a, 1, none⟩ u1).setCell ⟨a, 2, none⟩ u2).setCell ⟨b, 0, none⟩ v0).setCell ⟨b, 1, none⟩ v1).setCell ⟨b, 2, none⟩ v2) (hab : a ≠ b) (Ba : Blk W a t #[z0, z1, z2]) (Bb : Blk W b t #[y0, y1, y2]) (la : lo ≤ a) (lb : lo ≤ b) (k : ∀ gU gV, gU = a → gV = b → lo ≤ gU → Blk wx gU t #[u0, u1, u2] → lo ≤ gV → Blk wx gV t #[v0, v1, v2] → p) : p := by
  refine k a b rfl rfl la ?_ lb ?_
  · subst hwx
    exact Blk.far_ hab (Blk.far_ hab (Blk.far_ hab (Blk.set_to (Blk.set_to (Blk.set_to Ba rfl) rfl) rfl)))
  · subst hwx
    exact Blk.set_to (Blk.set_to (Blk.set_to (Blk.far_ (Ne.symm hab) (Blk.far_ (Ne.symm hab) (Blk.far_ (Ne.symm hab) Bb))) rfl) rfl) rfl
theorem kindE_ok {p q : Int × Int × Int} (hp : pchk p = 0) (hq : pchk q = 0) : kindE p q = (kindP p q, 0) := by
  unfold kindE; rw [bothP_both hp, hq, if_neg (fun h => h rfl)]
/-- What the program's clashes come to: all, or whether there are any. -/
def Found (l : List (Int × Int × Int)) (most : Int) (r : List (Int × Int × Int)) : Prop := (most = -1 → r = fullC l) ∧ (r = [] ↔ fullC l = [])
set_option maxRecDepth 100000 in
set_option maxHeartbeats 8000000 in
theorem clashes_ok (A : Option Addr) (n c : Nat) (l : List (Int × Int × Int)) (most : Int) (B : Nat) (w : World) (h : Reads w B 3 A n (csP l)) (hB : B ≤ w.heap.size) (hn : n ≤ 100) (hv : ∀ p ∈ l, pchk p = 0) (ht : Tabs w) (hm : most = -1 ∨ most = 1) :
    Calls Tryd.prog 46 #[.slice A n c, .int .i64 most] w fun e w' => ∃ r A' c', e = .returned (.slice A' r.length c') ∧ Own3 93 w' w.heap.size r.length A' c' r ∧ Below w.heap.size w w' ∧ Found l most r := by
  have HL : Hid (l.length = n) := Lib.hid h.ptlen
  obtain ⟨i0, hi0, hz0, hz1, hz2⟩ := info_parts clash_info
  by_cases h0 : n = 0
  · subst h0
    obtain rfl : l = [] := List.eq_nil_of_length_eq_zero HL.out
    go_enter Tryd.func46, Tryd.ntmps46
    go_wp2
    go_step3
    go_wp2
    (try rw [Exit.noGoto_ret])
    go_ret
    exact ⟨[], none, 0, rfl, Own3.nil_ _ _ _, Below.refl _ _, fun _ => rfl, Iff.rfl⟩
  · have hln := HL.out
    have hm0 : bassL l < l.length := bassL_lt (by omega)
    have hz := pAt_some (l := l) (k := bassL l) hm0
    have q0 := bass_ok A n c l B w h hB (by omega) hv ht
    obtain ⟨m, hmm⟩ : ∃ m, m = bassL l := ⟨_, rfl⟩
    rw [← hmm] at hm0 hz q0
    have hmn : m < n := by omega
    have hmn' : (m : Int) < (n : Int) := by omega
    have hn0 : ((n : Int) == 0) = false := by simp; omega
    obtain ⟨z, hze⟩ : ∃ x, x = pAt l m := ⟨_, rfl⟩
    have HBA : Hid (∀ k j, bad l k j ↔ kindP (pAt l k) (pAt l j) = 5 ∨ ((kindP (pAt l k) (pAt l j) = 3 ∨ kindP (pAt l k) (pAt l j) = 4) ∧ loP (pAt l k) (pAt l j) = z)) := Lib.hid (by rw [hze, hmm]; exact fun _ _ => Iff.rfl)
    rw [← hze] at hz
    clear hze hmm hln hm0
    go_enter Tryd.func46, Tryd.ntmps46
    go_wp2_with fail
    go_step3
    go_wp2_with fail
    refine q0.mono ?_
    rintro e w1 ⟨rfl, hb1⟩
    obtain ⟨b, off, rfl, hab0, e0, e1, e2⟩ := h.pt hB hb1 hmn hz
    clear hz
    obtain ⟨z0, z1, z2⟩ := z
    simp only at e0 e1 e2
    go_wp2_with fail
    go_step3
    go_wp2_with fail
    go_loopg [6, 7, 8, 9, 10, 11, 12, 23] n (fun g v _ _ _ _ _ _ i wr => ∃ k : Nat, k + g = n ∧ i = .int .i64 k ∧ wr.ownsRow (w1.heap.size + 1) 93 3 v (allC l k).length (csP (allC l k)) ∧ Below w.heap.size w wr ∧ Blk wr w1.heap.size 32 #[.int .i64 z0, .int .i64 z1, .int .i64 z2] ∧ Hid (most = 1 → allC l k = []))
    case atStart => exact ⟨0, by omega, rfl, ⟨rfl, .inl ⟨rfl, rfl⟩⟩, by repeat (first | with_reducible exact Below.refl _ _ | with_reducible assumption | with_reducible refine below_drewN ?_ _ | with_reducible refine Below.drew ?_ | with_reducible refine below_alloc ?_ _ | (with_reducible refine Below.setCell ?_ ?_ _; rotate_left; ((try simp only); omega))), Blk.new _ _ _, Lib.hid (fun _ => rfl)⟩
    case round =>
      obtain ⟨k, hkg, rfl, hown, k0, rZ, ho0⟩ := hrel
      cases gk with
      | zero =>
        have hkn : k = n := by omega
        subst hkn
        have E := Lib.hid (show fullC l = allC l k by unfold fullC; rw [HL.out])
        go_wp2
        (try rw [Exit.noGoto_ret])
        go_ret
        obtain ⟨A', c', rfl, ho⟩ := own3_form hown
        exact ⟨allC l k, A', c', rfl, ho.lower (by have := hb1.size; omega), k0, fun _ => E.out.symm, by rw [E.out]⟩
      | succ g =>
        have hkn : k < n := by omega
        have hkn' : (k : Int) < (n : Int) := by omega
        obtain ⟨wo, rfl⟩ : ∃ wo : World, wo = wr := ⟨_, rfl⟩
        go_wp2
        go_loopg [6, 8, 9, 10, 11, 12, 28] n (fun g2 v _ _ _ _ _ i wy => ∃ j : Nat, j + g2 = n ∧ i = .int .i64 j ∧ wy.ownsRow (w1.heap.size + 1) 93 3 v (allC l k ++ rowC l k j).length (csP (allC l k ++ rowC l k j)) ∧ Below w.heap.size w wy ∧ Blk wy w1.heap.size 32 #[.int .i64 z0, .int .i64 z1, .int .i64 z2] ∧ Hid (most = 1 → allC l k ++ rowC l k j = []))
        case atStart => exact ⟨0, by omega, rfl, by rw [show rowC l k 0 = [] from rfl, List.append_nil]; exact hown, k0, rZ, Lib.hid (by rw [show rowC l k 0 = [] from rfl, List.append_nil]; exact ho0.out)⟩
        case round =>
          obtain ⟨j, hjg, rfl, hown, k0, rZ, ho1⟩ := hrel
          cases gk with
          | zero =>
            have hjn : j = n := by omega
            subst hjn
            have E := Lib.hid (show allC l (k + 1) = allC l k ++ rowC l k j by show allC l k ++ rowC l k l.length = _; rw [HL.out])
            go_wp2
            go_roundg g
            case measure => omega
            case rel => exact ⟨k + 1, by omega, by go_num, by rw [E.out]; exact hown, k0, rZ, Lib.hid (by rw [E.out]; exact ho1.out)⟩
          | succ g2 =>
            have hjn : j < n := by omega
            have hjn' : (j : Int) < (n : Int) := by omega
            by_cases hkj : k < j
            · have dkj : decide ((j : Int) ≤ (k : Int)) = false := by simp; omega
              have hln := HL.out
              have hx := pAt_some (l := l) (k := k) (by omega)
              have hy := pAt_some (l := l) (k := j) (by omega)
              have px := hv _ (List.mem_of_getElem? hx)
              have py := hv _ (List.mem_of_getElem? hy)
              have HBAD := HBA.out k j
              have HNX := Lib.hid (fun hb => (congrArg (allC l k ++ ·) (rowC_next (l := l) (a := k) (b := j) hkj hb)).trans (List.append_assoc _ _ _).symm)
              have HSM := Lib.hid (fun hb : ¬ bad l k j => congrArg (allC l k ++ ·) (rowC_same (l := l) (a := k) (b := j) (fun h => hb h.2)))
              have hlen : (allC l k ++ rowC l k j).length ≤ 20000 := by
                have a1 := allC_len l k
                have a2 := rowC_len l k j
                have a3 : k * l.length ≤ 100 * 100 := Nat.mul_le_mul (by omega) (by omega)
                rw [List.length_append]; omega
              have HFN := Lib.hid (fun (hne : allC l k ++ rowC l k (j + 1) ≠ []) => full_ne (l := l) (a := k) (b := j + 1) (by omega) (by omega) hne)
              obtain ⟨o, ho⟩ : ∃ o, o = allC l k ++ rowC l k j := ⟨_, rfl⟩
              rw [← ho] at hlen hown HNX HSM ho1
              obtain ⟨x, hxe⟩ : ∃ x, x = pAt l k := ⟨_, rfl⟩
              obtain ⟨y, hye⟩ : ∃ x, x = pAt l j := ⟨_, rfl⟩
              rw [← hxe] at hx px
              rw [← hye] at hy py
              rw [← hxe, ← hye] at HNX HBAD
              obtain ⟨b', off', hA', hab, c0, c1, c2⟩ := h.pt hB k0 hkn hx
              cases hA'
              obtain ⟨b', off', hA', _, d0, d1, d2⟩ := h.pt hB k0 hjn hy
              cases hA'
              have q1 := fun W hW => Kind_any x y W hW
              rw [kindE_ok px py] at q1
              have q2 := lower_ok x y px py
              have htr := ht.kept k0
              obtain ⟨K, hK⟩ : ∃ t, t = kindP x y := ⟨_, rfl⟩
              obtain ⟨L, hLo⟩ : ∃ t, t = loP x y := ⟨_, rfl⟩
              obtain ⟨H, hHi⟩ : ∃ t, t = hiP x y := ⟨_, rfl⟩
              rw [← hK] at q1 HBAD HNX
              rw [← hLo] at q2 HBAD
              rw [← hHi] at q2
              clear hK hLo hHi hxe hye hx hy px py hln ho
              obtain ⟨x0, x1, x2⟩ := x
              obtain ⟨y0, y1, y2⟩ := y
              obtain ⟨L0, L1, L2⟩ := L
              obtain ⟨H0, H1, H2⟩ := H
              rw [three_eq] at HBAD
              have HB := Lib.hid HBAD
              clear HBAD e0 e1 e2
              simp only at c0 c1 c2 d0 d1 d2
              go_wp2_with fail
              refine wp_region_calm (by kernel_rfl) (by kernel_rfl) ?_
              repeat (go_big_quiet_step ((go_at_call 65; exact calm_call (q1 _ (htr.kept (Calm.h _))))))
              refine wpQuiet_nil ?_
              intro wv hbv
              have hc1 := (bcell hbv).1
              have hab1 := Nat.lt_of_lt_of_le hab hbv.size
              rw [← hc1 _ _ hab] at c0 c1 c2 d0 d1 d2
              have k1 := below_call k0 hbv
              have own1 := own_call hown hbv
              have rZ1 := rZ.kept hbv
              have htv := ht.kept k1
              clear hc1 hown q1 htr rZ hab hbv
              go_wp2_with fail
              apply share
              · intro main
                go_region_held3 (fun w' => w'.cell? ⟨b, off + k * 3, none⟩ = some (.int .i64 x0) ∧ w'.cell? ⟨b, off + k * 3 + 1, none⟩ = some (.int .i64 x1) ∧ w'.cell? ⟨b, off + k * 3 + 2, none⟩ = some (.int .i64 x2) ∧ w'.cell? ⟨b, off + j * 3, none⟩ = some (.int .i64 y0) ∧ w'.cell? ⟨b, off + j * 3 + 1, none⟩ = some (.int .i64 y1) ∧ w'.cell? ⟨b, off + j * 3 + 2, none⟩ = some (.int .i64 y2) ∧ Below wv.heap.size wv w') ((refine (fun hb => ⟨(hb.cell (p := ⟨_, _, none⟩) hab1).trans c0, (hb.cell (p := ⟨_, _, none⟩) hab1).trans c1, (hb.cell (p := ⟨_, _, none⟩) hab1).trans c2, (hb.cell (p := ⟨_, _, none⟩) hab1).trans d0, (hb.cell (p := ⟨_, _, none⟩) hab1).trans d1, (hb.cell (p := ⟨_, _, none⟩) hab1).trans d2, hb⟩) ?_; repeat (first | with_reducible exact Below.refl _ _ | with_reducible exact hBd | with_reducible exact (show _ ∧ _ ∧ _ ∧ _ ∧ _ ∧ _ ∧ Below wv.heap.size wv _ by assumption).2.2.2.2.2.2 | with_reducible refine Below.drew ?_ | with_reducible refine below_alloc ?_ _ | ((with_reducible refine Below.setCell ?_ ?_ _); rotate_left; (first | (have hz := hBd.size; show wv.heap.size ≤ _; simp only; omega) | (show wv.heap.size ≤ _; simp only; omega)))))) ((go_at_call 66; refine Calls.mono (q2 _ ?_) ?_; (focus (exact htv.kept (show _ ∧ _ ∧ _ ∧ _ ∧ _ ∧ _ ∧ Below wv.heap.size wv _ by assumption).2.2.2.2.2.2)); rintro e wd ⟨rfl, hbd⟩; have hBd := below_call (show _ ∧ _ ∧ _ ∧ _ ∧ _ ∧ _ ∧ Below wv.heap.size wv _ by assumption).2.2.2.2.2.2 hbd; have hcd := (bcell hbd).1; have hfd := (bcell hbd).2; (try (refine lay_blk hbd (wv.heap.size) (t := 32) (cs := #[.int .i64 0, .int .i64 0, .int .i64 0]) ?_ ?_; (focus ((repeat (first | with_reducible exact Blk.new _ _ _ | (with_reducible refine Blk.newAt _ _ _ _ ?_; first | rfl | (simp; done)) | with_reducible apply Blk.alloc | with_reducible apply Blk.drewN | with_reducible apply Blk.drew | with_reducible assumption)); done)); intro lzP lcP lfP lbP)); (try (refine lay_blk hbd (wv.heap.size + 1) (t := 32) (cs := #[.int .i64 0, .int .i64 0, .int .i64 0]) ?_ ?_; (focus ((repeat (first | with_reducible exact Blk.new _ _ _ | (with_reducible refine Blk.newAt _ _ _ _ ?_; first | rfl | (simp; done)) | with_reducible apply Blk.alloc | with_reducible apply Blk.drewN | with_reducible apply Blk.drew | with_reducible assumption)); done)); intro lzQ lcQ lfQ lbQ))))
                all_goals
                  have hB5 := (show _ ∧ _ ∧ _ ∧ _ ∧ _ ∧ _ ∧ Below wv.heap.size wv _ by assumption).2.2.2.2.2.2
                  have hz1 := hbd.size
                  simp at hz1
                  obtain ⟨wx, hwx⟩ := name_world hB5
                  rw [← hwx] at hB5 ⊢
                  first
                    | ((first | (refine pick_block (wv := wx) (lo := wv.heap.size) (t := 32) (wv.heap.size + 1) #[.int .i64 L0, .int .i64 L1, .int .i64 L2] ?_ ?_ ?_; (focus omega); (focus (rw [hwx]; repeat (first | with_reducible exact Blk.new _ _ _ | (with_reducible refine Blk.newAt _ _ _ _ ?_; first | rfl | (simp; done)) | with_reducible apply Blk.alloc | with_reducible apply Blk.drewN | with_reducible apply Blk.drew | with_reducible apply Blk.set_to | (with_reducible apply Blk.far_; (simp only [ne_eq]; omega)) | (with_reducible apply Blk.kept (hb := hbd)) | rfl))); intro gU hgU lU BU; rw [← hgU]; clear hgU) | (refine pick_block (wv := wx) (lo := wv.heap.size) (t := 32) (wd.heap.size + 1) #[.int .i64 L0, .int .i64 L1, .int .i64 L2] ?_ ?_ ?_; (focus omega); (focus (rw [hwx]; repeat (first | with_reducible exact Blk.new _ _ _ | (with_reducible refine Blk.newAt _ _ _ _ ?_; first | rfl | (simp; done)) | with_reducible apply Blk.alloc | with_reducible apply Blk.drewN | with_reducible apply Blk.drew | with_reducible apply Blk.set_to | (with_reducible apply Blk.far_; (simp only [ne_eq]; omega)) | (with_reducible apply Blk.kept (hb := hbd)) | rfl))); intro gU hgU lU BU; rw [← hgU]; clear hgU)); (first | (refine pick_block (wv := wx) (lo := wv.heap.size) (t := 32) (wv.heap.size + 1) #[.int .i64 H0, .int .i64 H1, .int .i64 H2] ?_ ?_ ?_; (focus omega); (focus (rw [hwx]; repeat (first | with_reducible exact Blk.new _ _ _ | (with_reducible refine Blk.newAt _ _ _ _ ?_; first | rfl | (simp; done)) | with_reducible apply Blk.alloc | with_reducible apply Blk.drewN | with_reducible apply Blk.drew | with_reducible apply Blk.set_to | (with_reducible apply Blk.far_; (simp only [ne_eq]; omega)) | (with_reducible apply Blk.kept (hb := hbd)) | rfl))); intro gV hgV lV BV; rw [← hgV]; clear hgV) | (refine pick_block (wv := wx) (lo := wv.heap.size) (t := 32) (wd.heap.size + 1) #[.int .i64 H0, .int .i64 H1, .int .i64 H2] ?_ ?_ ?_; (focus omega); (focus (rw [hwx]; repeat (first | with_reducible exact Blk.new _ _ _ | (with_reducible refine Blk.newAt _ _ _ _ ?_; first | rfl | (simp; done)) | with_reducible apply Blk.alloc | with_reducible apply Blk.drewN | with_reducible apply Blk.drew | with_reducible apply Blk.set_to | (with_reducible apply Blk.far_; (simp only [ne_eq]; omega)) | (with_reducible apply Blk.kept (hb := hbd)) | rfl))); intro gV hgV lV BV; rw [← hgV]; clear hgV) | (refine pick_block (wv := wx) (lo := wv.heap.size) (t := 32) (wv.heap.size) #[.int .i64 H0, .int .i64 H1, .int .i64 H2] ?_ ?_ ?_; (focus omega); (focus (rw [hwx]; repeat (first | with_reducible exact Blk.new _ _ _ | (with_reducible refine Blk.newAt _ _ _ _ ?_; first | rfl | (simp; done)) | with_reducible apply Blk.alloc | with_reducible apply Blk.drewN | with_reducible apply Blk.drew | with_reducible apply Blk.set_to | (with_reducible apply Blk.far_; (simp only [ne_eq]; omega)) | (with_reducible apply Blk.kept (hb := hbd)) | rfl))); intro gV hgV lV BV; rw [← hgV]; clear hgV) | (refine pick_block (wv := wx) (lo := wv.heap.size) (t := 32) (wd.heap.size) #[.int .i64 H0, .int .i64 H1, .int .i64 H2] ?_ ?_ ?_; (focus omega); (focus (rw [hwx]; repeat (first | with_reducible exact Blk.new _ _ _ | (with_reducible refine Blk.newAt _ _ _ _ ?_; first | rfl | (simp; done)) | with_reducible apply Blk.alloc | with_reducible apply Blk.drewN | with_reducible apply Blk.drew | with_reducible apply Blk.set_to | (with_reducible apply Blk.far_; (simp only [ne_eq]; omega)) | (with_reducible apply Blk.kept (hb := hbd)) | rfl))); intro gV hgV lV BV; rw [← hgV]; clear hgV)); revert BV; revert lV; revert BU; revert lU; revert gV; revert gU; revert hB5; clear hwx; revert wx; exact main.out)
                    | ((first | (refine pick_block (wv := wx) (lo := wv.heap.size) (t := 32) (wv.heap.size + 1) #[.int .i64 H0, .int .i64 H1, .int .i64 H2] ?_ ?_ ?_; (focus omega); (focus (rw [hwx]; repeat (first | with_reducible exact Blk.new _ _ _ | (with_reducible refine Blk.newAt _ _ _ _ ?_; first | rfl | (simp; done)) | with_reducible apply Blk.alloc | with_reducible apply Blk.drewN | with_reducible apply Blk.drew | with_reducible apply Blk.set_to | (with_reducible apply Blk.far_; (simp only [ne_eq]; omega)) | (with_reducible apply Blk.kept (hb := hbd)) | rfl))); intro gV hgV lV BV; rw [← hgV]; clear hgV) | (refine pick_block (wv := wx) (lo := wv.heap.size) (t := 32) (wd.heap.size + 1) #[.int .i64 H0, .int .i64 H1, .int .i64 H2] ?_ ?_ ?_; (focus omega); (focus (rw [hwx]; repeat (first | with_reducible exact Blk.new _ _ _ | (with_reducible refine Blk.newAt _ _ _ _ ?_; first | rfl | (simp; done)) | with_reducible apply Blk.alloc | with_reducible apply Blk.drewN | with_reducible apply Blk.drew | with_reducible apply Blk.set_to | (with_reducible apply Blk.far_; (simp only [ne_eq]; omega)) | (with_reducible apply Blk.kept (hb := hbd)) | rfl))); intro gV hgV lV BV; rw [← hgV]; clear hgV)); (first | (refine pick_block (wv := wx) (lo := wv.heap.size) (t := 32) (wv.heap.size + 1) #[.int .i64 L0, .int .i64 L1, .int .i64 L2] ?_ ?_ ?_; (focus omega); (focus (rw [hwx]; repeat (first | with_reducible exact Blk.new _ _ _ | (with_reducible refine Blk.newAt _ _ _ _ ?_; first | rfl | (simp; done)) | with_reducible apply Blk.alloc | with_reducible apply Blk.drewN | with_reducible apply Blk.drew | with_reducible apply Blk.set_to | (with_reducible apply Blk.far_; (simp only [ne_eq]; omega)) | (with_reducible apply Blk.kept (hb := hbd)) | rfl))); intro gU hgU lU BU; rw [← hgU]; clear hgU) | (refine pick_block (wv := wx) (lo := wv.heap.size) (t := 32) (wd.heap.size + 1) #[.int .i64 L0, .int .i64 L1, .int .i64 L2] ?_ ?_ ?_; (focus omega); (focus (rw [hwx]; repeat (first | with_reducible exact Blk.new _ _ _ | (with_reducible refine Blk.newAt _ _ _ _ ?_; first | rfl | (simp; done)) | with_reducible apply Blk.alloc | with_reducible apply Blk.drewN | with_reducible apply Blk.drew | with_reducible apply Blk.set_to | (with_reducible apply Blk.far_; (simp only [ne_eq]; omega)) | (with_reducible apply Blk.kept (hb := hbd)) | rfl))); intro gU hgU lU BU; rw [← hgU]; clear hgU) | (refine pick_block (wv := wx) (lo := wv.heap.size) (t := 32) (wv.heap.size) #[.int .i64 L0, .int .i64 L1, .int .i64 L2] ?_ ?_ ?_; (focus omega); (focus (rw [hwx]; repeat (first | with_reducible exact Blk.new _ _ _ | (with_reducible refine Blk.newAt _ _ _ _ ?_; first | rfl | (simp; done)) | with_reducible apply Blk.alloc | with_reducible apply Blk.drewN | with_reducible apply Blk.drew | with_reducible apply Blk.set_to | (with_reducible apply Blk.far_; (simp only [ne_eq]; omega)) | (with_reducible apply Blk.kept (hb := hbd)) | rfl))); intro gU hgU lU BU; rw [← hgU]; clear hgU) | (refine pick_block (wv := wx) (lo := wv.heap.size) (t := 32) (wd.heap.size) #[.int .i64 L0, .int .i64 L1, .int .i64 L2] ?_ ?_ ?_; (focus omega); (focus (rw [hwx]; repeat (first | with_reducible exact Blk.new _ _ _ | (with_reducible refine Blk.newAt _ _ _ _ ?_; first | rfl | (simp; done)) | with_reducible apply Blk.alloc | with_reducible apply Blk.drewN | with_reducible apply Blk.drew | with_reducible apply Blk.set_to | (with_reducible apply Blk.far_; (simp only [ne_eq]; omega)) | (with_reducible apply Blk.kept (hb := hbd)) | rfl))); intro gU hgU lU BU; rw [← hgU]; clear hgU)); revert BV; revert lV; revert BU; revert lU; revert gV; revert gU; revert hB5; clear hwx; revert wx; exact main.out)
                    | ((first | (refine pick_block (wv := wx) (lo := wv.heap.size) (t := 32) (wv.heap.size) #[.int .i64 L0, .int .i64 L1, .int .i64 L2] ?_ ?_ ?_; (focus omega); (focus (rw [hwx]; repeat (first | with_reducible exact Blk.new _ _ _ | (with_reducible refine Blk.newAt _ _ _ _ ?_; first | rfl | (simp; done)) | with_reducible apply Blk.alloc | with_reducible apply Blk.drewN | with_reducible apply Blk.drew | with_reducible apply Blk.set_to | (with_reducible apply Blk.far_; (simp only [ne_eq]; omega)) | (with_reducible apply Blk.kept (hb := hbd)) | rfl))); intro gU hgU lU BU; rw [← hgU]; clear hgU) | (refine pick_block (wv := wx) (lo := wv.heap.size) (t := 32) (wd.heap.size) #[.int .i64 L0, .int .i64 L1, .int .i64 L2] ?_ ?_ ?_; (focus omega); (focus (rw [hwx]; repeat (first | with_reducible exact Blk.new _ _ _ | (with_reducible refine Blk.newAt _ _ _ _ ?_; first | rfl | (simp; done)) | with_reducible apply Blk.alloc | with_reducible apply Blk.drewN | with_reducible apply Blk.drew | with_reducible apply Blk.set_to | (with_reducible apply Blk.far_; (simp only [ne_eq]; omega)) | (with_reducible apply Blk.kept (hb := hbd)) | rfl))); intro gU hgU lU BU; rw [← hgU]; clear hgU)); (first | (refine pick_block (wv := wx) (lo := wv.heap.size) (t := 32) (wv.heap.size) #[.int .i64 H0, .int .i64 H1, .int .i64 H2] ?_ ?_ ?_; (focus omega); (focus (rw [hwx]; repeat (first | with_reducible exact Blk.new _ _ _ | (with_reducible refine Blk.newAt _ _ _ _ ?_; first | rfl | (simp; done)) | with_reducible apply Blk.alloc | with_reducible apply Blk.drewN | with_reducible apply Blk.drew | with_reducible apply Blk.set_to | (with_reducible apply Blk.far_; (simp only [ne_eq]; omega)) | (with_reducible apply Blk.kept (hb := hbd)) | rfl))); intro gV hgV lV BV; rw [← hgV]; clear hgV) | (refine pick_block (wv := wx) (lo := wv.heap.size) (t := 32) (wd.heap.size) #[.int .i64 H0, .int .i64 H1, .int .i64 H2] ?_ ?_ ?_; (focus omega); (focus (rw [hwx]; repeat (first | with_reducible exact Blk.new _ _ _ | (with_reducible refine Blk.newAt _ _ _ _ ?_; first | rfl | (simp; done)) | with_reducible apply Blk.alloc | with_reducible apply Blk.drewN | with_reducible apply Blk.drew | with_reducible apply Blk.set_to | (with_reducible apply Blk.far_; (simp only [ne_eq]; omega)) | (with_reducible apply Blk.kept (hb := hbd)) | rfl))); intro gV hgV lV BV; rw [← hgV]; clear hgV)); revert BV; revert lV; revert BU; revert lU; revert gV; revert gU; revert hB5; clear hwx; revert wx; exact main.out)
                    | (refine pick_two3 (lo := wv.heap.size) (t := 32) (z0 := .int .i64 0) (z1 := .int .i64 0) (z2 := .int .i64 0) (y0 := .int .i64 0) (y1 := .int .i64 0) (y2 := .int .i64 0) hwx ?_ ?_ ?_ ?_ ?_ ?_; (focus (simp only [ne_eq]; omega)); (focus (repeat (first | with_reducible exact Blk.new _ _ _ | (with_reducible refine Blk.newAt _ _ _ _ ?_; first | rfl | (simp; done)) | with_reducible assumption | with_reducible apply Blk.alloc | with_reducible apply Blk.drewN | with_reducible apply Blk.drew | with_reducible apply Blk.kept (hb := hbd)))); (focus (repeat (first | with_reducible exact Blk.new _ _ _ | (with_reducible refine Blk.newAt _ _ _ _ ?_; first | rfl | (simp; done)) | with_reducible assumption | with_reducible apply Blk.alloc | with_reducible apply Blk.drewN | with_reducible apply Blk.drew | with_reducible apply Blk.kept (hb := hbd)))); (focus omega); (focus omega); intro gU gV hU hV lU BU lV BV; first | (rw [← hV, ← hU]; revert BV; revert lV; revert BU; revert lU; clear hU hV; revert gV; revert gU; revert hB5; clear hwx; revert wx; exact main.out) | (rw [← hU, ← hV]; revert BV; revert lV; revert BU; revert lU; clear hU hV; revert gV; revert gU; revert hB5; clear hwx; revert wx; exact main.out))
              intro wx K5 gU gV lU rU lV rV
              have k2 := below_call k1 K5
              have own2 := own_call own1 K5
              have rZ2 := rZ1.kept K5
              have cU := rU.cell; have zU := rU.lt; have cZ := rZ2.cell; have zZ := rZ2.lt
              clear c0 c1 c2 d0 d1 d2 own1 rZ1 K5 lU rV lV
              rcases three_parts L0 L1 L2 z0 z1 z2 with e3 | f0 | f1 | f2
              · replace HB : Hid (bad l k j ↔ (K = 5 ∨ K = 3 ∨ K = 4)) := Lib.hid (HB.out.trans ⟨fun h => by omega, fun h => by omega⟩)
                obtain ⟨rfl, rfl, rfl⟩ := e3
                rcases (show K = 5 ∨ K = 3 ∨ K = 4 ∨ (K ≠ 5 ∧ K ≠ 3 ∧ K ≠ 4) by omega) with rfl | rfl | rfl | ⟨n5, n3, n4⟩
                · have HQ := Lib.hid (HNX.out (HB.out.2 (by omega)))
                  have zU3 : gU < wx.heap.size + 1 := by omega
                  rcases hm with rfl | rfl
                  · have dm : ((o.length : Int) + 1 == -1) = false := by simp; omega
                    go_wp2_with (at_builtin; (refine wpList_append_any _ rfl (.tmp 73) (.tmp 78) 64 rfl (w1.heap.size + 1) 93 i0 _ 3 24 Tryd.underlying64 hi0 hz0 hz1 hz2 rfl (by omega) _ o.length (csP o) rfl (own_call own2 (below_alloc (Below.refl _ _) _)) (wx.heap.size + 1) (some ⟨wx.heap.size, 0, none⟩) 1 1 (csP [((k : Int), (j : Int), 5)]) rfl (Reads.newAt _ _ _ 1 3 _ rfl rfl) (one_csP _) (by simp only [maxLen]; omega) (by omega) (by simp; omega) ?_); intro v1 w3 hown3 hg3 hat3; obtain ⟨A3, cp3, hv3, _⟩ := own_reads hown3; subst hv3)
                    have k3 : Below w.heap.size w w3 := Below.grown (B := w.heap.size) (a := w) (below_alloc k2 _) hg3 (by have := k2.size; simp; omega) (fun q hq => by have := (own2.lt q hq).1; have := hb1.size; omega)
                    have rZ3 := Blk.grown_ (rZ2.alloc _) hg3 (fun hq => by have := (own2.lt _ hq.symm).1; omega)
                    go_roundg g2
                    case measure => omega
                    case rel => exact ⟨j + 1, by omega, by go_num, by rw [HQ.out, List.length_append, csP_append]; exact hown3, k3, rZ3, Lib.hid (fun h1 => by cases h1)⟩
                  · have hl0 : o.length = 0 := by rw [ho1.out rfl]; rfl
                    go_wp2_with (at_builtin; (refine wpList_append_any _ rfl (.tmp 73) (.tmp 78) 64 rfl (w1.heap.size + 1) 93 i0 _ 3 24 Tryd.underlying64 hi0 hz0 hz1 hz2 rfl (by omega) _ o.length (csP o) rfl (own_call own2 (below_alloc (Below.refl _ _) _)) (wx.heap.size + 1) (some ⟨wx.heap.size, 0, none⟩) 1 1 (csP [((k : Int), (j : Int), 5)]) rfl (Reads.newAt _ _ _ 1 3 _ rfl rfl) (one_csP _) (by simp only [maxLen]; omega) (by omega) (by simp; omega) ?_); intro v1 w3 hown3 hg3 hat3; obtain ⟨A3, cp3, hv3, _⟩ := own_reads hown3; subst hv3)
                    have k3 : Below w.heap.size w w3 := Below.grown (B := w.heap.size) (a := w) (below_alloc k2 _) hg3 (by have := k2.size; simp; omega) (fun q hq => by have := (own2.lt q hq).1; have := hb1.size; omega)
                    (try rw [Exit.noGoto_ret])
                    go_ret
                    have hne : allC l k ++ rowC l k (j + 1) ≠ [] := by rw [HQ.out]; simp
                    have hl3 : (o ++ [((k : Int), (j : Int), (5 : Int))]).length = o.length + 1 := by simp
                    obtain ⟨A4, c4, hv4, ho4⟩ := own3_form (l := o ++ [((k : Int), (j : Int), (5 : Int))]) (by rw [csP_append]; exact hown3)
                    exact ⟨o ++ [((k : Int), (j : Int), (5 : Int))], A4, c4, by rw [hl3]; rw [hl0] at hv4 ⊢; exact congrArg Ending.returned hv4, by rw [hl3]; exact ho4.lower (by have := hb1.size; omega), k3, show Found l 1 _ from ⟨fun h1 => absurd h1 (by decide), ⟨fun h1 => absurd h1 (by simp), fun h1 => absurd h1 (HFN.out hne)⟩⟩⟩
                · have HQ := Lib.hid (HNX.out (HB.out.2 (by omega)))
                  have zU3 : gU < wx.heap.size + 1 := by omega
                  rcases hm with rfl | rfl
                  · have dm : ((o.length : Int) + 1 == -1) = false := by simp; omega
                    go_wp2_with (at_builtin; (refine wpList_append_any _ rfl (.tmp 73) (.tmp 78) 64 rfl (w1.heap.size + 1) 93 i0 _ 3 24 Tryd.underlying64 hi0 hz0 hz1 hz2 rfl (by omega) _ o.length (csP o) rfl (own_call own2 (below_alloc (Below.refl _ _) _)) (wx.heap.size + 1) (some ⟨wx.heap.size, 0, none⟩) 1 1 (csP [((k : Int), (j : Int), 3)]) rfl (Reads.newAt _ _ _ 1 3 _ rfl rfl) (one_csP _) (by simp only [maxLen]; omega) (by omega) (by simp; omega) ?_); intro v1 w3 hown3 hg3 hat3; obtain ⟨A3, cp3, hv3, _⟩ := own_reads hown3; subst hv3)
                    have k3 : Below w.heap.size w w3 := Below.grown (B := w.heap.size) (a := w) (below_alloc k2 _) hg3 (by have := k2.size; simp; omega) (fun q hq => by have := (own2.lt q hq).1; have := hb1.size; omega)
                    have rZ3 := Blk.grown_ (rZ2.alloc _) hg3 (fun hq => by have := (own2.lt _ hq.symm).1; omega)
                    go_roundg g2
                    case measure => omega
                    case rel => exact ⟨j + 1, by omega, by go_num, by rw [HQ.out, List.length_append, csP_append]; exact hown3, k3, rZ3, Lib.hid (fun h1 => by cases h1)⟩
                  · have hl0 : o.length = 0 := by rw [ho1.out rfl]; rfl
                    go_wp2_with (at_builtin; (refine wpList_append_any _ rfl (.tmp 73) (.tmp 78) 64 rfl (w1.heap.size + 1) 93 i0 _ 3 24 Tryd.underlying64 hi0 hz0 hz1 hz2 rfl (by omega) _ o.length (csP o) rfl (own_call own2 (below_alloc (Below.refl _ _) _)) (wx.heap.size + 1) (some ⟨wx.heap.size, 0, none⟩) 1 1 (csP [((k : Int), (j : Int), 3)]) rfl (Reads.newAt _ _ _ 1 3 _ rfl rfl) (one_csP _) (by simp only [maxLen]; omega) (by omega) (by simp; omega) ?_); intro v1 w3 hown3 hg3 hat3; obtain ⟨A3, cp3, hv3, _⟩ := own_reads hown3; subst hv3)
                    have k3 : Below w.heap.size w w3 := Below.grown (B := w.heap.size) (a := w) (below_alloc k2 _) hg3 (by have := k2.size; simp; omega) (fun q hq => by have := (own2.lt q hq).1; have := hb1.size; omega)
                    (try rw [Exit.noGoto_ret])
                    go_ret
                    have hne : allC l k ++ rowC l k (j + 1) ≠ [] := by rw [HQ.out]; simp
                    have hl3 : (o ++ [((k : Int), (j : Int), (3 : Int))]).length = o.length + 1 := by simp
                    obtain ⟨A4, c4, hv4, ho4⟩ := own3_form (l := o ++ [((k : Int), (j : Int), (3 : Int))]) (by rw [csP_append]; exact hown3)
                    exact ⟨o ++ [((k : Int), (j : Int), (3 : Int))], A4, c4, by rw [hl3]; rw [hl0] at hv4 ⊢; exact congrArg Ending.returned hv4, by rw [hl3]; exact ho4.lower (by have := hb1.size; omega), k3, show Found l 1 _ from ⟨fun h1 => absurd h1 (by decide), ⟨fun h1 => absurd h1 (by simp), fun h1 => absurd h1 (HFN.out hne)⟩⟩⟩
                · have HQ := Lib.hid (HNX.out (HB.out.2 (by omega)))
                  have zU3 : gU < wx.heap.size + 1 := by omega
                  rcases hm with rfl | rfl
                  · have dm : ((o.length : Int) + 1 == -1) = false := by simp; omega
                    go_wp2_with (at_builtin; (refine wpList_append_any _ rfl (.tmp 73) (.tmp 78) 64 rfl (w1.heap.size + 1) 93 i0 _ 3 24 Tryd.underlying64 hi0 hz0 hz1 hz2 rfl (by omega) _ o.length (csP o) rfl (own_call own2 (below_alloc (Below.refl _ _) _)) (wx.heap.size + 1) (some ⟨wx.heap.size, 0, none⟩) 1 1 (csP [((k : Int), (j : Int), 4)]) rfl (Reads.newAt _ _ _ 1 3 _ rfl rfl) (one_csP _) (by simp only [maxLen]; omega) (by omega) (by simp; omega) ?_); intro v1 w3 hown3 hg3 hat3; obtain ⟨A3, cp3, hv3, _⟩ := own_reads hown3; subst hv3)
                    have k3 : Below w.heap.size w w3 := Below.grown (B := w.heap.size) (a := w) (below_alloc k2 _) hg3 (by have := k2.size; simp; omega) (fun q hq => by have := (own2.lt q hq).1; have := hb1.size; omega)
                    have rZ3 := Blk.grown_ (rZ2.alloc _) hg3 (fun hq => by have := (own2.lt _ hq.symm).1; omega)
                    go_roundg g2
                    case measure => omega
                    case rel => exact ⟨j + 1, by omega, by go_num, by rw [HQ.out, List.length_append, csP_append]; exact hown3, k3, rZ3, Lib.hid (fun h1 => by cases h1)⟩
                  · have hl0 : o.length = 0 := by rw [ho1.out rfl]; rfl
                    go_wp2_with (at_builtin; (refine wpList_append_any _ rfl (.tmp 73) (.tmp 78) 64 rfl (w1.heap.size + 1) 93 i0 _ 3 24 Tryd.underlying64 hi0 hz0 hz1 hz2 rfl (by omega) _ o.length (csP o) rfl (own_call own2 (below_alloc (Below.refl _ _) _)) (wx.heap.size + 1) (some ⟨wx.heap.size, 0, none⟩) 1 1 (csP [((k : Int), (j : Int), 4)]) rfl (Reads.newAt _ _ _ 1 3 _ rfl rfl) (one_csP _) (by simp only [maxLen]; omega) (by omega) (by simp; omega) ?_); intro v1 w3 hown3 hg3 hat3; obtain ⟨A3, cp3, hv3, _⟩ := own_reads hown3; subst hv3)
                    have k3 : Below w.heap.size w w3 := Below.grown (B := w.heap.size) (a := w) (below_alloc k2 _) hg3 (by have := k2.size; simp; omega) (fun q hq => by have := (own2.lt q hq).1; have := hb1.size; omega)
                    (try rw [Exit.noGoto_ret])
                    go_ret
                    have hne : allC l k ++ rowC l k (j + 1) ≠ [] := by rw [HQ.out]; simp
                    have hl3 : (o ++ [((k : Int), (j : Int), (4 : Int))]).length = o.length + 1 := by simp
                    obtain ⟨A4, c4, hv4, ho4⟩ := own3_form (l := o ++ [((k : Int), (j : Int), (4 : Int))]) (by rw [csP_append]; exact hown3)
                    exact ⟨o ++ [((k : Int), (j : Int), (4 : Int))], A4, c4, by rw [hl3]; rw [hl0] at hv4 ⊢; exact congrArg Ending.returned hv4, by rw [hl3]; exact ho4.lower (by have := hb1.size; omega), k3, show Found l 1 _ from ⟨fun h1 => absurd h1 (by decide), ⟨fun h1 => absurd h1 (by simp), fun h1 => absurd h1 (HFN.out hne)⟩⟩⟩
                · have d5 : (K == 5) = false := by simpa using n5
                  have d3 : (K == 3) = false := by simpa using n3
                  have d4 : (K == 4) = false := by simpa using n4
                  have HQ := Lib.hid (HSM.out (fun hb => by have hq := HB.out.1 hb; omega))
                  obtain ⟨A2, cp2, hv2, _⟩ := own_reads own2
                  subst hv2
                  have dm : (((o.length : Nat) : Int) == most) = false := by
                    rcases hm with rfl | rfl
                    · exact beq_eq_false_iff_ne.2 (by omega)
                    · rw [ho1.out rfl]; rfl
                  go_wp2
                  all_goals
                    go_roundg g2
                    case measure => omega
                    case rel => exact ⟨j + 1, by omega, by go_num, by rw [HQ.out]; exact own2, k2, rZ2, Lib.hid (fun h1 => by rw [HQ.out]; exact ho1.out h1)⟩
              · replace HB : Hid (bad l k j ↔ K = 5) := Lib.hid (HB.out.trans ⟨fun h => by omega, fun h => by omega⟩)
                rcases (show K = 5 ∨ K ≠ 5 by omega) with rfl | n5
                · have HQ := Lib.hid (HNX.out (HB.out.2 (by omega)))
                  have zU3 : gU < wx.heap.size + 1 := by omega
                  rcases hm with rfl | rfl
                  · have dm : ((o.length : Int) + 1 == -1) = false := by simp; omega
                    go_wp2_with (at_builtin; (refine wpList_append_any _ rfl (.tmp 73) (.tmp 78) 64 rfl (w1.heap.size + 1) 93 i0 _ 3 24 Tryd.underlying64 hi0 hz0 hz1 hz2 rfl (by omega) _ o.length (csP o) rfl (own_call own2 (below_alloc (Below.refl _ _) _)) (wx.heap.size + 1) (some ⟨wx.heap.size, 0, none⟩) 1 1 (csP [((k : Int), (j : Int), 5)]) rfl (Reads.newAt _ _ _ 1 3 _ rfl rfl) (one_csP _) (by simp only [maxLen]; omega) (by omega) (by simp; omega) ?_); intro v1 w3 hown3 hg3 hat3; obtain ⟨A3, cp3, hv3, _⟩ := own_reads hown3; subst hv3)
                    have k3 : Below w.heap.size w w3 := Below.grown (B := w.heap.size) (a := w) (below_alloc k2 _) hg3 (by have := k2.size; simp; omega) (fun q hq => by have := (own2.lt q hq).1; have := hb1.size; omega)
                    have rZ3 := Blk.grown_ (rZ2.alloc _) hg3 (fun hq => by have := (own2.lt _ hq.symm).1; omega)
                    go_roundg g2
                    case measure => omega
                    case rel => exact ⟨j + 1, by omega, by go_num, by rw [HQ.out, List.length_append, csP_append]; exact hown3, k3, rZ3, Lib.hid (fun h1 => by cases h1)⟩
                  · have hl0 : o.length = 0 := by rw [ho1.out rfl]; rfl
                    go_wp2_with (at_builtin; (refine wpList_append_any _ rfl (.tmp 73) (.tmp 78) 64 rfl (w1.heap.size + 1) 93 i0 _ 3 24 Tryd.underlying64 hi0 hz0 hz1 hz2 rfl (by omega) _ o.length (csP o) rfl (own_call own2 (below_alloc (Below.refl _ _) _)) (wx.heap.size + 1) (some ⟨wx.heap.size, 0, none⟩) 1 1 (csP [((k : Int), (j : Int), 5)]) rfl (Reads.newAt _ _ _ 1 3 _ rfl rfl) (one_csP _) (by simp only [maxLen]; omega) (by omega) (by simp; omega) ?_); intro v1 w3 hown3 hg3 hat3; obtain ⟨A3, cp3, hv3, _⟩ := own_reads hown3; subst hv3)
                    have k3 : Below w.heap.size w w3 := Below.grown (B := w.heap.size) (a := w) (below_alloc k2 _) hg3 (by have := k2.size; simp; omega) (fun q hq => by have := (own2.lt q hq).1; have := hb1.size; omega)
                    (try rw [Exit.noGoto_ret])
                    go_ret
                    have hne : allC l k ++ rowC l k (j + 1) ≠ [] := by rw [HQ.out]; simp
                    have hl3 : (o ++ [((k : Int), (j : Int), (5 : Int))]).length = o.length + 1 := by simp
                    obtain ⟨A4, c4, hv4, ho4⟩ := own3_form (l := o ++ [((k : Int), (j : Int), (5 : Int))]) (by rw [csP_append]; exact hown3)
                    exact ⟨o ++ [((k : Int), (j : Int), (5 : Int))], A4, c4, by rw [hl3]; rw [hl0] at hv4 ⊢; exact congrArg Ending.returned hv4, by rw [hl3]; exact ho4.lower (by have := hb1.size; omega), k3, show Found l 1 _ from ⟨fun h1 => absurd h1 (by decide), ⟨fun h1 => absurd h1 (by simp), fun h1 => absurd h1 (HFN.out hne)⟩⟩⟩
                · have d5 : (K == 5) = false := by simpa using n5
                  have HQ := Lib.hid (HSM.out (fun hb => by have hq := HB.out.1 hb; omega))
                  obtain ⟨A2, cp2, hv2, _⟩ := own_reads own2
                  subst hv2
                  have dm : (((o.length : Nat) : Int) == most) = false := by
                    rcases hm with rfl | rfl
                    · exact beq_eq_false_iff_ne.2 (by omega)
                    · rw [ho1.out rfl]; rfl
                  go_wp2
                  all_goals
                    go_roundg g2
                    case measure => omega
                    case rel => exact ⟨j + 1, by omega, by go_num, by rw [HQ.out]; exact own2, k2, rZ2, Lib.hid (fun h1 => by rw [HQ.out]; exact ho1.out h1)⟩
              · replace HB : Hid (bad l k j ↔ K = 5) := Lib.hid (HB.out.trans ⟨fun h => by omega, fun h => by omega⟩)
                obtain ⟨rfl, f1⟩ := f1
                rcases (show K = 5 ∨ K ≠ 5 by omega) with rfl | n5
                · have HQ := Lib.hid (HNX.out (HB.out.2 (by omega)))
                  have zU3 : gU < wx.heap.size + 1 := by omega
                  rcases hm with rfl | rfl
                  · have dm : ((o.length : Int) + 1 == -1) = false := by simp; omega
                    go_wp2_with (at_builtin; (refine wpList_append_any _ rfl (.tmp 73) (.tmp 78) 64 rfl (w1.heap.size + 1) 93 i0 _ 3 24 Tryd.underlying64 hi0 hz0 hz1 hz2 rfl (by omega) _ o.length (csP o) rfl (own_call own2 (below_alloc (Below.refl _ _) _)) (wx.heap.size + 1) (some ⟨wx.heap.size, 0, none⟩) 1 1 (csP [((k : Int), (j : Int), 5)]) rfl (Reads.newAt _ _ _ 1 3 _ rfl rfl) (one_csP _) (by simp only [maxLen]; omega) (by omega) (by simp; omega) ?_); intro v1 w3 hown3 hg3 hat3; obtain ⟨A3, cp3, hv3, _⟩ := own_reads hown3; subst hv3)
                    have k3 : Below w.heap.size w w3 := Below.grown (B := w.heap.size) (a := w) (below_alloc k2 _) hg3 (by have := k2.size; simp; omega) (fun q hq => by have := (own2.lt q hq).1; have := hb1.size; omega)
                    have rZ3 := Blk.grown_ (rZ2.alloc _) hg3 (fun hq => by have := (own2.lt _ hq.symm).1; omega)
                    go_roundg g2
                    case measure => omega
                    case rel => exact ⟨j + 1, by omega, by go_num, by rw [HQ.out, List.length_append, csP_append]; exact hown3, k3, rZ3, Lib.hid (fun h1 => by cases h1)⟩
                  · have hl0 : o.length = 0 := by rw [ho1.out rfl]; rfl
                    go_wp2_with (at_builtin; (refine wpList_append_any _ rfl (.tmp 73) (.tmp 78) 64 rfl (w1.heap.size + 1) 93 i0 _ 3 24 Tryd.underlying64 hi0 hz0 hz1 hz2 rfl (by omega) _ o.length (csP o) rfl (own_call own2 (below_alloc (Below.refl _ _) _)) (wx.heap.size + 1) (some ⟨wx.heap.size, 0, none⟩) 1 1 (csP [((k : Int), (j : Int), 5)]) rfl (Reads.newAt _ _ _ 1 3 _ rfl rfl) (one_csP _) (by simp only [maxLen]; omega) (by omega) (by simp; omega) ?_); intro v1 w3 hown3 hg3 hat3; obtain ⟨A3, cp3, hv3, _⟩ := own_reads hown3; subst hv3)
                    have k3 : Below w.heap.size w w3 := Below.grown (B := w.heap.size) (a := w) (below_alloc k2 _) hg3 (by have := k2.size; simp; omega) (fun q hq => by have := (own2.lt q hq).1; have := hb1.size; omega)
                    (try rw [Exit.noGoto_ret])
                    go_ret
                    have hne : allC l k ++ rowC l k (j + 1) ≠ [] := by rw [HQ.out]; simp
                    have hl3 : (o ++ [((k : Int), (j : Int), (5 : Int))]).length = o.length + 1 := by simp
                    obtain ⟨A4, c4, hv4, ho4⟩ := own3_form (l := o ++ [((k : Int), (j : Int), (5 : Int))]) (by rw [csP_append]; exact hown3)
                    exact ⟨o ++ [((k : Int), (j : Int), (5 : Int))], A4, c4, by rw [hl3]; rw [hl0] at hv4 ⊢; exact congrArg Ending.returned hv4, by rw [hl3]; exact ho4.lower (by have := hb1.size; omega), k3, show Found l 1 _ from ⟨fun h1 => absurd h1 (by decide), ⟨fun h1 => absurd h1 (by simp), fun h1 => absurd h1 (HFN.out hne)⟩⟩⟩
                · have d5 : (K == 5) = false := by simpa using n5
                  have HQ := Lib.hid (HSM.out (fun hb => by have hq := HB.out.1 hb; omega))
                  obtain ⟨A2, cp2, hv2, _⟩ := own_reads own2
                  subst hv2
                  have dm : (((o.length : Nat) : Int) == most) = false := by
                    rcases hm with rfl | rfl
                    · exact beq_eq_false_iff_ne.2 (by omega)
                    · rw [ho1.out rfl]; rfl
                  go_wp2
                  all_goals
                    go_roundg g2
                    case measure => omega
                    case rel => exact ⟨j + 1, by omega, by go_num, by rw [HQ.out]; exact own2, k2, rZ2, Lib.hid (fun h1 => by rw [HQ.out]; exact ho1.out h1)⟩
              · replace HB : Hid (bad l k j ↔ K = 5) := Lib.hid (HB.out.trans ⟨fun h => by omega, fun h => by omega⟩)
                obtain ⟨rfl, rfl, f2⟩ := f2
                rcases (show K = 5 ∨ K ≠ 5 by omega) with rfl | n5
                · have HQ := Lib.hid (HNX.out (HB.out.2 (by omega)))
                  have zU3 : gU < wx.heap.size + 1 := by omega
                  rcases hm with rfl | rfl
                  · have dm : ((o.length : Int) + 1 == -1) = false := by simp; omega
                    go_wp2_with (at_builtin; (refine wpList_append_any _ rfl (.tmp 73) (.tmp 78) 64 rfl (w1.heap.size + 1) 93 i0 _ 3 24 Tryd.underlying64 hi0 hz0 hz1 hz2 rfl (by omega) _ o.length (csP o) rfl (own_call own2 (below_alloc (Below.refl _ _) _)) (wx.heap.size + 1) (some ⟨wx.heap.size, 0, none⟩) 1 1 (csP [((k : Int), (j : Int), 5)]) rfl (Reads.newAt _ _ _ 1 3 _ rfl rfl) (one_csP _) (by simp only [maxLen]; omega) (by omega) (by simp; omega) ?_); intro v1 w3 hown3 hg3 hat3; obtain ⟨A3, cp3, hv3, _⟩ := own_reads hown3; subst hv3)
                    have k3 : Below w.heap.size w w3 := Below.grown (B := w.heap.size) (a := w) (below_alloc k2 _) hg3 (by have := k2.size; simp; omega) (fun q hq => by have := (own2.lt q hq).1; have := hb1.size; omega)
                    have rZ3 := Blk.grown_ (rZ2.alloc _) hg3 (fun hq => by have := (own2.lt _ hq.symm).1; omega)
                    go_roundg g2
                    case measure => omega
                    case rel => exact ⟨j + 1, by omega, by go_num, by rw [HQ.out, List.length_append, csP_append]; exact hown3, k3, rZ3, Lib.hid (fun h1 => by cases h1)⟩
                  · have hl0 : o.length = 0 := by rw [ho1.out rfl]; rfl
                    go_wp2_with (at_builtin; (refine wpList_append_any _ rfl (.tmp 73) (.tmp 78) 64 rfl (w1.heap.size + 1) 93 i0 _ 3 24 Tryd.underlying64 hi0 hz0 hz1 hz2 rfl (by omega) _ o.length (csP o) rfl (own_call own2 (below_alloc (Below.refl _ _) _)) (wx.heap.size + 1) (some ⟨wx.heap.size, 0, none⟩) 1 1 (csP [((k : Int), (j : Int), 5)]) rfl (Reads.newAt _ _ _ 1 3 _ rfl rfl) (one_csP _) (by simp only [maxLen]; omega) (by omega) (by simp; omega) ?_); intro v1 w3 hown3 hg3 hat3; obtain ⟨A3, cp3, hv3, _⟩ := own_reads hown3; subst hv3)
                    have k3 : Below w.heap.size w w3 := Below.grown (B := w.heap.size) (a := w) (below_alloc k2 _) hg3 (by have := k2.size; simp; omega) (fun q hq => by have := (own2.lt q hq).1; have := hb1.size; omega)
                    (try rw [Exit.noGoto_ret])
                    go_ret
                    have hne : allC l k ++ rowC l k (j + 1) ≠ [] := by rw [HQ.out]; simp
                    have hl3 : (o ++ [((k : Int), (j : Int), (5 : Int))]).length = o.length + 1 := by simp
                    obtain ⟨A4, c4, hv4, ho4⟩ := own3_form (l := o ++ [((k : Int), (j : Int), (5 : Int))]) (by rw [csP_append]; exact hown3)
                    exact ⟨o ++ [((k : Int), (j : Int), (5 : Int))], A4, c4, by rw [hl3]; rw [hl0] at hv4 ⊢; exact congrArg Ending.returned hv4, by rw [hl3]; exact ho4.lower (by have := hb1.size; omega), k3, show Found l 1 _ from ⟨fun h1 => absurd h1 (by decide), ⟨fun h1 => absurd h1 (by simp), fun h1 => absurd h1 (HFN.out hne)⟩⟩⟩
                · have d5 : (K == 5) = false := by simpa using n5
                  have HQ := Lib.hid (HSM.out (fun hb => by have hq := HB.out.1 hb; omega))
                  obtain ⟨A2, cp2, hv2, _⟩ := own_reads own2
                  subst hv2
                  have dm : (((o.length : Nat) : Int) == most) = false := by
                    rcases hm with rfl | rfl
                    · exact beq_eq_false_iff_ne.2 (by omega)
                    · rw [ho1.out rfl]; rfl
                  go_wp2
                  all_goals
                    go_roundg g2
                    case measure => omega
                    case rel => exact ⟨j + 1, by omega, by go_num, by rw [HQ.out]; exact own2, k2, rZ2, Lib.hid (fun h1 => by rw [HQ.out]; exact ho1.out h1)⟩
            · have dkj : decide ((j : Int) ≤ (k : Int)) = true := by simp; omega
              have E := Lib.hid (show rowC l k (j + 1) = rowC l k j from rowC_same (fun h => hkj h.1))
              go_wp2
              go_roundg g2
              case measure => omega
              case rel => exact ⟨j + 1, by omega, by go_num, by rw [E.out]; exact hown, k0, rZ, Lib.hid (by rw [E.out]; exact ho1.out)⟩
end Go.Proofs.YtmlcnmnpkemdpaaDoor
