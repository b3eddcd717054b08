/- Further parts of the proofs of layer 31: AlTimes, AlWith, AlRef, AlSlMem, FiFic, FiRef. -/
import Derived.Test.YtpkmiegccfhpnaaGreatDoorK01
import Derived.Test.YtpkmiegccfhpnaaGreatDoorK02
import Derived.Test.YtpkmiegccfhpnaaGreatDoorK03
import Derived.Test.YtpkmiegccfhpnaaGreatDoorK04
import Derived.Test.YtpkmiegccfhpnaaGreatDoorK05
import Derived.Test.YtpkmiegccfhpnaaGreatDoorK06
import Derived.Test.YtpkmiegccfhpnaaGreatDoorK07
import Derived.Test.YtpkmiegccfhpnaaGreatDoorK08
import Derived.Test.YtpkmiegccfhpnaaGreatDoorK09
import Derived.Test.YtpkmiegccfhpnaaGreatDoorK10
import Derived.Test.YtpkmiegccfhpnaaGreatDoorK11
import Derived.Test.YtpkmiegccfhpnaaGreatDoorK12
import Derived.Test.YtpkmiegccfhpnaaGreatDoorK13
import Derived.Test.YtpkmiegccfhpnaaGreatDoorK14
import Derived.Test.YtpkmiegccfhpnaaGreatDoorK15
import Derived.Test.YtpkmiegccfhpnaaGreatDoorK16
import Derived.Test.YtpkmiegccfhpnaaGreatDoorK17
import Derived.Test.YtpkmiegccfhpnaaGreatDoorK18
import Derived.Test.YtpkmiegccfhpnaaGreatDoorK19
import Derived.Test.YtpkmiegccfhpnaaGreatDoorK20
import Derived.Test.YtpkmiegccfhpnaaGreatDoorK21
import Derived.Test.YtpkmiegccfhpnaaGreatDoorK22
import Derived.Test.YtpkmiegccfhpnaaGreatDoorK23
import Derived.Test.YtpkmiegccfhpnaaGreatDoorC01
import Derived.Test.YtpkmiegccfhpnaaGreatDoorProg
import Derived.WalkKit
import Derived.WalkSpells
import Derived.WalkLawsBesides
import Derived.Deep.QuietTactic
import Derived.BigQuiet
import Derived.BigGuardPart
import Derived.Lib.Hide
import Derived.RegionTactic
import Derived.ChangeAlike
import Derived.Laws.OwnMore
import Derived.Deep.AppendLies
import Derived.Deep.Draws
import Derived.Deep.RegionHeld3
import Derived.Maps.AppendAt
import Derived.OwnWalk
import Derived.StillTail
import Derived.IntWalk
import Derived.Deep.LoopGhost
import Derived.Maps.OwnOps
import Derived.Maps.OwnSet
import Derived.Maps.Views
import Derived.Maps.RangeWalk
import Derived.WideKeyPair
import Derived.DeepKeys4
import Derived.LaidMore
import Derived.BigRegion
import Derived.ArgAppend
import Derived.Carry
import Derived.RangeFuncOwn
import Derived.Deep.RegionLaw
import Derived.RangeFuncNested
import Derived.RangeFuncBound
import Derived.RangeFuncCalls
import Derived.RangeFuncLeaves
import Derived.OwnWalkIn
import Derived.TacticsInMore
import Derived.LoopNIn
import Derived.LoopIn
import Derived.Sort.LoopGhostIn
import Derived.Sort.MapsRangeIn
import Derived.Shelf.SlSortCmp.WholeK
import Derived.Shelf.SlSortCmp.NoneTotal
import Derived.Shelf.SlGeneric
import Derived.Shelf.SlLaysF0
import Derived.Ground.SlsfProg
import Derived.RangeFuncSeq
namespace Go.Proofs.YtpkmiegccfhpnaaGreatDoor
open Go.RowKit
theorem reads_take2 {w : World} {B n k : Nat} {A : Option Addr} {l : List Tm} (h : Reads w B 2 A n (csT l)) (hk : k ≤ n) : Reads w B 2 A k (csT (l.take k)) := by
  have hl := h.tlen
  refine ⟨by rw [csT_len, List.length_take]; omega, fun h0 => ?_⟩
  obtain ⟨b, off, e, hb, hc⟩ := h.2 (by omega)
  refine ⟨b, off, e, hb, fun j u hu => hc j u ?_⟩
  have e2 : csT l = csT (l.take k) ++ csT (l.drop k) := by rw [← csT_append, List.take_append_drop]
  rw [e2]
  have hj : j < (csT (l.take k)).length := by
    rcases Nat.lt_or_ge j (csT (l.take k)).length with h1 | h1
    · exact h1
    · rw [List.getElem?_eq_none h1] at hu; cases hu
  rw [List.getElem?_append_left hj, hu]
/-! ### Appends in a drawn region -/
theorem step_app {P : Program} (w : World) {ops : Array Oper} {o : Oper} {a : Act} {K : Act → World → Prop} {Q : Exit → Act → World → Prop} {E : Prop} (hgd : o.guard = none) (s x : Operand) (t : TypeId)
    (ho : o.op = .call { callee := .builtin .append, args := #[s, x], argTypes := #[t, t] })
    (base : Nat) (e : TypeId) (i : TypeInfo) (z : Value) (size bytes : Nat) (ht : P.underlying t = some (.slice e)) (hi : P.info? e = some i) (hz : i.zero = some z)
    (hsize : i.size = size) (hby : i.bytes = bytes) (hzs : z.cells.size = size) (hsz : 0 < size)
    (v : Value) (n : Nat) (xs : List Value) (hs : a.eval s = v) (hown : w.ownsRow base e size v n xs)
    (B : Nat) (A : Option Addr) (m c : Nat) (news : List Value) (hx : a.eval x = .slice A m c) (hr : Reads w B size A m news) (h1 : ∀ u ∈ news, u.oneCell' = true)
    (h63 : n + m ≤ maxLen) (hbytes : (n + m) * bytes ≤ 140737488355328) (hbase : base ≤ w.heap.size)
    (h : ∀ v' w', w'.ownsRow base e size v' (n + m) (xs ++ news) → w.grownBy w' v.ownBlock → (v'.ownBlock = v.ownBlock ∨ v'.ownBlock = some w.heap.size) → K (a.put o.dst v') w') :
    if Region.wanted o (yielded ops a.tmps) = true then Oper.wp P o a w K Q else E := by
  have hw : Region.wanted o (yielded ops a.tmps) = true := by simp [Region.wanted, hgd]
  rw [if_pos hw]
  exact wp_append_any w s x t ho base e i z size bytes ht hi hz hsize hby hzs hsz v n xs hs hown B A m c news hx hr h1 h63 hbytes hbase h
theorem step_is {P : Program} {w : World} {ops : Array Oper} {o : Oper} {a : Act} {K : Act → World → Prop} {Q : Exit → Act → World → Prop} {E : Prop} (s x : Operand) (t : TypeId) (v : Value)
    (_ : o.op = .call { callee := .builtin .append, args := #[s, x], argTypes := #[t, t] }) (_ : a.eval s = v) (h : if Region.wanted o (yielded ops a.tmps) = true then Oper.wp P o a w K Q else E) :
    if Region.wanted o (yielded ops a.tmps) = true then Oper.wp P o a w K Q else E := h
theorem lay_grow {W w' : World} {row : Option Nat} {t : TypeId} {cs : Array Value} {G : Prop} (hg : W.grownBy w' row) (g : Nat) (hB : Blk W g t cs) (hne : some g ≠ row) (k : Blk w' g t cs → G) : G := k (Blk.grow hB hg hne)
theorem tm_lit (w : World) (base g : Nat) (hg : g = w.heap.size) (hb : base ≤ w.heap.size) : (w.alloc (.cells #[] 45)).ownsRow base 45 2 (.slice (some ⟨g, 0, none⟩) 0 0) 0 [] := by
  subst hg; exact World.ownsRow_lit w #[] 0 hb (by simp [maxLen]) rfl
theorem tm_blk {w : World} {g : Nat} {t : TypeId} {p0 p1 : Int} (h : Blk w g t #[.int .i64 p0, .int .i64 p1]) : Reads w w.heap.size 2 (some ⟨g, 0, none⟩) 1 (csT [(p0, p1)]) :=
  ⟨rfl, fun _ => ⟨g, 0, rfl, h.lt, fun j u hu => by rw [Nat.zero_add, h.cell]; simpa [csT, cT] using hu⟩⟩
end Go.Proofs.YtpkmiegccfhpnaaGreatDoor
namespace Go.Proofs.YtpkmiegccfhpnaaGreatDoor
open Go.RowKit
set_option maxRecDepth 100000 in
set_option maxHeartbeats 4000000 in
theorem with_any (u : Value) (m : List Tm) (y : Tm) (w : World) (hu : ReadsT w u m) (hn : m.length ≤ 100000) (hok : OkL m) (hy : ok y) :
    Calls Tryz.prog 77 #[u, .agg #[.int .i64 y.1, .int .i64 y.2]] w fun e w' => ∃ v, e = .returned v ∧ ReadsT w' v (withS m y) ∧ Below w.heap.size w w' := by
  obtain ⟨A, c, rfl, h, hnc, hcm⟩ := hu
  obtain ⟨n, hN⟩ : ∃ n, n = m.length := ⟨_, rfl⟩
  rw [← hN] at h hnc hn ⊢
  have HL := Lib.hid hN.symm
  have HOK := Lib.hid hok
  have HOy := Lib.hid hy
  have HW := Lib.hid (withS_pos m y)
  clear hN hok hy
  obtain ⟨y0, y1⟩ := y
  obtain ⟨i0, hi0, hz0, hz1, hz2⟩ := info_parts tm_info
  go_enter Tryz.func77, Tryz.ntmps77
  go_wp2
  go_loopw [5] (fun i wr => ∃ k : Nat, k ≤ n ∧ i = .int .i64 k ∧ Hid (∀ (j : Nat) x, j < k → m[j]? = some x → ltT x (y0, y1)) ∧ Below w.heap.size w wr ∧ Blk wr w.heap.size 45 #[.int .i64 y0, .int .i64 y1]) (fun i _ => n - (intOf i).toNat)
  case atStart => exact ⟨0, by omega, rfl, Lib.hid (fun j x h => by omega), by repeat (first | with_reducible exact Below.refl _ _ | with_reducible assumption | with_reducible refine below_drewN ?_ _ | with_reducible refine Below.drew ?_ | with_reducible refine below_alloc ?_ _ | (with_reducible refine Below.setCell ?_ ?_ _; rotate_left; ((try simp only); omega))), by with_reducible exact Blk.new _ _ _⟩
  case round =>
    obtain ⟨k, hk, rfl, hp, k0, bY⟩ := hrel
    have y0c : wr.cell? ⟨w.heap.size, 0, none⟩ = some (.int .i64 y0) := bY.cell 0
    have y1c : wr.cell? ⟨w.heap.size, 1, none⟩ = some (.int .i64 y1) := bY.cell 1
    have lY := bY.lt
    -- the ways: the time at k is ahead; it is the time itself; it is behind; there is none
    have ways : (k < n ∧ ltT (mAt m k) (y0, y1)) ∨ (posW m (y0, y1) = k ∧ ((k < n ∧ ¬ ltT (mAt m k) (y0, y1) ∧ mAt m k = (y0, y1) ∧ withS m (y0, y1) = m) ∨ (k < n ∧ ¬ ltT (mAt m k) (y0, y1) ∧ mAt m k ≠ (y0, y1) ∧ withS m (y0, y1) = m.take k ++ (y0, y1) :: m.drop k) ∨ (k = n ∧ withS m (y0, y1) = m.take k ++ (y0, y1) :: m.drop k))) := by
      have hl := HL.out
      by_cases hkn : k < n
      · have hx := mAt_some (m := m) (i := k) (by omega)
        by_cases hlt : ltT (mAt m k) (y0, y1)
        · exact .inl ⟨hkn, hlt⟩
        · have hpos : posW m (y0, y1) = k := posW_is hp.out (by omega) (fun x h => by rw [hx] at h; cases h; exact hlt)
          have hw := HW.out
          rw [hpos, hx] at hw
          by_cases he : mAt m k = (y0, y1)
          · exact .inr ⟨hpos, .inl ⟨hkn, hlt, he, by rw [hw, if_pos (by rw [he])]⟩⟩
          · exact .inr ⟨hpos, .inr (.inl ⟨hkn, hlt, he, by rw [hw, if_neg (fun h => he (Option.some.inj h))]⟩)⟩
      · have hkn' : k = n := by omega
        have hpos : posW m (y0, y1) = k := posW_is hp.out (by omega) (fun x h => by rw [List.getElem?_eq_none (by omega)] at h; cases h)
        have hw := HW.out
        rw [hpos, List.getElem?_eq_none (by omega), if_neg (by simp)] at hw
        exact .inr ⟨hpos, .inr (.inr ⟨hkn', hw⟩)⟩
    rcases ways with ⟨hkn, hlt⟩ | ⟨hpos, ⟨hkn, hlt, he, hw⟩ | hrest⟩
    · have hkn' : (k : Int) < (n : Int) := by omega
      have dk : decide (k < n) = true := by simpa using hkn
      have hx := mAt_some (m := m) (i := k) (by have := HL.out; omega)
      have hox := HOK.out _ (List.mem_of_getElem? hx)
      obtain ⟨b, off, rfl, hab, c0, c1⟩ := h.tm (Nat.le_refl _) k0 hkn hx
      have q1 := fun W => before_any (mAt m k) (y0, y1) W
      have el : lessB (mAt m k) (y0, y1) = true := by unfold lessB; rw [cmp_lt hox HOy.out]; simpa using hlt
      rw [el] at q1
      have HP := Lib.hid (show ∀ (j : Nat) x, j < k + 1 → m[j]? = some x → ltT x (y0, y1) from fun j x hj hjx => by
        by_cases hjk : j = k
        · subst hjk; rw [hx] at hjx; cases hjx; exact hlt
        · exact hp.out j x (by omega) hjx)
      obtain ⟨⟨x0, x1⟩, hxe⟩ : ∃ x, x = mAt m k := ⟨_, rfl⟩
      rw [← hxe] at q1 c0 c1
      clear hx hxe el hlt hox
      simp only at c0 c1 q1
      go_wp2_with fail
      refine wp_region_calm (by kernel_rfl) (by kernel_rfl) ?_
      repeat (go_big_quiet_step ((go_at_call 81; exact calm_call (q1 _))))
      refine wpQuiet_nil ?_
      intro w2 hb2
      go_wp2
      go_roundw
      case rel => exact ⟨k + 1, by omega, by go_num, HP, below_call k0 hb2, bY.kept hb2⟩
      case measure => simp [intOf]; omega
    · have hkn' : (k : Int) < (n : Int) := by omega
      have dk : decide (k < n) = true := by simpa using hkn
      have hx := mAt_some (m := m) (i := k) (by have := HL.out; omega)
      have hox := HOK.out _ (List.mem_of_getElem? hx)
      have HR : ReadsT wr (.slice A n c) m := by
        have hl := HL.out
        subst hl
        exact ⟨A, c, rfl, (h.below (Nat.le_refl _) k0).more k0.size, hnc, hcm⟩
      obtain ⟨b, off, rfl, hab, c0, c1⟩ := h.tm (Nat.le_refl _) k0 hkn hx
      have q1 := fun W => before_any (mAt m k) (y0, y1) W
      have el : lessB (mAt m k) (y0, y1) = false := by unfold lessB; rw [cmp_lt hox HOy.out]; simpa using hlt
      rw [el, he] at q1
      rw [he] at c0 c1
      have HE := Lib.hid hw
      clear hx el hlt hox he hw hpos hp
      simp only at c0 c1 q1
      go_wp2_with fail
      refine wp_region_calm (by kernel_rfl) (by kernel_rfl) ?_
      repeat (go_big_quiet_step ((go_at_call 81; exact calm_call (q1 _))))
      refine wpQuiet_nil ?_
      intro w2 hb2
      have c0' := (hb2.cell (p := ⟨b, off + k * 2, none⟩) hab).trans c0
      have c1' := (hb2.cell (p := ⟨b, off + k * 2 + 1, none⟩) hab).trans c1
      have y0c' := (hb2.cell (p := ⟨w.heap.size, 0, none⟩) lY).trans y0c
      have y1c' := (hb2.cell (p := ⟨w.heap.size, 1, none⟩) lY).trans y1c
      have hab' : b < w2.heap.size := Nat.lt_of_lt_of_le hab hb2.size
      have lY' : w.heap.size < w2.heap.size := Nat.lt_of_lt_of_le lY hb2.size
      go_wp2_with fail
      refine wp_region_calm (by kernel_rfl) (by kernel_rfl) ?_
      repeat (go_big_quiet_step (fail))
      refine wpQuiet_nil ?_
      intro w3 hb3
      go_wp2
      go_ret
      rw [HE.out]
      exact ⟨_, rfl, HR.kept (below_call hb2 hb3), below_call (below_call k0 hb2) hb3⟩
    · have HE : Hid (withS m (y0, y1) = m.take k ++ (y0, y1) :: m.drop k) := Lib.hid (by rcases hrest with ⟨_, _, _, h⟩ | ⟨_, h⟩ <;> exact h)
      obtain ⟨AH, hAH, s1⟩ := tm_head A k n c (by omega)
      obtain ⟨AT, hAT, s2⟩ := tm_tail A k n c hk hnc
      -- up to region 6, on both ways
      have hkc : (k : Int) ≤ (c : Int) := by omega
      have hkn2 : (k : Int) ≤ (n : Int) := by omega
      have tail : ∀ (wv : World), Below wr.heap.size wr wv → True := fun _ _ => trivial
      rcases hrest with ⟨hkn, hlt, hne, _⟩ | ⟨hkn, _⟩
      · have hkn' : (k : Int) < (n : Int) := by omega
        have dk : decide (k < n) = true := by simpa using hkn
        have hx := mAt_some (m := m) (i := k) (by have := HL.out; omega)
        have hox := HOK.out _ (List.mem_of_getElem? hx)
        obtain ⟨b, off, hA, hab, c0, c1⟩ := h.tm (Nat.le_refl _) k0 hkn hx
        have q1 := fun W => before_any (mAt m k) (y0, y1) W
        have el : lessB (mAt m k) (y0, y1) = false := by unfold lessB; rw [cmp_lt hox HOy.out]; simpa using hlt
        rw [el] at q1
        obtain ⟨⟨x0, x1⟩, hxe⟩ : ∃ x, x = mAt m k := ⟨_, rfl⟩
        rw [← hxe] at q1 c0 c1 hne
        have hd : (x0 == y0) = false ∨ ((x0 == y0) = true ∧ (x1 == y1) = false) := by
          by_cases h0 : x0 = y0
          · exact .inr ⟨by simpa using h0, by simp; intro h1; exact hne (by rw [h0, h1])⟩
          · exact .inl (by simpa using h0)
        clear hx el hlt hox hxe hne hpos hp tail
        simp only at c0 c1 q1
        rw [hA] at h s1 s2 hAT
        subst hA
        subst hAH
        rcases hd with g0 | ⟨g0, g1⟩
        all_goals
          go_wp2_with fail
          refine wp_region_calm (by kernel_rfl) (by kernel_rfl) ?_
          repeat (go_big_quiet_step ((go_at_call 81; exact calm_call (q1 _))))
          refine wpQuiet_nil ?_
          intro w2 hb2
          have c0' := (hb2.cell (p := ⟨b, off + k * 2, none⟩) hab).trans c0
          have c1' := (hb2.cell (p := ⟨b, off + k * 2 + 1, none⟩) hab).trans c1
          have y0c' := (hb2.cell (p := ⟨w.heap.size, 0, none⟩) lY).trans y0c
          have y1c' := (hb2.cell (p := ⟨w.heap.size, 1, none⟩) lY).trans y1c
          have hab' : b < w2.heap.size := Nat.lt_of_lt_of_le hab hb2.size
          have lY' : w.heap.size < w2.heap.size := Nat.lt_of_lt_of_le lY hb2.size
          go_wp2_with fail
          refine wp_region_calm (by kernel_rfl) (by kernel_rfl) ?_
          repeat (go_big_quiet_step (fail))
          refine wpQuiet_nil ?_
          intro w3 hb3
          have k3 := below_call (below_call k0 hb2) hb3
          have bY3 := (bY.kept hb2).kept hb3
          clear y0c y1c lY
          obtain ⟨wv, hwv⟩ : ∃ wv, wv = w3 := ⟨_, rfl⟩
          subst hwv
          obtain ⟨gY, hgY⟩ : ∃ g, g = w.heap.size := ⟨_, rfl⟩
          rw [← hgY] at bY3 ⊢
          have y0c : wv.cell? ⟨gY, 0, none⟩ = some (.int .i64 y0) := bY3.cell 0
          have y1c : wv.cell? ⟨gY, 1, none⟩ = some (.int .i64 y1) := bY3.cell 1
          have lY := bY3.lt
          have hBv := k3.size
          have rT : Reads wv w.heap.size 2 (some ⟨b, off, none⟩) k (csT (m.take k)) := reads_take2 (h.below (Nat.le_refl _) k3) (by omega)
          clear hgY
          go_wp2_with fail
          go_region_held3 (fun w' => w'.cell? ⟨gY, 0, none⟩ = some (.int .i64 y0) ∧ w'.cell? ⟨gY, 1, none⟩ = some (.int .i64 y1) ∧ Below wv.heap.size wv w') ((refine (fun hb => ⟨(hb.cell (p := ⟨_, _, none⟩) lY).trans y0c, (hb.cell (p := ⟨_, _, none⟩) lY).trans y1c, hb⟩) ?_; repeat (first | with_reducible exact Below.refl _ _ | with_reducible exact hB3 | with_reducible exact hB4 | with_reducible exact (show _ ∧ _ ∧ Below wv.heap.size wv _ by assumption).2.2 | with_reducible refine Below.drew ?_ | with_reducible refine below_alloc ?_ _))) ((first | ((refine step_is (.tmp 34) (.tmp 37) 88 (.slice (some ⟨wv.heap.size, 0, none⟩) 0 0) ?_ ?_ ?_); (focus rfl); (focus rfl); (refine step_app _ (by rfl) (.tmp 34) (.tmp 37) 88 (by rfl) wv.heap.size 45 i0 _ 2 16 Tryz.underlying88 hi0 hz0 hz1 hz2 rfl (by omega) (.slice (some ⟨wv.heap.size, 0, none⟩) 0 0) 0 [] (by rfl) (own_call (World.ownsRow_lit wv #[] 0 (Nat.le_refl _) (by simp [maxLen]) rfl) (by repeat (first | with_reducible exact Below.refl _ _ | with_reducible refine Below.drew ?_ | with_reducible refine below_alloc ?_ _))) _ (some ⟨b, off, none⟩) k c (csT (m.take k)) (by rfl) (rT.below hBv (show _ ∧ _ ∧ Below wv.heap.size wv _ by assumption).2.2) (one_csT _) (by simp only [maxLen]; omega) (by omega) ((show _ ∧ _ ∧ Below wv.heap.size wv _ by assumption).2.2).size ?_); intro v1 w3 hown3 hg3 hat3; have hB3 : Below wv.heap.size wv w3 := Below.grown (B := wv.heap.size) (a := wv) (show _ ∧ _ ∧ Below wv.heap.size wv _ by assumption).2.2 hg3 (by first | exact ((show _ ∧ _ ∧ Below wv.heap.size wv _ by assumption).2.2).size) (fun q hq => by simp [Value.ownBlock] at hq; omega); simp only [Nat.zero_add, List.nil_append] at hown3; (try (refine lay_grow hg3 (wv.heap.size) (t := 45) (cs := #[.int .i64 y0, .int .i64 y1]) ?_ ?_ ?_; (focus ((repeat (first | with_reducible exact Blk.new _ _ _ | (with_reducible refine Blk.newAt _ _ _ _ ?_; first | rfl | (simp; done)) | with_reducible apply Blk.alloc | with_reducible apply Blk.drewN | with_reducible apply Blk.drew | with_reducible assumption)); done)); (focus (simp [Value.ownBlock]; done)); intro hbB)); (try (refine lay_grow hg3 (wv.heap.size + 1) (t := 45) (cs := #[.int .i64 y0, .int .i64 y1]) ?_ ?_ ?_; (focus ((repeat (first | with_reducible exact Blk.new _ _ _ | (with_reducible refine Blk.newAt _ _ _ _ ?_; first | rfl | (simp; done)) | with_reducible apply Blk.alloc | with_reducible apply Blk.drewN | with_reducible apply Blk.drew | with_reducible assumption)); done)); (focus (simp [Value.ownBlock]; done)); intro hbB))) | ((refine step_is (.tmp 34) (.tmp 37) 88 (.slice (some ⟨wv.heap.size + 1, 0, none⟩) 0 0) ?_ ?_ ?_); (focus rfl); (focus rfl); (refine step_app _ (by rfl) (.tmp 34) (.tmp 37) 88 (by rfl) wv.heap.size 45 i0 _ 2 16 Tryz.underlying88 hi0 hz0 hz1 hz2 rfl (by omega) (.slice (some ⟨wv.heap.size + 1, 0, none⟩) 0 0) 0 [] (by rfl) (own_call (tm_lit (wv.alloc (.cells #[.int .i64 y0, .int .i64 y1] 45)) wv.heap.size (wv.heap.size + 1) (by simp) (by simp)) (by repeat (first | with_reducible exact Below.refl _ _ | with_reducible refine Below.drew ?_ | with_reducible refine below_alloc ?_ _))) _ (some ⟨b, off, none⟩) k c (csT (m.take k)) (by rfl) (rT.below hBv (show _ ∧ _ ∧ Below wv.heap.size wv _ by assumption).2.2) (one_csT _) (by simp only [maxLen]; omega) (by omega) ((show _ ∧ _ ∧ Below wv.heap.size wv _ by assumption).2.2).size ?_); intro v1 w3 hown3 hg3 hat3; have hB3 : Below wv.heap.size wv w3 := Below.grown (B := wv.heap.size) (a := wv) (show _ ∧ _ ∧ Below wv.heap.size wv _ by assumption).2.2 hg3 (by first | exact ((show _ ∧ _ ∧ Below wv.heap.size wv _ by assumption).2.2).size) (fun q hq => by simp [Value.ownBlock] at hq; omega); simp only [Nat.zero_add, List.nil_append] at hown3; (try (refine lay_grow hg3 (wv.heap.size) (t := 45) (cs := #[.int .i64 y0, .int .i64 y1]) ?_ ?_ ?_; (focus ((repeat (first | with_reducible exact Blk.new _ _ _ | (with_reducible refine Blk.newAt _ _ _ _ ?_; first | rfl | (simp; done)) | with_reducible apply Blk.alloc | with_reducible apply Blk.drewN | with_reducible apply Blk.drew | with_reducible assumption)); done)); (focus (simp [Value.ownBlock]; done)); intro hbB)); (try (refine lay_grow hg3 (wv.heap.size + 1) (t := 45) (cs := #[.int .i64 y0, .int .i64 y1]) ?_ ?_ ?_; (focus ((repeat (first | with_reducible exact Blk.new _ _ _ | (with_reducible refine Blk.newAt _ _ _ _ ?_; first | rfl | (simp; done)) | with_reducible apply Blk.alloc | with_reducible apply Blk.drewN | with_reducible apply Blk.drew | with_reducible assumption)); done)); (focus (simp [Value.ownBlock]; done)); intro hbB))) | ((refine step_is (.tmp 38) (.tmp 40) 88 v1 ?_ ?_ ?_); (focus rfl); (focus rfl); (refine step_app _ (by rfl) (.tmp 38) (.tmp 40) 88 (by rfl) wv.heap.size 45 i0 _ 2 16 Tryz.underlying88 hi0 hz0 hz1 hz2 rfl (by omega) v1 k (csT (m.take k)) (by rfl) (by first | exact hown3 | exact own_call hown3 (below_alloc (Below.refl _ _) _)) _ _ 1 1 (csT [(y0, y1)]) (by rfl) (tm_blk (by first | exact Blk.new _ _ _ | exact hbB)) (one_csT _) (by simp only [maxLen]; omega) (by omega) ((show _ ∧ _ ∧ Below wv.heap.size wv _ by assumption).2.2).size ?_); intro v2 w4 hown4 hg4 hat4; have hB4 : Below wv.heap.size wv w4 := Below.grown (B := wv.heap.size) (a := wv) (show _ ∧ _ ∧ Below wv.heap.size wv _ by assumption).2.2 hg4 ((show _ ∧ _ ∧ Below wv.heap.size wv _ by assumption).2.2).size (fun q hq => (hown3.lt q hq).1); rw [← csT_append] at hown4)))
          all_goals
            have k4 := below_call k3 hB4
            have rD : Reads w4 w.heap.size 2 AT (n - k) (csT (m.drop k)) := reads_drop2 (h.below (Nat.le_refl _) k4) (by omega) _ hAT
            have hsz4 := k4.size
            have hbv4 := hB4.size
            go_wp2_with (at_builtin; (refine wpList_append_any _ rfl (.tmp 42) (.tmp 45) 88 rfl wv.heap.size 45 i0 _ 2 16 Tryz.underlying88 hi0 hz0 hz1 hz2 rfl (by omega) v2 (k + 1) (csT (m.take k ++ [(y0, y1)])) rfl hown4 w.heap.size AT (n - k) _ (csT (m.drop k)) rfl rD (one_csT _) (by simp only [maxLen]; omega) (by omega) hbv4 ?_); intro v5 w5 hown5 hg5 hat5)
            go_ret
            rw [← csT_append] at hown5
            rw [HE.out]
            refine ⟨_, rfl, ReadsT.own (by rw [show m.take k ++ (y0, y1) :: m.drop k = m.take k ++ [(y0, y1)] ++ m.drop k by simp]; exact hown5) (by have := HL.out; rw [List.length_append, List.length_cons, List.length_take, List.length_drop]; omega), below_call k3 (Below.grown (B := wv.heap.size) (a := wv) hB4 hg5 hbv4 (fun q hq => (hown4.lt q hq).1))⟩
      · subst hkn
        have dk : decide (k < k) = false := by simp
        subst hAH
        clear hpos hp tail
        go_wp2_with fail
        refine wp_region_calm (by kernel_rfl) (by kernel_rfl) ?_
        repeat (go_big_quiet_step (fail))
        refine wpQuiet_nil ?_
        intro w2 hb2
        go_wp2_with fail
        refine wp_region_calm (by kernel_rfl) (by kernel_rfl) ?_
        repeat (go_big_quiet_step (fail))
        refine wpQuiet_nil ?_
        intro w3 hb3
        have k3 := below_call (below_call k0 hb2) hb3
        have bY3 := (bY.kept hb2).kept hb3
        clear y0c y1c lY
        obtain ⟨wv, hwv⟩ : ∃ wv, wv = w3 := ⟨_, rfl⟩
        subst hwv
        obtain ⟨gY, hgY⟩ : ∃ g, g = w.heap.size := ⟨_, rfl⟩
        rw [← hgY] at bY3 ⊢
        have y0c : wv.cell? ⟨gY, 0, none⟩ = some (.int .i64 y0) := bY3.cell 0
        have y1c : wv.cell? ⟨gY, 1, none⟩ = some (.int .i64 y1) := bY3.cell 1
        have lY := bY3.lt
        have hBv := k3.size
        have rT : Reads wv w.heap.size 2 AH k (csT (m.take k)) := reads_take2 (h.below (Nat.le_refl _) k3) (by omega)
        clear hgY
        go_wp2_with fail
        go_region_held3 (fun w' => w'.cell? ⟨gY, 0, none⟩ = some (.int .i64 y0) ∧ w'.cell? ⟨gY, 1, none⟩ = some (.int .i64 y1) ∧ Below wv.heap.size wv w') ((refine (fun hb => ⟨(hb.cell (p := ⟨_, _, none⟩) lY).trans y0c, (hb.cell (p := ⟨_, _, none⟩) lY).trans y1c, hb⟩) ?_; repeat (first | with_reducible exact Below.refl _ _ | with_reducible exact hB3 | with_reducible exact hB4 | with_reducible exact (show _ ∧ _ ∧ Below wv.heap.size wv _ by assumption).2.2 | with_reducible refine Below.drew ?_ | with_reducible refine below_alloc ?_ _))) ((first | ((refine step_is (.tmp 34) (.tmp 37) 88 (.slice (some ⟨wv.heap.size, 0, none⟩) 0 0) ?_ ?_ ?_); (focus rfl); (focus rfl); (refine step_app _ (by rfl) (.tmp 34) (.tmp 37) 88 (by rfl) wv.heap.size 45 i0 _ 2 16 Tryz.underlying88 hi0 hz0 hz1 hz2 rfl (by omega) (.slice (some ⟨wv.heap.size, 0, none⟩) 0 0) 0 [] (by rfl) (own_call (World.ownsRow_lit wv #[] 0 (Nat.le_refl _) (by simp [maxLen]) rfl) (by repeat (first | with_reducible exact Below.refl _ _ | with_reducible refine Below.drew ?_ | with_reducible refine below_alloc ?_ _))) _ AH k c (csT (m.take k)) (by rfl) (rT.below hBv (show _ ∧ _ ∧ Below wv.heap.size wv _ by assumption).2.2) (one_csT _) (by simp only [maxLen]; omega) (by omega) ((show _ ∧ _ ∧ Below wv.heap.size wv _ by assumption).2.2).size ?_); intro v1 w3 hown3 hg3 hat3; have hB3 : Below wv.heap.size wv w3 := Below.grown (B := wv.heap.size) (a := wv) (show _ ∧ _ ∧ Below wv.heap.size wv _ by assumption).2.2 hg3 (by first | exact ((show _ ∧ _ ∧ Below wv.heap.size wv _ by assumption).2.2).size) (fun q hq => by simp [Value.ownBlock] at hq; omega); simp only [Nat.zero_add, List.nil_append] at hown3; (try (refine lay_grow hg3 (wv.heap.size) (t := 45) (cs := #[.int .i64 y0, .int .i64 y1]) ?_ ?_ ?_; (focus ((repeat (first | with_reducible exact Blk.new _ _ _ | (with_reducible refine Blk.newAt _ _ _ _ ?_; first | rfl | (simp; done)) | with_reducible apply Blk.alloc | with_reducible apply Blk.drewN | with_reducible apply Blk.drew | with_reducible assumption)); done)); (focus (simp [Value.ownBlock]; done)); intro hbB)); (try (refine lay_grow hg3 (wv.heap.size + 1) (t := 45) (cs := #[.int .i64 y0, .int .i64 y1]) ?_ ?_ ?_; (focus ((repeat (first | with_reducible exact Blk.new _ _ _ | (with_reducible refine Blk.newAt _ _ _ _ ?_; first | rfl | (simp; done)) | with_reducible apply Blk.alloc | with_reducible apply Blk.drewN | with_reducible apply Blk.drew | with_reducible assumption)); done)); (focus (simp [Value.ownBlock]; done)); intro hbB))) | ((refine step_is (.tmp 34) (.tmp 37) 88 (.slice (some ⟨wv.heap.size + 1, 0, none⟩) 0 0) ?_ ?_ ?_); (focus rfl); (focus rfl); (refine step_app _ (by rfl) (.tmp 34) (.tmp 37) 88 (by rfl) wv.heap.size 45 i0 _ 2 16 Tryz.underlying88 hi0 hz0 hz1 hz2 rfl (by omega) (.slice (some ⟨wv.heap.size + 1, 0, none⟩) 0 0) 0 [] (by rfl) (own_call (tm_lit (wv.alloc (.cells #[.int .i64 y0, .int .i64 y1] 45)) wv.heap.size (wv.heap.size + 1) (by simp) (by simp)) (by repeat (first | with_reducible exact Below.refl _ _ | with_reducible refine Below.drew ?_ | with_reducible refine below_alloc ?_ _))) _ AH k c (csT (m.take k)) (by rfl) (rT.below hBv (show _ ∧ _ ∧ Below wv.heap.size wv _ by assumption).2.2) (one_csT _) (by simp only [maxLen]; omega) (by omega) ((show _ ∧ _ ∧ Below wv.heap.size wv _ by assumption).2.2).size ?_); intro v1 w3 hown3 hg3 hat3; have hB3 : Below wv.heap.size wv w3 := Below.grown (B := wv.heap.size) (a := wv) (show _ ∧ _ ∧ Below wv.heap.size wv _ by assumption).2.2 hg3 (by first | exact ((show _ ∧ _ ∧ Below wv.heap.size wv _ by assumption).2.2).size) (fun q hq => by simp [Value.ownBlock] at hq; omega); simp only [Nat.zero_add, List.nil_append] at hown3; (try (refine lay_grow hg3 (wv.heap.size) (t := 45) (cs := #[.int .i64 y0, .int .i64 y1]) ?_ ?_ ?_; (focus ((repeat (first | with_reducible exact Blk.new _ _ _ | (with_reducible refine Blk.newAt _ _ _ _ ?_; first | rfl | (simp; done)) | with_reducible apply Blk.alloc | with_reducible apply Blk.drewN | with_reducible apply Blk.drew | with_reducible assumption)); done)); (focus (simp [Value.ownBlock]; done)); intro hbB)); (try (refine lay_grow hg3 (wv.heap.size + 1) (t := 45) (cs := #[.int .i64 y0, .int .i64 y1]) ?_ ?_ ?_; (focus ((repeat (first | with_reducible exact Blk.new _ _ _ | (with_reducible refine Blk.newAt _ _ _ _ ?_; first | rfl | (simp; done)) | with_reducible apply Blk.alloc | with_reducible apply Blk.drewN | with_reducible apply Blk.drew | with_reducible assumption)); done)); (focus (simp [Value.ownBlock]; done)); intro hbB))) | ((refine step_is (.tmp 38) (.tmp 40) 88 v1 ?_ ?_ ?_); (focus rfl); (focus rfl); (refine step_app _ (by rfl) (.tmp 38) (.tmp 40) 88 (by rfl) wv.heap.size 45 i0 _ 2 16 Tryz.underlying88 hi0 hz0 hz1 hz2 rfl (by omega) v1 k (csT (m.take k)) (by rfl) (by first | exact hown3 | exact own_call hown3 (below_alloc (Below.refl _ _) _)) _ _ 1 1 (csT [(y0, y1)]) (by rfl) (tm_blk (by first | exact Blk.new _ _ _ | exact hbB)) (one_csT _) (by simp only [maxLen]; omega) (by omega) ((show _ ∧ _ ∧ Below wv.heap.size wv _ by assumption).2.2).size ?_); intro v2 w4 hown4 hg4 hat4; have hB4 : Below wv.heap.size wv w4 := Below.grown (B := wv.heap.size) (a := wv) (show _ ∧ _ ∧ Below wv.heap.size wv _ by assumption).2.2 hg4 ((show _ ∧ _ ∧ Below wv.heap.size wv _ by assumption).2.2).size (fun q hq => (hown3.lt q hq).1); rw [← csT_append] at hown4)))
        all_goals
          have k4 := below_call k3 hB4
          have rD : Reads w4 w.heap.size 2 AT 0 (csT (m.drop k)) := by have := reads_drop2 (h.below (Nat.le_refl _) k4) (Nat.le_refl _) AT hAT; rwa [Nat.sub_self] at this
          have hsz4 := k4.size
          have hbv4 := hB4.size
          go_wp2_with (at_builtin; (refine wpList_append_any _ rfl (.tmp 42) (.tmp 45) 88 rfl wv.heap.size 45 i0 _ 2 16 Tryz.underlying88 hi0 hz0 hz1 hz2 rfl (by omega) v2 (k + 1) (csT (m.take k ++ [(y0, y1)])) rfl hown4 w.heap.size AT 0 _ (csT (m.drop k)) rfl rD (one_csT _) (by simp only [maxLen]; omega) (by omega) hbv4 ?_); intro v5 w5 hown5 hg5 hat5)
          go_ret
          rw [← csT_append] at hown5
          rw [HE.out]
          refine ⟨_, rfl, ReadsT.own (by rw [show m.take k ++ (y0, y1) :: m.drop k = m.take k ++ [(y0, y1)] ++ m.drop k by simp]; exact hown5) (by have := HL.out; rw [List.length_append, List.length_cons, List.length_take, List.length_drop]; omega), below_call k3 (Below.grown (B := wv.heap.size) (a := wv) hB4 hg5 hbv4 (fun q hq => (hown4.lt q hq).1))⟩
end Go.Proofs.YtpkmiegccfhpnaaGreatDoor
namespace Go.Proofs.YtpkmiegccfhpnaaGreatDoor
open Go.RowKit
set_option maxRecDepth 100000 in
set_option maxHeartbeats 4000000 in
theorem on_any (A : Option Addr) (n c : Nat) (v : List Ev) (t : Tm) (B : Nat) (w : World) (h : Reads w B 10 A n (csE v)) (hB : B ≤ w.heap.size) (hn : n ≤ 9223372036854775807) (hv : Val v) (ht : ok t) :
    Calls Tryz.prog 54 #[.slice A n c, .agg #[.int .i64 t.1, .int .i64 t.2]] w fun e w' => e = .returned (.int .i64 (onS v t)) ∧ Below w.heap.size w w' := by
  have HL := Lib.hid h.evlen
  have HV := Lib.hid hv
  have HT := Lib.hid ht
  clear hv ht
  obtain ⟨t0, t1⟩ := t
  go_enter Tryz.func54, Tryz.ntmps54
  go_wp2
  go_loopw [5] (fun i wr => ∃ k : Nat, k ≤ n ∧ i = .int .i64 k ∧ Hid (onFrom k (v.drop k) (t0, t1) = onS v (t0, t1)) ∧ Below w.heap.size w wr ∧ Blk wr w.heap.size 45 #[.int .i64 t0, .int .i64 t1]) (fun i _ => n - (intOf i).toNat)
  case atStart => exact ⟨0, by omega, rfl, Lib.hid rfl, by repeat (first | with_reducible exact Below.refl _ _ | with_reducible assumption | with_reducible refine below_drewN ?_ _ | with_reducible refine Below.drew ?_ | with_reducible refine below_alloc ?_ _ | (with_reducible refine Below.setCell ?_ ?_ _; rotate_left; ((try simp only); omega))), by with_reducible exact Blk.new _ _ _⟩
  case round =>
    obtain ⟨k, hk, rfl, hs, k0, bT⟩ := hrel
    have t0c : wr.cell? ⟨w.heap.size, 0, none⟩ = some (.int .i64 t0) := bT.cell 0
    have t1c : wr.cell? ⟨w.heap.size, 1, none⟩ = some (.int .i64 t1) := bT.cell 1
    have lT := bT.lt
    by_cases hkn : k < n
    · have hkn' : (k : Int) < (n : Int) := by omega
      obtain ⟨x, hx⟩ := get_some (l := v) (k := k) (by have := HL.out; omega)
      have ex := HV.out.each k x hx
      have HD := Lib.hid (onFrom_drop (t := (t0, t1)) hx)
      have q1 := fun W => before_any (t0, t1) x.at_ W
      have q2 := fun W => refEndOf_any x W
      have q3 := fun W => before_any (t0, t1) (nextS x) W
      have l1 : lessB (t0, t1) x.at_ = decide (ltT (t0, t1) x.at_) := by unfold lessB; exact cmp_lt HT.out ex.1
      have l2 : lessB (t0, t1) (nextS x) = decide (ltT (t0, t1) (nextS x)) := by unfold lessB; exact cmp_lt HT.out ex.2.1
      have hh : holdB x (t0, t1) = (!lessB (t0, t1) x.at_ && lessB (t0, t1) (nextS x)) := by rw [l1, l2]; unfold holdB; simp
      clear l1 l2
      obtain ⟨b, off, rfl, hab, hc⟩ := h.ev hB k0 hkn hx
      obtain ⟨b1, hb1⟩ : ∃ b, b = lessB (t0, t1) x.at_ := ⟨_, rfl⟩
      obtain ⟨b2, hb2⟩ : ∃ b, b = lessB (t0, t1) (nextS x) := ⟨_, rfl⟩
      rw [← hb1] at q1 hh
      rw [← hb2] at q3 hh
      obtain ⟨⟨e0, e1⟩, he⟩ : ∃ e, e = nextS x := ⟨_, rfl⟩
      rw [← he] at q2 q3
      obtain ⟨⟨a, a'⟩, ⟨d, d'⟩, ⟨p, q, r⟩, rst, sg, ps⟩ := x
      obtain ⟨c0, c1, c2, c3, c4, c5, c6, c7, c8, c9⟩ := ten hc
      unfold cE at q2
      simp only [List.toArray] at q2
      clear hc hx hb1 hb2 he ex
      simp only at c0 c1 c2 c3 c4 c5 c6 c7 c8 c9 q1 q2 q3
      cases b1
      · cases b2
        · have HN := Lib.hid (show onFrom ((k + 1 : Nat) : Int) (v.drop (k + 1)) (t0, t1) = onS v (t0, t1) by rw [← hs.out, HD.out, hh, if_neg (by simp)])
          clear hh hs
          go_wp2_with fail
          refine wp_region_calm (by kernel_rfl) (by kernel_rfl) ?_
          repeat (go_big_quiet_step ((first | (go_at_call 81; with_reducible (first | exact calm_call (q1 _) | exact calm_call (q3 _))) | (go_at_call 78; with_reducible exact calm_call (q2 _)))))
          refine wpQuiet_nil ?_
          intro w2 g2
          go_wp2
          go_roundw
          case rel => exact ⟨k + 1, by omega, by go_num, HN, below_call k0 g2, bT.kept g2⟩
          case measure => simp [intOf]; omega
        · have HE := Lib.hid (show onS v (t0, t1) = (k : Int) by rw [← hs.out, HD.out, hh, if_pos (by simp)])
          clear hh hs
          go_wp2_with fail
          refine wp_region_calm (by kernel_rfl) (by kernel_rfl) ?_
          repeat (go_big_quiet_step ((first | (go_at_call 81; with_reducible (first | exact calm_call (q1 _) | exact calm_call (q3 _))) | (go_at_call 78; with_reducible exact calm_call (q2 _)))))
          refine wpQuiet_nil ?_
          intro w2 g2
          go_wp2
          go_ret
          rw [HE.out]
          exact ⟨rfl, below_call k0 g2⟩
      · have HN := Lib.hid (show onFrom ((k + 1 : Nat) : Int) (v.drop (k + 1)) (t0, t1) = onS v (t0, t1) by rw [← hs.out, HD.out, hh, if_neg (by simp)])
        clear hh hs
        go_wp2_with fail
        refine wp_region_calm (by kernel_rfl) (by kernel_rfl) ?_
        repeat (go_big_quiet_step ((go_at_call 81; with_reducible exact calm_call (q1 _))))
        refine wpQuiet_nil ?_
        intro w2 g2
        go_wp2
        go_roundw
        case rel => exact ⟨k + 1, by omega, by go_num, HN, below_call k0 g2, bT.kept g2⟩
        case measure => simp [intOf]; omega
    · have hke : k = n := by omega
      subst hke
      have HE := Lib.hid (show onS v (t0, t1) = -1 by rw [← hs.out, List.drop_of_length_le (by have := HL.out; omega)]; rfl)
      go_wp2
      go_ret
      rw [HE.out]
      exact ⟨rfl, k0⟩
/-- The moments of the first voices, and of the first events of the next one. -/
theorem momV_take {v : List Ev} {o : List Tm} {k : Nat} {x : Ev} (h : v[k]? = some x) : momV o (v.take (k + 1)) = withS (withS (momV o (v.take k)) x.at_) (nextS x) := by
  unfold momV
  rw [take_get h, List.foldl_append]; rfl
theorem momL_take {l : List (List Ev)} {i : Nat} {v : List Ev} (h : l[i]? = some v) : (l.take (i + 1)).foldl momV [] = momV ((l.take i).foldl momV []) v := by
  rw [take_get h, List.foldl_append]; rfl
/-- Lists that are valid, and not long. -/
def Fine (l : List Tm) (k : Nat) : Prop := OkL l ∧ l.length ≤ k
theorem fine_with {l : List Tm} {t : Tm} {k : Nat} (h : Fine l k) (ht : ok t) : Fine (withS l t) (k + 1) := by
  refine ⟨with_ok h.1 ht, ?_⟩
  have h2 : ∀ o : List Tm, (withS o t).length ≤ o.length + 1 := fun o => by
    induction o with
    | nil => simp [withS]
    | cons y o ih => unfold withS; split <;> (try split) <;> simp <;> omega
  have := h2 l
  have := h.2
  omega
set_option maxRecDepth 100000 in
set_option maxHeartbeats 4000000 in
theorem refMoments_any (A : Option Addr) (n c : Nat) (l : List (List Ev)) (B : Nat) (w : World) (h : ReadsV w B A n l) (hB : B ≤ w.heap.size) (hn : n ≤ 8) (hv : ∀ v ∈ l, Val v ∧ v.length ≤ 2000) :
    Calls Tryz.prog 52 #[.slice A n c] w fun e w' => ∃ v, e = .returned v ∧ ReadsT w' v (momS l) ∧ Below w.heap.size w w' := by
  have HL := Lib.hid h.len
  have HV := Lib.hid hv
  clear hv
  go_enter Tryz.func52, Tryz.ntmps52
  go_wp2
  go_loopg [3, 4, 5] n (fun g v i _ wr => ∃ k : Nat, k + g = n ∧ i = .int .i64 k ∧ ReadsT wr v ((l.take k).foldl momV []) ∧ Hid (Fine ((l.take k).foldl momV []) (4000 * k)) ∧ Below w.heap.size w wr)
  case atStart => exact ⟨0, by omega, rfl, ReadsT.nil_ _, Lib.hid ⟨(fun t h => by simp at h), by simp⟩, Below.refl _ _⟩
  case round =>
    obtain ⟨k, hkg, rfl, hT, hF, k0⟩ := hrel
    cases gk with
    | zero =>
      have hkn : k = n := by omega
      subst hkn
      have E := Lib.hid (show (l.take k).foldl momV [] = momS l by rw [List.take_of_length_le (by have := HL.out; omega)]; rfl)
      go_wp2
      go_ret
      rw [E.out] at hT
      exact ⟨_, rfl, hT, k0⟩
    | succ g =>
      have hkn : k < n := by omega
      have hkn' : (k : Int) < (n : Int) := by omega
      obtain ⟨v, hvk⟩ := get_some (l := l) (k := k) (by have := HL.out; omega)
      obtain ⟨hval, hvl⟩ := HV.out v (List.mem_of_getElem? hvk)
      have HVal := Lib.hid hval
      have HM := Lib.hid (momL_take hvk)
      obtain ⟨o, ho⟩ : ∃ o, o = (l.take k).foldl momV [] := ⟨_, rfl⟩
      rw [← ho] at hT hF HM
      have HO := Lib.hid ho
      obtain ⟨wo, rfl⟩ : ∃ wo : World, wo = wr := ⟨_, rfl⟩
      obtain ⟨b, off, A', n', c', hA, hab, cv, hr, hn', hvn⟩ := h.voice hB k0 hkn hvk
      have hr0 := hr
      clear ho hvk hval
      go_wp2
      go_loopg [3, 5] n' (fun g2 u j wy => ∃ m : Nat, m + g2 = n' ∧ j = .int .i64 m ∧ ReadsT wy u (momV o (v.take m)) ∧ Hid (Fine (momV o (v.take m)) (4000 * k + 2 * m)) ∧ Below wo.heap.size wo wy)
      case atStart => exact ⟨0, by omega, rfl, hT, Lib.hid (by simpa [momV] using hF.out), Below.refl _ _⟩
      case round =>
        obtain ⟨m, hmg, rfl, hT, hF2, m0⟩ := hrel
        have cv2 := (m0.cell (p := ⟨b, off + k, none⟩) hab).trans cv
        have hab2 : b < wr.heap.size := Nat.lt_of_lt_of_le hab m0.size
        cases gk with
        | zero =>
          have hmn : m = n' := by omega
          subst hmn
          have E := Lib.hid (show momV o (v.take m) = (l.take (k + 1)).foldl momV [] by rw [List.take_of_length_le (by omega), HM.out])
          rw [E.out] at hT hF2
          subst hA
          go_wp2
          go_roundg g
          case measure => omega
          case rel => exact ⟨k + 1, by omega, rfl, hT, Lib.hid ⟨hF2.out.1, by have := hF2.out.2; omega⟩, below_call k0 m0⟩
        | succ g2 =>
          have hmn : m < n' := by omega
          have hmn' : (m : Int) < (n' : Int) := by omega
          obtain ⟨x, hx⟩ := get_some (l := v) (k := m) (by omega)
          have ex := HVal.out.each m x hx
          have HX := Lib.hid (momV_take (o := o) hx)
          have F1 := fine_with hF2.out ex.1
          have F2 := fine_with F1 ex.2.1
          have q1 := fun W u (hu : ReadsT W u (momV o (v.take m))) => with_any u _ x.at_ W hu (by have := hF2.out.2; omega) hF2.out.1 ex.1
          have q2 := fun W => refEndOf_any x W
          have q3 := fun W u (hu : ReadsT W u (withS (momV o (v.take m)) x.at_)) => with_any u _ (nextS x) W hu (by have := F1.2; omega) F1.1 ex.2.1
          rw [← HX.out] at q3 F2
          obtain ⟨o1, ho1⟩ : ∃ o1, o1 = momV o (v.take m) := ⟨_, rfl⟩
          obtain ⟨o2, ho2⟩ : ∃ o2, o2 = withS o1 x.at_ := ⟨_, rfl⟩
          rw [← ho1, ← ho2] at q1 q3
          rw [← ho1] at hT
          have HF2 := Lib.hid F2
          obtain ⟨b', off', rfl, hab', hc⟩ := hr.ev (Nat.le_trans hB k0.size) m0 hmn hx
          obtain ⟨⟨e0, e1⟩, he⟩ : ∃ e, e = nextS x := ⟨_, rfl⟩
          rw [← he] at q2 q3
          obtain ⟨⟨a, a'⟩, ⟨d, d'⟩, ⟨p, q, r⟩, rst, sg, ps⟩ := x
          obtain ⟨c0, c1, c2, c3, c4, c5, c6, c7, c8, c9⟩ := ten hc
          unfold cE at q2
          simp only [List.toArray] at q2
          clear hc hx ho1 ho2 he ex F1 F2 hF2
          simp only at c0 c1 c2 c3 c4 c5 c6 c7 c8 c9 q1 q2 q3
          subst hA
          go_wp2_with fail
          refine (q1 _ _ hT).mono ?_
          rintro e w1 ⟨u1, rfl, hT1, f1⟩
          obtain ⟨hcc, hff⟩ := bcell f1
          go_wp2_with fail
          refine (q2 _).mono ?_
          rintro e w2 ⟨rfl, f2⟩
          go_wp2_with fail
          refine (q3 _ _ (hT1.kept f2)).mono ?_
          rintro e w3 ⟨u3, rfl, hT3, f3⟩
          go_wp2
          go_roundg g2
          case measure => omega
          case rel => exact ⟨m + 1, by omega, rfl, hT3, Lib.hid ⟨HF2.out.1, by have := HF2.out.2; omega⟩, below_call (below_call (below_call m0 f1) f2) f3⟩
end Go.Proofs.YtpkmiegccfhpnaaGreatDoor
namespace Go.Proofs.YtpkmiegccfhpnaaGreatDoor
open Go.RowKit
theorem one_csS (l : List (Sl × Pl)) : ∀ u ∈ csS l, u.oneCell' = true := by
  intro u hu
  obtain ⟨t, _, ht⟩ := List.mem_flatMap.1 hu
  simp [cS] at ht
  rcases ht with rfl | rfl | rfl | rfl | rfl <;> rfl
theorem own_drew {w : World} {base size n : Nat} {e : TypeId} {v : Value} {xs : List Value} (h : w.ownsRow base e size v n xs) (k : Nat) : (w.drewN k).ownsRow base e size v n xs := h
end Go.Proofs.YtpkmiegccfhpnaaGreatDoor
namespace Go.Proofs.YtpkmiegccfhpnaaGreatDoor
open Go.RowKit
theorem one_csFic (l : List Fic) : ∀ u ∈ csFic l, u.oneCell' = true := by
  intro u hu
  obtain ⟨t, _, ht⟩ := List.mem_flatMap.1 hu
  exact one_cFic t u ht
end Go.Proofs.YtpkmiegccfhpnaaGreatDoor
namespace Go.Proofs.YtpkmiegccfhpnaaGreatDoor
open Go.RowKit
def vF (x : Fic) : Value := .agg #[.int .i64 x.1, .int .i64 x.2.1, .int .i64 x.2.2.1, .int .i64 x.2.2.2]
set_option maxRecDepth 100000 in
set_option maxHeartbeats 4000000 in
theorem rplain_ok (A : Option Addr) (n c : Nat) (l : List (List Ev)) (B : Nat) (w : World) (h : ReadsV w B A n l) (hB : B ≤ w.heap.size) {i j : Nat} {x : Ev} (hx : evA l ((i : Int), (j : Int)) = some x) :
    Calls Tryz.prog 34 #[.slice A n c, .int .i64 (i : Int), .int .i64 (j : Int)] w fun e w' => e = .returned (.bool (freeB l ((i : Int), (j : Int)))) ∧ Below w.heap.size w w' := by
  have E := Lib.hid (free_ev hx)
  obtain ⟨i', j', v, hp, hv, hj⟩ := evA_some hx
  obtain ⟨rfl, rfl⟩ : i' = i ∧ j' = j := by rw [Prod.mk.injEq] at hp; omega
  have hi := (List.getElem?_eq_some_iff.1 hv).1
  have hn := h.len
  obtain ⟨b, ob, A', n', c', rfl, hab, cv, rv, hn', hvn⟩ := h.voice hB (Below.refl _ _) (show i' < n by omega) hv
  have hjn : j' < n' := by have := (List.getElem?_eq_some_iff.1 hj).1; omega
  obtain ⟨be, oe, hA, hbe, hcx⟩ := rv.ev hB (Below.refl _ _) hjn hj
  subst hA
  obtain ⟨_, _, _, _, _, _, a6, a7, _, _⟩ := ten hcx
  have hin : (i' : Int) < (n : Int) := by omega
  have hjn2 : (j' : Int) < (n' : Int) := by omega
  obtain ⟨⟨a0, a1⟩, ⟨d0, d1⟩, ⟨p0, p1, p2⟩, rs, sg, ps⟩ := x
  simp only at a6 a7 E
  clear hx h hp hv hj hcx hn hi rv hvn
  cases rs with
  | true =>
    go_enter Tryz.func34, Tryz.ntmps34
    go_wp2
    refine ret_of (by simp [results, Tryz.results34, go_sem, *]; repeat' (first | rfl | apply And.intro)) rfl ⟨?_, Below.refl _ _⟩
    rw [E.out]
    rfl
  | false =>
    have b0 : (p2 == 0) = decide (p2 = 0) := by rw [Bool.eq_iff_iff]; simp
    go_enter Tryz.func34, Tryz.ntmps34
    go_wp2
    refine ret_of (by simp [results, Tryz.results34, go_sem, *]; repeat' (first | rfl | apply And.intro)) rfl ⟨?_, Below.refl _ _⟩
    rw [E.out]
    rfl
set_option maxRecDepth 100000 in
set_option maxHeartbeats 4000000 in
theorem rafter_ok (x y : Fic) (w : World) :
    Calls Tryz.prog 35 #[vF x, vF y] w fun e w' => e = .returned (.bool (decide (lessF y x))) ∧ Below w.heap.size w w' := by
  obtain ⟨x1, x2, x3, x4⟩ := x
  obtain ⟨y1, y2, y3, y4⟩ := y
  unfold vF
  simp only
  go_enter Tryz.func35, Tryz.ntmps35
  go_wp2_with fail
  all_goals
    refine ret_of (by simp [results, Tryz.results35, go_sem, *]; repeat' (first | rfl | apply And.intro)) rfl ⟨?_, by repeat (first | with_reducible exact Below.refl _ _ | with_reducible assumption | with_reducible refine below_drewN ?_ _ | with_reducible refine Below.drew ?_ | with_reducible refine below_alloc ?_ _ | (with_reducible refine Below.setCell ?_ ?_ _; rotate_left; ((try simp only); omega)))⟩
    refine congrArg (fun b => Ending.returned (.bool b)) ?_
    rw [Bool.eq_iff_iff]
    simp only [decide_eq_true_eq, Bool.false_eq_true, true_iff, false_iff]
    unfold lessF
    first | omega | simp
end Go.Proofs.YtpkmiegccfhpnaaGreatDoor
