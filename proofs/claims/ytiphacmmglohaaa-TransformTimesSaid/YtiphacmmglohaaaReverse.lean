/- Events turned round in place, and the program's retrograde. -/
import Derived.Test.YtiphacmmglohaaaChained
import Derived.BigRegion
namespace Go.Proofs.Ytiphacmmglohaaa
open Go.RowKit
theorem set_append_ten {α : Type} (p : List α) (a0 a1 a2 a3 a4 a5 a6 a7 a8 a9 : α) (r : List α) (u0 u1 u2 u3 u4 u5 u6 u7 u8 u9 : α) :
    ((((((((((p ++ a0 :: a1 :: a2 :: a3 :: a4 :: a5 :: a6 :: a7 :: a8 :: a9 :: r).set p.length u0).set (p.length + 1) u1).set (p.length + 2) u2).set (p.length + 3) u3).set (p.length + 4) u4).set (p.length + 5) u5).set (p.length + 6) u6).set (p.length + 7) u7).set (p.length + 8) u8).set (p.length + 9) u9 = p ++ u0 :: u1 :: u2 :: u3 :: u4 :: u5 :: u6 :: u7 :: u8 :: u9 :: r := by
  simp
/-- The cells of one event are stored to. -/
def setsE (xs : List Value) (i : Nat) (x : Ev) : List Value :=
  ((((((((((xs.set i (.int .i64 x.at_.1)).set (i + 1) (.int .i64 x.at_.2)).set (i + 2) (.int .i64 x.dur.1)).set (i + 3) (.int .i64 x.dur.2)).set (i + 4) (.int .i64 x.pit.1)).set (i + 5) (.int .i64 x.pit.2.1)).set (i + 6) (.int .i64 x.pit.2.2)).set (i + 7) (.bool x.rest)).set (i + 8) (.int .i64 x.sign)).set (i + 9) (.int .i64 x.pass))
theorem csE_set (l : List Ev) (i : Nat) (x : Ev) (h : i < l.length) : setsE (csE l) (i * 10) x = csE (l.set i x) := by
  have e : l = l.take i ++ l[i] :: l.drop (i + 1) := by rw [← List.drop_eq_getElem_cons h, List.take_append_drop]
  have hl : (l.take i).length = i := by rw [List.length_take]; omega
  have e2 : l.set i x = l.take i ++ x :: l.drop (i + 1) := by rw [List.set_eq_take_append_cons_drop, if_pos h]
  have e3 : ∀ y : Ev, csE (l.take i ++ y :: l.drop (i + 1)) = csE (l.take i) ++ .int .i64 y.at_.1 :: .int .i64 y.at_.2 :: .int .i64 y.dur.1 :: .int .i64 y.dur.2 :: .int .i64 y.pit.1 :: .int .i64 y.pit.2.1 :: .int .i64 y.pit.2.2 :: .bool y.rest :: .int .i64 y.sign :: .int .i64 y.pass :: csE (l.drop (i + 1)) := by
    intro y; rw [csE_append]; rfl
  rw [e2, e3]
  conv => lhs; rw [e, e3]
  have hc : (csE (l.take i)).length = i * 10 := by rw [csE_len, hl]
  unfold setsE
  rw [← hc, set_append_ten]
/-- The world behind the stores. -/
def storeE (w : World) (g i : Nat) (x : Ev) : World :=
  ((((((((((w.setCell ⟨g, i, none⟩ (.int .i64 x.at_.1)).setCell ⟨g, i + 1, none⟩ (.int .i64 x.at_.2)).setCell ⟨g, i + 2, none⟩ (.int .i64 x.dur.1)).setCell ⟨g, i + 3, none⟩ (.int .i64 x.dur.2)).setCell ⟨g, i + 4, none⟩ (.int .i64 x.pit.1)).setCell ⟨g, i + 5, none⟩ (.int .i64 x.pit.2.1)).setCell ⟨g, i + 6, none⟩ (.int .i64 x.pit.2.2)).setCell ⟨g, i + 7, none⟩ (.bool x.rest)).setCell ⟨g, i + 8, none⟩ (.int .i64 x.sign)).setCell ⟨g, i + 9, none⟩ (.int .i64 x.pass))
theorem own_storeE {w : World} {base n cap g : Nat} {l : List Ev} (h : w.ownsRow base 59 10 (.slice (some ⟨g, 0, none⟩) n cap) n (csE l)) (i : Nat) (x : Ev) (hi : i < l.length) :
    (storeE w g (i * 10) x).ownsRow base 59 10 (.slice (some ⟨g, 0, none⟩) n cap) n (csE (l.set i x)) := by
  rw [← csE_set l i x hi]
  unfold storeE setsE
  exact ((((((((((h.stored _ _).1.stored _ _).1.stored _ _).1.stored _ _).1.stored _ _).1.stored _ _).1.stored _ _).1.stored _ _).1.stored _ _).1.stored _ _).1
theorem below_storeE {B : Nat} {a w : World} {g : Nat} (h : Below B a w) (i : Nat) (x : Ev) (hg : B ≤ g) : Below B a (storeE w g i x) := by
  unfold storeE
  exact (((((((((h.setCell hg _).setCell hg _).setCell hg _).setCell hg _).setCell hg _).setCell hg _).setCell hg _).setCell hg _).setCell hg _).setCell hg _
theorem own_at {w : World} {base n cap g : Nat} {l : List Ev} {x : Ev} (h : w.ownsRow base 59 10 (.slice (some ⟨g, 0, none⟩) n cap) n (csE l)) {k : Nat} (hx : l[k]? = some x) (hkn : k < n) :
    ∀ j, j < 10 → w.cell? ⟨g, k * 10 + j, none⟩ = (cE x)[j]? := by
  intro j hj
  rw [h.cellAt _ (by omega)]
  exact flat_get cE 10 (fun _ => rfl) l k j x hx hj
/-- The list behind k exchanges. -/
def turned (l : List Ev) (n k : Nat) (m : List Ev) : Prop := m.length = n ∧ ∀ i, i < n → m[i]? = if i < k ∨ n - k ≤ i then l[n - 1 - i]? else l[i]?
theorem turned_zero (l : List Ev) (n : Nat) (h : l.length = n) : turned l n 0 l := ⟨h, fun i hi => by rw [if_neg (by omega)]⟩
theorem turned_end {l m : List Ev} {n k : Nat} (hl : l.length = n) (h : turned l n k m) (hk : n ≤ k + k + 1) : m = l.reverse := by
  refine List.ext_getElem? fun i => ?_
  by_cases hi : i < n
  · rw [h.2 i hi, List.getElem?_reverse (by omega), hl]
    split
    · rfl
    · congr 1; omega
  · rw [List.getElem?_eq_none (by rw [h.1]; omega), List.getElem?_eq_none (by rw [List.length_reverse]; omega)]
theorem turned_next {l m : List Ev} {n k j : Nat} {x y : Ev} (h : turned l n k m) (hj : j + 1 + k = n) (hkj : k < j) (hx : m[k]? = some x) (hy : m[j]? = some y) : turned l n (k + 1) ((m.set k y).set j x) := by
  have hx' : l[k]? = some x := by rw [← hx, h.2 k (by omega), if_neg (by omega)]
  have hy' : l[j]? = some y := by rw [← hy, h.2 j (by omega), if_neg (by omega)]
  refine ⟨by simp [h.1], fun i hi => ?_⟩
  rw [List.getElem?_set, List.getElem?_set]
  by_cases h1 : j = i
  · subst h1
    rw [if_pos rfl, if_pos (by simp [h.1]; omega), if_pos (by omega), show n - 1 - j = k by omega, hx']
  · rw [if_neg h1]
    by_cases h2 : k = i
    · subst h2
      rw [if_pos rfl, if_pos (by rw [h.1]; omega), if_pos (by omega), show n - 1 - k = j by omega, hy']
    · rw [if_neg h2, h.2 i hi]
      by_cases h3 : i < k ∨ n - k ≤ i
      · rw [if_pos h3, if_pos (by omega)]
      · rw [if_neg h3, if_neg (by omega)]
set_option maxRecDepth 100000 in
set_option maxHeartbeats 1000000 in
theorem reverse_some (g n c : Nat) (l : List Ev) (B : Nat) (w : World) (h : w.ownsRow B 59 10 (.slice (some ⟨g, 0, none⟩) n c) n (csE l)) (hn : n ≤ 5000) :
    Calls Try.prog 58 #[.slice (some ⟨g, 0, none⟩) n c] w fun e w' => e = .returned (.tuple #[]) ∧ w'.ownsRow B 59 10 (.slice (some ⟨g, 0, none⟩) n c) n (csE l.reverse) ∧ Below B w w' := by
  have hl : l.length = n := by have := h.1; rw [csE_len] at this; omega
  have HL := Lib.hid hl; clear hl
  have hgz := h.lt g rfl
  have hn' : (n : Int) ≤ 5000 := by omega
  go_enter Try.func58, Try.ntmps58
  go_wp2
  go_loopw [2, 3] (fun i j wr => ∃ (k : Nat) (m : List Ev), k + k ≤ n + 1 ∧ i = .int .i64 k ∧ j = .int .i64 ((n : Int) - 1 - k) ∧ Hid (turned l n k m) ∧ wr.ownsRow B 59 10 (.slice (some ⟨g, 0, none⟩) n c) n (csE m) ∧ Below B w wr) (fun i j _ => (intOf j + 1 - intOf i).toNat)
  case atStart => exact ⟨0, l, by omega, rfl, by simp, Lib.hid (turned_zero _ _ HL.out), h, Below.refl _ _⟩
  case round =>
    obtain ⟨k, m, hk, rfl, rfl, ht, hown, k0⟩ := hrel
    by_cases hlt : (k : Int) < (n : Int) - 1 - k
    · obtain ⟨j, hj⟩ : ∃ j : Nat, (j : Int) = (n : Int) - 1 - k := ⟨((n : Int) - 1 - k).toNat, by omega⟩
      rw [← hj] at hlt ⊢
      have hjn : j + 1 + k = n := by omega
      have hkj : k < j := by omega
      have hml := ht.out.1
      obtain ⟨x, hx⟩ := get_some (l := m) (k := k) (by omega)
      obtain ⟨y, hy⟩ := get_some (l := m) (k := j) (by omega)
      have hcx := own_at hown hx (by omega)
      have hcy := own_at hown hy (by omega)
      have HT := Lib.hid (turned_next ht.out hjn hkj hx hy)
      have ow := own_storeE (own_storeE hown k y (by omega)) j x (by rw [List.length_set]; omega)
      have bw : Below B w (storeE (storeE wr g (k * 10) y) g (j * 10) x) := below_storeE (below_storeE k0 _ _ hgz.1) _ _ hgz.1
      unfold storeE at ow bw
      have OW := Lib.hid ow; have BW := Lib.hid bw
      clear hx hy hml ht ow bw hj
      obtain ⟨⟨a, a'⟩, ⟨d, d'⟩, ⟨p, q, r⟩, rst, sg, ps⟩ := x
      obtain ⟨⟨xa, xa'⟩, ⟨xd, xd'⟩, ⟨xp, xq, xr⟩, xrst, xsg, xps⟩ := y
      have c0 : wr.cell? ⟨g, k * 10, none⟩ = some (.int .i64 a) := hcx 0 (by omega)
      have c1 : wr.cell? ⟨g, k * 10 + 1, none⟩ = some (.int .i64 a') := hcx 1 (by omega)
      have c2 : wr.cell? ⟨g, k * 10 + 2, none⟩ = some (.int .i64 d) := hcx 2 (by omega)
      have c3 : wr.cell? ⟨g, k * 10 + 3, none⟩ = some (.int .i64 d') := hcx 3 (by omega)
      have c4 : wr.cell? ⟨g, k * 10 + 4, none⟩ = some (.int .i64 p) := hcx 4 (by omega)
      have c5 : wr.cell? ⟨g, k * 10 + 5, none⟩ = some (.int .i64 q) := hcx 5 (by omega)
      have c6 : wr.cell? ⟨g, k * 10 + 6, none⟩ = some (.int .i64 r) := hcx 6 (by omega)
      have c7 : wr.cell? ⟨g, k * 10 + 7, none⟩ = some (.bool rst) := hcx 7 (by omega)
      have c8 : wr.cell? ⟨g, k * 10 + 8, none⟩ = some (.int .i64 sg) := hcx 8 (by omega)
      have c9 : wr.cell? ⟨g, k * 10 + 9, none⟩ = some (.int .i64 ps) := hcx 9 (by omega)
      have d0 : wr.cell? ⟨g, j * 10, none⟩ = some (.int .i64 xa) := hcy 0 (by omega)
      have d1 : wr.cell? ⟨g, j * 10 + 1, none⟩ = some (.int .i64 xa') := hcy 1 (by omega)
      have d2 : wr.cell? ⟨g, j * 10 + 2, none⟩ = some (.int .i64 xd) := hcy 2 (by omega)
      have d3 : wr.cell? ⟨g, j * 10 + 3, none⟩ = some (.int .i64 xd') := hcy 3 (by omega)
      have d4 : wr.cell? ⟨g, j * 10 + 4, none⟩ = some (.int .i64 xp) := hcy 4 (by omega)
      have d5 : wr.cell? ⟨g, j * 10 + 5, none⟩ = some (.int .i64 xq) := hcy 5 (by omega)
      have d6 : wr.cell? ⟨g, j * 10 + 6, none⟩ = some (.int .i64 xr) := hcy 6 (by omega)
      have d7 : wr.cell? ⟨g, j * 10 + 7, none⟩ = some (.bool xrst) := hcy 7 (by omega)
      have d8 : wr.cell? ⟨g, j * 10 + 8, none⟩ = some (.int .i64 xsg) := hcy 8 (by omega)
      have d9 : wr.cell? ⟨g, j * 10 + 9, none⟩ = some (.int .i64 xps) := hcy 9 (by omega)
      have fz := hown.frozenAt
      have hkn : (k : Int) < (n : Int) := by omega
      have hjn' : (j : Int) < (n : Int) := by omega
      clear hcx hcy
      go_wp2_with fail
      go_region
      go_wp2
      go_roundw
      case rel => 
        have ow := OW.out
        have bw := BW.out
        refine ⟨k + 1, _, by omega, by go_num, congrArg (Value.int .i64) (by omega), HT, ?_, ?_⟩
        · exact ow.drew
        · exact bw.drew
      case measure => simp [intOf]; omega
    · have hr := turned_end HL.out ht.out (by omega)
      rw [hr] at hown
      clear hr
      go_wp2
      go_end0
      exact ⟨rfl, hown, k0⟩
set_option maxHeartbeats 400000 in
theorem reverse_any (v : Value) (n : Nat) (l : List Ev) (B : Nat) (w : World) (h : w.ownsRow B 59 10 v n (csE l)) (hn : n ≤ 5000) :
    Calls Try.prog 58 #[v] w fun e w' => e = .returned (.tuple #[]) ∧ w'.ownsRow B 59 10 v n (csE l.reverse) ∧ Below B w w' := by
  have h0 := h
  obtain ⟨h1, h2⟩ := h
  rcases h2 with ⟨rfl, rfl⟩ | ⟨g, cap, cur, rfl, _⟩
  · obtain rfl : l = [] := List.eq_nil_of_length_eq_zero (by have := h1; rw [csE_len] at this; omega)
    go_enter Try.func58, Try.ntmps58
    go_wp2
    go_loopw [2, 3] (fun i j wr => i = .int .i64 0 ∧ j = .int .i64 (-1) ∧ wr = w) (fun _ _ _ => 0)
    case atStart => exact ⟨rfl, rfl, rfl⟩
    case round =>
      obtain ⟨rfl, rfl, rfl⟩ := hrel
      go_wp2
      go_end0
      exact ⟨rfl, h0, Below.refl _ _⟩
  · exact reverse_some g n cap l B w h0 hn
set_option maxHeartbeats 400000 in
theorem valid_any (A : Option Addr) (n c : Nat) (l : List Ev) (B : Nat) (w : World) (h : Reads w B 10 A n (csE l)) (hB : B ≤ w.heap.size) (hn : n ≤ 9223372036854775807) :
    Calls Try.prog 37 #[.slice A n c] w fun e w' => e = .returned (.int .i64 (checkS l).1) ∧ Below w.heap.size w w' := by
  have hc := evCheck_any A n c l B w h hB hn
  go_enter Try.func37, Try.ntmps37
  go_wp2_with (go_at_call 68; refine hc.mono ?_; rintro e w1 ⟨rfl, hb1⟩)
  go_ret
  exact ⟨rfl, hb1⟩
set_option maxRecDepth 100000 in
set_option maxHeartbeats 1000000 in
theorem retro_any (A : Option Addr) (n c : Nat) (l : List Ev) (B : Nat) (w : World) (h : Reads w B 10 A n (csE l)) (hB : B ≤ w.heap.size) (hn : n ≤ 5000) :
    Calls Try.prog 21 #[.slice A n c] w fun e w' => ∃ A' c', e = .returned (.tuple #[.slice A' (retroS l).1.length c', .int .i64 (retroS l).2]) ∧ OwnE w' w.heap.size (retroS l).1.length A' c' (retroS l).1 ∧ Below w.heap.size w w' := by
  have hc := valid_any A n c l B w h hB (by omega)
  obtain ⟨y, hy⟩ : ∃ y, y = (checkS l).1 := ⟨_, rfl⟩
  rw [← hy] at hc
  by_cases hz : y = 0
  · subst hz
    have E := Lib.hid (show retroS l = chainS l.reverse by unfold retroS; rw [← hy, if_neg (fun h => h rfl)])
    clear hy
    go_enter Try.func21, Try.ntmps21
    go_wp2_with fail
    refine hc.mono ?_
    rintro e w1 ⟨rfl, hb1⟩
    go_wp2_with fail
    refine (cloneE_any A n c l B _ (h.below hB hb1) (by have := hb1.size; omega) hn).mono ?_
    rintro e w2 ⟨A2, c2, rfl, ho2, hb2⟩
    go_wp2_with fail
    refine (reverse_any _ n l w1.heap.size _ ho2.1 hn).mono ?_
    rintro e w3 ⟨rfl, ho3, hb3⟩
    have k3 : Below w.heap.size w w3 := (below_call hb1 hb2).trans (hb3.mono hb1.size)
    go_wp2_with fail
    refine (chained_any _ n l.reverse w1.heap.size _ ho3 hn (by have := hb3.size; have := hb2.size; omega)).mono ?_
    rintro e w4 ⟨A4, c4, rfl, ho4, hb4⟩
    have k4 : Below w.heap.size w w4 := k3.trans (hb4.mono hb1.size)
    go_wp2_with fail
    go_ret2
    rw [E.out]
    exact ⟨A4, c4, rfl, ho4.lower hb1.size, k4⟩
  · have hz' : (y != 0) = true := by simpa using hz
    have E := Lib.hid (show retroS l = ([], y) by unfold retroS; rw [← hy, if_pos hz])
    clear hy
    go_enter Try.func21, Try.ntmps21
    go_wp2_with (go_at_call 37; refine hc.mono ?_; rintro e w1 ⟨rfl, hb1⟩)
    go_ret2
    rw [E.out]
    exact ⟨none, 0, rfl, OwnE.nil_ _ _, by repeat (first | exact Below.refl _ _ | assumption | refine below_drewN ?_ _ | refine Below.drew ?_ | refine below_alloc ?_ _ | (refine below_call ?_ (by assumption)) | (refine Below.setCell ?_ ?_ _; rotate_left; (simp; try omega)))⟩
end Go.Proofs.Ytiphacmmglohaaa
