/- The walks of SpanOrder: lists of small times made of numbers, parts of lists, an append of a part. -/
import Derived.Test.YtfafjdbdpbjklaaDoorLists
import Derived.Test.YtfafjdbdpbjklaaDoorKnown
import Derived.Test.YtfafjdbdpbjklaaDoorOrderMath
namespace Go.Proofs.YtfafjdbdpbjklaaDoor
open Go.RowKit

theorem own_call {w w' : World} {base size n : Nat} {e : TypeId} {v : Value} {xs : List Value} (h : w.ownsRow base e size v n xs) (hb : Below w.heap.size w w') : w'.ownsRow base e size v n xs := by
  have hl := h.lt
  obtain ⟨h1, h2⟩ := h
  refine ⟨h1, ?_⟩
  rcases h2 with h2 | ⟨g, cap, cur, h2, h3, h4, h5⟩
  · exact .inl h2
  · refine .inr ⟨g, cap, cur, h2, h3, ?_, h5⟩
    rw [hb.block g (hl g (by rw [h2]; rfl)).2]; exact h4
/-- The numbers of a list, as cells. -/
def csI (l : List Int) : List Value := l.flatMap fun n => [.int .i64 n]
theorem csT_append (l m : List (Int × Int)) : csT (l ++ m) = csT l ++ csT m := by unfold csT; rw [List.flatMap_append]
theorem csT_len (l : List (Int × Int)) : (csT l).length = l.length * 2 := flat_len cT 2 (fun _ => rfl) l
theorem csT_one (t : Int × Int) : csT [t] = [.int .i64 t.1, .int .i64 t.2] := rfl
theorem csT_drop (l : List (Int × Int)) (k : Nat) : csT (l.drop k) = (csT l).drop (k * 2) := by
  induction l generalizing k with
  | nil => simp [csT]
  | cons t l ih =>
    cases k with
    | zero => simp
    | succ k =>
      rw [List.drop_succ_cons, ih]
      show _ = ([Value.int .i64 t.1, .int .i64 t.2] ++ csT l).drop ((k + 1) * 2)
      rw [show (k + 1) * 2 = k * 2 + 2 by omega, List.drop_append]; simp
theorem csT_take (l : List (Int × Int)) (k : Nat) : csT (l.take k) = (csT l).take (k * 2) := by
  induction l generalizing k with
  | nil => simp [csT]
  | cons t l ih =>
    cases k with
    | zero => simp [csT]
    | succ k =>
      rw [List.take_succ_cons]
      show [Value.int .i64 t.1, .int .i64 t.2] ++ csT (l.take k) = ([Value.int .i64 t.1, .int .i64 t.2] ++ csT l).take ((k + 1) * 2)
      rw [ih, show (k + 1) * 2 = k * 2 + 2 by omega, List.take_append]; simp
/-- The address of a part that begins at element lo. -/
def pa (A : Option Addr) (lo c size : Nat) : Option Addr := if c = lo then A else A.map (·.add (lo * size))
section
variable {P : Program} {t e : TypeId} {i : TypeInfo} {size : Nat} (ht : P.underlying t = some (.slice e)) (hi : P.info? e = some i) (hs : i.size = size)
include ht in
theorem elem_of : P.elem t = e := by simp [Program.elem, ht]
include ht hi hs
theorem run_size (W : World) : (sizeOf (P.elem t)).run P W = .ok size W := by
  rw [elem_of ht]
  simp [sizeOf, typeInfo, hi, hs, go_sem]
theorem run_part_l (A : Option Addr) (n c lo : Nat) (h : lo ≤ n) (W : World) : (Instr.slice t (.slice A n c) (some (.int .i64 lo)) none none).run P W = .ok (.slice (pa A lo c size) (n - lo) (c - lo)) W := by
  rw [run_slice_l W t A n c (by rw [elem_of ht]; exact ht) .i64 lo (by omega) (by omega), run_size ht hi hs]
  simp [Result.andThen, sliced, pa]
theorem run_part_h (A : Option Addr) (n c hi' : Nat) (h : hi' ≤ c) (W : World) : (Instr.slice t (.slice A n c) none (some (.int .i64 hi')) none).run P W = .ok (.slice A hi' c) W := by
  rw [run_slice_h W t A n c (by rw [elem_of ht]; exact ht) .i64 hi' (by omega) (by omega), run_size ht hi hs]
  simp [Result.andThen, sliced]
  cases A <;> simp [Addr.add]
end
theorem Reads.head_part {w : World} {B size n : Nat} {A : Option Addr} {xs : List Value} (h : Reads w B size A n xs) (k : Nat) (hk : k ≤ n) : Reads w B size A k (xs.take (k * size)) := by
  refine ⟨?_, fun h0 => ?_⟩
  · rw [List.length_take, h.1]; have := Nat.mul_le_mul_right size hk; omega
  · obtain ⟨b, off, e, hb, hc⟩ := h.2 (by omega)
    refine ⟨b, off, e, hb, fun j u hj => hc j u ?_⟩
    rw [List.getElem?_take] at hj
    split at hj
    · exact hj
    · cases hj
theorem Reads.tail_part {w : World} {B size n : Nat} {A : Option Addr} {xs : List Value} (h : Reads w B size A n xs) (k c : Nat) (hk : k ≤ n) (hc : n ≤ c) : Reads w B size (pa A k c size) (n - k) (xs.drop (k * size)) := by
  refine ⟨?_, fun h0 => ?_⟩
  · rw [List.length_drop, h.1, Nat.sub_mul]
  · obtain ⟨b, off, e, hb, hcell⟩ := h.2 (by omega)
    refine ⟨b, off + k * size, ?_, hb, fun j u hj => ?_⟩
    · unfold pa
      rw [if_neg (by omega), e, Option.map_some, addr_add]
    · rw [List.getElem?_drop] at hj
      have := hcell _ _ hj
      rwa [← Nat.add_assoc] at this
theorem ownTimes_own (A : Option Addr) (n c : Nat) (l : List (Int × Int)) (B : Nat) (w : World) (h : Reads w B 2 A n (csT l)) (hB : B ≤ w.heap.size) (hn : n ≤ 80) :
    Calls Tryd.prog 18 #[.slice A n c] w fun e w' => ∃ v, e = .returned v ∧ w'.ownsRow w.heap.size 23 2 v n (csT l) ∧ Below w.heap.size w w' := by
  obtain ⟨i0, hi0, hz0, hz1, hz2⟩ := info_parts time_info
  go_enter Tryd.func18, Tryd.ntmps18
  go_wp2_with (at_builtin; (refine wpList_append_any _ rfl (.tmp 3) (.tmp 4) _ rfl w.heap.size 23 i0 _ 2 16 Tryd.underlying30 hi0 hz0 hz1 hz2 rfl (by omega) (.slice (some ⟨w.heap.size, 0, none⟩) 0 0) 0 [] rfl (World.ownsRow_lit w #[] 0 (Nat.le_refl _) (by simp [maxLen]) rfl) B A n c (csT l) rfl (h.below hB (below_alloc (Below.refl _ _) _)) (one_csT l) (by simp only [maxLen]; omega) (by omega) (by simp) ?_); intro v1 w1 hown1 hg1 hat1)
  go_ret
  simp only [Nat.zero_add, List.nil_append] at hown1
  exact ⟨v1, rfl, hown1, (below_alloc (Below.refl _ _) _).grown hg1 (by simp) (fun k hk => by simp [Value.ownBlock] at hk; omega)⟩

theorem csI_len (l : List Int) : (csI l).length = l.length * 1 := flat_len _ 1 (fun _ => rfl) l
set_option maxRecDepth 100000 in
set_option maxHeartbeats 1000000 in
theorem spans_own (A : Option Addr) (n c : Nat) (l : List Int) (B : Nat) (w : World) (h : Reads w B 1 A n (csI l)) (hB : B ≤ w.heap.size) (hn : n ≤ 9223372036854775807) (hl : ∀ x ∈ l, -9223372036854775808 ≤ x ∧ x ≤ 9223372036854775807) (most : Nat) (hm : most ≤ 60) :
    Calls Tryd.prog 42 #[.slice A n c, .int .i64 most] w fun e w' => ∃ v, e = .returned v ∧ w'.ownsRow w.heap.size 23 2 v (spL most l).length (csT (spL most l)) ∧ Below w.heap.size w w' := by
  have hlen : l.length = n := h.len (size := 1) (l := l) (f := fun n => [Value.int .i64 n]) (fun _ => rfl) (by decide)
  obtain ⟨i0, hi0, hz0, hz1, hz2⟩ := info_parts time_info
  have HL := Lib.hid hlen; clear hlen
  have H1 := Lib.hid hl; clear hl
  go_enter Tryd.func42, Tryd.ntmps42
  go_wp2
  go_loopw [5, 6] (fun v i wr => ∃ k : Nat, k ≤ n ∧ k ≤ most ∧ i = .int .i64 k ∧ wr.ownsRow w.heap.size 23 2 v k (csT ((l.take k).map spS)) ∧ Below w.heap.size w wr) (fun _ i _ => n - (intOf i).toNat)
  case atStart => exact ⟨0, by omega, by omega, rfl, World.ownsRow_nil _ _ _ _, Below.refl _ _⟩
  case round =>
    obtain ⟨k, hk, hkm, rfl, hown, hb⟩ := hrel
    have hz := hb.size
    by_cases hlt : k < n ∧ k < most
    · obtain ⟨hlt, hlm⟩ := hlt
      have hlt' : (k : Int) < (n : Int) := by omega
      have hlm' : (k : Int) < (most : Int) := by omega
      obtain ⟨x, hx⟩ := get_some (l := l) (k := k) (by have := HL.out; omega)
      have hxb := H1.out x (List.mem_of_getElem? hx)
      have HT := Lib.hid (take_get hx)
      obtain ⟨b, off, rfl, hab, hc⟩ := h.elem (f := fun n => [Value.int .i64 n]) (fun _ => rfl) hlt hx
      have c0 := hc 0 _ rfl
      rw [← hb.cell (by simp; omega)] at c0
      simp only [Nat.add_zero, Nat.mul_one] at c0
      clear hc hx
      go_wp2_with (first | (go_at_call 41; refine (kitSpan_any _ _ hxb.1 hxb.2).mono ?_; rintro e w1 ⟨rfl, hb1⟩; have hown1 := own_call hown hb1; have hz1' := hb1.size) | (at_builtin; (refine wpList_append_any _ rfl (.tmp 18) (.tmp 24) _ rfl w.heap.size 23 i0 _ 2 16 Tryd.underlying30 hi0 hz0 hz1 hz2 rfl (by omega) _ k _ rfl (hown1.alloc _) (w1.heap.size + 1) (some ⟨w1.heap.size, 0, none⟩) 1 1 (csT [spS x]) rfl (Reads.new w1 _ _ 1 2 rfl) (one_csT _) (by simp only [maxLen]; omega) (by omega) (by simp; omega) ?_); intro v2 w2 hown2 hg2 hat2))
      go_roundw
      case rel =>
        refine ⟨k + 1, by omega, by omega, by go_num, ?_, ?_⟩
        · rw [HT.out, List.map_append, csT_append]; exact hown2
        · refine (below_alloc (below_call hb hb1) _).grown hg2 (by simp; omega) (fun j hj => (hown1.lt j hj).1)
      case measure => simp [intOf]; omega
    · by_cases hkn : k < n
      · have hkn' : (k : Int) < (n : Int) := by omega
        have hkm' : ¬ ((k : Int) < (most : Int)) := by omega
        have e2 : l.take k = l.take most := by rw [show k = most by omega]
        have E := Lib.hid (spL_of e2 (by have := HL.out; omega)); clear e2
        go_wp2
        go_ret
        refine ⟨_, rfl, ?_, hb⟩
        rw [E.out.2, E.out.1]; exact hown
      · have hkn' : ¬ ((k : Int) < (n : Int)) := by omega
        have e2 : l.take k = l.take most := by
          have := HL.out
          rw [List.take_of_length_le (by omega), List.take_of_length_le (by omega)]
        have E := Lib.hid (spL_of e2 (by have := HL.out; omega)); clear e2
        go_wp2
        go_ret
        refine ⟨_, rfl, ?_, hb⟩
        rw [E.out.2, E.out.1]; exact hown
theorem step_append_any {P : Program} (w : World) {ops : Array Oper} {o : Oper} {a : Act} {K : Act → World → Prop} {Q : Exit → Act → World → Prop} {E : Prop} (hgd : o.guard = none) (s x : Operand) (t : TypeId)
    (ho : o.op = .call { callee := .builtin .append, args := #[s, x], argTypes := #[t, t] })
    (base : Nat) (e : TypeId) (i : TypeInfo) (z : Value) (size bytes : Nat) (ht : P.underlying t = some (.slice e)) (hi : P.info? e = some i) (hz : i.zero = some z)
    (hsize : i.size = size) (hby : i.bytes = bytes) (hzs : z.cells.size = size) (hsz : 0 < size)
    (v : Value) (n : Nat) (xs : List Value) (hs : a.eval s = v) (hown : w.ownsRow base e size v n xs)
    (B : Nat) (A : Option Addr) (m c : Nat) (news : List Value) (hx : a.eval x = .slice A m c) (hr : Reads w B size A m news) (h1 : ∀ u ∈ news, u.oneCell' = true)
    (h63 : n + m ≤ maxLen) (hbytes : (n + m) * bytes ≤ 140737488355328) (hbase : base ≤ w.heap.size)
    (h : ∀ v' w', w'.ownsRow base e size v' (n + m) (xs ++ news) → w.grownBy w' v.ownBlock → (v'.ownBlock = v.ownBlock ∨ v'.ownBlock = some w.heap.size) → K (a.put o.dst v') w') :
    if Region.wanted o (yielded ops a.tmps) = true then Oper.wp P o a w K Q else E := by
  have hw : Region.wanted o (yielded ops a.tmps) = true := by simp [Region.wanted, hgd]
  rw [if_pos hw]
  exact wp_append_any w s x t ho base e i z size bytes ht hi hz hsize hby hzs hsz v n xs hs hown B A m c news hx hr h1 h63 hbytes hbase h
/-- A slice of the call's own, in its form. -/
def OwnT (w : World) (base n : Nat) (A : Option Addr) (c : Nat) (l : List (Int × Int)) : Prop := w.ownsRow base 23 2 (.slice A n c) n (csT l) ∧ Reads w w.heap.size 2 A n (csT l) ∧ n ≤ c
theorem own_form {w : World} {base n : Nat} {v : Value} {l : List (Int × Int)} (h : w.ownsRow base 23 2 v n (csT l)) : ∃ A c, v = .slice A n c ∧ OwnT w base n A c l := by
  obtain ⟨A, c, e, hr, hc, _⟩ := own_reads h
  subst e
  exact ⟨A, c, rfl, h, hr, hc⟩
theorem ownTimes_sl (A : Option Addr) (n c : Nat) (l : List (Int × Int)) (B : Nat) (w : World) (h : Reads w B 2 A n (csT l)) (hB : B ≤ w.heap.size) (hn : n ≤ 80) :
    Calls Tryd.prog 18 #[.slice A n c] w fun e w' => ∃ A' c', e = .returned (.slice A' n c') ∧ OwnT w' w.heap.size n A' c' l ∧ Below w.heap.size w w' :=
  (ownTimes_own A n c l B w h hB hn).mono fun e w' ⟨v, he, ho, hb⟩ => by
    obtain ⟨A', c', rfl, h'⟩ := own_form ho
    exact ⟨A', c', he, h', hb⟩
theorem spans_sl (A : Option Addr) (n c : Nat) (l : List Int) (B : Nat) (w : World) (h : Reads w B 1 A n (csI l)) (hB : B ≤ w.heap.size) (hn : n ≤ 9223372036854775807) (hl : ∀ x ∈ l, -9223372036854775808 ≤ x ∧ x ≤ 9223372036854775807) (most : Nat) (hm : most ≤ 60) :
    Calls Tryd.prog 42 #[.slice A n c, .int .i64 most] w fun e w' => ∃ A' c', e = .returned (.slice A' (spL most l).length c') ∧ OwnT w' w.heap.size (spL most l).length A' c' (spL most l) ∧ Below w.heap.size w w' :=
  (spans_own A n c l B w h hB hn hl most hm).mono fun e w' ⟨v, he, ho, hb⟩ => by
    obtain ⟨A', c', rfl, h'⟩ := own_form ho
    exact ⟨A', c', he, h', hb⟩
end Go.Proofs.YtfafjdbdpbjklaaDoor
