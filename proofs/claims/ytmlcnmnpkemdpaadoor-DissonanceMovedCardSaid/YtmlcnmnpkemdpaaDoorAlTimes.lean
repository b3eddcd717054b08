
/- Lists of times in memory; appends in drawn regions; the reference's with. -/
import Derived.Test.YtmlcnmnpkemdpaaDoorAlMem
import Derived.IntWalk
namespace Go.Proofs.YtmlcnmnpkemdpaaDoor
open Go.RowKit
set_option maxRecDepth 100000 in
theorem tm_info : (Tryd.prog.info? 52).map (fun i => (i.zero, i.size, i.bytes)) = some (some (.agg #[.int .i64 0, .int .i64 0]), 2, 16) := by kernel_rfl
theorem one_csT (l : List (Int × Int)) : ∀ u ∈ csT l, u.oneCell' = true := by
  intro u hu
  obtain ⟨t, _, ht⟩ := List.mem_flatMap.1 hu
  simp [cT] at ht
  rcases ht with rfl | rfl <;> rfl
theorem csT_append (l m : List (Int × Int)) : csT (l ++ m) = csT l ++ csT m := by unfold csT; rw [List.flatMap_append]
theorem csT_len (l : List (Int × Int)) : (csT l).length = l.length * 2 := flat_len cT 2 (fun _ => rfl) l
theorem Reads.tlen {w : World} {B n : Nat} {A : Option Addr} {l : List Tm} (h : Reads w B 2 A n (csT l)) : l.length = n := h.len (size := 2) (l := l) (f := cT) (fun _ => rfl) (by decide)
/-- Element k of a slice of times. -/
theorem Reads.tm {w W : World} {B n : Nat} {A : Option Addr} {l : List Tm} (h : Reads w B 2 A n (csT l)) (hB : B ≤ w.heap.size) (hb : Below w.heap.size w W) {k : Nat} {x : Tm} (hk : k < n) (hx : l[k]? = some x) :
    ∃ b off, A = some ⟨b, off, none⟩ ∧ b < W.heap.size ∧ W.cell? ⟨b, off + k * 2, none⟩ = some (.int .i64 x.1) ∧ W.cell? ⟨b, off + k * 2 + 1, none⟩ = some (.int .i64 x.2) := by
  obtain ⟨b, off, hA, hbB, hc⟩ := h.elem (f := cT) (fun _ => rfl) hk hx
  have hall : ∀ j u, (cT x)[j]? = some u → W.cell? ⟨b, off + k * 2 + j, none⟩ = some u := fun j u hj => by
    rw [hb.cell (by simp; omega), Nat.add_assoc]
    exact hc j u hj
  exact ⟨b, off, hA, by have := hb.size; omega, hall 0 _ rfl, hall 1 _ rfl⟩
theorem reads_take2 {w : World} {B n k : Nat} {A : Option Addr} {l : List Tm} (h : Reads w B 2 A n (csT l)) (hk : k ≤ n) : Reads w B 2 A k (csT (l.take k)) := by
  have hl := h.tlen
  refine ⟨by rw [csT_len, List.length_take]; omega, fun h0 => ?_⟩
  obtain ⟨b, off, e, hb, hc⟩ := h.2 (by omega)
  refine ⟨b, off, e, hb, fun j u hu => hc j u ?_⟩
  have e2 : csT l = csT (l.take k) ++ csT (l.drop k) := by rw [← csT_append, List.take_append_drop]
  rw [e2]
  have hj : j < (csT (l.take k)).length := by
    rcases Nat.lt_or_ge j (csT (l.take k)).length with h1 | h1
    · exact h1
    · rw [List.getElem?_eq_none h1] at hu; cases hu
  rw [List.getElem?_append_left hj, hu]
theorem reads_drop2 {w : World} {B n k : Nat} {A : Option Addr} {l : List Tm} (h : Reads w B 2 A n (csT l)) (hk : k ≤ n) (A' : Option Addr) (hA : ∀ b off, A = some ⟨b, off, none⟩ → k < n → A' = some ⟨b, off + k * 2, none⟩) : Reads w B 2 A' (n - k) (csT (l.drop k)) := by
  have hl := h.tlen
  refine ⟨by rw [csT_len, List.length_drop]; omega, fun h0 => ?_⟩
  obtain ⟨b, off, e, hb, hc⟩ := h.2 (by omega)
  refine ⟨b, off + k * 2, hA b off e (by omega), hb, fun j u hu => ?_⟩
  rw [Nat.add_assoc]
  refine hc (k * 2 + j) u ?_
  have e2 : csT l = csT (l.take k) ++ csT (l.drop k) := by rw [← csT_append, List.take_append_drop]
  have e3 : (csT (l.take k)).length = k * 2 := by rw [csT_len, List.length_take]; omega
  rw [e2, List.getElem?_append_right (by omega), e3, show k * 2 + j - k * 2 = j by omega, hu]
set_option maxRecDepth 100000 in
/-- s[:k] -/
theorem tm_head (A : Option Addr) (k n c : Nat) (h : k ≤ c) : ∃ A' : Option Addr, A' = A ∧
    ∀ W : World, (Instr.slice 82 (.slice A n c) none (some (.int .i64 (k : Int))) none).run Tryd.prog W = .ok (.slice A' k c) W := by
  refine ⟨A, rfl, fun W => ?_⟩
  rw [run_slice_h W 82 _ _ _ Tryd.underlying82 .i64 _ (by omega) (by omega), show (Go.sizeOf (Tryd.prog.elem 82)).run Tryd.prog W = .ok 2 W by kernel_rfl]
  have ha : A.map (fun a => a.add 0) = A := by cases A <;> simp [Addr.add]
  by_cases hne : c = 0 <;> simp [Result.andThen, sliced, hne, ha]
set_option maxRecDepth 100000 in
/-- s[k:] -/
theorem tm_tail (A : Option Addr) (k n c : Nat) (h : k ≤ n) (hc : n ≤ c) : ∃ A' : Option Addr, (∀ b off, A = some ⟨b, off, none⟩ → k < n → A' = some ⟨b, off + k * 2, none⟩) ∧
    ∀ W : World, (Instr.slice 82 (.slice A n c) (some (.int .i64 (k : Int))) none none).run Tryd.prog W = .ok (.slice A' (n - k) (c - k)) W := by
  refine ⟨if c = k then A else A.map (·.add (k * 2)), fun b off e h0 => by rw [if_neg (by omega), e]; simp [Addr.add], fun W => ?_⟩
  rw [run_slice_l W 82 _ _ _ Tryd.underlying82 .i64 _ (by omega) (by omega), show (Go.sizeOf (Tryd.prog.elem 82)).run Tryd.prog W = .ok 2 W by kernel_rfl]
  by_cases hne : c = k <;> simp [Result.andThen, sliced, hne]
/-! ### Appends in a drawn region -/
theorem step_app {P : Program} (w : World) {ops : Array Oper} {o : Oper} {a : Act} {K : Act → World → Prop} {Q : Exit → Act → World → Prop} {E : Prop} (hgd : o.guard = none) (s x : Operand) (t : TypeId)
    (ho : o.op = .call { callee := .builtin .append, args := #[s, x], argTypes := #[t, t] })
    (base : Nat) (e : TypeId) (i : TypeInfo) (z : Value) (size bytes : Nat) (ht : P.underlying t = some (.slice e)) (hi : P.info? e = some i) (hz : i.zero = some z)
    (hsize : i.size = size) (hby : i.bytes = bytes) (hzs : z.cells.size = size) (hsz : 0 < size)
    (v : Value) (n : Nat) (xs : List Value) (hs : a.eval s = v) (hown : w.ownsRow base e size v n xs)
    (B : Nat) (A : Option Addr) (m c : Nat) (news : List Value) (hx : a.eval x = .slice A m c) (hr : Reads w B size A m news) (h1 : ∀ u ∈ news, u.oneCell' = true)
    (h63 : n + m ≤ maxLen) (hbytes : (n + m) * bytes ≤ 140737488355328) (hbase : base ≤ w.heap.size)
    (h : ∀ v' w', w'.ownsRow base e size v' (n + m) (xs ++ news) → w.grownBy w' v.ownBlock → (v'.ownBlock = v.ownBlock ∨ v'.ownBlock = some w.heap.size) → K (a.put o.dst v') w') :
    if Region.wanted o (yielded ops a.tmps) = true then Oper.wp P o a w K Q else E := by
  have hw : Region.wanted o (yielded ops a.tmps) = true := by simp [Region.wanted, hgd]
  rw [if_pos hw]
  exact wp_append_any w s x t ho base e i z size bytes ht hi hz hsize hby hzs hsz v n xs hs hown B A m c news hx hr h1 h63 hbytes hbase h
theorem step_is {P : Program} {w : World} {ops : Array Oper} {o : Oper} {a : Act} {K : Act → World → Prop} {Q : Exit → Act → World → Prop} {E : Prop} (s x : Operand) (t : TypeId) (v : Value)
    (_ : o.op = .call { callee := .builtin .append, args := #[s, x], argTypes := #[t, t] }) (_ : a.eval s = v) (h : if Region.wanted o (yielded ops a.tmps) = true then Oper.wp P o a w K Q else E) :
    if Region.wanted o (yielded ops a.tmps) = true then Oper.wp P o a w K Q else E := h
theorem Blk.grow {w w' : World} {g : Nat} {t : TypeId} {cs : Array Value} {row : Option Nat} (h : Blk w g t cs) (hg : w.grownBy w' row) (hne : some g ≠ row) : Blk w' g t cs := (hg.block g h.lt hne).trans h
theorem lay_grow {W w' : World} {row : Option Nat} {t : TypeId} {cs : Array Value} {G : Prop} (hg : W.grownBy w' row) (g : Nat) (hB : Blk W g t cs) (hne : some g ≠ row) (k : Blk w' g t cs → G) : G := k (Blk.grow hB hg hne)
theorem tm_lit (w : World) (base g : Nat) (hg : g = w.heap.size) (hb : base ≤ w.heap.size) : (w.alloc (.cells #[] 52)).ownsRow base 52 2 (.slice (some ⟨g, 0, none⟩) 0 0) 0 [] := by
  subst hg; exact World.ownsRow_lit w #[] 0 hb (by simp [maxLen]) rfl
theorem tm_blk {w : World} {g : Nat} {t : TypeId} {p0 p1 : Int} (h : Blk w g t #[.int .i64 p0, .int .i64 p1]) : Reads w w.heap.size 2 (some ⟨g, 0, none⟩) 1 (csT [(p0, p1)]) :=
  ⟨rfl, fun _ => ⟨g, 0, rfl, h.lt, fun j u hu => by rw [Nat.zero_add, h.cell]; simpa [csT, cT] using hu⟩⟩
/-- A slice of times, and its capacity. -/
def ReadsT (w : World) (v : Value) (l : List Tm) : Prop := ∃ A c, v = .slice A l.length c ∧ Reads w w.heap.size 2 A l.length (csT l) ∧ l.length ≤ c ∧ c ≤ 9223372036854775807
theorem ReadsT.kept {w w' : World} {v : Value} {l : List Tm} (h : ReadsT w v l) (hb : Below w.heap.size w w') : ReadsT w' v l := by
  obtain ⟨A, c, e, hr, h1, h2⟩ := h
  exact ⟨A, c, e, (hr.below (Nat.le_refl _) hb).more hb.size, h1, h2⟩
theorem ReadsT.nil_ (w : World) : ReadsT w (.slice none 0 0) [] := ⟨none, 0, rfl, Reads.none_, by simp, by omega⟩
theorem ReadsT.own {w : World} {base n : Nat} {v : Value} {l : List Tm} (h : w.ownsRow base 52 2 v n (csT l)) (hn : l.length = n) : ReadsT w v l := by
  obtain ⟨A, c, e, hr, h1, h2⟩ := own_reads h
  subst e hn
  unfold maxLen at h2
  exact ⟨A, c, rfl, hr, h1, by omega⟩
end Go.Proofs.YtmlcnmnpkemdpaaDoor
