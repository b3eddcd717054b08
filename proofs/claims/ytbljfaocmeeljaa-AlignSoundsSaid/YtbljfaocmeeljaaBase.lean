/- Small facts on worlds, slices that read as lists, and results; they speak of no function of the program. -/
import Derived.Test.YtbljfaocmeeljaaProg
import Derived.WalkKit
import Derived.WalkSpells
import Derived.WalkLawsBesides
import Derived.Deep.QuietTactic
import Derived.BigQuiet
import Derived.BigGuardPart
import Derived.Lib.Hide
import Derived.RegionTactic
import Derived.ChangeAlike
import Derived.Laws.OwnMore
import Derived.Deep.AppendLies
import Derived.Deep.Draws
import Derived.Deep.RegionHeld3
namespace Go.Proofs.Ytbljfaocmeeljaa
open Go.RowKit

theorem below_drewN {B : Nat} {a w : World} (h : Below B a w) (n : Nat) : Below B a (w.drewN n) := ⟨h.os, h.tape, h.output, h.size, h.block⟩
theorem below_alloc {w W : World} (h : Below w.heap.size w W) (o : Obj) : Below w.heap.size w (W.alloc o) := h.alloc h.size o
theorem below_call {w W W1 : World} (h : Below w.heap.size w W) (h1 : Below W.heap.size W W1) : Below w.heap.size w W1 := h.trans (h1.mono h.size)
theorem below_of_drewN {w : World} (n : Nat) : Below w.heap.size w (w.drewN n) := below_drewN (Below.refl _ _) n
/-- What a callee's frame gives of the blocks that were there. -/
theorem bcell {W w1 : World} (hb : Below W.heap.size W w1) : (∀ b o, b < W.heap.size → w1.cell? ⟨b, o, none⟩ = W.cell? ⟨b, o, none⟩) ∧ (∀ b o, b < W.heap.size → w1.frozen? ⟨b, o, none⟩ = W.frozen? ⟨b, o, none⟩) :=
  ⟨fun b o h => hb.cell (p := ⟨b, o, none⟩) h, fun b o h => hb.frozen (p := ⟨b, o, none⟩) h⟩
theorem ret_int {k : IntKind} {a b : Int} (h : a = b) : Ending.returned (.int k a) = .returned (.int k b) := by rw [h]
theorem ret_bool {a b : Bool} (h : a = b) : Ending.returned (.bool a) = .returned (.bool b) := by rw [h]
theorem ret_of {P : Program} {fn : Func} {R : Ending → World → Prop} {a : Act} {w : World} {v : Value} (h : (results fn a.tmps).run P w = .ok v w) (hd : a.defers = []) (hR : R (.returned v) w) : bodyPost P fn R .ret a w := bodyPost_ret h hd hR

/-- The slice value with address A and n elements of 'size' cells reads as the cells xs, and lies below block B. -/
def Reads (w : World) (B size : Nat) (A : Option Addr) (n : Nat) (xs : List Value) : Prop :=
  xs.length = n * size ∧ (0 < n → ∃ b off, A = some ⟨b, off, none⟩ ∧ b < B ∧ ∀ j u, xs[j]? = some u → w.cell? ⟨b, off + j, none⟩ = some u)
theorem flat_get {α : Type} (f : α → List Value) (size : Nat) (hf : ∀ x, (f x).length = size) : ∀ (l : List α) (k j : Nat) (x : α), l[k]? = some x → j < size → (l.flatMap f)[k * size + j]? = (f x)[j]?
  | [], k, j, x, h, _ => by simp at h
  | y :: l, 0, j, x, h, hj => by
    simp only [List.getElem?_cons_zero, Option.some.injEq] at h
    subst h
    rw [List.flatMap_cons, Nat.zero_mul, Nat.zero_add, List.getElem?_append_left (by rw [hf]; exact hj)]
  | y :: l, k + 1, j, x, h, hj => by
    simp only [List.getElem?_cons_succ] at h
    rw [List.flatMap_cons, List.getElem?_append_right (by rw [hf, Nat.succ_mul]; omega), hf, ← flat_get f size hf l k j x h hj]
    congr 1
    rw [Nat.succ_mul]; omega
theorem flat_len {α : Type} (f : α → List Value) (size : Nat) (hf : ∀ x, (f x).length = size) : ∀ (l : List α), (l.flatMap f).length = l.length * size
  | [] => by simp
  | y :: l => by rw [List.flatMap_cons, List.length_append, hf, flat_len f size hf l, List.length_cons, Nat.succ_mul]; omega
section
variable {w w' : World} {B B' size n : Nat} {A : Option Addr} {xs : List Value}
theorem Reads.none_ : Reads w B size A 0 [] := ⟨by simp, fun h => absurd h (by omega)⟩
theorem Reads.keep (h : Reads w B size A n xs) (hk : ∀ b o, b < B → w'.cell? ⟨b, o, none⟩ = w.cell? ⟨b, o, none⟩) : Reads w' B size A n xs :=
  ⟨h.1, fun hn => by
    obtain ⟨b, off, e, hb, hc⟩ := h.2 hn
    exact ⟨b, off, e, hb, fun j u hu => (hk _ _ hb).trans (hc j u hu)⟩⟩
theorem Reads.more (h : Reads w B size A n xs) (hB : B ≤ B') : Reads w B' size A n xs :=
  ⟨h.1, fun hn => by
    obtain ⟨b, off, e, hb, hc⟩ := h.2 hn
    exact ⟨b, off, e, by omega, hc⟩⟩
theorem Reads.below {W : World} (h : Reads w B size A n xs) (hB : B ≤ w.heap.size) (hb : Below w.heap.size w W) : Reads W B size A n xs := h.keep fun _ _ hp => hb.cell (by simp; omega)
theorem Reads.elem {α : Type} {f : α → List Value} {l : List α} (hf : ∀ x, (f x).length = size) (h : Reads w B size A n (l.flatMap f)) {k : Nat} {x : α} (hk : k < n) (hx : l[k]? = some x) :
    ∃ b off, A = some ⟨b, off, none⟩ ∧ b < B ∧ ∀ j u, (f x)[j]? = some u → w.cell? ⟨b, off + (k * size + j), none⟩ = some u := by
  obtain ⟨b, off, hA, hb, hc⟩ := h.2 (by omega)
  refine ⟨b, off, hA, hb, fun j u hu => hc _ _ ?_⟩
  have hj : j < size := by
    rw [← hf x]
    rcases Nat.lt_or_ge j (f x).length with h1 | h1
    · exact h1
    · rw [List.getElem?_eq_none h1] at hu; cases hu
  rw [flat_get f size hf l k j x hx hj, hu]
theorem Reads.len {α : Type} {f : α → List Value} {l : List α} (hf : ∀ x, (f x).length = size) (hs : 0 < size) (h : Reads w B size A n (l.flatMap f)) : l.length = n := by
  have := h.1
  rw [flat_len f size hf] at this
  exact Nat.eq_of_mul_eq_mul_right hs this
/-- A block that the call has just laid, as a slice. -/
theorem Reads.new (w : World) (t : TypeId) (cs : Array Value) (n size : Nat) (hn : cs.size = n * size) : Reads (w.alloc (.cells cs t)) (w.heap.size + 1) size (some ⟨w.heap.size, 0, none⟩) n cs.toList :=
  ⟨by simpa using hn, fun _ => ⟨_, _, rfl, by omega, fun j u hu => by
    rw [Nat.zero_add]
    have hh : (w.alloc (.cells cs t)).heap[w.heap.size]? = some (.cells cs t (0, 0)) := heap_alloc_new w _
    rw [cell_of_row _ _ j cs t (0, 0) hh]
    simpa using hu⟩⟩
end

/-- The same, the block's number under a name. -/
theorem Reads.newAt (w : World) (t : TypeId) (cs : Array Value) (n size g : Nat) (hg : g = w.heap.size) (hn : cs.size = n * size) : Reads (w.alloc (.cells cs t)) (g + 1) size (some ⟨g, 0, none⟩) n cs.toList := by
  subst hg; exact Reads.new w t cs n size hn
/-- Block g is just the cells cs of type t, none of them frozen. -/
def Blk (w : World) (g : Nat) (t : TypeId) (cs : Array Value) : Prop := w.heap[g]? = some (.cells cs t (0, 0))
section
variable {w w' : World} {g : Nat} {t : TypeId} {cs : Array Value}
theorem Blk.lt (h : Blk w g t cs) : g < w.heap.size := by
  rcases Nat.lt_or_ge g w.heap.size with hlt | hge
  · exact hlt
  · unfold Blk at h; rw [Array.getElem?_eq_none hge] at h; cases h
theorem Blk.cell (h : Blk w g t cs) (i : Nat) : w.cell? ⟨g, i, none⟩ = cs[i]? := cell_of_row w g i cs t (0, 0) h
theorem Blk.frozen (h : Blk w g t cs) (i : Nat) : w.frozen? ⟨g, i, none⟩ = false := by
  unfold Blk at h
  simp [World.frozen?, h]
theorem Blk.new (w : World) (t : TypeId) (cs : Array Value) : Blk (w.alloc (.cells cs t)) w.heap.size t cs := heap_alloc_new w _
theorem Blk.drew (h : Blk w g t cs) : Blk w.drew g t cs := h
theorem Blk.drewN (h : Blk w g t cs) (n : Nat) : Blk (w.drewN n) g t cs := h
theorem Blk.alloc (h : Blk w g t cs) (o : Obj) : Blk (w.alloc o) g t cs := (Below.heap_alloc w o g h.lt).trans h
theorem Blk.set_ (h : Blk w g t cs) (i : Nat) (u : Value) : Blk (w.setCell ⟨g, i, none⟩ u) g t (cs.setIfInBounds i u) := by
  unfold Blk at h ⊢
  simp [World.setCell, Array.getElem?_modify, h]
theorem Blk.far (h : Blk w g t cs) {p : Addr} (hp : g ≠ p.block) (u : Value) : Blk (w.setCell p u) g t cs := (Below.heap_setCell w p u g hp).trans h
theorem Blk.below {B : Nat} (h : Blk w g t cs) (hb : Below B w w') (hg : g < B) : Blk w' g t cs := (hb.block g hg).trans h
theorem Blk.kept (h : Blk w g t cs) (hb : Below w.heap.size w w') : Blk w' g t cs := h.below hb h.lt
end
theorem get_some {α : Type} {l : List α} {k : Nat} (h : k < l.length) : ∃ t, l[k]? = some t := ⟨_, List.getElem?_eq_getElem h⟩
theorem drop_get {α : Type} {l : List α} {k : Nat} {t : α} (h : l[k]? = some t) : l.drop k = t :: l.drop (k + 1) := by
  obtain ⟨hk, rfl⟩ := List.getElem?_eq_some_iff.1 h
  exact List.drop_eq_getElem_cons hk
theorem take_get {α : Type} {l : List α} {k : Nat} {t : α} (h : l[k]? = some t) : l.take (k + 1) = l.take k ++ [t] := by
  rw [List.take_add_one, h]; rfl

/-! ### A region that draws its order, whose operations read and call functions that make memory: one walk in the text's order -/
/-- A world that parts from W by new blocks alone. -/
structure Calm (W : World) where
  val : World
  h : Below W.heap.size W val
instance calm_some (W : World) : Nonempty (Calm W) := ⟨⟨W, Below.refl _ _⟩⟩
@[go_sem] theorem Calm.cell {W : World} (q : Calm W) (b o : Nat) (h : b < W.heap.size) : q.val.cell? ⟨b, o, none⟩ = W.cell? ⟨b, o, none⟩ := q.h.cell (p := ⟨b, o, none⟩) h
@[go_sem] theorem Calm.frozen {W : World} (q : Calm W) (b o : Nat) (h : b < W.heap.size) : q.val.frozen? ⟨b, o, none⟩ = W.frozen? ⟨b, o, none⟩ := q.h.frozen (p := ⟨b, o, none⟩) h
theorem calm_call {P : Program} {f : FuncId} {args : Array Value} {W : World} {q : Calm W} {v : Value}
    (h : Calls P f args q.val fun e w'' => e = .returned v ∧ Below q.val.heap.size q.val w'') : Calls P f args q.val fun e w'' => e = .returned v ∧ ∃ q' : Calm W, w'' = q'.val :=
  h.mono fun _ w'' ⟨he, hb⟩ => ⟨he, ⟨w'', below_call q.h hb⟩, rfl⟩
theorem wp_region_calm {P : Program} {id : Nat} {Q : Exit → Act → World → Prop} {a : Act} {w : World} {l : List Oper} (hm : P.follows .mixedOrders = true) (hB : Region.lexB .any l.toArray = true)
    (h : wpQuiet P l.toArray (fun w' => ∃ q : Calm w, w' = q.val) (fun a' => ∀ w', Below w.heap.size w w' → Q .normal a' w') l a) : (Code.region id l.toArray true).wp P Q a w :=
  wp_region_quiet (C := fun w' => ∃ q : Calm w, w' = q.val) hm hB ⟨⟨w.drew, (Below.refl _ _).drew⟩, rfl⟩ (by
    have e : (fun a' => ∀ w', (∃ q : Calm w, w' = q.val) → Q .normal a' w') = (fun a' => ∀ w', Below w.heap.size w w' → Q .normal a' w') := by
      funext a'
      refine propext ⟨fun hh w' hb => hh w' ⟨⟨w', hb⟩, rfl⟩, ?_⟩
      rintro hh w' ⟨q, rfl⟩
      exact hh _ q.h
    rw [e]; simpa using h)

/-- A time as cells, and a list of times. -/
def cT (t : Int × Int) : List Value := [.int .i64 t.1, .int .i64 t.2]
def csT (l : List (Int × Int)) : List Value := l.flatMap cT
/-- A time and an error as results. -/
@[reducible] def vT (x : Int × Int × Int) : Value := .tuple #[.agg #[.int .i64 x.1, .int .i64 x.2.1], .int .i64 x.2.2]
theorem vT_ret {x : Int × Int × Int} {a b c : Int} (h : (a, b, c) = x) : Ending.returned (.tuple #[.agg #[.int .i64 a, .int .i64 b], .int .i64 c]) = .returned (vT x) := by subst h; rfl
end Go.Proofs.Ytbljfaocmeeljaa
