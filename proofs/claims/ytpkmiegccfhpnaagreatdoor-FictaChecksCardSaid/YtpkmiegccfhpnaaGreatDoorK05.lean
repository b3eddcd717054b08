/- Parts of the proofs of layer 31: FiMap, ChPitchB. -/
import Derived.Test.YtpkmiegccfhpnaaGreatDoorK01
import Derived.Test.YtpkmiegccfhpnaaGreatDoorK04
import Derived.Maps.OwnOps
import Derived.Maps.OwnSet
import Derived.Maps.Views
import Derived.Maps.RangeWalk
import Derived.WideKeyPair
import Derived.DeepKeys4
import Derived.LaidMore
namespace Go.Proofs.YtpkmiegccfhpnaaGreatDoor
open Go.RowKit Go.Maps Go.WideMaps
/-- A key's type, by the values of its keys. -/
structure KeyG (γ : Type) (K : TypeId) where
  enc : γ → Value
  ok : γ → Prop
  keyed : Keyed Tryz.prog K
  keys : ∀ x, ok x → ∃ kl, Go.keyOf Tryz.prog K (enc x) = some kl
  inv : ∀ key kl, Go.keyOf Tryz.prog K key = some kl → ∃ x, ok x ∧ key = enc x
  inj : ∀ x y, enc x = enc y → x = y
/-- An element's type, by its values. -/
structure ElemT (β : Type) where
  R : Value → Option (DataW Unit × List MemPlace)
  enc : β → Value
  dat : β → DataW Unit
  ok : β → Prop
  here : ∀ y, ok y → R (enc y) = some (dat y, [])
  back : ∀ v z, R v = some z → ∃ y, ok y ∧ v = enc y ∧ z = (dat y, [])
  inj : ∀ y y', dat y = dat y' → y = y'
theorem keys_fit {k : TypeId} {R : Value → Option (DataW Unit × List MemPlace)} {es : Array MapEntry} {clock : Nat} (F : Go.WideElems.Fit Tryz.prog k R es clock) {e : MapEntry} (he : e ∈ es.toList) : ∃ kl, Go.keyOf Tryz.prog k e.key = some kl ∧ (Go.WideElems.rg Tryz.prog k R e).1 = kl := by
  obtain ⟨y, hy⟩ := F.reads e he
  exact ⟨y.1, Go.WideElems.rd_key hy, by simp [Go.WideElems.rg, hy]⟩
section
variable {γ β : Type} {K : TypeId}
theorem KeyG.one (G : KeyG γ K) {x y : γ} {kl : Lit} (hx : Go.keyOf Tryz.prog K (G.enc x) = some kl) (hy : Go.keyOf Tryz.prog K (G.enc y) = some kl) : x = y := G.inj _ _ (G.keyed.inj hx hy)
/-- The datum D reads as the function f. -/
def View (G : KeyG γ K) (T : ElemT β) (D : DataW Unit) (f : γ → Option β) : Prop :=
  ∀ x kl, G.ok x → Go.keyOf Tryz.prog K (G.enc x) = some kl → Maps.has D kl = (f x).isSome ∧ ∀ y, f x = some y → ∀ z, D.atKey kl z = T.dat y
/-- Block b is a map of at most n entries that holds f. -/
def TMap (w : World) (G : KeyG γ K) (T : ElemT β) (b n : Nat) (f : γ → Option β) : Prop :=
  ∃ D : DataW Unit, w.ownsMap Tryz.prog K T.R b n D ∧ View G T D f
variable {G : KeyG γ K} {T : ElemT β} {w w' : World} {b n : Nat} {f g : γ → Option β}
theorem TMap.made (w : World) (G : KeyG γ K) (T : ElemT β) : TMap (w.alloc (.map #[] 0)) G T w.heap.size 0 (fun _ => none) :=
  ⟨.map [], World.ownsMap_made _ _ _ _, fun _ _ _ _ => ⟨rfl, fun _ h => by cases h⟩⟩
theorem TMap.lt (h : TMap w G T b n f) : b < w.heap.size := by obtain ⟨D, h, _⟩ := h; exact h.lt
theorem TMap.below {B : Nat} (h : TMap w G T b n f) (hb : Below B w w') (hlt : b < B) : TMap w' G T b n f := by
  obtain ⟨D, ⟨es, clock, hblk, F, hs, hD⟩, hf⟩ := h
  exact ⟨D, ⟨es, clock, (hb.block b hlt).trans hblk, F, hs, hD⟩, hf⟩
theorem TMap.call (h : TMap w G T b n f) (hb : Below w.heap.size w w') : TMap w' G T b n f := h.below hb h.lt
theorem TMap.grown {row : Option Nat} (h : TMap w G T b n f) (hg : w.grownBy w' row) (hne : some b ≠ row) : TMap w' G T b n f := by
  obtain ⟨D, h, hf⟩ := h; exact ⟨D, h.kept hg hne, hf⟩
theorem TMap.mono (h : TMap w G T b n f) {n' : Nat} (hn : n ≤ n') : TMap w G T b n' f := by
  obtain ⟨D, h, hf⟩ := h; exact ⟨D, h.mono hn, hf⟩
theorem View.same {D : DataW Unit} (h : View G T D f) (e : ∀ x, G.ok x → f x = g x) : View G T D g := fun x kl h1 h2 => by rw [← e x h1]; exact h x kl h1 h2
theorem TMap.same (h : TMap w G T b n f) (e : ∀ x, G.ok x → f x = g x) : TMap w G T b n g := by
  obtain ⟨D, h, hf⟩ := h; exact ⟨D, h, hf.same e⟩
theorem TMap.look (h : TMap w G T b n f) {t E : TypeId} (ht : Tryz.prog.underlying t = some (.map K E)) {y0 : β} (hz : (zeroValue E).run Tryz.prog w = .ok (T.enc y0) w) (h0 : T.ok y0) {x : γ} (hx : G.ok x) :
    (Instr.lookup t (.map (some b)) (G.enc x) true).run Tryz.prog w = .ok (.tuple #[T.enc ((f x).getD y0), .bool (f x).isSome]) w := by
  obtain ⟨D, h, hf⟩ := h
  obtain ⟨kl, hkl⟩ := G.keys x hx
  obtain ⟨v, ps, hrun, hv⟩ := h.look_ok G.keyed ht hz (T.here y0 h0) hkl
  obtain ⟨h1, h2⟩ := hf x kl hx hkl
  obtain ⟨y', _, rfl, hy⟩ := T.back v _ hv
  have hy := congrArg Prod.fst hy
  simp only at hy
  rw [hrun, h1]
  cases hfx : f x with
  | some y => rw [h2 y hfx] at hy; rw [T.inj _ _ hy]; rfl
  | none =>
    rw [hfx] at h1
    rw [atKey_of_not_has h1] at hy
    rw [T.inj _ _ hy]; rfl
theorem look_nil {t E : TypeId} (G : KeyG γ K) (ht : Tryz.prog.underlying t = some (.map K E)) {z : Value} (hz : (zeroValue E).run Tryz.prog w = .ok z w) {x : γ} (hx : G.ok x) :
    (Instr.lookup t (.map none) (G.enc x) true).run Tryz.prog w = .ok (.tuple #[z, .bool false]) w := by
  obtain ⟨kl, hkl⟩ := G.keys x hx
  exact Maps.look_nil true G.keyed ht hz hkl
theorem View.put [DecidableEq γ] {D : DataW Unit} (h : View G T D f) (hD : IsMap D) {x : γ} {kl : Lit} (hkl : Go.keyOf Tryz.prog K (G.enc x) = some kl) (y : β) : View G T (D.put kl (T.dat y)) (updO f x y) := by
  intro x' kl' ho' hkl'
  unfold updO
  by_cases e : x' = x
  · subst e
    rw [hkl] at hkl'
    cases hkl'
    rw [if_pos rfl]
    exact ⟨has_put_same hD (G.keyed.key hkl) _, fun y' hy' z => by cases hy'; exact atKey_put_same hD (G.keyed.key hkl) _ _⟩
  · have hne : kl' ≠ kl := fun e' => e (G.one (by rw [hkl', e']) hkl)
    rw [if_neg e, has_put_other hne]
    obtain ⟨h1, h2⟩ := h x' kl' ho' hkl'
    exact ⟨h1, fun y' hy' z => by rw [atKey_put_other hne]; exact h2 y' hy' z⟩
/-- A range over a map under way: the keys of S have come. -/
def TRng (w : World) (G : KeyG γ K) (T : ElemT β) (b r n : Nat) (f : γ → Option β) (S : γ → Bool) : Prop :=
  ∃ (D : DataW Unit) (left : Lit → Bool) (cnt : Nat), w.ranges Tryz.prog K T.R b r n D left cnt ∧ View G T D f ∧ ∀ x kl, G.ok x → Go.keyOf Tryz.prog K (G.enc x) = some kl → left kl = ((f x).isSome && !S x)
variable {r : Nat} {S : γ → Bool}
theorem TRng.map (h : TRng w G T b r n f S) : TMap w G T b n f := by
  obtain ⟨D, left, cnt, h, hv, _⟩ := h; exact ⟨D, h.owns, hv⟩
theorem TRng.lt (h : TRng w G T b r n f S) : r < w.heap.size := by obtain ⟨D, left, cnt, h, _⟩ := h; exact h.lt
theorem TRng.kept {row : Option Nat} (h : TRng w G T b r n f S) (hg : w.grownBy w' row) (hb : some b ≠ row) (hr : some r ≠ row) : TRng w' G T b r n f S := by
  obtain ⟨D, left, cnt, h, h2⟩ := h; exact ⟨D, left, cnt, h.kept hg hb hr, h2⟩
theorem TRng.below {B : Nat} (h : TRng w G T b r n f S) (hb : Below B w w') (h1 : b < B) (h2 : r < B) : TRng w' G T b r n f S := by
  obtain ⟨D, left, cnt, ⟨es, clock, since, seen, c0, a1, a2, a3, a4, a5, a6⟩, h3⟩ := h
  exact ⟨D, left, cnt, ⟨es, clock, since, seen, c0, (hb.block b h1).trans a1, a2, a3, a4, (hb.block r h2).trans a5, a6⟩, h3⟩
theorem TRng.call (h : TRng w G T b r n f S) (hb : Below w.heap.size w w') : TRng w' G T b r n f S := h.below hb h.map.lt h.lt
end
section
variable {γ β : Type} {K : TypeId} {G : KeyG γ K} {T : ElemT β} {w : World} {b n r : Nat} {f : γ → Option β} {S : γ → Bool} {ops : Array Oper} {rest : List Oper} {o : Oper} {a : Act} {Q : Exit → Act → World → Prop}
theorem wpList_tput [DecidableEq γ] {t E : TypeId} (hg : o.guard = none) (m x v : Operand) (hop : o.op = Op.mapUpdate t m x v) (h : TMap w G T b n f) (ht : Tryz.prog.underlying t = some (.map K E)) (hn : n < maxLen) (k : γ) (hk : G.ok k) (y : β) (hy : T.ok y)
    (hm : a.eval m = .map (some b)) (hx : a.eval x = G.enc k) (hv : a.eval v = T.enc y) (hK : ∀ w', TMap w' G T b (n + 1) (updO f k y) → w.grownBy w' (some b) → wpList Tryz.prog ops Q rest (a.put o.dst undef) w') : wpList Tryz.prog ops Q (o :: rest) a w := by
  obtain ⟨D, h, hf⟩ := h
  obtain ⟨kl, hkl⟩ := G.keys k hk
  refine wpList_mapUpdate_own w hg m x v t hop K E G.keyed ht T.R b n D hm h hn _ _ kl hx hv hkl (T.dat y) [] (T.here y hy) ?_
  intro w' h1 h2
  exact hK w' ⟨_, h1, hf.put h.isMap hkl y⟩ h2
theorem wpList_tlen {t E : TypeId} (hg : o.guard = none) (m : Operand) (hop : o.op = Op.call { callee := Callee.builtin Builtin.len, args := #[m], argTypes := #[t] }) (h : TMap w G T b n f) (ht : Tryz.prog.underlying t = some (.map K E))
    (hm : a.eval m = .map (some b)) (hK : ∀ c : Nat, c ≤ n → (c = 0 ↔ ∀ x, G.ok x → f x = none) → wpList Tryz.prog ops Q rest (a.put o.dst (.int .i64 c)) w) : wpList Tryz.prog ops Q (o :: rest) a w := by
  obtain ⟨D, h, hf⟩ := h
  refine wpList_len_own w hg m t hop K E ht T.R b n D hm h ?_
  refine hK _ h.size_le ?_
  constructor
  · intro hs x hx
    obtain ⟨kl, hkl⟩ := G.keys x hx
    obtain ⟨h1, _⟩ := hf x kl hx hkl
    obtain ⟨es, rfl⟩ := h.isMap
    rw [size_eq] at hs
    have : es = [] := List.eq_nil_of_length_eq_zero hs
    subst this
    cases hfx : f x with
    | none => rfl
    | some y => rw [hfx] at h1; cases h1
  · intro hall
    obtain ⟨es, clock, hblk, F, hs, hD⟩ := h
    subst hD
    rw [size_eq]
    cases hes : es.toList with
    | nil => rfl
    | cons e el =>
      exfalso
      have he : e ∈ es.toList := by rw [hes]; exact List.mem_cons_self
      obtain ⟨kl, hkl⟩ := keys_fit F he
      obtain ⟨x, hx, ek⟩ := G.inv _ _ hkl.1
      rw [ek] at hkl
      obtain ⟨h1, _⟩ := hf x kl hx hkl.1
      rw [hall x hx] at h1
      have h1 : List.any _ _ = false := h1
      rw [List.any_eq_false] at h1
      refine h1 _ (mem_sorted.2 (List.mem_map.2 ⟨e, he, rfl⟩)) ?_
      rw [hkl.2]
      exact WideAt.sameKey_self (G.keyed.key hkl.1)
theorem wpList_trange {t E : TypeId} (hg : o.guard = none) (m : Operand) (hop : o.op = Op.range t m) (h : TMap w G T b n f) (ht : Tryz.prog.underlying t = some (.map K E)) (hm : a.eval m = .map (some b))
    (hK : ∀ w', TRng w' G T b w.heap.size n f (fun _ => false) → w.grownBy w' none → w'.heap.size = w.heap.size + 1 → wpList Tryz.prog ops Q rest (a.put o.dst (.pointer (some ⟨w.heap.size, 0, none⟩))) w') : wpList Tryz.prog ops Q (o :: rest) a w := by
  obtain ⟨D, h, hf⟩ := h
  refine wpList_range_own w hg m t hop K E G.keyed ht T.R b n D hm h ?_
  intro w' h1 h2 h3
  exact hK w' ⟨D, _, _, h1, hf, fun x kl hx hkl => by rw [(hf x kl hx hkl).1]; simp⟩ h2 h3
theorem wpList_tnext [DecidableEq γ] (hg : o.guard = none) (it : Operand) (hop : o.op = Op.next it false) (h : TRng w G T b r n f S) (hit : a.eval it = .pointer (some ⟨r, 0, none⟩))
    (hDone : (∀ x, G.ok x → f x ≠ none → S x = true) → wpList Tryz.prog ops Q rest (a.put o.dst (.tuple #[.bool false])) w)
    (hMore : ∀ (x : γ) (y : β) (w' : World), G.ok x → T.ok y → f x = some y → S x = false → TRng w' G T b r n f (fun z => S z || decide (z = x)) → w'.rangeLeft b r < w.rangeLeft b r → w.grownBy w' (some r) → w'.heap.size = w.heap.size →
      (Instr.entry (.pointer (some ⟨r, 0, none⟩))).run Tryz.prog w' = .ok (.tuple #[G.enc x, T.enc y]) w' → wpList Tryz.prog ops Q rest (a.put o.dst (.tuple #[.bool true, G.enc x, T.enc y])) w') :
    wpList Tryz.prog ops Q (o :: rest) a w := by
  obtain ⟨D, left, cnt, hr, hf, hl⟩ := h
  refine wpList_next_ranges w hg it hop K G.keyed T.R G.enc T.enc (fun key kl hk => by obtain ⟨x, _, e⟩ := G.inv key kl hk; exact ⟨x, e⟩) (fun v y hv => by obtain ⟨c, _, e, _⟩ := T.back v y hv; exact ⟨c, e⟩) b r n D left cnt hit hr ?_ ?_
  · intro _ hall
    refine hDone fun x hx hfx => ?_
    obtain ⟨kl, hkl⟩ := G.keys x hx
    have := hl x kl hx hkl
    rw [hall kl] at this
    cases hS : S x with
    | true => rfl
    | false => rw [hS] at this; cases hfx' : f x with
      | none => exact absurd hfx' hfx
      | some y => rw [hfx'] at this; simp at this
  · intro x c kl y w' cnt' hkey hleft hv hat hr' hlt hg' hs' hen
    have hx : G.ok x := by
      obtain ⟨x', hx', e⟩ := G.inv _ _ hkey
      rw [G.inj _ _ e]; exact hx'
    have h1 := hl x kl hx hkey
    rw [hleft] at h1
    have h1 := h1.symm
    rw [Bool.and_eq_true] at h1
    obtain ⟨h1, h2⟩ := h1
    obtain ⟨y0, hy0⟩ := Option.isSome_iff_exists.1 h1
    obtain ⟨y', hok, e1, e2⟩ := T.back _ _ hv
    have e3 := (hf x kl hx hkey).2 y0 hy0 (.lit (.bool false))
    rw [hat, e2] at e3
    have e4 : y' = y0 := T.inj _ _ e3
    subst e4
    rw [e1] at hen ⊢
    refine hMore x y' w' hx hok hy0 (by simpa using h2) ⟨D, _, cnt', hr', hf, ?_⟩ (by rw [hr'.left_eq, hr.left_eq]; exact hlt) hg' hs' hen
    intro z kz hz hkz
    rw [hl z kz hz hkz]
    by_cases e : z = x
    · subst e
      rw [hkey] at hkz
      cases hkz
      rw [WideAt.sameKey_self (G.keyed.key hkey)]
      simp
    · have hne : kz ≠ kl := fun e' => e (G.one (by rw [hkz, e']) hkey)
      rw [sameKey_ne hne]
      simp [e]
end
/-! ### The keys' and the elements' types -/
def okI (x : Int) : Prop := -9223372036854775808 ≤ x ∧ x ≤ 9223372036854775807
theorem okI_wf {x : Int} (h : okI x) : (Lit.int .i64 x).wf = true := WalkArith.wf_i64 (by unfold okI at h; omega)
theorem wf_okI {x : Int} (h : (Lit.int .i64 x).wf = true) : okI x := by
  simp [Lit.wf, IntKind.min, IntKind.max, IntKind.signed, IntKind.bits] at h
  unfold okI; omega
theorem laidOutM : laidOutB Tryz.prog = true := by kernel_rfl
set_option maxRecDepth 100000 in
theorem keyed_at {K : TypeId} (h1 : K < Tryz.prog.types.size) (h2 : Tryz.prog.keyTypeAt 3 K = true) (h3 : (match Tryz.prog.underlying K with | some (.array _ _) | some (.struct _) => true | _ => false) = true) : Keyed Tryz.prog K := Keyed.of_law (deep_law_laid laidOutM (m := 3) (by omega) h1 h2 h3)
theorem int_lits {d : Nat} {x : Int} (h : okI x) : Tryz.prog.keyLits (d + 1) 3 [.int .i64 x] = some [.int .i64 x] := by
  unfold Program.keyLits
  rw [Tryz.underlying3]
  simp [okI_wf h]
set_option maxRecDepth 100000 in
theorem lits_int {d : Nat} {v : Value} {ls : List Lit} (h : Tryz.prog.keyLits d 3 [v] = some ls) : ∃ x, okI x ∧ v = .int .i64 x := by
  cases d with
  | zero => unfold Program.keyLits at h; cases h
  | succ d =>
    unfold Program.keyLits at h
    rw [Tryz.underlying3] at h
    cases v <;> simp at h
    obtain ⟨⟨rfl, hw⟩, _⟩ := h
    exact ⟨_, wf_okI hw, rfl⟩
theorem cells_int : Tryz.prog.cellsOf 3 = 1 := by kernel_rfl
theorem types_some : ∃ m, Tryz.prog.types.size = m + 1 := ⟨Tryz.prog.types.size - 1, by have : 0 < Tryz.prog.types.size := of_decide_eq_true (by kernel_rfl); omega⟩
def twoV (x : Int × Int) : Value := .agg #[.int .i64 x.1, .int .i64 x.2]
set_option maxRecDepth 100000 in
theorem keyTime_keys (x : Int × Int) (hx : okI x.1 ∧ okI x.2) : ∃ kl, Go.keyOf Tryz.prog 45 (twoV x) = some kl := by
  obtain ⟨a, b⟩ := x
  obtain ⟨ha, hb⟩ := hx
  obtain ⟨m, hm⟩ := types_some
  have hcs : Tryz.prog.cellsOf 45 = 2 := by kernel_rfl
  have hkt : Tryz.prog.keyType 45 = true := by kernel_rfl
  obtain ⟨m', rfl⟩ : ∃ m', m = m' + 1 := ⟨m - 1, by have : 1 < Tryz.prog.types.size := of_decide_eq_true (by kernel_rfl); omega⟩
  refine Option.isSome_iff_exists.1 ?_
  unfold Go.keyOf
  simp only [Tryz.underlying45]
  rw [if_pos (by simp [hkt, twoV, Value.formed, Tryz.underlying45, hcs]), hm]
  unfold Program.keyLits twoV
  simp only [Tryz.underlying45, Value.cells]
  rw [if_pos ⟨by rw [hcs]; rfl, by simp⟩]
  have la := fun e => int_lits (d := e) ha
  have lb := fun e => int_lits (d := e) hb
  simp [List.mapM_cons, List.mapM_nil, cells_int, la, lb]
set_option maxRecDepth 100000 in
theorem keyTime_inv (key : Value) (kl : Lit) (h : Go.keyOf Tryz.prog 45 key = some kl) : ∃ x : Int × Int, (okI x.1 ∧ okI x.2) ∧ key = twoV x := by
  obtain ⟨m, hm⟩ := types_some
  have hcs : Tryz.prog.cellsOf 45 = 2 := by kernel_rfl
  unfold Go.keyOf at h
  simp only [Tryz.underlying45] at h
  split at h
  · rename_i hf
    rw [Bool.and_eq_true] at hf
    have hf := hf.2
    obtain ⟨cs, rfl⟩ : ∃ cs, key = .agg cs := by
      cases key <;> simp [Value.formed, Tryz.underlying45] at hf <;> exact ⟨_, rfl⟩
    simp [Value.formed, Tryz.underlying45] at hf
    rw [hcs] at hf
    rw [Option.map_eq_some_iff] at h
    obtain ⟨ls, h, _⟩ := h
    rw [hm] at h
    unfold Program.keyLits at h
    simp only [Tryz.underlying45, Value.cells] at h
    obtain ⟨csl⟩ := cs
    obtain ⟨a, b, hab⟩ : ∃ a b, csl = [a, b] := by
      match csl, hf with
      | [], hf => simp at hf
      | [_], hf => simp at hf
      | [a, b], _ => exact ⟨a, b, rfl⟩
      | _ :: _ :: _ :: _, hf => simp at hf
    subst hab
    rw [if_pos ⟨by rw [hcs]; rfl, by simp⟩] at h
    simp [List.mapM_cons, List.mapM_nil, cells_int] at h
    obtain ⟨la, h1, h⟩ := Option.bind_eq_some_iff.1 h
    simp only [Function.comp_apply, Option.map_eq_some_iff, Option.bind_eq_some_iff] at h
    obtain ⟨_, ⟨_, ⟨lb, h2, _⟩, _⟩, _⟩ := h
    obtain ⟨x, hx, rfl⟩ := lits_int h1
    obtain ⟨y, hy, rfl⟩ := lits_int h2
    exact ⟨(x, y), ⟨hx, hy⟩, rfl⟩
  · cases h
def keyTime : KeyG (Int × Int) 45 where
  enc := twoV
  ok := fun x => okI x.1 ∧ okI x.2
  keyed := keyed_at (of_decide_eq_true (by kernel_rfl)) (by kernel_rfl) (by kernel_rfl)
  keys := keyTime_keys
  inv := keyTime_inv
  inj := fun x y h => by
    obtain ⟨a, b⟩ := x
    obtain ⟨c, d⟩ := y
    simp [twoV] at h
    rw [h.1, h.2]
set_option maxRecDepth 100000 in
theorem keyPlace_keys (x : Int × Int) (hx : okI x.1 ∧ okI x.2) : ∃ kl, Go.keyOf Tryz.prog 61 (twoV x) = some kl := by
  obtain ⟨a, b⟩ := x
  obtain ⟨ha, hb⟩ := hx
  obtain ⟨m, hm⟩ := types_some
  have hcs : Tryz.prog.cellsOf 61 = 2 := by kernel_rfl
  have hkt : Tryz.prog.keyType 61 = true := by kernel_rfl
  obtain ⟨m', rfl⟩ : ∃ m', m = m' + 1 := ⟨m - 1, by have : 1 < Tryz.prog.types.size := of_decide_eq_true (by kernel_rfl); omega⟩
  refine Option.isSome_iff_exists.1 ?_
  unfold Go.keyOf
  simp only [Tryz.underlying61]
  rw [if_pos (by simp [hkt, twoV, Value.formed, Tryz.underlying61, hcs]), hm]
  unfold Program.keyLits twoV
  simp only [Tryz.underlying61, Value.cells]
  rw [if_pos ⟨by rw [hcs]; rfl, by simp⟩]
  have la := fun e => int_lits (d := e) ha
  have lb := fun e => int_lits (d := e) hb
  simp [List.mapM_cons, List.mapM_nil, cells_int, la, lb]
set_option maxRecDepth 100000 in
theorem keyPlace_inv (key : Value) (kl : Lit) (h : Go.keyOf Tryz.prog 61 key = some kl) : ∃ x : Int × Int, (okI x.1 ∧ okI x.2) ∧ key = twoV x := by
  obtain ⟨m, hm⟩ := types_some
  have hcs : Tryz.prog.cellsOf 61 = 2 := by kernel_rfl
  unfold Go.keyOf at h
  simp only [Tryz.underlying61] at h
  split at h
  · rename_i hf
    rw [Bool.and_eq_true] at hf
    have hf := hf.2
    obtain ⟨cs, rfl⟩ : ∃ cs, key = .agg cs := by
      cases key <;> simp [Value.formed, Tryz.underlying61] at hf <;> exact ⟨_, rfl⟩
    simp [Value.formed, Tryz.underlying61] at hf
    rw [hcs] at hf
    rw [Option.map_eq_some_iff] at h
    obtain ⟨ls, h, _⟩ := h
    rw [hm] at h
    unfold Program.keyLits at h
    simp only [Tryz.underlying61, Value.cells] at h
    obtain ⟨csl⟩ := cs
    obtain ⟨a, b, hab⟩ : ∃ a b, csl = [a, b] := by
      match csl, hf with
      | [], hf => simp at hf
      | [_], hf => simp at hf
      | [a, b], _ => exact ⟨a, b, rfl⟩
      | _ :: _ :: _ :: _, hf => simp at hf
    subst hab
    rw [if_pos ⟨by rw [hcs]; rfl, by simp⟩] at h
    simp [List.mapM_cons, List.mapM_nil, cells_int] at h
    obtain ⟨la, h1, h⟩ := Option.bind_eq_some_iff.1 h
    simp only [Function.comp_apply, Option.map_eq_some_iff, Option.bind_eq_some_iff] at h
    obtain ⟨_, ⟨_, ⟨lb, h2, _⟩, _⟩, _⟩ := h
    obtain ⟨x, hx, rfl⟩ := lits_int h1
    obtain ⟨y, hy, rfl⟩ := lits_int h2
    exact ⟨(x, y), ⟨hx, hy⟩, rfl⟩
  · cases h
def keyPlace : KeyG (Int × Int) 61 where
  enc := twoV
  ok := fun x => okI x.1 ∧ okI x.2
  keyed := keyed_at (of_decide_eq_true (by kernel_rfl)) (by kernel_rfl) (by kernel_rfl)
  keys := keyPlace_keys
  inv := keyPlace_inv
  inj := fun x y h => by
    obtain ⟨a, b⟩ := x
    obtain ⟨c, d⟩ := y
    simp [twoV] at h
    rw [h.1, h.2]
def keyInt : KeyG Int 3 where
  enc := Value.int .i64
  ok := okI
  keyed := int_keyed Tryz.underlying3
  keys := fun x hx => ⟨_, keyOf_int_mk Tryz.underlying3 (okI_wf hx)⟩
  inv := fun key kl h => by
    obtain ⟨x, e, _, hw⟩ := Maps.keyOf_int_inv Tryz.underlying3 h
    exact ⟨x, wf_okI hw, e⟩
  inj := fun x y h => (Value.int.inj h).2
instance (x : Int) : Decidable (okI x) := inferInstanceAs (Decidable (_ ∧ _))
def intR (v : Value) : Option (DataW Unit × List MemPlace) := match v with
  | .int .i64 x => if okI x then some (.lit (.int .i64 x), []) else none
  | _ => none
def elemInt : ElemT Int where
  R := intR
  enc := Value.int .i64
  dat := fun x => .lit (.int .i64 x)
  ok := okI
  here := fun y hy => by simp [intR, hy]
  back := fun v z h => by
    unfold intR at h
    split at h
    · split at h
      · rename_i x hx
        exact ⟨x, hx, rfl, (Option.some.inj h).symm⟩
      · cases h
    · cases h
  inj := fun y y' h => (Lit.int.inj (DataW.lit.inj h)).2
def ficV (x : Int × Int × Int × Int) : Value := .agg #[.int .i64 x.1, .int .i64 x.2.1, .int .i64 x.2.2.1, .int .i64 x.2.2.2]
def ficD (x : Int × Int × Int × Int) : DataW Unit := .agg [.lit (.int .i64 x.1), .lit (.int .i64 x.2.1), .lit (.int .i64 x.2.2.1), .lit (.int .i64 x.2.2.2)]
def ficR (v : Value) : Option (DataW Unit × List MemPlace) := match v with
  | .agg cs => match cs.toList with
    | [.int .i64 a, .int .i64 b, .int .i64 c, .int .i64 d] => some (ficD (a, b, c, d), [])
    | _ => none
  | _ => none
def elemFic : ElemT (Int × Int × Int × Int) where
  R := ficR
  enc := ficV
  dat := ficD
  ok := fun _ => True
  here := fun y _ => rfl
  back := fun v z h => by
    unfold ficR at h
    split at h
    · rename_i cs
      split at h
      · rename_i a b c d hcs
        refine ⟨(a, b, c, d), trivial, ?_, (Option.some.inj h).symm⟩
        obtain ⟨csl⟩ := cs
        simp only at hcs
        rw [hcs]; rfl
      · cases h
    · cases h
  inj := fun y y' h => by
    obtain ⟨a, b, c, d⟩ := y
    obtain ⟨a', b', c', d'⟩ := y'
    simp [ficD] at h
    obtain ⟨h1, h2, h3, h4⟩ := h
    simp [h1, h2, h3, h4]
end Go.Proofs.YtpkmiegccfhpnaaGreatDoor
namespace Go.Proofs.YtpkmiegccfhpnaaGreatDoor
open Go.RowKit
set_option maxRecDepth 100000 in
set_option maxHeartbeats 1000000 in
theorem number_ok (p : Int × Int × Int) (h : pchk p = 0) (w : World) :
    Calls Tryz.prog 90 #[vP p] w fun e w' => e = .returned (.tuple #[.int .i64 (numP p), .int .i64 0]) ∧ Below w.heap.size w w' := by
  have r0 : Blk (w.alloc (.cells #[.int .i64 p.1, .int .i64 p.2.1, .int .i64 p.2.2] 47)) w.heap.size 47 #[.int .i64 p.1, .int .i64 p.2.1, .int .i64 p.2.2] := Blk.new _ _ _
  have k0 : Below w.heap.size w (w.alloc (.cells #[.int .i64 p.1, .int .i64 p.2.1, .int .i64 p.2.2] 47)) := by repeat (first | exact Below.refl _ _ | refine below_drewN ?_ _ | refine Below.drew ?_ | refine below_alloc ?_ _ | (refine below_call ?_ (by assumption)) | (refine Below.setCell ?_ ?_ _; rotate_left; (simp; try omega)))
  obtain ⟨h0, h1, h2, h3, _, _⟩ := pchk_ok h
  have hb : (pchk p != 0) = false := by simpa using h
  have E := Lib.hid (show numP p = 7 * p.2.1 + p.1 by rfl)
  obtain ⟨a, b, c⟩ := p
  simp only at h0 h1 h2 h3 E hb
  clear h
  have hfd : ∀ (w : World) (x y : Value), (Instr.field 161 (.agg #[x, y]) 0).run Tryz.prog w = .ok x w := fun _ _ _ => by kernel_rfl
  go_enter Tryz.func90, Tryz.ntmps90
  go_wp2_with (first | (go_at_call 120; refine (pcheck_any (_, _, _) _).mono ?_; rintro e wn ⟨rfl, hbn⟩; replace rn := Blk.kept (by with_reducible first | exact rn | exact r0 | exact rn.alloc _ | exact r0.alloc _ | exact (rn.alloc _).alloc _ | exact (r0.alloc _).alloc _) hbn; replace en := rn.cell; replace gn := rn.frozen; replace zn := rn.lt; replace kn := below_call (by with_reducible first | exact kn | exact k0 | exact below_alloc kn _ | exact below_alloc k0 _ | exact below_alloc (below_alloc kn _) _ | exact below_alloc (below_alloc k0 _) _) hbn; clear hbn) | (go_at_call 121; refine (of_any' _ _ _ _ h0 h1 h2 h3).mono ?_; rintro e wn ⟨rfl, hbn⟩; replace rn := Blk.kept (by with_reducible first | exact rn | exact r0 | exact rn.alloc _ | exact r0.alloc _ | exact (rn.alloc _).alloc _ | exact (r0.alloc _).alloc _) hbn; replace en := rn.cell; replace gn := rn.frozen; replace zn := rn.lt; replace kn := below_call (by with_reducible first | exact kn | exact k0 | exact below_alloc kn _ | exact below_alloc k0 _ | exact below_alloc (below_alloc kn _) _ | exact below_alloc (below_alloc k0 _) _) hbn; clear hbn))
  go_ret2
  rw [E.out]
  exact ⟨rfl, by repeat (first | exact Below.refl _ _ | assumption | refine below_drewN ?_ _ | refine Below.drew ?_ | refine below_alloc ?_ _ | (refine below_call ?_ (by assumption)) | (refine Below.setCell ?_ ?_ _; rotate_left; (simp; try omega)))⟩
set_option maxRecDepth 100000 in
set_option maxHeartbeats 1000000 in
theorem height_ok (p : Int × Int × Int) (h : pchk p = 0) (w : World) (ht : Tabs w) :
    Calls Tryz.prog 177 #[vP p] w fun e w' => e = .returned (.tuple #[.int .i64 (htP p), .int .i64 0]) ∧ Below w.heap.size w w' := by
  have r0 : Blk (w.alloc (.cells #[.int .i64 p.1, .int .i64 p.2.1, .int .i64 p.2.2] 47)) w.heap.size 47 #[.int .i64 p.1, .int .i64 p.2.1, .int .i64 p.2.2] := Blk.new _ _ _
  have k0 : Below w.heap.size w (w.alloc (.cells #[.int .i64 p.1, .int .i64 p.2.1, .int .i64 p.2.2] 47)) := by repeat (first | exact Below.refl _ _ | refine below_drewN ?_ _ | refine Below.drew ?_ | refine below_alloc ?_ _ | (refine below_call ?_ (by assumption)) | (refine Below.setCell ?_ ?_ _; rotate_left; (simp; try omega)))
  obtain ⟨h0, h1, h2, h3, h4, h5⟩ := pchk_ok h
  have hb : (pchk p != 0) = false := by simpa using h
  obtain ⟨a, b, c⟩ := p
  simp only at h0 h1 h2 h3 h4 h5 hb
  clear h
  go_enter Tryz.func177, Tryz.ntmps177
  go_wp2_with (first | (go_at_call 120; refine (pcheck_any (_, _, _) _).mono ?_; rintro e wn ⟨rfl, hbn⟩; replace rn := Blk.kept (by with_reducible first | exact rn | exact r0 | exact rn.alloc _ | exact r0.alloc _ | exact (rn.alloc _).alloc _ | exact (r0.alloc _).alloc _) hbn; replace en := rn.cell; replace gn := rn.frozen; replace zn := rn.lt; replace kn := below_call (by with_reducible first | exact kn | exact k0 | exact below_alloc kn _ | exact below_alloc k0 _ | exact below_alloc (below_alloc kn _) _ | exact below_alloc (below_alloc k0 _) _) hbn; clear hbn) | (go_at_call 121; refine (of_any' _ _ _ _ h0 h1 h2 h3).mono ?_; rintro e wn ⟨rfl, hbn⟩; replace rn := Blk.kept (by with_reducible first | exact rn | exact r0 | exact rn.alloc _ | exact r0.alloc _ | exact (rn.alloc _).alloc _ | exact (r0.alloc _).alloc _) hbn; replace en := rn.cell; replace gn := rn.frozen; replace zn := rn.lt; replace kn := below_call (by with_reducible first | exact kn | exact k0 | exact below_alloc kn _ | exact below_alloc k0 _ | exact below_alloc (below_alloc kn _) _ | exact below_alloc (below_alloc k0 _) _) hbn; clear hbn) | (go_at_call 122; refine Calls.mono (toneHeight_any _ _ _ _ ?_ h0 h1 h2 h3 h4 h5) ?_; (focus (exact ht.kept kn)); rintro e wm ⟨rfl, hbm⟩; replace kn := below_call kn hbm))
  go_ret2
  exact ⟨rfl, by repeat (first | exact Below.refl _ _ | assumption | refine below_drewN ?_ _ | refine Below.drew ?_ | refine below_alloc ?_ _ | (refine below_call ?_ (by assumption)) | (refine Below.setCell ?_ ?_ _; rotate_left; (simp; try omega)))⟩
end Go.Proofs.YtpkmiegccfhpnaaGreatDoor
