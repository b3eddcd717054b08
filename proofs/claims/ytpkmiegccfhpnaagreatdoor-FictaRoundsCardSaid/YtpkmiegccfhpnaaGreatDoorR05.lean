/- Parts of the proof of LawRounds31: FiMap, ChPitchB, ChInter. -/
import Derived.Test.YtpkmiegccfhpnaaGreatDoorR04
set_option maxRecDepth 100000
set_option maxHeartbeats 16000000
namespace Go.Proofs.YtpkmiegccfhpnaaGreatDoor
open Go.RowKit Go.Maps Go.WideMaps
structure KeyG (γ : Type) (K : TypeId) where
 enc : γ → Value
 ok : γ → Prop
 keyed : Keyed Tryz.prog K
 keys : ∀ x, ok x → ∃ kl, Go.keyOf Tryz.prog K (enc x) = some kl
 inv : ∀ key kl, Go.keyOf Tryz.prog K key = some kl → ∃ x, ok x ∧ key = enc x
 inj : ∀ x y, enc x = enc y → x = y
structure ElemT (β : Type) where
 R : Value → Option (DataW Unit × List MemPlace)
 enc : β → Value
 dat : β → DataW Unit
 ok : β → Prop
 here : ∀ y, ok y → R (enc y) = some (dat y, [])
 back : ∀ v z, R v = some z → ∃ y, ok y ∧ v = enc y ∧ z = (dat y, [])
 inj : ∀ y y', dat y = dat y' → y = y'
theorem keys_fit {k : TypeId} {R : Value → Option (DataW Unit × List MemPlace)} {es : Array MapEntry} {clock : Nat} (F : Go.WideElems.Fit Tryz.prog k R es clock) {e : MapEntry} (he : e ∈ es.toList) : ∃ kl, Go.keyOf Tryz.prog k e.key = some kl ∧ (Go.WideElems.rg Tryz.prog k R e).1 = kl := by
 obtain ⟨y, hy⟩ := F.reads e he
 exact ⟨y.1, Go.WideElems.rd_key hy, by simp [Go.WideElems.rg, hy]⟩
section
variable {γ β : Type} {K : TypeId}
theorem KeyG.one (G : KeyG γ K) {x y : γ} {kl : Lit} (hx : Go.keyOf Tryz.prog K (G.enc x) = some kl) (hy : Go.keyOf Tryz.prog K (G.enc y) = some kl) : x = y := G.inj _ _ (G.keyed.inj hx hy)
def View (G : KeyG γ K) (T : ElemT β) (D : DataW Unit) (f : γ → Option β) : Prop :=
 ∀ x kl, G.ok x → Go.keyOf Tryz.prog K (G.enc x) = some kl → Maps.has D kl = (f x).isSome ∧ ∀ y, f x = some y → ∀ z, D.atKey kl z = T.dat y
def TMap (w : World) (G : KeyG γ K) (T : ElemT β) (b n : Nat) (f : γ → Option β) : Prop :=
 ∃ D : DataW Unit, w.ownsMap Tryz.prog K T.R b n D ∧ View G T D f
variable {G : KeyG γ K} {T : ElemT β} {w w' : World} {b n : Nat} {f g : γ → Option β}
theorem TMap.made (w : World) (G : KeyG γ K) (T : ElemT β) : TMap (w.alloc (.map #[] 0)) G T w.heap.size 0 (fun _ => none) :=
 ⟨.map [], World.ownsMap_made _ _ _ _, fun _ _ _ _ => ⟨rfl, fun _ h => by cases h⟩⟩
theorem TMap.lt (h : TMap w G T b n f) : b < w.heap.size := by obtain ⟨D, h, _⟩ := h; exact h.lt
theorem TMap.below {B : Nat} (h : TMap w G T b n f) (hb : Below B w w') (hlt : b < B) : TMap w' G T b n f := by
 obtain ⟨D, ⟨es, clock, hblk, F, hs, hD⟩, hf⟩ := h
 exact ⟨D, ⟨es, clock, (hb.block b hlt).trans hblk, F, hs, hD⟩, hf⟩
theorem TMap.call (h : TMap w G T b n f) (hb : Below w.heap.size w w') : TMap w' G T b n f := h.below hb h.lt
theorem TMap.grown {row : Option Nat} (h : TMap w G T b n f) (hg : w.grownBy w' row) (hne : some b ≠ row) : TMap w' G T b n f := by
 obtain ⟨D, h, hf⟩ := h; exact ⟨D, h.kept hg hne, hf⟩
theorem TMap.mono (h : TMap w G T b n f) {n' : Nat} (hn : n ≤ n') : TMap w G T b n' f := by
 obtain ⟨D, h, hf⟩ := h; exact ⟨D, h.mono hn, hf⟩
theorem View.same {D : DataW Unit} (h : View G T D f) (e : ∀ x, G.ok x → f x = g x) : View G T D g := fun x kl h1 h2 => by rw [← e x h1]; exact h x kl h1 h2
theorem TMap.same (h : TMap w G T b n f) (e : ∀ x, G.ok x → f x = g x) : TMap w G T b n g := by
 obtain ⟨D, h, hf⟩ := h; exact ⟨D, h, hf.same e⟩
theorem TMap.look (h : TMap w G T b n f) {t E : TypeId} (ht : Tryz.prog.underlying t = some (.map K E)) {y0 : β} (hz : (zeroValue E).run Tryz.prog w = .ok (T.enc y0) w) (h0 : T.ok y0) {x : γ} (hx : G.ok x) :
  (Instr.lookup t (.map (some b)) (G.enc x) true).run Tryz.prog w = .ok (.tuple #[T.enc ((f x).getD y0), .bool (f x).isSome]) w := by
 obtain ⟨D, h, hf⟩ := h
 obtain ⟨kl, hkl⟩ := G.keys x hx
 obtain ⟨v, ps, hrun, hv⟩ := h.look_ok G.keyed ht hz (T.here y0 h0) hkl
 obtain ⟨h1, h2⟩ := hf x kl hx hkl
 obtain ⟨y', _, rfl, hy⟩ := T.back v _ hv
 have hy := congrArg Prod.fst hy
 simp only at hy
 rw [hrun, h1]
 cases hfx : f x with
 | some y => rw [h2 y hfx] at hy; rw [T.inj _ _ hy]; rfl
 | none =>
  rw [hfx] at h1
  rw [atKey_of_not_has h1] at hy
  rw [T.inj _ _ hy]; rfl
theorem look_nil {t E : TypeId} (G : KeyG γ K) (ht : Tryz.prog.underlying t = some (.map K E)) {z : Value} (hz : (zeroValue E).run Tryz.prog w = .ok z w) {x : γ} (hx : G.ok x) :
  (Instr.lookup t (.map none) (G.enc x) true).run Tryz.prog w = .ok (.tuple #[z, .bool false]) w := by
 obtain ⟨kl, hkl⟩ := G.keys x hx
 exact Maps.look_nil true G.keyed ht hz hkl
theorem View.put [DecidableEq γ] {D : DataW Unit} (h : View G T D f) (hD : IsMap D) {x : γ} {kl : Lit} (hkl : Go.keyOf Tryz.prog K (G.enc x) = some kl) (y : β) : View G T (D.put kl (T.dat y)) (updO f x y) := by
 intro x' kl' ho' hkl'
 unfold updO
 by_cases e : x' = x
 ·subst e
  rw [hkl] at hkl'
  cases hkl'
  rw [if_pos rfl]
  exact ⟨has_put_same hD (G.keyed.key hkl) _, fun y' hy' z => by cases hy'; exact atKey_put_same hD (G.keyed.key hkl) _ _⟩
 ·have hne : kl' ≠ kl := fun e' => e (G.one (by rw [hkl', e']) hkl)
  rw [if_neg e, has_put_other hne]
  obtain ⟨h1, h2⟩ := h x' kl' ho' hkl'
  exact ⟨h1, fun y' hy' z => by rw [atKey_put_other hne]; exact h2 y' hy' z⟩
def TRng (w : World) (G : KeyG γ K) (T : ElemT β) (b r n : Nat) (f : γ → Option β) (S : γ → Bool) : Prop :=
 ∃ (D : DataW Unit) (left : Lit → Bool) (cnt : Nat), w.ranges Tryz.prog K T.R b r n D left cnt ∧ View G T D f ∧ ∀ x kl, G.ok x → Go.keyOf Tryz.prog K (G.enc x) = some kl → left kl = ((f x).isSome && !S x)
variable {r : Nat} {S : γ → Bool}
theorem TRng.map (h : TRng w G T b r n f S) : TMap w G T b n f := by
 obtain ⟨D, left, cnt, h, hv, _⟩ := h; exact ⟨D, h.owns, hv⟩
theorem TRng.lt (h : TRng w G T b r n f S) : r < w.heap.size := by obtain ⟨D, left, cnt, h, _⟩ := h; exact h.lt
theorem TRng.kept {row : Option Nat} (h : TRng w G T b r n f S) (hg : w.grownBy w' row) (hb : some b ≠ row) (hr : some r ≠ row) : TRng w' G T b r n f S := by
 obtain ⟨D, left, cnt, h, h2⟩ := h; exact ⟨D, left, cnt, h.kept hg hb hr, h2⟩
theorem TRng.below {B : Nat} (h : TRng w G T b r n f S) (hb : Below B w w') (h1 : b < B) (h2 : r < B) : TRng w' G T b r n f S := by
 obtain ⟨D, left, cnt, ⟨es, clock, since, seen, c0, a1, a2, a3, a4, a5, a6⟩, h3⟩ := h
 exact ⟨D, left, cnt, ⟨es, clock, since, seen, c0, (hb.block b h1).trans a1, a2, a3, a4, (hb.block r h2).trans a5, a6⟩, h3⟩
theorem TRng.call (h : TRng w G T b r n f S) (hb : Below w.heap.size w w') : TRng w' G T b r n f S := h.below hb h.map.lt h.lt
end
section
variable {γ β : Type} {K : TypeId} {G : KeyG γ K} {T : ElemT β} {w : World} {b n r : Nat} {f : γ → Option β} {S : γ → Bool} {ops : Array Oper} {rest : List Oper} {o : Oper} {a : Act} {Q : Exit → Act → World → Prop}
theorem wpList_tput [DecidableEq γ] {t E : TypeId} (hg : o.guard = none) (m x v : Operand) (hop : o.op = Op.mapUpdate t m x v) (h : TMap w G T b n f) (ht : Tryz.prog.underlying t = some (.map K E)) (hn : n < maxLen) (k : γ) (hk : G.ok k) (y : β) (hy : T.ok y)
  (hm : a.eval m = .map (some b)) (hx : a.eval x = G.enc k) (hv : a.eval v = T.enc y) (hK : ∀ w', TMap w' G T b (n + 1) (updO f k y) → w.grownBy w' (some b) → wpList Tryz.prog ops Q rest (a.put o.dst undef) w') : wpList Tryz.prog ops Q (o :: rest) a w := by
 obtain ⟨D, h, hf⟩ := h
 obtain ⟨kl, hkl⟩ := G.keys k hk
 refine wpList_mapUpdate_own w hg m x v t hop K E G.keyed ht T.R b n D hm h hn _ _ kl hx hv hkl (T.dat y) [] (T.here y hy) ?_
 intro w' h1 h2
 exact hK w' ⟨_, h1, hf.put h.isMap hkl y⟩ h2
theorem wpList_tlen {t E : TypeId} (hg : o.guard = none) (m : Operand) (hop : o.op = Op.call { callee := Callee.builtin Builtin.len, args := #[m], argTypes := #[t] }) (h : TMap w G T b n f) (ht : Tryz.prog.underlying t = some (.map K E))
  (hm : a.eval m = .map (some b)) (hK : ∀ c : Nat, c ≤ n → (c = 0 ↔ ∀ x, G.ok x → f x = none) → wpList Tryz.prog ops Q rest (a.put o.dst (.int .i64 c)) w) : wpList Tryz.prog ops Q (o :: rest) a w := by
 obtain ⟨D, h, hf⟩ := h
 refine wpList_len_own w hg m t hop K E ht T.R b n D hm h ?_
 refine hK _ h.size_le ?_
 constructor
 ·intro hs x hx
  obtain ⟨kl, hkl⟩ := G.keys x hx
  obtain ⟨h1, _⟩ := hf x kl hx hkl
  obtain ⟨es, rfl⟩ := h.isMap
  rw [size_eq] at hs
  have : es = [] := List.eq_nil_of_length_eq_zero hs
  subst this
  cases hfx : f x with
  | none => rfl
  | some y => rw [hfx] at h1; cases h1
 ·intro hall
  obtain ⟨es, clock, hblk, F, hs, hD⟩ := h
  subst hD
  rw [size_eq]
  cases hes : es.toList with
  | nil => rfl
  | cons e el =>
   exfalso
   have he : e ∈ es.toList := by rw [hes]; exact List.mem_cons_self
   obtain ⟨kl, hkl⟩ := keys_fit F he
   obtain ⟨x, hx, ek⟩ := G.inv _ _ hkl.1
   rw [ek] at hkl
   obtain ⟨h1, _⟩ := hf x kl hx hkl.1
   rw [hall x hx] at h1
   have h1 : List.any _ _ = false := h1
   rw [List.any_eq_false] at h1
   refine h1 _ (mem_sorted.2 (List.mem_map.2 ⟨e, he, rfl⟩)) ?_
   rw [hkl.2]
   exact WideAt.sameKey_self (G.keyed.key hkl.1)
theorem wpList_trange {t E : TypeId} (hg : o.guard = none) (m : Operand) (hop : o.op = Op.range t m) (h : TMap w G T b n f) (ht : Tryz.prog.underlying t = some (.map K E)) (hm : a.eval m = .map (some b))
  (hK : ∀ w', TRng w' G T b w.heap.size n f (fun _ => false) → w.grownBy w' none → w'.heap.size = w.heap.size + 1 → wpList Tryz.prog ops Q rest (a.put o.dst (.pointer (some ⟨w.heap.size, 0, none⟩))) w') : wpList Tryz.prog ops Q (o :: rest) a w := by
 obtain ⟨D, h, hf⟩ := h
 refine wpList_range_own w hg m t hop K E G.keyed ht T.R b n D hm h ?_
 intro w' h1 h2 h3
 exact hK w' ⟨D, _, _, h1, hf, fun x kl hx hkl => by rw [(hf x kl hx hkl).1]; simp⟩ h2 h3
theorem wpList_tnext [DecidableEq γ] (hg : o.guard = none) (it : Operand) (hop : o.op = Op.next it false) (h : TRng w G T b r n f S) (hit : a.eval it = .pointer (some ⟨r, 0, none⟩))
  (hDone : (∀ x, G.ok x → f x ≠ none → S x = true) → wpList Tryz.prog ops Q rest (a.put o.dst (.tuple #[.bool false])) w)
  (hMore : ∀ (x : γ) (y : β) (w' : World), G.ok x → T.ok y → f x = some y → S x = false → TRng w' G T b r n f (fun z => S z || decide (z = x)) → w'.rangeLeft b r < w.rangeLeft b r → w.grownBy w' (some r) → w'.heap.size = w.heap.size →
   (Instr.entry (.pointer (some ⟨r, 0, none⟩))).run Tryz.prog w' = .ok (.tuple #[G.enc x, T.enc y]) w' → wpList Tryz.prog ops Q rest (a.put o.dst (.tuple #[.bool true, G.enc x, T.enc y])) w') :
  wpList Tryz.prog ops Q (o :: rest) a w := by
 obtain ⟨D, left, cnt, hr, hf, hl⟩ := h
 refine wpList_next_ranges w hg it hop K G.keyed T.R G.enc T.enc (fun key kl hk => by obtain ⟨x, _, e⟩ := G.inv key kl hk; exact ⟨x, e⟩) (fun v y hv => by obtain ⟨c, _, e, _⟩ := T.back v y hv; exact ⟨c, e⟩) b r n D left cnt hit hr ?_ ?_
 ·intro _ hall
  refine hDone fun x hx hfx => ?_
  obtain ⟨kl, hkl⟩ := G.keys x hx
  have := hl x kl hx hkl
  rw [hall kl] at this
  cases hS : S x with
  | true => rfl
  | false => rw [hS] at this; cases hfx' : f x with
   | none => exact absurd hfx' hfx
   | some y => rw [hfx'] at this; simp at this
 ·intro x c kl y w' cnt' hkey hleft hv hat hr' hlt hg' hs' hen
  have hx : G.ok x := by
   obtain ⟨x', hx', e⟩ := G.inv _ _ hkey
   rw [G.inj _ _ e]; exact hx'
  have h1 := hl x kl hx hkey
  rw [hleft] at h1
  have h1 := h1.symm
  rw [Bool.and_eq_true] at h1
  obtain ⟨h1, h2⟩ := h1
  obtain ⟨y0, hy0⟩ := Option.isSome_iff_exists.1 h1
  obtain ⟨y', hok, e1, e2⟩ := T.back _ _ hv
  have e3 := (hf x kl hx hkey).2 y0 hy0 (.lit (.bool false))
  rw [hat, e2] at e3
  have e4 : y' = y0 := T.inj _ _ e3
  subst e4
  rw [e1] at hen ⊢
  refine hMore x y' w' hx hok hy0 (by simpa using h2) ⟨D, _, cnt', hr', hf, ?_⟩ (by rw [hr'.left_eq, hr.left_eq]; exact hlt) hg' hs' hen
  intro z kz hz hkz
  rw [hl z kz hz hkz]
  by_cases e : z = x
  ·subst e
   rw [hkey] at hkz
   cases hkz
   rw [WideAt.sameKey_self (G.keyed.key hkey)]
   simp
  ·have hne : kz ≠ kl := fun e' => e (G.one (by rw [hkz, e']) hkey)
   rw [sameKey_ne hne]
   simp [e]
end
/-! ### The keys' and the elements' types -/
def okI (x : Int) : Prop := -9223372036854775808 ≤ x ∧ x ≤ 9223372036854775807
theorem okI_wf {x : Int} (h : okI x) : (Lit.int .i64 x).wf = true := WalkArith.wf_i64 (by unfold okI at h; omega)
theorem wf_okI {x : Int} (h : (Lit.int .i64 x).wf = true) : okI x := by
 simp [Lit.wf, IntKind.min, IntKind.max, IntKind.signed, IntKind.bits] at h
 unfold okI; omega
theorem laidOutM : laidOutB Tryz.prog = true := by kernel_rfl
theorem keyed_at {K : TypeId} (h1 : K < Tryz.prog.types.size) (h2 : Tryz.prog.keyTypeAt 3 K = true) (h3 : (match Tryz.prog.underlying K with | some (.array _ _) | some (.struct _) => true | _ => false) = true) : Keyed Tryz.prog K := Keyed.of_law (deep_law_laid laidOutM (m := 3) (by omega) h1 h2 h3)
theorem int_lits {d : Nat} {x : Int} (h : okI x) : Tryz.prog.keyLits (d + 1) 3 [.int .i64 x] = some [.int .i64 x] := by
 unfold Program.keyLits
 rw [Tryz.underlying3]
 simp [okI_wf h]
theorem lits_int {d : Nat} {v : Value} {ls : List Lit} (h : Tryz.prog.keyLits d 3 [v] = some ls) : ∃ x, okI x ∧ v = .int .i64 x := by
 cases d with
 | zero => unfold Program.keyLits at h; cases h
 | succ d =>
  unfold Program.keyLits at h
  rw [Tryz.underlying3] at h
  cases v <;> simp at h
  obtain ⟨⟨rfl, hw⟩, _⟩ := h
  exact ⟨_, wf_okI hw, rfl⟩
theorem cells_int : Tryz.prog.cellsOf 3 = 1 := by kernel_rfl
theorem types_some : ∃ m, Tryz.prog.types.size = m + 1 := ⟨Tryz.prog.types.size - 1, by have : 0 < Tryz.prog.types.size := of_decide_eq_true (by kernel_rfl); omega⟩
def twoV (x : Int × Int) : Value := .agg #[.int .i64 x.1, .int .i64 x.2]
theorem keyTime_keys (x : Int × Int) (hx : okI x.1 ∧ okI x.2) : ∃ kl, Go.keyOf Tryz.prog 45 (twoV x) = some kl := by
 obtain ⟨a, b⟩ := x
 obtain ⟨ha, hb⟩ := hx
 obtain ⟨m, hm⟩ := types_some
 have hcs : Tryz.prog.cellsOf 45 = 2 := by kernel_rfl
 have hkt : Tryz.prog.keyType 45 = true := by kernel_rfl
 obtain ⟨m', rfl⟩ : ∃ m', m = m' + 1 := ⟨m - 1, by have : 1 < Tryz.prog.types.size := of_decide_eq_true (by kernel_rfl); omega⟩
 refine Option.isSome_iff_exists.1 ?_
 unfold Go.keyOf
 simp only [Tryz.underlying45]
 rw [if_pos (by simp [hkt, twoV, Value.formed, Tryz.underlying45, hcs]), hm]
 unfold Program.keyLits twoV
 simp only [Tryz.underlying45, Value.cells]
 rw [if_pos ⟨by rw [hcs]; rfl, by simp⟩]
 have la := fun e => int_lits (d := e) ha
 have lb := fun e => int_lits (d := e) hb
 simp [List.mapM_cons, List.mapM_nil, cells_int, la, lb]
theorem keyTime_inv (key : Value) (kl : Lit) (h : Go.keyOf Tryz.prog 45 key = some kl) : ∃ x : Int × Int, (okI x.1 ∧ okI x.2) ∧ key = twoV x := by
 obtain ⟨m, hm⟩ := types_some
 have hcs : Tryz.prog.cellsOf 45 = 2 := by kernel_rfl
 unfold Go.keyOf at h
 simp only [Tryz.underlying45] at h
 split at h
 ·rename_i hf
  rw [Bool.and_eq_true] at hf
  have hf := hf.2
  obtain ⟨cs, rfl⟩ : ∃ cs, key = .agg cs := by
   cases key <;> simp [Value.formed, Tryz.underlying45] at hf <;> exact ⟨_, rfl⟩
  simp [Value.formed, Tryz.underlying45] at hf
  rw [hcs] at hf
  rw [Option.map_eq_some_iff] at h
  obtain ⟨ls, h, _⟩ := h
  rw [hm] at h
  unfold Program.keyLits at h
  simp only [Tryz.underlying45, Value.cells] at h
  obtain ⟨csl⟩ := cs
  obtain ⟨a, b, hab⟩ : ∃ a b, csl = [a, b] := by
   match csl, hf with
   | [], hf => simp at hf
   | [_], hf => simp at hf
   | [a, b], _ => exact ⟨a, b, rfl⟩
   | _ :: _ :: _ :: _, hf => simp at hf
  subst hab
  rw [if_pos ⟨by rw [hcs]; rfl, by simp⟩] at h
  simp [List.mapM_cons, List.mapM_nil, cells_int] at h
  obtain ⟨la, h1, h⟩ := Option.bind_eq_some_iff.1 h
  simp only [Function.comp_apply, Option.map_eq_some_iff, Option.bind_eq_some_iff] at h
  obtain ⟨_, ⟨_, ⟨lb, h2, _⟩, _⟩, _⟩ := h
  obtain ⟨x, hx, rfl⟩ := lits_int h1
  obtain ⟨y, hy, rfl⟩ := lits_int h2
  exact ⟨(x, y), ⟨hx, hy⟩, rfl⟩
 ·cases h
def keyTime : KeyG (Int × Int) 45 where
 enc := twoV
 ok := fun x => okI x.1 ∧ okI x.2
 keyed := keyed_at (of_decide_eq_true (by kernel_rfl)) (by kernel_rfl) (by kernel_rfl)
 keys := keyTime_keys
 inv := keyTime_inv
 inj := fun x y h => by
  obtain ⟨a, b⟩ := x
  obtain ⟨c, d⟩ := y
  simp [twoV] at h
  rw [h.1, h.2]
theorem keyPlace_keys (x : Int × Int) (hx : okI x.1 ∧ okI x.2) : ∃ kl, Go.keyOf Tryz.prog 61 (twoV x) = some kl := by
 obtain ⟨a, b⟩ := x
 obtain ⟨ha, hb⟩ := hx
 obtain ⟨m, hm⟩ := types_some
 have hcs : Tryz.prog.cellsOf 61 = 2 := by kernel_rfl
 have hkt : Tryz.prog.keyType 61 = true := by kernel_rfl
 obtain ⟨m', rfl⟩ : ∃ m', m = m' + 1 := ⟨m - 1, by have : 1 < Tryz.prog.types.size := of_decide_eq_true (by kernel_rfl); omega⟩
 refine Option.isSome_iff_exists.1 ?_
 unfold Go.keyOf
 simp only [Tryz.underlying61]
 rw [if_pos (by simp [hkt, twoV, Value.formed, Tryz.underlying61, hcs]), hm]
 unfold Program.keyLits twoV
 simp only [Tryz.underlying61, Value.cells]
 rw [if_pos ⟨by rw [hcs]; rfl, by simp⟩]
 have la := fun e => int_lits (d := e) ha
 have lb := fun e => int_lits (d := e) hb
 simp [List.mapM_cons, List.mapM_nil, cells_int, la, lb]
theorem keyPlace_inv (key : Value) (kl : Lit) (h : Go.keyOf Tryz.prog 61 key = some kl) : ∃ x : Int × Int, (okI x.1 ∧ okI x.2) ∧ key = twoV x := by
 obtain ⟨m, hm⟩ := types_some
 have hcs : Tryz.prog.cellsOf 61 = 2 := by kernel_rfl
 unfold Go.keyOf at h
 simp only [Tryz.underlying61] at h
 split at h
 ·rename_i hf
  rw [Bool.and_eq_true] at hf
  have hf := hf.2
  obtain ⟨cs, rfl⟩ : ∃ cs, key = .agg cs := by
   cases key <;> simp [Value.formed, Tryz.underlying61] at hf <;> exact ⟨_, rfl⟩
  simp [Value.formed, Tryz.underlying61] at hf
  rw [hcs] at hf
  rw [Option.map_eq_some_iff] at h
  obtain ⟨ls, h, _⟩ := h
  rw [hm] at h
  unfold Program.keyLits at h
  simp only [Tryz.underlying61, Value.cells] at h
  obtain ⟨csl⟩ := cs
  obtain ⟨a, b, hab⟩ : ∃ a b, csl = [a, b] := by
   match csl, hf with
   | [], hf => simp at hf
   | [_], hf => simp at hf
   | [a, b], _ => exact ⟨a, b, rfl⟩
   | _ :: _ :: _ :: _, hf => simp at hf
  subst hab
  rw [if_pos ⟨by rw [hcs]; rfl, by simp⟩] at h
  simp [List.mapM_cons, List.mapM_nil, cells_int] at h
  obtain ⟨la, h1, h⟩ := Option.bind_eq_some_iff.1 h
  simp only [Function.comp_apply, Option.map_eq_some_iff, Option.bind_eq_some_iff] at h
  obtain ⟨_, ⟨_, ⟨lb, h2, _⟩, _⟩, _⟩ := h
  obtain ⟨x, hx, rfl⟩ := lits_int h1
  obtain ⟨y, hy, rfl⟩ := lits_int h2
  exact ⟨(x, y), ⟨hx, hy⟩, rfl⟩
 ·cases h
def keyPlace : KeyG (Int × Int) 61 where
 enc := twoV
 ok := fun x => okI x.1 ∧ okI x.2
 keyed := keyed_at (of_decide_eq_true (by kernel_rfl)) (by kernel_rfl) (by kernel_rfl)
 keys := keyPlace_keys
 inv := keyPlace_inv
 inj := fun x y h => by
  obtain ⟨a, b⟩ := x
  obtain ⟨c, d⟩ := y
  simp [twoV] at h
  rw [h.1, h.2]
def keyInt : KeyG Int 3 where
 enc := Value.int .i64
 ok := okI
 keyed := int_keyed Tryz.underlying3
 keys := fun x hx => ⟨_, keyOf_int_mk Tryz.underlying3 (okI_wf hx)⟩
 inv := fun key kl h => by
  obtain ⟨x, e, _, hw⟩ := Maps.keyOf_int_inv Tryz.underlying3 h
  exact ⟨x, wf_okI hw, e⟩
 inj := fun x y h => (Value.int.inj h).2
instance (x : Int) : Decidable (okI x) := inferInstanceAs (Decidable (_ ∧ _))
def intR (v : Value) : Option (DataW Unit × List MemPlace) := match v with
 | .int .i64 x => if okI x then some (.lit (.int .i64 x), []) else none
 | _ => none
def elemInt : ElemT Int where
 R := intR
 enc := Value.int .i64
 dat := fun x => .lit (.int .i64 x)
 ok := okI
 here := fun y hy => by simp [intR, hy]
 back := fun v z h => by
  unfold intR at h
  split at h
  ·split at h
   ·rename_i x hx
    exact ⟨x, hx, rfl, (Option.some.inj h).symm⟩
   ·cases h
  ·cases h
 inj := fun y y' h => (Lit.int.inj (DataW.lit.inj h)).2
def ficV (x : Int × Int × Int × Int) : Value := .agg #[.int .i64 x.1, .int .i64 x.2.1, .int .i64 x.2.2.1, .int .i64 x.2.2.2]
def ficD (x : Int × Int × Int × Int) : DataW Unit := .agg [.lit (.int .i64 x.1), .lit (.int .i64 x.2.1), .lit (.int .i64 x.2.2.1), .lit (.int .i64 x.2.2.2)]
def ficR (v : Value) : Option (DataW Unit × List MemPlace) := match v with
 | .agg cs => match cs.toList with
  | [.int .i64 a, .int .i64 b, .int .i64 c, .int .i64 d] => some (ficD (a, b, c, d), [])
  | _ => none
 | _ => none
def elemFic : ElemT (Int × Int × Int × Int) where
 R := ficR
 enc := ficV
 dat := ficD
 ok := fun _ => True
 here := fun y _ => rfl
 back := fun v z h => by
  unfold ficR at h
  split at h
  ·rename_i cs
   split at h
   ·rename_i a b c d hcs
    refine ⟨(a, b, c, d), trivial, ?_, (Option.some.inj h).symm⟩
    obtain ⟨csl⟩ := cs
    simp only at hcs
    rw [hcs]; rfl
   ·cases h
  ·cases h
 inj := fun y y' h => by
  obtain ⟨a, b, c, d⟩ := y
  obtain ⟨a', b', c', d'⟩ := y'
  simp [ficD] at h
  obtain ⟨h1, h2, h3, h4⟩ := h
  simp [h1, h2, h3, h4]
end Go.Proofs.YtpkmiegccfhpnaaGreatDoor
namespace Go.Proofs.YtpkmiegccfhpnaaGreatDoor
open Go.RowKit
theorem numE_ok {p : Int × Int × Int} (h : pchk p = 0) : numE p = (numP p, 0) := by unfold numE; rw [if_neg (by rw [h]; exact fun h => h rfl)]
theorem number_ok (p : Int × Int × Int) (h : pchk p = 0) (w : World) :
  Calls Tryz.prog 90 #[vP p] w fun e w' => e = .returned (.tuple #[.int .i64 (numP p), .int .i64 0]) ∧ Below w.heap.size w w' := by
 have r0 : Blk (w.alloc (.cells #[.int .i64 p.1, .int .i64 p.2.1, .int .i64 p.2.2] 47)) w.heap.size 47 #[.int .i64 p.1, .int .i64 p.2.1, .int .i64 p.2.2] := Blk.new _ _ _
 have k0 : Below w.heap.size w (w.alloc (.cells #[.int .i64 p.1, .int .i64 p.2.1, .int .i64 p.2.2] 47)) := by repeat (first | exact Below.refl _ _ | refine below_drewN ?_ _ | refine Below.drew ?_ | refine below_alloc ?_ _ | (refine below_call ?_ (by assumption)) | (refine Below.setCell ?_ ?_ _; rotate_left; (simp; try omega)))
 obtain ⟨h0, h1, h2, h3, _, _⟩ := pchk_ok h
 have hb : (pchk p != 0) = false := by simpa using h
 have E := Lib.hid (show numP p = 7 * p.2.1 + p.1 by rfl)
 obtain ⟨a, b, c⟩ := p
 simp only at h0 h1 h2 h3 E hb
 clear h
 have hfd : ∀ (w : World) (x y : Value), (Instr.field 161 (.agg #[x, y]) 0).run Tryz.prog w = .ok x w := fun _ _ _ => by kernel_rfl
 go_enter Tryz.func90, Tryz.ntmps90
 go_wp2_with (first | (go_at_call 120; refine (pcheck_any (_, _, _) _).mono ?_; rintro e wn ⟨rfl, hbn⟩; replace rn := Blk.kept (by with_reducible first | exact rn | exact r0 | exact rn.alloc _ | exact r0.alloc _ | exact (rn.alloc _).alloc _ | exact (r0.alloc _).alloc _) hbn; replace en := rn.cell; replace gn := rn.frozen; replace zn := rn.lt; replace kn := below_call (by with_reducible first | exact kn | exact k0 | exact below_alloc kn _ | exact below_alloc k0 _ | exact below_alloc (below_alloc kn _) _ | exact below_alloc (below_alloc k0 _) _) hbn; clear hbn) | (go_at_call 121; refine (of_any' _ _ _ _ h0 h1 h2 h3).mono ?_; rintro e wn ⟨rfl, hbn⟩; replace rn := Blk.kept (by with_reducible first | exact rn | exact r0 | exact rn.alloc _ | exact r0.alloc _ | exact (rn.alloc _).alloc _ | exact (r0.alloc _).alloc _) hbn; replace en := rn.cell; replace gn := rn.frozen; replace zn := rn.lt; replace kn := below_call (by with_reducible first | exact kn | exact k0 | exact below_alloc kn _ | exact below_alloc k0 _ | exact below_alloc (below_alloc kn _) _ | exact below_alloc (below_alloc k0 _) _) hbn; clear hbn))
 go_ret2
 rw [E.out]
 exact ⟨rfl, by repeat (first | exact Below.refl _ _ | assumption | refine below_drewN ?_ _ | refine Below.drew ?_ | refine below_alloc ?_ _ | (refine below_call ?_ (by assumption)) | (refine Below.setCell ?_ ?_ _; rotate_left; (simp; try omega)))⟩
theorem height_ok (p : Int × Int × Int) (h : pchk p = 0) (w : World) (ht : Tabs w) :
  Calls Tryz.prog 177 #[vP p] w fun e w' => e = .returned (.tuple #[.int .i64 (htP p), .int .i64 0]) ∧ Below w.heap.size w w' := by
 have r0 : Blk (w.alloc (.cells #[.int .i64 p.1, .int .i64 p.2.1, .int .i64 p.2.2] 47)) w.heap.size 47 #[.int .i64 p.1, .int .i64 p.2.1, .int .i64 p.2.2] := Blk.new _ _ _
 have k0 : Below w.heap.size w (w.alloc (.cells #[.int .i64 p.1, .int .i64 p.2.1, .int .i64 p.2.2] 47)) := by repeat (first | exact Below.refl _ _ | refine below_drewN ?_ _ | refine Below.drew ?_ | refine below_alloc ?_ _ | (refine below_call ?_ (by assumption)) | (refine Below.setCell ?_ ?_ _; rotate_left; (simp; try omega)))
 obtain ⟨h0, h1, h2, h3, h4, h5⟩ := pchk_ok h
 have hb : (pchk p != 0) = false := by simpa using h
 obtain ⟨a, b, c⟩ := p
 simp only at h0 h1 h2 h3 h4 h5 hb
 clear h
 go_enter Tryz.func177, Tryz.ntmps177
 go_wp2_with (first | (go_at_call 120; refine (pcheck_any (_, _, _) _).mono ?_; rintro e wn ⟨rfl, hbn⟩; replace rn := Blk.kept (by with_reducible first | exact rn | exact r0 | exact rn.alloc _ | exact r0.alloc _ | exact (rn.alloc _).alloc _ | exact (r0.alloc _).alloc _) hbn; replace en := rn.cell; replace gn := rn.frozen; replace zn := rn.lt; replace kn := below_call (by with_reducible first | exact kn | exact k0 | exact below_alloc kn _ | exact below_alloc k0 _ | exact below_alloc (below_alloc kn _) _ | exact below_alloc (below_alloc k0 _) _) hbn; clear hbn) | (go_at_call 121; refine (of_any' _ _ _ _ h0 h1 h2 h3).mono ?_; rintro e wn ⟨rfl, hbn⟩; replace rn := Blk.kept (by with_reducible first | exact rn | exact r0 | exact rn.alloc _ | exact r0.alloc _ | exact (rn.alloc _).alloc _ | exact (r0.alloc _).alloc _) hbn; replace en := rn.cell; replace gn := rn.frozen; replace zn := rn.lt; replace kn := below_call (by with_reducible first | exact kn | exact k0 | exact below_alloc kn _ | exact below_alloc k0 _ | exact below_alloc (below_alloc kn _) _ | exact below_alloc (below_alloc k0 _) _) hbn; clear hbn) | (go_at_call 122; refine Calls.mono (toneHeight_any _ _ _ _ ?_ h0 h1 h2 h3 h4 h5) ?_; (focus (exact ht.kept kn)); rintro e wm ⟨rfl, hbm⟩; replace kn := below_call kn hbm))
 go_ret2
 exact ⟨rfl, by repeat (first | exact Below.refl _ _ | assumption | refine below_drewN ?_ _ | refine Below.drew ?_ | refine below_alloc ?_ _ | (refine below_call ?_ (by assumption)) | (refine Below.setCell ?_ ?_ _; rotate_left; (simp; try omega)))⟩
structure Shr (G : Prop) : Prop where
 out : G
theorem share {G p : Prop} (k : Shr G → p) (g : G) : p := k ⟨g⟩
theorem lay_blk {W we : World} {t : TypeId} {cs : Array Value} {G : Prop} (hb : Below W.heap.size W we) (g : Nat) (B : Blk W g t cs) (h : g < we.heap.size → (∀ i, we.cell? ⟨g, i, none⟩ = cs[i]?) → (∀ i, we.frozen? ⟨g, i, none⟩ = false) → Blk we g t cs → G) : G := h (B.kept hb).lt (B.kept hb).cell (B.kept hb).frozen (B.kept hb)
theorem pick_two {W wx : World} {a b lo : Nat} {t : TypeId} {z z' y y' u u' v v' : Value} {p : Prop} (hwx : wx = (((W.setCell ⟨a, 0, none⟩ u).setCell ⟨a, 1, none⟩ u').setCell ⟨b, 0, none⟩ v).setCell ⟨b, 1, none⟩ v') (hab : a ≠ b) (Ba : Blk W a t #[z, z']) (Bb : Blk W b t #[y, y']) (la : lo ≤ a) (lb : lo ≤ b) (k : ∀ gU gV, gU = a → gV = b → lo ≤ gU → Blk wx gU t #[u, u'] → lo ≤ gV → Blk wx gV t #[v, v'] → p) : p := by
 refine k a b rfl rfl la ?_ lb ?_
 ·subst hwx
  exact Blk.far_ hab (Blk.far_ hab (Blk.set_to (Blk.set_to Ba rfl) rfl))
 ·subst hwx
  exact Blk.set_to (Blk.set_to (Blk.far_ (Ne.symm hab) (Blk.far_ (Ne.symm hab) Bb)) rfl) rfl
theorem lo_of {p q : Int × Int × Int} {x y u v : Int} (hx : x = numP p) (hy : y = numP q) (hu : u = htP p) (hv : v = htP q) : (y < x ∨ (y = x ∧ v < u) → loP p q = q ∧ hiP p q = p) ∧ (¬ (y < x ∨ (y = x ∧ v < u)) → loP p q = p ∧ hiP p q = q) := by
 subst hx hy hu hv
 unfold loP hiP
 exact ⟨fun h => by rw [if_pos (show lowB p q from h), if_pos (show lowB p q from h)]; exact ⟨rfl, rfl⟩, fun h => by rw [if_neg (show ¬ lowB p q from h), if_neg (show ¬ lowB p q from h)]; exact ⟨rfl, rfl⟩⟩
theorem lower_ok (p q : Int × Int × Int) (hp : pchk p = 0) (hq : pchk q = 0) (w : World) (ht : Tabs w) :
  Calls Tryz.prog 173 #[vP p, vP q] w fun e w' => e = .returned (.tuple #[vP (loP p q), vP (hiP p q)]) ∧ Below w.heap.size w w' := by
 have q1 := number_ok p hp
 have q2 := number_ok q hq
 have q3 := height_ok p hp
 have q4 := height_ok q hq
 obtain ⟨x, hx⟩ : ∃ x, x = numP p := ⟨_, rfl⟩
 obtain ⟨y, hy⟩ : ∃ x, x = numP q := ⟨_, rfl⟩
 obtain ⟨u, hu⟩ : ∃ x, x = htP p := ⟨_, rfl⟩
 obtain ⟨v, hv⟩ : ∃ x, x = htP q := ⟨_, rfl⟩
 have E := Lib.hid (lo_of hx hy hu hv)
 rw [← hx] at q1
 rw [← hy] at q2
 rw [← hu] at q3
 rw [← hv] at q4
 clear hx hy hu hv hp hq
 obtain ⟨a, b, c⟩ := p
 obtain ⟨a', b', c'⟩ := q
 go_enter Tryz.func173, Tryz.ntmps173
 go_wp2_with fail
 refine (q1 _).mono ?_
 rintro e w1 ⟨rfl, hb1⟩
 have BP1 : Blk w1 (w.heap.size) 47 #[.int .i64 a, .int .i64 b, .int .i64 c] := by
  refine Blk.kept ?_ hb1
  repeat (first | with_reducible exact Blk.new _ _ _ | (with_reducible refine Blk.newAt _ _ _ _ ?_; first | rfl | (simp; done)) | with_reducible (first | apply Blk.alloc | apply Blk.drewN | apply Blk.drew | apply Blk.set_to) | (with_reducible apply Blk.far_; (simp only [ne_eq]; omega)) | rfl)
 have cP0_1 : w1.cell? ⟨w.heap.size, 0, none⟩ = some (.int .i64 a) := BP1.cell 0
 have cP1_1 : w1.cell? ⟨w.heap.size, 1, none⟩ = some (.int .i64 b) := BP1.cell 1
 have cP2_1 : w1.cell? ⟨w.heap.size, 2, none⟩ = some (.int .i64 c) := BP1.cell 2
 have lP1 : w.heap.size < w1.heap.size := BP1.lt
 have mP1 : w.heap.size < w1.heap.size + 1 := by omega
 have nP1 : w.heap.size < w1.heap.size + 1 + 1 := by omega
 have BQ1 : Blk w1 (w.heap.size + 1) 47 #[.int .i64 a', .int .i64 b', .int .i64 c'] := by
  refine Blk.kept ?_ hb1
  repeat (first | with_reducible exact Blk.new _ _ _ | (with_reducible refine Blk.newAt _ _ _ _ ?_; first | rfl | (simp; done)) | with_reducible (first | apply Blk.alloc | apply Blk.drewN | apply Blk.drew | apply Blk.set_to) | (with_reducible apply Blk.far_; (simp only [ne_eq]; omega)) | rfl)
 have cQ0_1 : w1.cell? ⟨w.heap.size + 1, 0, none⟩ = some (.int .i64 a') := BQ1.cell 0
 have cQ1_1 : w1.cell? ⟨w.heap.size + 1, 1, none⟩ = some (.int .i64 b') := BQ1.cell 1
 have cQ2_1 : w1.cell? ⟨w.heap.size + 1, 2, none⟩ = some (.int .i64 c') := BQ1.cell 2
 have lQ1 : w.heap.size + 1 < w1.heap.size := BQ1.lt
 have mQ1 : w.heap.size + 1 < w1.heap.size + 1 := by omega
 have nQ1 : w.heap.size + 1 < w1.heap.size + 1 + 1 := by omega
 have BR1 : Blk w1 (w.heap.size + 1 + 1) 47 #[.int .i64 0, .int .i64 0, .int .i64 0] := by
  refine Blk.kept ?_ hb1
  repeat (first | with_reducible exact Blk.new _ _ _ | (with_reducible refine Blk.newAt _ _ _ _ ?_; first | rfl | (simp; done)) | with_reducible (first | apply Blk.alloc | apply Blk.drewN | apply Blk.drew | apply Blk.set_to) | (with_reducible apply Blk.far_; (simp only [ne_eq]; omega)) | rfl)
 have cR0_1 : w1.cell? ⟨w.heap.size + 1 + 1, 0, none⟩ = some (.int .i64 0) := BR1.cell 0
 have cR1_1 : w1.cell? ⟨w.heap.size + 1 + 1, 1, none⟩ = some (.int .i64 0) := BR1.cell 1
 have cR2_1 : w1.cell? ⟨w.heap.size + 1 + 1, 2, none⟩ = some (.int .i64 0) := BR1.cell 2
 have lR1 : w.heap.size + 1 + 1 < w1.heap.size := BR1.lt
 have mR1 : w.heap.size + 1 + 1 < w1.heap.size + 1 := by omega
 have nR1 : w.heap.size + 1 + 1 < w1.heap.size + 1 + 1 := by omega
 have fR0_1 := BR1.frozen 0
 have fR1_1 := BR1.frozen 1
 have fR2_1 := BR1.frozen 2
 have BS1 : Blk w1 (w.heap.size + 1 + 1 + 1) 47 #[.int .i64 0, .int .i64 0, .int .i64 0] := by
  refine Blk.kept ?_ hb1
  repeat (first | with_reducible exact Blk.new _ _ _ | (with_reducible refine Blk.newAt _ _ _ _ ?_; first | rfl | (simp; done)) | with_reducible (first | apply Blk.alloc | apply Blk.drewN | apply Blk.drew | apply Blk.set_to) | (with_reducible apply Blk.far_; (simp only [ne_eq]; omega)) | rfl)
 have cS0_1 : w1.cell? ⟨w.heap.size + 1 + 1 + 1, 0, none⟩ = some (.int .i64 0) := BS1.cell 0
 have cS1_1 : w1.cell? ⟨w.heap.size + 1 + 1 + 1, 1, none⟩ = some (.int .i64 0) := BS1.cell 1
 have cS2_1 : w1.cell? ⟨w.heap.size + 1 + 1 + 1, 2, none⟩ = some (.int .i64 0) := BS1.cell 2
 have lS1 : w.heap.size + 1 + 1 + 1 < w1.heap.size := BS1.lt
 have mS1 : w.heap.size + 1 + 1 + 1 < w1.heap.size + 1 := by omega
 have nS1 : w.heap.size + 1 + 1 + 1 < w1.heap.size + 1 + 1 := by omega
 have fS0_1 := BS1.frozen 0
 have fS1_1 := BS1.frozen 1
 have fS2_1 := BS1.frozen 2
 have eRP1 : w.heap.size + 1 + 1 ≠ w.heap.size := by omega
 have ePR1 : w.heap.size ≠ w.heap.size + 1 + 1 := by omega
 have eRQ1 : w.heap.size + 1 + 1 ≠ w.heap.size + 1 := by omega
 have eQR1 : w.heap.size + 1 ≠ w.heap.size + 1 + 1 := by omega
 have eSP1 : w.heap.size + 1 + 1 + 1 ≠ w.heap.size := by omega
 have ePS1 : w.heap.size ≠ w.heap.size + 1 + 1 + 1 := by omega
 have eSQ1 : w.heap.size + 1 + 1 + 1 ≠ w.heap.size + 1 := by omega
 have eQS1 : w.heap.size + 1 ≠ w.heap.size + 1 + 1 + 1 := by omega
 have eSR1 : w.heap.size + 1 + 1 + 1 ≠ w.heap.size + 1 + 1 := by omega
 have eRS1 : w.heap.size + 1 + 1 ≠ w.heap.size + 1 + 1 + 1 := by omega
 have hs1 : w.heap.size ≤ w1.heap.size := by have h := hb1.size; (try simp at h); omega
 go_wp2_with fail
 refine (q2 _).mono ?_
 rintro e w2 ⟨rfl, hb2⟩
 have BP2 : Blk w2 (w.heap.size) 47 #[.int .i64 a, .int .i64 b, .int .i64 c] := by
  refine Blk.kept ?_ hb2
  repeat (first | with_reducible exact BP1 | with_reducible exact Blk.new _ _ _ | (with_reducible refine Blk.newAt _ _ _ _ ?_; first | rfl | (simp; done)) | with_reducible (first | apply Blk.alloc | apply Blk.drewN | apply Blk.drew | apply Blk.set_to) | (with_reducible apply Blk.far_; (simp only [ne_eq]; omega)) | rfl)
 have cP0_2 : w2.cell? ⟨w.heap.size, 0, none⟩ = some (.int .i64 a) := BP2.cell 0
 have cP1_2 : w2.cell? ⟨w.heap.size, 1, none⟩ = some (.int .i64 b) := BP2.cell 1
 have cP2_2 : w2.cell? ⟨w.heap.size, 2, none⟩ = some (.int .i64 c) := BP2.cell 2
 have lP2 : w.heap.size < w2.heap.size := BP2.lt
 have mP2 : w.heap.size < w2.heap.size + 1 := by omega
 have nP2 : w.heap.size < w2.heap.size + 1 + 1 := by omega
 have BQ2 : Blk w2 (w.heap.size + 1) 47 #[.int .i64 a', .int .i64 b', .int .i64 c'] := by
  refine Blk.kept ?_ hb2
  repeat (first | with_reducible exact BQ1 | with_reducible exact Blk.new _ _ _ | (with_reducible refine Blk.newAt _ _ _ _ ?_; first | rfl | (simp; done)) | with_reducible (first | apply Blk.alloc | apply Blk.drewN | apply Blk.drew | apply Blk.set_to) | (with_reducible apply Blk.far_; (simp only [ne_eq]; omega)) | rfl)
 have cQ0_2 : w2.cell? ⟨w.heap.size + 1, 0, none⟩ = some (.int .i64 a') := BQ2.cell 0
 have cQ1_2 : w2.cell? ⟨w.heap.size + 1, 1, none⟩ = some (.int .i64 b') := BQ2.cell 1
 have cQ2_2 : w2.cell? ⟨w.heap.size + 1, 2, none⟩ = some (.int .i64 c') := BQ2.cell 2
 have lQ2 : w.heap.size + 1 < w2.heap.size := BQ2.lt
 have mQ2 : w.heap.size + 1 < w2.heap.size + 1 := by omega
 have nQ2 : w.heap.size + 1 < w2.heap.size + 1 + 1 := by omega
 have BR2 : Blk w2 (w.heap.size + 1 + 1) 47 #[.int .i64 0, .int .i64 0, .int .i64 0] := by
  refine Blk.kept ?_ hb2
  repeat (first | with_reducible exact BR1 | with_reducible exact Blk.new _ _ _ | (with_reducible refine Blk.newAt _ _ _ _ ?_; first | rfl | (simp; done)) | with_reducible (first | apply Blk.alloc | apply Blk.drewN | apply Blk.drew | apply Blk.set_to) | (with_reducible apply Blk.far_; (simp only [ne_eq]; omega)) | rfl)
 have cR0_2 : w2.cell? ⟨w.heap.size + 1 + 1, 0, none⟩ = some (.int .i64 0) := BR2.cell 0
 have cR1_2 : w2.cell? ⟨w.heap.size + 1 + 1, 1, none⟩ = some (.int .i64 0) := BR2.cell 1
 have cR2_2 : w2.cell? ⟨w.heap.size + 1 + 1, 2, none⟩ = some (.int .i64 0) := BR2.cell 2
 have lR2 : w.heap.size + 1 + 1 < w2.heap.size := BR2.lt
 have mR2 : w.heap.size + 1 + 1 < w2.heap.size + 1 := by omega
 have nR2 : w.heap.size + 1 + 1 < w2.heap.size + 1 + 1 := by omega
 have fR0_2 := BR2.frozen 0
 have fR1_2 := BR2.frozen 1
 have fR2_2 := BR2.frozen 2
 have BS2 : Blk w2 (w.heap.size + 1 + 1 + 1) 47 #[.int .i64 0, .int .i64 0, .int .i64 0] := by
  refine Blk.kept ?_ hb2
  repeat (first | with_reducible exact BS1 | with_reducible exact Blk.new _ _ _ | (with_reducible refine Blk.newAt _ _ _ _ ?_; first | rfl | (simp; done)) | with_reducible (first | apply Blk.alloc | apply Blk.drewN | apply Blk.drew | apply Blk.set_to) | (with_reducible apply Blk.far_; (simp only [ne_eq]; omega)) | rfl)
 have cS0_2 : w2.cell? ⟨w.heap.size + 1 + 1 + 1, 0, none⟩ = some (.int .i64 0) := BS2.cell 0
 have cS1_2 : w2.cell? ⟨w.heap.size + 1 + 1 + 1, 1, none⟩ = some (.int .i64 0) := BS2.cell 1
 have cS2_2 : w2.cell? ⟨w.heap.size + 1 + 1 + 1, 2, none⟩ = some (.int .i64 0) := BS2.cell 2
 have lS2 : w.heap.size + 1 + 1 + 1 < w2.heap.size := BS2.lt
 have mS2 : w.heap.size + 1 + 1 + 1 < w2.heap.size + 1 := by omega
 have nS2 : w.heap.size + 1 + 1 + 1 < w2.heap.size + 1 + 1 := by omega
 have fS0_2 := BS2.frozen 0
 have fS1_2 := BS2.frozen 1
 have fS2_2 := BS2.frozen 2
 clear BP1 lP1 mP1 nP1 cP0_1 cP1_1 cP2_1 BQ1 lQ1 mQ1 nQ1 cQ0_1 cQ1_1 cQ2_1 BR1 lR1 mR1 nR1 cR0_1 cR1_1 cR2_1 fR0_1 fR1_1 fR2_1 BS1 lS1 mS1 nS1 cS0_1 cS1_1 cS2_1 fS0_1 fS1_1 fS2_1
 have hs2 : w.heap.size ≤ w2.heap.size := by have h := hb2.size; (try simp at h); omega
 go_wp2_with fail
 refine Calls.mono (q3 _ ?_) ?_
 ·exact ht.kept (by repeat (first | exact Below.refl _ _ | refine below_drewN ?_ _ | refine Below.drew ?_ | refine below_alloc ?_ _ | (refine below_call ?_ (by assumption)) | (refine Below.setCell ?_ ?_ _; rotate_left; (simp; try omega))))
 rintro e w3 ⟨rfl, hb3⟩
 have BP3 : Blk w3 (w.heap.size) 47 #[.int .i64 a, .int .i64 b, .int .i64 c] := by
  refine Blk.kept ?_ hb3
  repeat (first | with_reducible exact BP2 | with_reducible exact Blk.new _ _ _ | (with_reducible refine Blk.newAt _ _ _ _ ?_; first | rfl | (simp; done)) | with_reducible (first | apply Blk.alloc | apply Blk.drewN | apply Blk.drew | apply Blk.set_to) | (with_reducible apply Blk.far_; (simp only [ne_eq]; omega)) | rfl)
 have cP0_3 : w3.cell? ⟨w.heap.size, 0, none⟩ = some (.int .i64 a) := BP3.cell 0
 have cP1_3 : w3.cell? ⟨w.heap.size, 1, none⟩ = some (.int .i64 b) := BP3.cell 1
 have cP2_3 : w3.cell? ⟨w.heap.size, 2, none⟩ = some (.int .i64 c) := BP3.cell 2
 have lP3 : w.heap.size < w3.heap.size := BP3.lt
 have mP3 : w.heap.size < w3.heap.size + 1 := by omega
 have nP3 : w.heap.size < w3.heap.size + 1 + 1 := by omega
 have BQ3 : Blk w3 (w.heap.size + 1) 47 #[.int .i64 a', .int .i64 b', .int .i64 c'] := by
  refine Blk.kept ?_ hb3
  repeat (first | with_reducible exact BQ2 | with_reducible exact Blk.new _ _ _ | (with_reducible refine Blk.newAt _ _ _ _ ?_; first | rfl | (simp; done)) | with_reducible (first | apply Blk.alloc | apply Blk.drewN | apply Blk.drew | apply Blk.set_to) | (with_reducible apply Blk.far_; (simp only [ne_eq]; omega)) | rfl)
 have cQ0_3 : w3.cell? ⟨w.heap.size + 1, 0, none⟩ = some (.int .i64 a') := BQ3.cell 0
 have cQ1_3 : w3.cell? ⟨w.heap.size + 1, 1, none⟩ = some (.int .i64 b') := BQ3.cell 1
 have cQ2_3 : w3.cell? ⟨w.heap.size + 1, 2, none⟩ = some (.int .i64 c') := BQ3.cell 2
 have lQ3 : w.heap.size + 1 < w3.heap.size := BQ3.lt
 have mQ3 : w.heap.size + 1 < w3.heap.size + 1 := by omega
 have nQ3 : w.heap.size + 1 < w3.heap.size + 1 + 1 := by omega
 have BR3 : Blk w3 (w.heap.size + 1 + 1) 47 #[.int .i64 0, .int .i64 0, .int .i64 0] := by
  refine Blk.kept ?_ hb3
  repeat (first | with_reducible exact BR2 | with_reducible exact Blk.new _ _ _ | (with_reducible refine Blk.newAt _ _ _ _ ?_; first | rfl | (simp; done)) | with_reducible (first | apply Blk.alloc | apply Blk.drewN | apply Blk.drew | apply Blk.set_to) | (with_reducible apply Blk.far_; (simp only [ne_eq]; omega)) | rfl)
 have cR0_3 : w3.cell? ⟨w.heap.size + 1 + 1, 0, none⟩ = some (.int .i64 0) := BR3.cell 0
 have cR1_3 : w3.cell? ⟨w.heap.size + 1 + 1, 1, none⟩ = some (.int .i64 0) := BR3.cell 1
 have cR2_3 : w3.cell? ⟨w.heap.size + 1 + 1, 2, none⟩ = some (.int .i64 0) := BR3.cell 2
 have lR3 : w.heap.size + 1 + 1 < w3.heap.size := BR3.lt
 have mR3 : w.heap.size + 1 + 1 < w3.heap.size + 1 := by omega
 have nR3 : w.heap.size + 1 + 1 < w3.heap.size + 1 + 1 := by omega
 have fR0_3 := BR3.frozen 0
 have fR1_3 := BR3.frozen 1
 have fR2_3 := BR3.frozen 2
 have BS3 : Blk w3 (w.heap.size + 1 + 1 + 1) 47 #[.int .i64 0, .int .i64 0, .int .i64 0] := by
  refine Blk.kept ?_ hb3
  repeat (first | with_reducible exact BS2 | with_reducible exact Blk.new _ _ _ | (with_reducible refine Blk.newAt _ _ _ _ ?_; first | rfl | (simp; done)) | with_reducible (first | apply Blk.alloc | apply Blk.drewN | apply Blk.drew | apply Blk.set_to) | (with_reducible apply Blk.far_; (simp only [ne_eq]; omega)) | rfl)
 have cS0_3 : w3.cell? ⟨w.heap.size + 1 + 1 + 1, 0, none⟩ = some (.int .i64 0) := BS3.cell 0
 have cS1_3 : w3.cell? ⟨w.heap.size + 1 + 1 + 1, 1, none⟩ = some (.int .i64 0) := BS3.cell 1
 have cS2_3 : w3.cell? ⟨w.heap.size + 1 + 1 + 1, 2, none⟩ = some (.int .i64 0) := BS3.cell 2
 have lS3 : w.heap.size + 1 + 1 + 1 < w3.heap.size := BS3.lt
 have mS3 : w.heap.size + 1 + 1 + 1 < w3.heap.size + 1 := by omega
 have nS3 : w.heap.size + 1 + 1 + 1 < w3.heap.size + 1 + 1 := by omega
 have fS0_3 := BS3.frozen 0
 have fS1_3 := BS3.frozen 1
 have fS2_3 := BS3.frozen 2
 clear BP2 lP2 mP2 nP2 cP0_2 cP1_2 cP2_2 BQ2 lQ2 mQ2 nQ2 cQ0_2 cQ1_2 cQ2_2 BR2 lR2 mR2 nR2 cR0_2 cR1_2 cR2_2 fR0_2 fR1_2 fR2_2 BS2 lS2 mS2 nS2 cS0_2 cS1_2 cS2_2 fS0_2 fS1_2 fS2_2
 have hs3 : w.heap.size ≤ w3.heap.size := by have h := hb3.size; (try simp at h); omega
 go_wp2_with fail
 refine Calls.mono (q4 _ ?_) ?_
 ·exact ht.kept (by repeat (first | exact Below.refl _ _ | refine below_drewN ?_ _ | refine Below.drew ?_ | refine below_alloc ?_ _ | (refine below_call ?_ (by assumption)) | (refine Below.setCell ?_ ?_ _; rotate_left; (simp; try omega))))
 rintro e w4 ⟨rfl, hb4⟩
 have BP4 : Blk w4 (w.heap.size) 47 #[.int .i64 a, .int .i64 b, .int .i64 c] := by
  refine Blk.kept ?_ hb4
  repeat (first | with_reducible exact BP3 | with_reducible exact Blk.new _ _ _ | (with_reducible refine Blk.newAt _ _ _ _ ?_; first | rfl | (simp; done)) | with_reducible (first | apply Blk.alloc | apply Blk.drewN | apply Blk.drew | apply Blk.set_to) | (with_reducible apply Blk.far_; (simp only [ne_eq]; omega)) | rfl)
 have cP0_4 : w4.cell? ⟨w.heap.size, 0, none⟩ = some (.int .i64 a) := BP4.cell 0
 have cP1_4 : w4.cell? ⟨w.heap.size, 1, none⟩ = some (.int .i64 b) := BP4.cell 1
 have cP2_4 : w4.cell? ⟨w.heap.size, 2, none⟩ = some (.int .i64 c) := BP4.cell 2
 have lP4 : w.heap.size < w4.heap.size := BP4.lt
 have mP4 : w.heap.size < w4.heap.size + 1 := by omega
 have nP4 : w.heap.size < w4.heap.size + 1 + 1 := by omega
 have BQ4 : Blk w4 (w.heap.size + 1) 47 #[.int .i64 a', .int .i64 b', .int .i64 c'] := by
  refine Blk.kept ?_ hb4
  repeat (first | with_reducible exact BQ3 | with_reducible exact Blk.new _ _ _ | (with_reducible refine Blk.newAt _ _ _ _ ?_; first | rfl | (simp; done)) | with_reducible (first | apply Blk.alloc | apply Blk.drewN | apply Blk.drew | apply Blk.set_to) | (with_reducible apply Blk.far_; (simp only [ne_eq]; omega)) | rfl)
 have cQ0_4 : w4.cell? ⟨w.heap.size + 1, 0, none⟩ = some (.int .i64 a') := BQ4.cell 0
 have cQ1_4 : w4.cell? ⟨w.heap.size + 1, 1, none⟩ = some (.int .i64 b') := BQ4.cell 1
 have cQ2_4 : w4.cell? ⟨w.heap.size + 1, 2, none⟩ = some (.int .i64 c') := BQ4.cell 2
 have lQ4 : w.heap.size + 1 < w4.heap.size := BQ4.lt
 have mQ4 : w.heap.size + 1 < w4.heap.size + 1 := by omega
 have nQ4 : w.heap.size + 1 < w4.heap.size + 1 + 1 := by omega
 have BR4 : Blk w4 (w.heap.size + 1 + 1) 47 #[.int .i64 0, .int .i64 0, .int .i64 0] := by
  refine Blk.kept ?_ hb4
  repeat (first | with_reducible exact BR3 | with_reducible exact Blk.new _ _ _ | (with_reducible refine Blk.newAt _ _ _ _ ?_; first | rfl | (simp; done)) | with_reducible (first | apply Blk.alloc | apply Blk.drewN | apply Blk.drew | apply Blk.set_to) | (with_reducible apply Blk.far_; (simp only [ne_eq]; omega)) | rfl)
 have cR0_4 : w4.cell? ⟨w.heap.size + 1 + 1, 0, none⟩ = some (.int .i64 0) := BR4.cell 0
 have cR1_4 : w4.cell? ⟨w.heap.size + 1 + 1, 1, none⟩ = some (.int .i64 0) := BR4.cell 1
 have cR2_4 : w4.cell? ⟨w.heap.size + 1 + 1, 2, none⟩ = some (.int .i64 0) := BR4.cell 2
 have lR4 : w.heap.size + 1 + 1 < w4.heap.size := BR4.lt
 have mR4 : w.heap.size + 1 + 1 < w4.heap.size + 1 := by omega
 have nR4 : w.heap.size + 1 + 1 < w4.heap.size + 1 + 1 := by omega
 have fR0_4 := BR4.frozen 0
 have fR1_4 := BR4.frozen 1
 have fR2_4 := BR4.frozen 2
 have BS4 : Blk w4 (w.heap.size + 1 + 1 + 1) 47 #[.int .i64 0, .int .i64 0, .int .i64 0] := by
  refine Blk.kept ?_ hb4
  repeat (first | with_reducible exact BS3 | with_reducible exact Blk.new _ _ _ | (with_reducible refine Blk.newAt _ _ _ _ ?_; first | rfl | (simp; done)) | with_reducible (first | apply Blk.alloc | apply Blk.drewN | apply Blk.drew | apply Blk.set_to) | (with_reducible apply Blk.far_; (simp only [ne_eq]; omega)) | rfl)
 have cS0_4 : w4.cell? ⟨w.heap.size + 1 + 1 + 1, 0, none⟩ = some (.int .i64 0) := BS4.cell 0
 have cS1_4 : w4.cell? ⟨w.heap.size + 1 + 1 + 1, 1, none⟩ = some (.int .i64 0) := BS4.cell 1
 have cS2_4 : w4.cell? ⟨w.heap.size + 1 + 1 + 1, 2, none⟩ = some (.int .i64 0) := BS4.cell 2
 have lS4 : w.heap.size + 1 + 1 + 1 < w4.heap.size := BS4.lt
 have mS4 : w.heap.size + 1 + 1 + 1 < w4.heap.size + 1 := by omega
 have nS4 : w.heap.size + 1 + 1 + 1 < w4.heap.size + 1 + 1 := by omega
 have fS0_4 := BS4.frozen 0
 have fS1_4 := BS4.frozen 1
 have fS2_4 := BS4.frozen 2
 clear BP3 lP3 mP3 nP3 cP0_3 cP1_3 cP2_3 BQ3 lQ3 mQ3 nQ3 cQ0_3 cQ1_3 cQ2_3 BR3 lR3 mR3 nR3 cR0_3 cR1_3 cR2_3 fR0_3 fR1_3 fR2_3 BS3 lS3 mS3 nS3 cS0_3 cS1_3 cS2_3 fS0_3 fS1_3 fS2_3
 have hs4 : w.heap.size ≤ w4.heap.size := by have h := hb4.size; (try simp at h); omega
 have kb : Below w.heap.size w w4 := by repeat (first | exact Below.refl _ _ | refine below_drewN ?_ _ | refine Below.drew ?_ | refine below_alloc ?_ _ | (refine below_call ?_ (by assumption)) | (refine Below.setCell ?_ ?_ _; rotate_left; (simp; try omega)))
 clear q1 q2 q3 q4
 go_wp2
 all_goals
  go_region
  go_wp2
  refine ret_of (by simp [results, Tryz.results173, go_sem, *]; repeat' (first | rfl | apply And.intro)) rfl ⟨?_, by repeat (first | with_reducible (first | exact Below.refl _ _ | assumption | refine below_drewN ?_ _ | refine Below.drew ?_ | refine below_alloc ?_ _) | (with_reducible refine Below.setCell ?_ ?_ _; rotate_left; ((try simp only); omega)))⟩
  first
   | rw [(E.out.1 (by omega)).1, (E.out.1 (by omega)).2]
   | rw [(E.out.2 (by omega)).1, (E.out.2 (by omega)).2]
theorem btw_ok (p q : Int × Int × Int) (hp : pchk p = 0) (hq : pchk q = 0) (w : World) (ht : Tabs w) :
  Calls Tryz.prog 88 #[vP p, vP q] w fun e w' => e = .returned (.tuple #[.agg #[.int .i64 (btw p q).1, .int .i64 (btw p q).2], .int .i64 0]) ∧ Below w.heap.size w w' := by
 obtain ⟨g0, g1, g2, g3, g4, g5⟩ := pchk_ok hp
 obtain ⟨h0, h1, h2, h3, h4, h5⟩ := pchk_ok hq
 have HP := htP_bd hp
 have HQ := htP_bd hq
 have hbp : (pchk p != 0) = false := by simpa using hp
 have hbq : (pchk q != 0) = false := by simpa using hq
 have NP := Lib.hid (show btw p q = (7 * q.2.1 + q.1 - (7 * p.2.1 + p.1), htP q - htP p) by rfl)
 obtain ⟨a, b, c⟩ := p
 obtain ⟨a', b', c'⟩ := q
 simp only at g0 g1 g2 g3 g4 g5 h0 h1 h2 h3 h4 h5 NP
 have z1 := fun w ht => toneHeight_any a b c w ht g0 g1 g2 g3 g4 g5
 have z2 := fun w ht => toneHeight_any a' b' c' w ht h0 h1 h2 h3 h4 h5
 have i0 : ∀ w, (Instr.index 158 (.agg #[.int .i64 a, .int .i64 b, .int .i64 c, .int .i64 a', .int .i64 b', .int .i64 c']) (.int .i64 0)).run Tryz.prog w = .ok (.agg #[.int .i64 a, .int .i64 b, .int .i64 c]) w := fun _ => by kernel_rfl
 have i1 : ∀ w, (Instr.index 158 (.agg #[.int .i64 a, .int .i64 b, .int .i64 c, .int .i64 a', .int .i64 b', .int .i64 c']) (.int .i64 1)).run Tryz.prog w = .ok (.agg #[.int .i64 a', .int .i64 b', .int .i64 c']) w := fun _ => by kernel_rfl
 go_enter Tryz.func88, Tryz.ntmps88
 go_wp2
 go_loopw [7, 8, 14] (fun _ _ i wr => ∃ k : Nat, k ≤ 2 ∧ i = .int .i64 k ∧ Below w.heap.size w wr ∧ Blk wr w.heap.size 47 #[.int .i64 a, .int .i64 b, .int .i64 c] ∧ Blk wr (w.heap.size + 1) 47 #[.int .i64 a', .int .i64 b', .int .i64 c'] ∧ Blk wr (w.heap.size + 1 + 1) 131 #[.int .i64 0, .int .i64 0]) (fun _ _ i _ => 2 - (intOf i).toNat)
 case atStart => exact ⟨0, by omega, rfl, by repeat (first | exact Below.refl _ _ | refine below_drewN ?_ _ | refine Below.drew ?_ | refine below_alloc ?_ _ | (refine below_call ?_ (by assumption)) | (refine Below.setCell ?_ ?_ _; rotate_left; (simp; try omega))), ((Blk.new _ _ _).alloc _).alloc _, Blk.alloc (Blk.newAt _ _ _ _ (by simp)) _, Blk.newAt _ _ _ _ (by simp)⟩
 case round =>
  obtain ⟨k, hk, rfl, k0, r0, s0, q0⟩ := hrel
  have en := r0.cell; have gn := r0.frozen; have zn := r0.lt
  have fn := s0.cell; have hn := s0.frozen; have yn := s0.lt
  have qn := q0.cell; have un := q0.frozen; have vn := q0.lt
  match k, hk with
  | 0, _ =>
   rw [show ((0 : Nat) : Int) = 0 by rfl]
   go_wp2_with (go_at_call 120; refine (pcheck_any (_, _, _) _).mono ?_; rintro e w1 ⟨rfl, hb1⟩; have r2 := (r0.alloc _).kept hb1; have s2 := (s0.alloc _).kept hb1; have q2 := (q0.alloc _).kept hb1; have k2 := below_call (below_alloc k0 _) hb1; have cq := q2.cell; have fq := q2.frozen; have vq := q2.lt)
   go_roundw
   case rel => exact ⟨1, by omega, rfl, k2, r2, s2, q2⟩
   case measure => simp [intOf]
  | 1, _ =>
   rw [show ((1 : Nat) : Int) = 1 by rfl]
   go_wp2_with (go_at_call 120; refine (pcheck_any (_, _, _) _).mono ?_; rintro e w1 ⟨rfl, hb1⟩; have r2 := (r0.alloc _).kept hb1; have s2 := (s0.alloc _).kept hb1; have q2 := (q0.alloc _).kept hb1; have k2 := below_call (below_alloc k0 _) hb1; have cq := q2.cell; have fq := q2.frozen; have vq := q2.lt)
   go_roundw
   case rel => exact ⟨2, by omega, rfl, k2, r2, s2, q2⟩
   case measure => simp [intOf]
  | 2, _ =>
   rw [show ((2 : Nat) : Int) = 2 by rfl]
   have o1 := fun w => of_any' a b c w g0 g1 g2 g3
   have o2 := fun w => of_any' a' b' c' w h0 h1 h2 h3
   clear hp hq hbp hbq i0 i1
   go_wp2_with fail
   obtain ⟨wv, hwv⟩ : ∃ x, x = wr := ⟨_, rfl⟩
   rw [← hwv] at k0 r0 s0 q0 ⊢
   clear en gn zn fn hn yn qn un vn hwv
   have zF := r0.lt; have zT := s0.lt
   have f0 : wv.cell? ⟨w.heap.size, 0, none⟩ = some (.int .i64 a) := r0.cell 0
   have f1 : wv.cell? ⟨w.heap.size, 1, none⟩ = some (.int .i64 b) := r0.cell 1
   have f2 : wv.cell? ⟨w.heap.size, 2, none⟩ = some (.int .i64 c) := r0.cell 2
   have t0 : wv.cell? ⟨w.heap.size + 1, 0, none⟩ = some (.int .i64 a') := s0.cell 0
   have t1 : wv.cell? ⟨w.heap.size + 1, 1, none⟩ = some (.int .i64 b') := s0.cell 1
   have t2 : wv.cell? ⟨w.heap.size + 1, 2, none⟩ = some (.int .i64 c') := s0.cell 2
   -- pair
   apply share
   ·intro main
    go_region_held3 (fun w' => w'.cell? ⟨w.heap.size, 0, none⟩ = some (.int .i64 a) ∧ w'.cell? ⟨w.heap.size, 1, none⟩ = some (.int .i64 b) ∧ w'.cell? ⟨w.heap.size, 2, none⟩ = some (.int .i64 c) ∧ w'.cell? ⟨w.heap.size + 1, 0, none⟩ = some (.int .i64 a') ∧ w'.cell? ⟨w.heap.size + 1, 1, none⟩ = some (.int .i64 b') ∧ w'.cell? ⟨w.heap.size + 1, 2, none⟩ = some (.int .i64 c') ∧ Below wv.heap.size wv w') ((refine (fun hb => ⟨(hb.cell (p := ⟨_, _, none⟩) zF).trans f0, (hb.cell (p := ⟨_, _, none⟩) zF).trans f1, (hb.cell (p := ⟨_, _, none⟩) zF).trans f2, (hb.cell (p := ⟨_, _, none⟩) zT).trans t0, (hb.cell (p := ⟨_, _, none⟩) zT).trans t1, (hb.cell (p := ⟨_, _, none⟩) zT).trans t2, hb⟩) ?_; repeat (first | exact Below.refl _ _ | exact hBe | exact hBd | exact (show _ ∧ _ ∧ _ ∧ _ ∧ _ ∧ _ ∧ Below wv.heap.size wv _ by assumption).2.2.2.2.2.2 | refine Below.drew ?_ | refine below_alloc ?_ _ | (refine Below.setCell ?_ ?_ _; rotate_left; (first | (have hz := hBd.size; have hz' := hBe.size; show wv.heap.size ≤ _; simp only; omega) | (have hz := hBd.size; show wv.heap.size ≤ _; simp only; omega) | (show wv.heap.size ≤ _; simp only; omega)))))) (first | (go_at_call 121; (with_reducible refine (o1 _).mono ?_); rintro e wd ⟨rfl, hbd⟩; have hBd := below_call (show _ ∧ _ ∧ _ ∧ _ ∧ _ ∧ _ ∧ Below wv.heap.size wv _ by assumption).2.2.2.2.2.2 hbd; have hcd := (bcell hbd).1; have hfd := (bcell hbd).2; (try (refine lay_blk hbd (wv.heap.size) (t := 161) (cs := #[.int .i64 0, .int .i64 0]) ?_ ?_; (focus ((repeat (first | with_reducible exact Blk.new _ _ _ | (with_reducible refine Blk.newAt _ _ _ _ ?_; first | rfl | (simp; done)) | with_reducible (first | apply Blk.alloc | apply Blk.drewN | apply Blk.drew | assumption))); done)); intro lzP lcP lfP lbP)); (try (refine lay_blk hbd (wv.heap.size + 1) (t := 161) (cs := #[.int .i64 0, .int .i64 0]) ?_ ?_; (focus ((repeat (first | with_reducible exact Blk.new _ _ _ | (with_reducible refine Blk.newAt _ _ _ _ ?_; first | rfl | (simp; done)) | with_reducible (first | apply Blk.alloc | apply Blk.drewN | apply Blk.drew | assumption))); done)); intro lzQ lcQ lfQ lbQ))) | (go_at_call 121; (with_reducible refine (o2 _).mono ?_); rintro e we ⟨rfl, hbe⟩; have hBe := below_call (show _ ∧ _ ∧ _ ∧ _ ∧ _ ∧ _ ∧ Below wv.heap.size wv _ by assumption).2.2.2.2.2.2 hbe; have hce := (bcell hbe).1; have hfe := (bcell hbe).2; (try (refine lay_blk hbe (wv.heap.size) (t := 161) (cs := #[.int .i64 0, .int .i64 0]) ?_ ?_; (focus ((repeat (first | with_reducible exact Blk.new _ _ _ | (with_reducible refine Blk.newAt _ _ _ _ ?_; first | rfl | (simp; done)) | with_reducible (first | apply Blk.alloc | apply Blk.drewN | apply Blk.drew | assumption | apply Blk.kept (hb := hbd)))); done)); intro lzR lcR lfR lbR)); (try (refine lay_blk hbe (wv.heap.size + 1) (t := 161) (cs := #[.int .i64 0, .int .i64 0]) ?_ ?_; (focus ((repeat (first | with_reducible exact Blk.new _ _ _ | (with_reducible refine Blk.newAt _ _ _ _ ?_; first | rfl | (simp; done)) | with_reducible (first | apply Blk.alloc | apply Blk.drewN | apply Blk.drew | assumption | apply Blk.kept (hb := hbd)))); done)); intro lzS lcS lfS lbS)); (try (refine lay_blk hbe (wd.heap.size) (t := 161) (cs := #[.int .i64 0, .int .i64 0]) ?_ ?_; (focus ((repeat (first | with_reducible exact Blk.new _ _ _ | (with_reducible refine Blk.newAt _ _ _ _ ?_; first | rfl | (simp; done)) | with_reducible (first | apply Blk.alloc | apply Blk.drewN | apply Blk.drew | assumption))); done)); intro lzT lcT lfT lbT)); (try (refine lay_blk hbe (wd.heap.size + 1) (t := 161) (cs := #[.int .i64 0, .int .i64 0]) ?_ ?_; (focus ((repeat (first | with_reducible exact Blk.new _ _ _ | (with_reducible refine Blk.newAt _ _ _ _ ?_; first | rfl | (simp; done)) | with_reducible (first | apply Blk.alloc | apply Blk.drewN | apply Blk.drew | assumption))); done)); intro lzU lcU lfU lbU))))
    all_goals
     have hB5 := (show _ ∧ _ ∧ _ ∧ _ ∧ _ ∧ _ ∧ Below wv.heap.size wv _ by assumption).2.2.2.2.2.2
     have hz1 := hbd.size
     have hz2 := hbe.size
     simp at hz1 hz2
     obtain ⟨wx, hwx⟩ := name_world hB5
     rw [← hwx] at hB5 ⊢
     first
      | ((first | (refine pick_block (wv := wx) (lo := wv.heap.size) (t := 161) (wv.heap.size + 1) #[.int .i64 (7 * b + a), .int .i64 c] ?_ ?_ ?_; (focus omega); (focus (rw [hwx]; repeat (first | with_reducible exact Blk.new _ _ _ | (with_reducible refine Blk.newAt _ _ _ _ ?_; first | rfl | (simp; done)) | with_reducible (first | apply Blk.alloc | apply Blk.drewN | apply Blk.drew | apply Blk.set_to) | (with_reducible apply Blk.far_; (simp only [ne_eq]; omega)) | (with_reducible apply Blk.kept (hb := hbd)) | (with_reducible apply Blk.kept (hb := hbe)) | rfl))); intro gU hgU lU BU; rw [← hgU]; clear hgU) | (refine pick_block (wv := wx) (lo := wv.heap.size) (t := 161) (wd.heap.size + 1) #[.int .i64 (7 * b + a), .int .i64 c] ?_ ?_ ?_; (focus omega); (focus (rw [hwx]; repeat (first | with_reducible exact Blk.new _ _ _ | (with_reducible refine Blk.newAt _ _ _ _ ?_; first | rfl | (simp; done)) | with_reducible (first | apply Blk.alloc | apply Blk.drewN | apply Blk.drew | apply Blk.set_to) | (with_reducible apply Blk.far_; (simp only [ne_eq]; omega)) | (with_reducible apply Blk.kept (hb := hbd)) | (with_reducible apply Blk.kept (hb := hbe)) | rfl))); intro gU hgU lU BU; rw [← hgU]; clear hgU) | (refine pick_block (wv := wx) (lo := wv.heap.size) (t := 161) (we.heap.size + 1) #[.int .i64 (7 * b + a), .int .i64 c] ?_ ?_ ?_; (focus omega); (focus (rw [hwx]; repeat (first | with_reducible exact Blk.new _ _ _ | (with_reducible refine Blk.newAt _ _ _ _ ?_; first | rfl | (simp; done)) | with_reducible (first | apply Blk.alloc | apply Blk.drewN | apply Blk.drew | apply Blk.set_to) | (with_reducible apply Blk.far_; (simp only [ne_eq]; omega)) | (with_reducible apply Blk.kept (hb := hbd)) | (with_reducible apply Blk.kept (hb := hbe)) | rfl))); intro gU hgU lU BU; rw [← hgU]; clear hgU)); (first | (refine pick_block (wv := wx) (lo := wv.heap.size) (t := 161) (wv.heap.size + 1) #[.int .i64 (7 * b' + a'), .int .i64 c'] ?_ ?_ ?_; (focus omega); (focus (rw [hwx]; repeat (first | with_reducible exact Blk.new _ _ _ | (with_reducible refine Blk.newAt _ _ _ _ ?_; first | rfl | (simp; done)) | with_reducible (first | apply Blk.alloc | apply Blk.drewN | apply Blk.drew | apply Blk.set_to) | (with_reducible apply Blk.far_; (simp only [ne_eq]; omega)) | (with_reducible apply Blk.kept (hb := hbd)) | (with_reducible apply Blk.kept (hb := hbe)) | rfl))); intro gV hgV lV BV; rw [← hgV]; clear hgV) | (refine pick_block (wv := wx) (lo := wv.heap.size) (t := 161) (wd.heap.size + 1) #[.int .i64 (7 * b' + a'), .int .i64 c'] ?_ ?_ ?_; (focus omega); (focus (rw [hwx]; repeat (first | with_reducible exact Blk.new _ _ _ | (with_reducible refine Blk.newAt _ _ _ _ ?_; first | rfl | (simp; done)) | with_reducible (first | apply Blk.alloc | apply Blk.drewN | apply Blk.drew | apply Blk.set_to) | (with_reducible apply Blk.far_; (simp only [ne_eq]; omega)) | (with_reducible apply Blk.kept (hb := hbd)) | (with_reducible apply Blk.kept (hb := hbe)) | rfl))); intro gV hgV lV BV; rw [← hgV]; clear hgV) | (refine pick_block (wv := wx) (lo := wv.heap.size) (t := 161) (we.heap.size + 1) #[.int .i64 (7 * b' + a'), .int .i64 c'] ?_ ?_ ?_; (focus omega); (focus (rw [hwx]; repeat (first | with_reducible exact Blk.new _ _ _ | (with_reducible refine Blk.newAt _ _ _ _ ?_; first | rfl | (simp; done)) | with_reducible (first | apply Blk.alloc | apply Blk.drewN | apply Blk.drew | apply Blk.set_to) | (with_reducible apply Blk.far_; (simp only [ne_eq]; omega)) | (with_reducible apply Blk.kept (hb := hbd)) | (with_reducible apply Blk.kept (hb := hbe)) | rfl))); intro gV hgV lV BV; rw [← hgV]; clear hgV) | (refine pick_block (wv := wx) (lo := wv.heap.size) (t := 161) (wv.heap.size) #[.int .i64 (7 * b' + a'), .int .i64 c'] ?_ ?_ ?_; (focus omega); (focus (rw [hwx]; repeat (first | with_reducible exact Blk.new _ _ _ | (with_reducible refine Blk.newAt _ _ _ _ ?_; first | rfl | (simp; done)) | with_reducible (first | apply Blk.alloc | apply Blk.drewN | apply Blk.drew | apply Blk.set_to) | (with_reducible apply Blk.far_; (simp only [ne_eq]; omega)) | (with_reducible apply Blk.kept (hb := hbd)) | (with_reducible apply Blk.kept (hb := hbe)) | rfl))); intro gV hgV lV BV; rw [← hgV]; clear hgV) | (refine pick_block (wv := wx) (lo := wv.heap.size) (t := 161) (wd.heap.size) #[.int .i64 (7 * b' + a'), .int .i64 c'] ?_ ?_ ?_; (focus omega); (focus (rw [hwx]; repeat (first | with_reducible exact Blk.new _ _ _ | (with_reducible refine Blk.newAt _ _ _ _ ?_; first | rfl | (simp; done)) | with_reducible (first | apply Blk.alloc | apply Blk.drewN | apply Blk.drew | apply Blk.set_to) | (with_reducible apply Blk.far_; (simp only [ne_eq]; omega)) | (with_reducible apply Blk.kept (hb := hbd)) | (with_reducible apply Blk.kept (hb := hbe)) | rfl))); intro gV hgV lV BV; rw [← hgV]; clear hgV) | (refine pick_block (wv := wx) (lo := wv.heap.size) (t := 161) (we.heap.size) #[.int .i64 (7 * b' + a'), .int .i64 c'] ?_ ?_ ?_; (focus omega); (focus (rw [hwx]; repeat (first | with_reducible exact Blk.new _ _ _ | (with_reducible refine Blk.newAt _ _ _ _ ?_; first | rfl | (simp; done)) | with_reducible (first | apply Blk.alloc | apply Blk.drewN | apply Blk.drew | apply Blk.set_to) | (with_reducible apply Blk.far_; (simp only [ne_eq]; omega)) | (with_reducible apply Blk.kept (hb := hbd)) | (with_reducible apply Blk.kept (hb := hbe)) | rfl))); intro gV hgV lV BV; rw [← hgV]; clear hgV)); revert BV; revert lV; revert BU; revert lU; revert gV; revert gU; revert hB5; clear hwx; revert wx; exact main.out)
      | ((first | (refine pick_block (wv := wx) (lo := wv.heap.size) (t := 161) (wv.heap.size + 1) #[.int .i64 (7 * b' + a'), .int .i64 c'] ?_ ?_ ?_; (focus omega); (focus (rw [hwx]; repeat (first | with_reducible exact Blk.new _ _ _ | (with_reducible refine Blk.newAt _ _ _ _ ?_; first | rfl | (simp; done)) | with_reducible (first | apply Blk.alloc | apply Blk.drewN | apply Blk.drew | apply Blk.set_to) | (with_reducible apply Blk.far_; (simp only [ne_eq]; omega)) | (with_reducible apply Blk.kept (hb := hbd)) | (with_reducible apply Blk.kept (hb := hbe)) | rfl))); intro gV hgV lV BV; rw [← hgV]; clear hgV) | (refine pick_block (wv := wx) (lo := wv.heap.size) (t := 161) (wd.heap.size + 1) #[.int .i64 (7 * b' + a'), .int .i64 c'] ?_ ?_ ?_; (focus omega); (focus (rw [hwx]; repeat (first | with_reducible exact Blk.new _ _ _ | (with_reducible refine Blk.newAt _ _ _ _ ?_; first | rfl | (simp; done)) | with_reducible (first | apply Blk.alloc | apply Blk.drewN | apply Blk.drew | apply Blk.set_to) | (with_reducible apply Blk.far_; (simp only [ne_eq]; omega)) | (with_reducible apply Blk.kept (hb := hbd)) | (with_reducible apply Blk.kept (hb := hbe)) | rfl))); intro gV hgV lV BV; rw [← hgV]; clear hgV) | (refine pick_block (wv := wx) (lo := wv.heap.size) (t := 161) (we.heap.size + 1) #[.int .i64 (7 * b' + a'), .int .i64 c'] ?_ ?_ ?_; (focus omega); (focus (rw [hwx]; repeat (first | with_reducible exact Blk.new _ _ _ | (with_reducible refine Blk.newAt _ _ _ _ ?_; first | rfl | (simp; done)) | with_reducible (first | apply Blk.alloc | apply Blk.drewN | apply Blk.drew | apply Blk.set_to) | (with_reducible apply Blk.far_; (simp only [ne_eq]; omega)) | (with_reducible apply Blk.kept (hb := hbd)) | (with_reducible apply Blk.kept (hb := hbe)) | rfl))); intro gV hgV lV BV; rw [← hgV]; clear hgV)); (first | (refine pick_block (wv := wx) (lo := wv.heap.size) (t := 161) (wv.heap.size + 1) #[.int .i64 (7 * b + a), .int .i64 c] ?_ ?_ ?_; (focus omega); (focus (rw [hwx]; repeat (first | with_reducible exact Blk.new _ _ _ | (with_reducible refine Blk.newAt _ _ _ _ ?_; first | rfl | (simp; done)) | with_reducible (first | apply Blk.alloc | apply Blk.drewN | apply Blk.drew | apply Blk.set_to) | (with_reducible apply Blk.far_; (simp only [ne_eq]; omega)) | (with_reducible apply Blk.kept (hb := hbd)) | (with_reducible apply Blk.kept (hb := hbe)) | rfl))); intro gU hgU lU BU; rw [← hgU]; clear hgU) | (refine pick_block (wv := wx) (lo := wv.heap.size) (t := 161) (wd.heap.size + 1) #[.int .i64 (7 * b + a), .int .i64 c] ?_ ?_ ?_; (focus omega); (focus (rw [hwx]; repeat (first | with_reducible exact Blk.new _ _ _ | (with_reducible refine Blk.newAt _ _ _ _ ?_; first | rfl | (simp; done)) | with_reducible (first | apply Blk.alloc | apply Blk.drewN | apply Blk.drew | apply Blk.set_to) | (with_reducible apply Blk.far_; (simp only [ne_eq]; omega)) | (with_reducible apply Blk.kept (hb := hbd)) | (with_reducible apply Blk.kept (hb := hbe)) | rfl))); intro gU hgU lU BU; rw [← hgU]; clear hgU) | (refine pick_block (wv := wx) (lo := wv.heap.size) (t := 161) (we.heap.size + 1) #[.int .i64 (7 * b + a), .int .i64 c] ?_ ?_ ?_; (focus omega); (focus (rw [hwx]; repeat (first | with_reducible exact Blk.new _ _ _ | (with_reducible refine Blk.newAt _ _ _ _ ?_; first | rfl | (simp; done)) | with_reducible (first | apply Blk.alloc | apply Blk.drewN | apply Blk.drew | apply Blk.set_to) | (with_reducible apply Blk.far_; (simp only [ne_eq]; omega)) | (with_reducible apply Blk.kept (hb := hbd)) | (with_reducible apply Blk.kept (hb := hbe)) | rfl))); intro gU hgU lU BU; rw [← hgU]; clear hgU) | (refine pick_block (wv := wx) (lo := wv.heap.size) (t := 161) (wv.heap.size) #[.int .i64 (7 * b + a), .int .i64 c] ?_ ?_ ?_; (focus omega); (focus (rw [hwx]; repeat (first | with_reducible exact Blk.new _ _ _ | (with_reducible refine Blk.newAt _ _ _ _ ?_; first | rfl | (simp; done)) | with_reducible (first | apply Blk.alloc | apply Blk.drewN | apply Blk.drew | apply Blk.set_to) | (with_reducible apply Blk.far_; (simp only [ne_eq]; omega)) | (with_reducible apply Blk.kept (hb := hbd)) | (with_reducible apply Blk.kept (hb := hbe)) | rfl))); intro gU hgU lU BU; rw [← hgU]; clear hgU) | (refine pick_block (wv := wx) (lo := wv.heap.size) (t := 161) (wd.heap.size) #[.int .i64 (7 * b + a), .int .i64 c] ?_ ?_ ?_; (focus omega); (focus (rw [hwx]; repeat (first | with_reducible exact Blk.new _ _ _ | (with_reducible refine Blk.newAt _ _ _ _ ?_; first | rfl | (simp; done)) | with_reducible (first | apply Blk.alloc | apply Blk.drewN | apply Blk.drew | apply Blk.set_to) | (with_reducible apply Blk.far_; (simp only [ne_eq]; omega)) | (with_reducible apply Blk.kept (hb := hbd)) | (with_reducible apply Blk.kept (hb := hbe)) | rfl))); intro gU hgU lU BU; rw [← hgU]; clear hgU) | (refine pick_block (wv := wx) (lo := wv.heap.size) (t := 161) (we.heap.size) #[.int .i64 (7 * b + a), .int .i64 c] ?_ ?_ ?_; (focus omega); (focus (rw [hwx]; repeat (first | with_reducible exact Blk.new _ _ _ | (with_reducible refine Blk.newAt _ _ _ _ ?_; first | rfl | (simp; done)) | with_reducible (first | apply Blk.alloc | apply Blk.drewN | apply Blk.drew | apply Blk.set_to) | (with_reducible apply Blk.far_; (simp only [ne_eq]; omega)) | (with_reducible apply Blk.kept (hb := hbd)) | (with_reducible apply Blk.kept (hb := hbe)) | rfl))); intro gU hgU lU BU; rw [← hgU]; clear hgU)); revert BV; revert lV; revert BU; revert lU; revert gV; revert gU; revert hB5; clear hwx; revert wx; exact main.out)
      | ((first | (refine pick_block (wv := wx) (lo := wv.heap.size) (t := 161) (wv.heap.size) #[.int .i64 (7 * b + a), .int .i64 c] ?_ ?_ ?_; (focus omega); (focus (rw [hwx]; repeat (first | with_reducible exact Blk.new _ _ _ | (with_reducible refine Blk.newAt _ _ _ _ ?_; first | rfl | (simp; done)) | with_reducible (first | apply Blk.alloc | apply Blk.drewN | apply Blk.drew | apply Blk.set_to) | (with_reducible apply Blk.far_; (simp only [ne_eq]; omega)) | (with_reducible apply Blk.kept (hb := hbd)) | (with_reducible apply Blk.kept (hb := hbe)) | rfl))); intro gU hgU lU BU; rw [← hgU]; clear hgU) | (refine pick_block (wv := wx) (lo := wv.heap.size) (t := 161) (wd.heap.size) #[.int .i64 (7 * b + a), .int .i64 c] ?_ ?_ ?_; (focus omega); (focus (rw [hwx]; repeat (first | with_reducible exact Blk.new _ _ _ | (with_reducible refine Blk.newAt _ _ _ _ ?_; first | rfl | (simp; done)) | with_reducible (first | apply Blk.alloc | apply Blk.drewN | apply Blk.drew | apply Blk.set_to) | (with_reducible apply Blk.far_; (simp only [ne_eq]; omega)) | (with_reducible apply Blk.kept (hb := hbd)) | (with_reducible apply Blk.kept (hb := hbe)) | rfl))); intro gU hgU lU BU; rw [← hgU]; clear hgU) | (refine pick_block (wv := wx) (lo := wv.heap.size) (t := 161) (we.heap.size) #[.int .i64 (7 * b + a), .int .i64 c] ?_ ?_ ?_; (focus omega); (focus (rw [hwx]; repeat (first | with_reducible exact Blk.new _ _ _ | (with_reducible refine Blk.newAt _ _ _ _ ?_; first | rfl | (simp; done)) | with_reducible (first | apply Blk.alloc | apply Blk.drewN | apply Blk.drew | apply Blk.set_to) | (with_reducible apply Blk.far_; (simp only [ne_eq]; omega)) | (with_reducible apply Blk.kept (hb := hbd)) | (with_reducible apply Blk.kept (hb := hbe)) | rfl))); intro gU hgU lU BU; rw [← hgU]; clear hgU)); (first | (refine pick_block (wv := wx) (lo := wv.heap.size) (t := 161) (wv.heap.size) #[.int .i64 (7 * b' + a'), .int .i64 c'] ?_ ?_ ?_; (focus omega); (focus (rw [hwx]; repeat (first | with_reducible exact Blk.new _ _ _ | (with_reducible refine Blk.newAt _ _ _ _ ?_; first | rfl | (simp; done)) | with_reducible (first | apply Blk.alloc | apply Blk.drewN | apply Blk.drew | apply Blk.set_to) | (with_reducible apply Blk.far_; (simp only [ne_eq]; omega)) | (with_reducible apply Blk.kept (hb := hbd)) | (with_reducible apply Blk.kept (hb := hbe)) | rfl))); intro gV hgV lV BV; rw [← hgV]; clear hgV) | (refine pick_block (wv := wx) (lo := wv.heap.size) (t := 161) (wd.heap.size) #[.int .i64 (7 * b' + a'), .int .i64 c'] ?_ ?_ ?_; (focus omega); (focus (rw [hwx]; repeat (first | with_reducible exact Blk.new _ _ _ | (with_reducible refine Blk.newAt _ _ _ _ ?_; first | rfl | (simp; done)) | with_reducible (first | apply Blk.alloc | apply Blk.drewN | apply Blk.drew | apply Blk.set_to) | (with_reducible apply Blk.far_; (simp only [ne_eq]; omega)) | (with_reducible apply Blk.kept (hb := hbd)) | (with_reducible apply Blk.kept (hb := hbe)) | rfl))); intro gV hgV lV BV; rw [← hgV]; clear hgV) | (refine pick_block (wv := wx) (lo := wv.heap.size) (t := 161) (we.heap.size) #[.int .i64 (7 * b' + a'), .int .i64 c'] ?_ ?_ ?_; (focus omega); (focus (rw [hwx]; repeat (first | with_reducible exact Blk.new _ _ _ | (with_reducible refine Blk.newAt _ _ _ _ ?_; first | rfl | (simp; done)) | with_reducible (first | apply Blk.alloc | apply Blk.drewN | apply Blk.drew | apply Blk.set_to) | (with_reducible apply Blk.far_; (simp only [ne_eq]; omega)) | (with_reducible apply Blk.kept (hb := hbd)) | (with_reducible apply Blk.kept (hb := hbe)) | rfl))); intro gV hgV lV BV; rw [← hgV]; clear hgV)); revert BV; revert lV; revert BU; revert lU; revert gV; revert gU; revert hB5; clear hwx; revert wx; exact main.out)
      | (refine pick_two (lo := wv.heap.size) (t := 161) (z := .int .i64 0) (z' := .int .i64 0) (y := .int .i64 0) (y' := .int .i64 0) hwx ?_ ?_ ?_ ?_ ?_ ?_; (focus (simp only [ne_eq]; omega)); (focus (repeat (first | with_reducible exact Blk.new _ _ _ | (with_reducible refine Blk.newAt _ _ _ _ ?_; first | rfl | (simp; done)) | with_reducible (first | assumption | apply Blk.alloc | apply Blk.drewN | apply Blk.drew | apply Blk.kept (hb := hbe) | apply Blk.kept (hb := hbd))))); (focus (repeat (first | with_reducible exact Blk.new _ _ _ | (with_reducible refine Blk.newAt _ _ _ _ ?_; first | rfl | (simp; done)) | with_reducible (first | assumption | apply Blk.alloc | apply Blk.drewN | apply Blk.drew | apply Blk.kept (hb := hbe) | apply Blk.kept (hb := hbd))))); (focus omega); (focus omega); intro gU gV hU hV lU BU lV BV; first | (rw [← hV, ← hU]; revert BV; revert lV; revert BU; revert lU; clear hU hV; revert gV; revert gU; revert hB5; clear hwx; revert wx; exact main.out) | (rw [← hU, ← hV]; revert BV; revert lV; revert BU; revert lU; clear hU hV; revert gV; revert gU; revert hB5; clear hwx; revert wx; exact main.out))
   -- end
   intro wx K5 gU gV lU rU lV rV
   have K := below_call k0 K5
   have ht5 : Tabs wx := ht.kept K
   have rq := q0.kept K5
   have cU := rU.cell; have zU := rU.lt; have cV := rV.cell; have zV := rV.lt; have zq := rq.lt
   clear f0 f1 f2 t0 t1 t2 zF zT r0 s0 o1 o2 q0 K5 lU lV
   go_wp2_with fail
   refine wp_region_calm_tail 11 (by kernel_rfl) (by kernel_rfl) ?_
   simp only [List.take_succ_cons, List.take_zero, List.drop_succ_cons, List.drop_zero]
   repeat (go_big_quiet_step ((go_at_call 122; (first | with_reducible exact calm_call (z1 _ (ht5.kept (Calm.h _))) | with_reducible exact calm_call (z2 _ (ht5.kept (Calm.h _)))))))
   refine wpQuiet_nil ?_
   intro w6 hb6
   have r6 := rq.kept hb6
   have c6 := r6.cell; have f6 := r6.frozen; have l6 := r6.lt
   have k6 := below_call K hb6
   go_wp2
   refine ret_of (by simp [results, Tryz.results88, go_sem, *]; repeat' (first | rfl | apply And.intro)) rfl ⟨?_, by repeat (first | with_reducible (first | exact Below.refl _ _ | assumption | refine below_drewN ?_ _ | refine Below.drew ?_ | refine below_alloc ?_ _) | (with_reducible refine Below.setCell ?_ ?_ _; rotate_left; ((try simp only); omega)))⟩
   rw [NP.out]
  | k + 3, h => exact absurd h (by omega)
end Go.Proofs.YtpkmiegccfhpnaaGreatDoor
