
/- Maps keyed by arrays and structs of numbers, as functions of the numbers. -/
import Derived.Test.YtmlcnmnpkemdpaaDoorGround
import Derived.Maps.OwnOps
import Derived.Maps.Views
import Derived.WideKeyPair
import Derived.DeepKeys4
import Derived.LaidMore
namespace Go.Proofs.YtmlcnmnpkemdpaaDoor
open Go.RowKit Go.Maps Go.WideMaps
/-- A key of numbers. -/
def keyV (ks : List Int) : Value := .agg (ks.map (Value.int .i64)).toArray
def okI (x : Int) : Prop := -9223372036854775808 ≤ x ∧ x ≤ 9223372036854775807
def okK (c : Nat) (ks : List Int) : Prop := ks.length = c ∧ ∀ x ∈ ks, okI x
theorem okI_wf {x : Int} (h : okI x) : (Lit.int .i64 x).wf = true := WalkArith.wf_i64 (by unfold okI at h; omega)
theorem keyV_inj {a b : List Int} (h : keyV a = keyV b) : a = b := by
  unfold keyV at h
  have h1 : (a.map (Value.int .i64)) = (b.map (Value.int .i64)) := by
    have := Value.agg.inj h
    simpa using this
  clear h
  induction a generalizing b with
  | nil => cases b with
    | nil => rfl
    | cons y b => simp at h1
  | cons x a ih => cases b with
    | nil => simp at h1
    | cons y b =>
      rw [List.map_cons, List.map_cons, List.cons.injEq] at h1
      rw [ih h1.2, (Value.int.inj h1.1).2]
/-- A key's type of c numbers. -/
structure KeyT (K : TypeId) (c : Nat) : Prop where
  keyed : Keyed Tryd.prog K
  keys : ∀ ks, okK c ks → ∃ kl, keyOf Tryd.prog K (keyV ks) = some kl
theorem KeyT.ne {K : TypeId} {c : Nat} (h : KeyT K c) {a b : List Int} {la lb : Lit} (ha : keyOf Tryd.prog K (keyV a) = some la) (hb : keyOf Tryd.prog K (keyV b) = some lb) (hne : a ≠ b) : lb ≠ la := by
  rintro rfl
  exact hne (keyV_inj (h.keyed.inj ha hb))
def upd {α : Type} (f : List Int → α) (ks : List Int) (v : α) : List Int → α := fun x => if x = ks then v else f x
/-- Block b is a map of at most n entries that holds the numbers f. -/
def IntMap (w : World) (K : TypeId) (c b n : Nat) (f : List Int → Int) : Prop :=
  ∃ D : DataW Unit, w.ownsMap Tryd.prog K (plainElem Tryd.prog 3) b n D ∧ ∀ ks kl, okK c ks → keyOf Tryd.prog K (keyV ks) = some kl → D.atKey kl (.lit (.int .i64 0)) = .lit (.int .i64 (f ks))
def BoolMap (w : World) (K : TypeId) (c b n : Nat) (f : List Int → Bool) : Prop :=
  ∃ D : DataW Unit, w.ownsMap Tryd.prog K (plainElem Tryd.prog 4) b n D ∧ ∀ ks kl, okK c ks → keyOf Tryd.prog K (keyV ks) = some kl → D.atKey kl (.lit (.bool false)) = .lit (.bool (f ks))
theorem zero_int (w : World) : (zeroValue 3).run Tryd.prog w = .ok (.int .i64 0) w := by kernel_rfl
theorem zero_bool (w : World) : (zeroValue 4).run Tryd.prog w = .ok (.bool false) w := by kernel_rfl
theorem IntMap.made (w : World) (K : TypeId) (c : Nat) : IntMap (w.alloc (.map #[] 0)) K c w.heap.size 0 (fun _ => 0) := ⟨.map [], World.ownsMap_made _ _ _ _, fun _ _ _ _ => rfl⟩
theorem BoolMap.made (w : World) (K : TypeId) (c : Nat) : BoolMap (w.alloc (.map #[] 0)) K c w.heap.size 0 (fun _ => false) := ⟨.map [], World.ownsMap_made _ _ _ _, fun _ _ _ _ => rfl⟩
section
variable {w w' : World} {K : TypeId} {c b n : Nat}
theorem owns_below {R : Value → Option (DataW Unit × List MemPlace)} {D : DataW Unit} {B : Nat} (h : w.ownsMap Tryd.prog K R b n D) (hb : Below B w w') (hlt : b < B) : w'.ownsMap Tryd.prog K R b n D := by
  obtain ⟨es, clock, hblk, F, hs, hD⟩ := h
  exact ⟨es, clock, (hb.block b hlt).trans hblk, F, hs, hD⟩
theorem IntMap.lt {f : List Int → Int} (h : IntMap w K c b n f) : b < w.heap.size := by obtain ⟨D, h, _⟩ := h; exact h.lt
theorem BoolMap.lt {f : List Int → Bool} (h : BoolMap w K c b n f) : b < w.heap.size := by obtain ⟨D, h, _⟩ := h; exact h.lt
theorem IntMap.below {f : List Int → Int} {B : Nat} (h : IntMap w K c b n f) (hb : Below B w w') (hlt : b < B) : IntMap w' K c b n f := by
  obtain ⟨D, h, hf⟩ := h; exact ⟨D, owns_below h hb hlt, hf⟩
theorem BoolMap.below {f : List Int → Bool} {B : Nat} (h : BoolMap w K c b n f) (hb : Below B w w') (hlt : b < B) : BoolMap w' K c b n f := by
  obtain ⟨D, h, hf⟩ := h; exact ⟨D, owns_below h hb hlt, hf⟩
theorem IntMap.call {f : List Int → Int} (h : IntMap w K c b n f) (hb : Below w.heap.size w w') : IntMap w' K c b n f := h.below hb h.lt
theorem BoolMap.call {f : List Int → Bool} (h : BoolMap w K c b n f) (hb : Below w.heap.size w w') : BoolMap w' K c b n f := h.below hb h.lt
theorem IntMap.grown {f : List Int → Int} {row : Option Nat} (h : IntMap w K c b n f) (hg : w.grownBy w' row) (hne : some b ≠ row) : IntMap w' K c b n f := by
  obtain ⟨D, h, hf⟩ := h; exact ⟨D, h.kept hg hne, hf⟩
theorem BoolMap.grown {f : List Int → Bool} {row : Option Nat} (h : BoolMap w K c b n f) (hg : w.grownBy w' row) (hne : some b ≠ row) : BoolMap w' K c b n f := by
  obtain ⟨D, h, hf⟩ := h; exact ⟨D, h.kept hg hne, hf⟩
theorem IntMap.same {f g : List Int → Int} (h : IntMap w K c b n f) (e : ∀ ks, okK c ks → f ks = g ks) : IntMap w K c b n g := by
  obtain ⟨D, h, hf⟩ := h; exact ⟨D, h, fun ks kl h1 h2 => by rw [← e ks h1]; exact hf ks kl h1 h2⟩
theorem BoolMap.same {f g : List Int → Bool} (h : BoolMap w K c b n f) (e : ∀ ks, okK c ks → f ks = g ks) : BoolMap w K c b n g := by
  obtain ⟨D, h, hf⟩ := h; exact ⟨D, h, fun ks kl h1 h2 => by rw [← e ks h1]; exact hf ks kl h1 h2⟩
/-- What a look-up finds. -/
theorem IntMap.look {f : List Int → Int} (h : IntMap w K c b n f) (hk : KeyT K c) {T : TypeId} (ht : Tryd.prog.underlying T = some (.map K 3)) {ks : List Int} (ho : okK c ks) : (Instr.lookup T (.map (some b)) (keyV ks) false).run Tryd.prog w = .ok (.int .i64 (f ks)) w := by
  obtain ⟨D, h, hf⟩ := h
  obtain ⟨kl, hkl⟩ := hk.keys ks ho
  obtain ⟨x, hrun, hat, _⟩ := h.lookup_int hk.keyed ht Tryd.underlying3 (zero_int w) hkl
  rw [hf ks kl ho hkl] at hat
  have : f ks = x := by
    have := DataW.lit.inj hat
    exact (Lit.int.inj this).2
  rw [this]; exact hrun
set_option maxRecDepth 100000 in
theorem BoolMap.look {f : List Int → Bool} (h : BoolMap w K c b n f) (hk : KeyT K c) {T : TypeId} (ht : Tryd.prog.underlying T = some (.map K 4)) {ks : List Int} (ho : okK c ks) : (Instr.lookup T (.map (some b)) (keyV ks) false).run Tryd.prog w = .ok (.bool (f ks)) w := by
  obtain ⟨D, h, hf⟩ := h
  obtain ⟨kl, hkl⟩ := hk.keys ks ho
  obtain ⟨v, ps, hrun, hat⟩ := h.lookup hk.keyed ht (zero_bool w) (plainElem_bool Tryd.underlying4 false) hkl
  rw [hf ks kl ho hkl] at hat
  have hv : v = .bool (f ks) := by
    unfold plainElem at hat
    rw [Tryd.underlying4] at hat
    cases v <;> simp at hat
    rw [hat.1]
  rw [hrun, hv]
end
section
variable {w : World} {ops : Array Oper} {rest : List Oper} {o : Oper} {a : Act} {Q : Exit → Act → World → Prop} {K : TypeId} {c b n : Nat}
theorem wpList_look {T : TypeId} (hg : o.guard = none) (m x : Operand) (hop : o.op = Op.lookup T m x false) {f : List Int → Int} (h : IntMap w K c b n f) (hk : KeyT K c) (ht : Tryd.prog.underlying T = some (.map K 3)) (ks : List Int) (ho : okK c ks)
    (hm : a.eval m = .map (some b)) (hx : a.eval x = keyV ks) (hK : wpList Tryd.prog ops Q rest (a.put o.dst (.int .i64 (f ks))) w) : wpList Tryd.prog ops Q (o :: rest) a w := by
  refine wpList_plain hg fun K' hK' => ?_
  have hrun := h.look hk ht ho
  unfold Oper.wp
  simp [execOp, hop, hm, hx, hrun, Result.andThen]
  exact hK' _ _ hK
theorem wpList_lookB {T : TypeId} (hg : o.guard = none) (m x : Operand) (hop : o.op = Op.lookup T m x false) {f : List Int → Bool} (h : BoolMap w K c b n f) (hk : KeyT K c) (ht : Tryd.prog.underlying T = some (.map K 4)) (ks : List Int) (ho : okK c ks)
    (hm : a.eval m = .map (some b)) (hx : a.eval x = keyV ks) (hK : wpList Tryd.prog ops Q rest (a.put o.dst (.bool (f ks))) w) : wpList Tryd.prog ops Q (o :: rest) a w := by
  refine wpList_plain hg fun K' hK' => ?_
  have hrun := h.look hk ht ho
  unfold Oper.wp
  simp [execOp, hop, hm, hx, hrun, Result.andThen]
  exact hK' _ _ hK
theorem put_at {D : DataW Unit} {R : Value → Option (DataW Unit × List MemPlace)} (h : w.ownsMap Tryd.prog K R b n D) (hk : KeyT K c) {ks : List Int} {kl : Lit} (hkl : keyOf Tryd.prog K (keyV ks) = some kl) (d z : DataW Unit) {ks' : List Int} {kl' : Lit} (hkl' : keyOf Tryd.prog K (keyV ks') = some kl') :
    (D.put kl d).atKey kl' z = if ks' = ks then d else D.atKey kl' z := by
  by_cases e : ks' = ks
  · subst e
    rw [hkl] at hkl'
    cases hkl'
    rw [if_pos rfl]
    obtain ⟨es, clock, _, _, _, hD⟩ := h
    exact atKey_put_same ⟨_, hD⟩ (hk.keyed.key hkl) _ _
  · rw [if_neg e]
    exact atKey_put_other (fun e' => hk.ne hkl hkl' (fun e2 => e e2.symm) e') _ _
theorem wpList_put {T : TypeId} (hg : o.guard = none) (m x v : Operand) (hop : o.op = Op.mapUpdate T m x v) {f : List Int → Int} (h : IntMap w K c b n f) (hk : KeyT K c) (ht : Tryd.prog.underlying T = some (.map K 3)) (hn : n < maxLen) (ks : List Int) (ho : okK c ks) (y : Int) (hy : okI y)
    (hm : a.eval m = .map (some b)) (hx : a.eval x = keyV ks) (hv : a.eval v = .int .i64 y) (hK : ∀ w', IntMap w' K c b (n + 1) (upd f ks y) → w.grownBy w' (some b) → wpList Tryd.prog ops Q rest (a.put o.dst undef) w') : wpList Tryd.prog ops Q (o :: rest) a w := by
  obtain ⟨D, h, hf⟩ := h
  obtain ⟨kl, hkl⟩ := hk.keys ks ho
  refine wpList_mapUpdate_own w hg m x v T hop K 3 hk.keyed ht (plainElem Tryd.prog 3) b n D hm h hn _ _ kl hx hv hkl (.lit (.int .i64 y)) [] (plainElem_int Tryd.underlying3 (okI_wf hy)) ?_
  intro w' h1 h2
  refine hK w' ⟨_, h1, fun ks' kl' ho' hkl' => ?_⟩ h2
  rw [put_at h hk hkl _ _ hkl']
  unfold upd
  split
  · rfl
  · exact hf ks' kl' ho' hkl'
theorem wpList_putB {T : TypeId} (hg : o.guard = none) (m x v : Operand) (hop : o.op = Op.mapUpdate T m x v) {f : List Int → Bool} (h : BoolMap w K c b n f) (hk : KeyT K c) (ht : Tryd.prog.underlying T = some (.map K 4)) (hn : n < maxLen) (ks : List Int) (ho : okK c ks) (y : Bool)
    (hm : a.eval m = .map (some b)) (hx : a.eval x = keyV ks) (hv : a.eval v = .bool y) (hK : ∀ w', BoolMap w' K c b (n + 1) (upd f ks y) → w.grownBy w' (some b) → wpList Tryd.prog ops Q rest (a.put o.dst undef) w') : wpList Tryd.prog ops Q (o :: rest) a w := by
  obtain ⟨D, h, hf⟩ := h
  obtain ⟨kl, hkl⟩ := hk.keys ks ho
  refine wpList_mapUpdate_own w hg m x v T hop K 4 hk.keyed ht (plainElem Tryd.prog 4) b n D hm h hn _ _ kl hx hv hkl (.lit (.bool y)) [] (plainElem_bool Tryd.underlying4 y) ?_
  intro w' h1 h2
  refine hK w' ⟨_, h1, fun ks' kl' ho' hkl' => ?_⟩ h2
  rw [put_at h hk hkl _ _ hkl']
  unfold upd
  split
  · rfl
  · exact hf ks' kl' ho' hkl'
end
/-! ### The key's types -/
theorem laidOutM : laidOutB Tryd.prog = true := by kernel_rfl
set_option maxRecDepth 100000 in
theorem keyed_at {K : TypeId} (h1 : K < Tryd.prog.types.size) (h2 : Tryd.prog.keyTypeAt 3 K = true) (h3 : (match Tryd.prog.underlying K with | some (.array _ _) | some (.struct _) => true | _ => false) = true) : Keyed Tryd.prog K := Keyed.of_law (deep_law_laid laidOutM (m := 3) (by omega) h1 h2 h3)
theorem int_lits {d : Nat} {x : Int} (h : okI x) : Tryd.prog.keyLits (d + 1) 3 [.int .i64 x] = some [.int .i64 x] := by
  unfold Program.keyLits
  rw [Tryd.underlying3]
  simp [okI_wf h]
theorem cells_int : Tryd.prog.cellsOf 3 = 1 := by kernel_rfl
theorem types_some : ∃ m, Tryd.prog.types.size = m + 1 := ⟨Tryd.prog.types.size - 1, by have : 0 < Tryd.prog.types.size := of_decide_eq_true (by kernel_rfl); omega⟩
set_option maxRecDepth 100000 in
theorem key_two : KeyT 94 2 where
  keyed := keyed_at (of_decide_eq_true (by kernel_rfl)) (by kernel_rfl) (by kernel_rfl)
  keys := by
    rintro ks ⟨hl, hx⟩
    match ks, hl with
    | [a, b], _ =>
      obtain ⟨m, hm⟩ := types_some
      have ha := hx a (by simp)
      have hb := hx b (by simp)
      have hcs : Tryd.prog.cellsOf 94 = 2 := by kernel_rfl
      have hkt : Tryd.prog.keyType 94 = true := by kernel_rfl
      obtain ⟨m', rfl⟩ : ∃ m', m = m' + 1 := ⟨m - 1, by have : 1 < Tryd.prog.types.size := of_decide_eq_true (by kernel_rfl); omega⟩
      refine Option.isSome_iff_exists.1 ?_
      unfold keyOf
      simp only [Tryd.underlying94]
      rw [if_pos (by simp [hkt, keyV, Value.formed, Tryd.underlying94, hcs]), hm]
      unfold Program.keyLits keyV
      simp only [Tryd.underlying94, Value.cells]
      rw [if_pos (by rw [hcs]; rfl), show List.range 2 = [0, 1] from rfl]
      have la := fun e => int_lits (d := e) ha
      have lb := fun e => int_lits (d := e) hb
      simp [List.mapM_cons, List.mapM_nil, cells_int, la, lb]
set_option maxRecDepth 100000 in
theorem key_four : KeyT 105 4 where
  keyed := keyed_at (of_decide_eq_true (by kernel_rfl)) (by kernel_rfl) (by kernel_rfl)
  keys := by
    rintro ks ⟨hl, hx⟩
    match ks, hl with
    | [a, b, c, d], _ =>
      obtain ⟨m, hm⟩ := types_some
      have ha := hx a (by simp)
      have hb := hx b (by simp)
      have hc := hx c (by simp)
      have hd := hx d (by simp)
      have hcs : Tryd.prog.cellsOf 105 = 4 := by kernel_rfl
      have hkt : Tryd.prog.keyType 105 = true := by kernel_rfl
      obtain ⟨m', rfl⟩ : ∃ m', m = m' + 1 := ⟨m - 1, by have : 1 < Tryd.prog.types.size := of_decide_eq_true (by kernel_rfl); omega⟩
      refine Option.isSome_iff_exists.1 ?_
      unfold keyOf
      simp only [Tryd.underlying105]
      rw [if_pos (by simp [hkt, keyV, Value.formed, Tryd.underlying105, hcs]), hm]
      unfold Program.keyLits keyV
      simp only [Tryd.underlying105, Value.cells]
      rw [if_pos (by rw [hcs]; rfl), show List.range 4 = [0, 1, 2, 3] from rfl]
      have la := fun e => int_lits (d := e) ha
      have lb := fun e => int_lits (d := e) hb
      have lc := fun e => int_lits (d := e) hc
      have ld := fun e => int_lits (d := e) hd
      simp [List.mapM_cons, List.mapM_nil, cells_int, la, lb, lc, ld]
set_option maxRecDepth 100000 in
theorem key_met : KeyT 109 4 where
  keyed := keyed_at (of_decide_eq_true (by kernel_rfl)) (by kernel_rfl) (by kernel_rfl)
  keys := by
    rintro ks ⟨hl, hx⟩
    match ks, hl with
    | [a, b, c, d], _ =>
      obtain ⟨m, hm⟩ := types_some
      have ha := hx a (by simp)
      have hb := hx b (by simp)
      have hc := hx c (by simp)
      have hd := hx d (by simp)
      have hcs : Tryd.prog.cellsOf 109 = 4 := by kernel_rfl
      have hkt : Tryd.prog.keyType 109 = true := by kernel_rfl
      obtain ⟨m', rfl⟩ : ∃ m', m = m' + 1 := ⟨m - 1, by have : 1 < Tryd.prog.types.size := of_decide_eq_true (by kernel_rfl); omega⟩
      refine Option.isSome_iff_exists.1 ?_
      unfold keyOf
      simp only [Tryd.underlying109]
      rw [if_pos (by simp [hkt, keyV, Value.formed, Tryd.underlying109, hcs]), hm]
      unfold Program.keyLits keyV
      simp only [Tryd.underlying109, Value.cells]
      rw [if_pos ⟨by rw [hcs]; rfl, by simp⟩]
      have la := fun e => int_lits (d := e) ha
      have lb := fun e => int_lits (d := e) hb
      have lc := fun e => int_lits (d := e) hc
      have ld := fun e => int_lits (d := e) hd
      simp [List.mapM_cons, List.mapM_nil, cells_int, la, lb, lc, ld]
end Go.Proofs.YtmlcnmnpkemdpaaDoor
