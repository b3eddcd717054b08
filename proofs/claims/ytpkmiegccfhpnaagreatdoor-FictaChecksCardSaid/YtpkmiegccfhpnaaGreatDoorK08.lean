/- Parts of the proofs of layer 31: AlTimes, CaBase, CaClaus. -/
import Derived.Test.YtpkmiegccfhpnaaGreatDoorK03
import Derived.IntWalk
import Derived.Test.YtpkmiegccfhpnaaGreatDoorK05
import Derived.Test.YtpkmiegccfhpnaaGreatDoorK07
import Derived.Deep.LoopGhost
import Derived.Carry
namespace Go.Proofs.YtpkmiegccfhpnaaGreatDoor
open Go.RowKit
set_option maxRecDepth 100000 in
theorem tm_info : (Tryz.prog.info? 45).map (fun i => (i.zero, i.size, i.bytes)) = some (some (.agg #[.int .i64 0, .int .i64 0]), 2, 16) := by kernel_rfl
theorem one_csT (l : List (Int × Int)) : ∀ u ∈ csT l, u.oneCell' = true := by
  intro u hu
  obtain ⟨t, _, ht⟩ := List.mem_flatMap.1 hu
  simp [cT] at ht
  rcases ht with rfl | rfl <;> rfl
theorem csT_append (l m : List (Int × Int)) : csT (l ++ m) = csT l ++ csT m := by unfold csT; rw [List.flatMap_append]
theorem csT_len (l : List (Int × Int)) : (csT l).length = l.length * 2 := flat_len cT 2 (fun _ => rfl) l
theorem Reads.tlen {w : World} {B n : Nat} {A : Option Addr} {l : List Tm} (h : Reads w B 2 A n (csT l)) : l.length = n := h.len (size := 2) (l := l) (f := cT) (fun _ => rfl) (by decide)
/-- Element k of a slice of times. -/
theorem Reads.tm {w W : World} {B n : Nat} {A : Option Addr} {l : List Tm} (h : Reads w B 2 A n (csT l)) (hB : B ≤ w.heap.size) (hb : Below w.heap.size w W) {k : Nat} {x : Tm} (hk : k < n) (hx : l[k]? = some x) :
    ∃ b off, A = some ⟨b, off, none⟩ ∧ b < W.heap.size ∧ W.cell? ⟨b, off + k * 2, none⟩ = some (.int .i64 x.1) ∧ W.cell? ⟨b, off + k * 2 + 1, none⟩ = some (.int .i64 x.2) := by
  obtain ⟨b, off, hA, hbB, hc⟩ := h.elem (f := cT) (fun _ => rfl) hk hx
  have hall : ∀ j u, (cT x)[j]? = some u → W.cell? ⟨b, off + k * 2 + j, none⟩ = some u := fun j u hj => by
    rw [hb.cell (by simp; omega), Nat.add_assoc]
    exact hc j u hj
  exact ⟨b, off, hA, by have := hb.size; omega, hall 0 _ rfl, hall 1 _ rfl⟩
theorem reads_drop2 {w : World} {B n k : Nat} {A : Option Addr} {l : List Tm} (h : Reads w B 2 A n (csT l)) (hk : k ≤ n) (A' : Option Addr) (hA : ∀ b off, A = some ⟨b, off, none⟩ → k < n → A' = some ⟨b, off + k * 2, none⟩) : Reads w B 2 A' (n - k) (csT (l.drop k)) := by
  have hl := h.tlen
  refine ⟨by rw [csT_len, List.length_drop]; omega, fun h0 => ?_⟩
  obtain ⟨b, off, e, hb, hc⟩ := h.2 (by omega)
  refine ⟨b, off + k * 2, hA b off e (by omega), hb, fun j u hu => ?_⟩
  rw [Nat.add_assoc]
  refine hc (k * 2 + j) u ?_
  have e2 : csT l = csT (l.take k) ++ csT (l.drop k) := by rw [← csT_append, List.take_append_drop]
  have e3 : (csT (l.take k)).length = k * 2 := by rw [csT_len, List.length_take]; omega
  rw [e2, List.getElem?_append_right (by omega), e3, show k * 2 + j - k * 2 = j by omega, hu]
set_option maxRecDepth 100000 in
/-- s[:k] -/
theorem tm_head (A : Option Addr) (k n c : Nat) (h : k ≤ c) : ∃ A' : Option Addr, A' = A ∧
    ∀ W : World, (Instr.slice 88 (.slice A n c) none (some (.int .i64 (k : Int))) none).run Tryz.prog W = .ok (.slice A' k c) W := by
  refine ⟨A, rfl, fun W => ?_⟩
  rw [run_slice_h W 88 _ _ _ Tryz.underlying88 .i64 _ (by omega) (by omega), show (Go.sizeOf (Tryz.prog.elem 88)).run Tryz.prog W = .ok 2 W by kernel_rfl]
  have ha : A.map (fun a => a.add 0) = A := by cases A <;> simp [Addr.add]
  by_cases hne : c = 0 <;> simp [Result.andThen, sliced, hne, ha]
set_option maxRecDepth 100000 in
/-- s[k:] -/
theorem tm_tail (A : Option Addr) (k n c : Nat) (h : k ≤ n) (hc : n ≤ c) : ∃ A' : Option Addr, (∀ b off, A = some ⟨b, off, none⟩ → k < n → A' = some ⟨b, off + k * 2, none⟩) ∧
    ∀ W : World, (Instr.slice 88 (.slice A n c) (some (.int .i64 (k : Int))) none none).run Tryz.prog W = .ok (.slice A' (n - k) (c - k)) W := by
  refine ⟨if c = k then A else A.map (·.add (k * 2)), fun b off e h0 => by rw [if_neg (by omega), e]; simp [Addr.add], fun W => ?_⟩
  rw [run_slice_l W 88 _ _ _ Tryz.underlying88 .i64 _ (by omega) (by omega), show (Go.sizeOf (Tryz.prog.elem 88)).run Tryz.prog W = .ok 2 W by kernel_rfl]
  by_cases hne : c = k <;> simp [Result.andThen, sliced, hne]
/-! ### Appends in a drawn region -/
theorem Blk.grow {w w' : World} {g : Nat} {t : TypeId} {cs : Array Value} {row : Option Nat} (h : Blk w g t cs) (hg : w.grownBy w' row) (hne : some g ≠ row) : Blk w' g t cs := (hg.block g h.lt hne).trans h
/-- A slice of times, and its capacity. -/
def ReadsT (w : World) (v : Value) (l : List Tm) : Prop := ∃ A c, v = .slice A l.length c ∧ Reads w w.heap.size 2 A l.length (csT l) ∧ l.length ≤ c ∧ c ≤ 9223372036854775807
theorem ReadsT.kept {w w' : World} {v : Value} {l : List Tm} (h : ReadsT w v l) (hb : Below w.heap.size w w') : ReadsT w' v l := by
  obtain ⟨A, c, e, hr, h1, h2⟩ := h
  exact ⟨A, c, e, (hr.below (Nat.le_refl _) hb).more hb.size, h1, h2⟩
theorem ReadsT.nil_ (w : World) : ReadsT w (.slice none 0 0) [] := ⟨none, 0, rfl, Reads.none_, by simp, by omega⟩
theorem ReadsT.own {w : World} {base n : Nat} {v : Value} {l : List Tm} (h : w.ownsRow base 45 2 v n (csT l)) (hn : l.length = n) : ReadsT w v l := by
  obtain ⟨A, c, e, hr, h1, h2⟩ := own_reads h
  subst e hn
  unfold maxLen at h2
  exact ⟨A, c, rfl, hr, h1, by omega⟩
end Go.Proofs.YtpkmiegccfhpnaaGreatDoor
namespace Go.Proofs.YtpkmiegccfhpnaaGreatDoor
open Go.RowKit
set_option maxRecDepth 100000 in
set_option maxHeartbeats 2000000 in
theorem cbtw_ok (p q : Int × Int × Int) (hp : pchk p = 0) (hq : pchk q = 0) (w : World) (ht : Tabs w) :
    Calls Tryz.prog 114 #[vP p, vP q] w fun e w' => e = .returned (.agg #[.int .i64 (btw p q).1, .int .i64 (btw p q).2]) ∧ Below w.heap.size w w' := by
  have q1 := btw_ok p q hp hq
  obtain ⟨⟨s, h⟩, hs⟩ : ∃ t, t = btw p q := ⟨_, rfl⟩
  rw [← hs] at q1 ⊢
  obtain ⟨a, b, c⟩ := p
  obtain ⟨a', b', c'⟩ := q
  clear hs hp hq
  simp only at q1
  go_enter Tryz.func114, Tryz.ntmps114
  go_wp2_with fail
  refine Calls.mono (q1 _ ?_) ?_
  · exact ht.kept (by repeat (first | exact Below.refl _ _ | refine below_drewN ?_ _ | refine Below.drew ?_ | refine below_alloc ?_ _ | (refine below_call ?_ (by assumption)) | (refine Below.setCell ?_ ?_ _; rotate_left; (simp; try omega))))
  rintro e w1 ⟨rfl, hb1⟩
  have BP1 : Blk w1 (w.heap.size) 47 #[.int .i64 a, .int .i64 b, .int .i64 c] := by
    refine Blk.kept ?_ hb1
    repeat (first | with_reducible exact Blk.new _ _ _ | (with_reducible refine Blk.newAt _ _ _ _ ?_; first | rfl | (simp; done)) | with_reducible apply Blk.alloc | with_reducible apply Blk.drewN | with_reducible apply Blk.drew | with_reducible apply Blk.set_to | (with_reducible apply Blk.far_; (simp only [ne_eq]; omega)) | rfl)
  have cP0_1 : w1.cell? ⟨w.heap.size, 0, none⟩ = some (.int .i64 a) := BP1.cell 0
  have cP1_1 : w1.cell? ⟨w.heap.size, 1, none⟩ = some (.int .i64 b) := BP1.cell 1
  have cP2_1 : w1.cell? ⟨w.heap.size, 2, none⟩ = some (.int .i64 c) := BP1.cell 2
  have lP1 : w.heap.size < w1.heap.size := BP1.lt
  have mP1 : w.heap.size < w1.heap.size + 1 := by omega
  have nP1 : w.heap.size < w1.heap.size + 1 + 1 := by omega
  have BQ1 : Blk w1 (w.heap.size + 1) 47 #[.int .i64 a', .int .i64 b', .int .i64 c'] := by
    refine Blk.kept ?_ hb1
    repeat (first | with_reducible exact Blk.new _ _ _ | (with_reducible refine Blk.newAt _ _ _ _ ?_; first | rfl | (simp; done)) | with_reducible apply Blk.alloc | with_reducible apply Blk.drewN | with_reducible apply Blk.drew | with_reducible apply Blk.set_to | (with_reducible apply Blk.far_; (simp only [ne_eq]; omega)) | rfl)
  have cQ0_1 : w1.cell? ⟨w.heap.size + 1, 0, none⟩ = some (.int .i64 a') := BQ1.cell 0
  have cQ1_1 : w1.cell? ⟨w.heap.size + 1, 1, none⟩ = some (.int .i64 b') := BQ1.cell 1
  have cQ2_1 : w1.cell? ⟨w.heap.size + 1, 2, none⟩ = some (.int .i64 c') := BQ1.cell 2
  have lQ1 : w.heap.size + 1 < w1.heap.size := BQ1.lt
  have mQ1 : w.heap.size + 1 < w1.heap.size + 1 := by omega
  have nQ1 : w.heap.size + 1 < w1.heap.size + 1 + 1 := by omega
  have BR1 : Blk w1 (w.heap.size + 1 + 1) 131 #[.int .i64 0, .int .i64 0] := by
    refine Blk.kept ?_ hb1
    repeat (first | with_reducible exact Blk.new _ _ _ | (with_reducible refine Blk.newAt _ _ _ _ ?_; first | rfl | (simp; done)) | with_reducible apply Blk.alloc | with_reducible apply Blk.drewN | with_reducible apply Blk.drew | with_reducible apply Blk.set_to | (with_reducible apply Blk.far_; (simp only [ne_eq]; omega)) | rfl)
  have cR0_1 : w1.cell? ⟨w.heap.size + 1 + 1, 0, none⟩ = some (.int .i64 0) := BR1.cell 0
  have cR1_1 : w1.cell? ⟨w.heap.size + 1 + 1, 1, none⟩ = some (.int .i64 0) := BR1.cell 1
  have lR1 : w.heap.size + 1 + 1 < w1.heap.size := BR1.lt
  have mR1 : w.heap.size + 1 + 1 < w1.heap.size + 1 := by omega
  have nR1 : w.heap.size + 1 + 1 < w1.heap.size + 1 + 1 := by omega
  have fR0_1 := BR1.frozen 0
  have fR1_1 := BR1.frozen 1
  have eRP1 : w.heap.size + 1 + 1 ≠ w.heap.size := by omega
  have ePR1 : w.heap.size ≠ w.heap.size + 1 + 1 := by omega
  have eRQ1 : w.heap.size + 1 + 1 ≠ w.heap.size + 1 := by omega
  have eQR1 : w.heap.size + 1 ≠ w.heap.size + 1 + 1 := by omega
  have hs1 : w.heap.size ≤ w1.heap.size := by have h := hb1.size; (try simp at h); omega
  have kb : Below w.heap.size w w1 := by repeat (first | exact Below.refl _ _ | refine below_drewN ?_ _ | refine Below.drew ?_ | refine below_alloc ?_ _ | (refine below_call ?_ (by assumption)) | (refine Below.setCell ?_ ?_ _; rotate_left; (simp; try omega)))
  go_wp2
  refine ret_of (by simp [results, Tryz.results114, go_sem, *]; repeat' (first | rfl | apply And.intro)) rfl ⟨rfl, by repeat (first | with_reducible exact Below.refl _ _ | with_reducible assumption | with_reducible refine below_drewN ?_ _ | with_reducible refine Below.drew ?_ | with_reducible refine below_alloc ?_ _ | (with_reducible refine Below.setCell ?_ ?_ _; rotate_left; ((try simp only); omega)))⟩
/-- The kinds of clausulae by their steps. -/
def clF (s : Int) : Option Int := if clOf s = 0 then none else some (clOf s)
theorem clF_eq (s : Int) : updO (updO (updO (updO (fun _ => none) 1 1) (-1) 2) 3 3) (-4) 3 s = clF s := by
  unfold clF clOf updO
  by_cases h1 : s = 1
  · subst h1; decide
  · by_cases h2 : s = -1
    · subst h2; decide
    · by_cases h3 : s = 3
      · subst h3; decide
      · by_cases h4 : s = -4
        · subst h4; decide
        · simp [h1, h2, h3, h4]
def MapRet {γ β : Type} {K : TypeId} (G : KeyG γ K) (T : ElemT β) (n : Nat) (f : γ → Option β) (w : World) (e : Ending) (w' : World) : Prop :=
  ∃ b, e = .returned (.map (some b)) ∧ w.heap.size ≤ b ∧ TMap w' G T b n f ∧ Below w.heap.size w w'
theorem wpList_tins {γ β : Type} [DecidableEq γ] {K : TypeId} {G : KeyG γ K} {T : ElemT β} {w : World} {b n : Nat} {f : γ → Option β} {ops : Array Oper} {rest : List Oper} {o : Oper} {a : Act} {Q : Exit → Act → World → Prop} {t E : TypeId} (hg : o.guard = none) (m x v : Operand) (hop : o.op = Op.insert t m x v) (h : TMap w G T b n f) (ht : Tryz.prog.underlying t = some (.map K E)) (hn : n < maxLen) (k : γ) (hk : G.ok k) (y : β) (hy : T.ok y)
    (hm : a.eval m = .map (some b)) (hx : a.eval x = G.enc k) (hv : a.eval v = T.enc y) (hK : ∀ w', TMap w' G T b (n + 1) (updO f k y) → w.grownBy w' (some b) → wpList Tryz.prog ops Q rest (a.put o.dst undef) w') : wpList Tryz.prog ops Q (o :: rest) a w := by
  obtain ⟨D, h, hf⟩ := h
  obtain ⟨kl, hkl⟩ := G.keys k hk
  refine wpList_plain hg fun K' hK' => ?_
  obtain ⟨w', hrun, r1, r2⟩ := h.update G.keyed ht hn hkl (T.here y hy)
  unfold Oper.wp
  simp [execOp, hop, hm, hx, hv, hrun, Result.andThen]
  exact hK' _ _ (hK w' ⟨_, r1, hf.put h.isMap hkl y⟩ r2)
theorem below_grown {B b : Nat} {a w w' : World} (h : Below B a w) (hg : w.grownBy w' (some b)) (hb : B ≤ b) (hB : B ≤ w.heap.size) : Below B a w' :=
  ⟨hg.os.trans h.os, hg.tape.trans h.tape, hg.output.trans h.output, Nat.le_trans h.size hg.size, fun i hi => (hg.block i (by omega) (fun e => by cases e; omega)).trans (h.block i hi)⟩
set_option maxRecDepth 100000 in
set_option maxHeartbeats 2000000 in
theorem kinds_any (w : World) : Calls Tryz.prog 156 #[] w fun e w' => MapRet keyInt elemInt 4 clF w e w' := by
  have m0 := TMap.made w keyInt elemInt
  have k0 : Below w.heap.size w (w.alloc (.map #[] 0)) := by repeat (first | with_reducible exact Below.refl _ _ | with_reducible assumption | with_reducible refine below_drewN ?_ _ | with_reducible refine Below.drew ?_ | with_reducible refine below_alloc ?_ _ | (with_reducible refine Below.setCell ?_ ?_ _; rotate_left; ((try simp only); omega)))
  have z0 : w.heap.size + 1 = (w.alloc (.map #[] 0)).heap.size := by simp
  have o1 : ∀ x : Int, -100 ≤ x → x ≤ 100 → okI x := fun x _ _ => by unfold okI; omega
  have hmm := @run_makeMap Tryz.prog
  go_enter Tryz.func156, Tryz.ntmps156
  go_wp2_with (first
    | (refine wpList_tins rfl (.tmp 1) (.const (.int .i64 (1))) (.const (.int .i64 (1))) rfl m0 Tryz.underlying202 (by simp only [maxLen]; omega) (1 : Int) (o1 _ (by omega) (by omega)) (1 : Int) (o1 _ (by omega) (by omega)) rfl rfl rfl ?_; intro w1 m1 g1)
    | (refine wpList_tins rfl (.tmp 1) (.const (.int .i64 (-1))) (.const (.int .i64 (2))) rfl m1 Tryz.underlying202 (by simp only [maxLen]; omega) (-1 : Int) (o1 _ (by omega) (by omega)) (2 : Int) (o1 _ (by omega) (by omega)) rfl rfl rfl ?_; intro w2 m2 g2)
    | (refine wpList_tins rfl (.tmp 1) (.const (.int .i64 (3))) (.const (.int .i64 (3))) rfl m2 Tryz.underlying202 (by simp only [maxLen]; omega) (3 : Int) (o1 _ (by omega) (by omega)) (3 : Int) (o1 _ (by omega) (by omega)) rfl rfl rfl ?_; intro w3 m3 g3)
    | (refine wpList_tins rfl (.tmp 1) (.const (.int .i64 (-4))) (.const (.int .i64 (3))) rfl m3 Tryz.underlying202 (by simp only [maxLen]; omega) (-4 : Int) (o1 _ (by omega) (by omega)) (3 : Int) (o1 _ (by omega) (by omega)) rfl rfl rfl ?_; intro w4 m4 g4))
  have s1 := g1.size
  have s2 := g2.size
  have s3 := g3.size
  have kz := below_grown (below_grown (below_grown (below_grown k0 g1 (Nat.le_refl _) (by omega)) g2 (Nat.le_refl _) (by omega)) g3 (Nat.le_refl _) (by omega)) g4 (Nat.le_refl _) (by omega)
  have HX := Lib.hid (show MapRet keyInt elemInt 4 clF w (.returned (.map (some w.heap.size))) w4 from ⟨_, rfl, Nat.le_refl _, m4.same fun x _ => clF_eq x, kz⟩)
  clear m0 m1 m2 m3 m4 k0 kz g1 g2 g3 g4
  refine ret_of (by simp [results, Tryz.results156, go_sem, *]; repeat' (first | rfl | apply And.intro)) rfl ?_
  exact HX.out
end Go.Proofs.YtpkmiegccfhpnaaGreatDoor
namespace Go.Proofs.YtpkmiegccfhpnaaGreatDoor
open Go.RowKit
set_option maxRecDepth 100000 in
theorem clausula_info : (Tryz.prog.info? 187).map (fun i => (i.zero, i.size, i.bytes)) = some (some (.agg #[.int .i64 0, .int .i64 0]), 2, 16) := by kernel_rfl
theorem zero_int (w : World) : (zeroValue 3).run Tryz.prog w = .ok (.int .i64 0) w := by kernel_rfl
theorem own_ne {γ β : Type} {K : TypeId} {G : KeyG γ K} {T : ElemT β} {w : World} {b n : Nat} {f : γ → Option β} (h : TMap w G T b n f) {base size m : Nat} {e : TypeId} {v : Value} {xs : List Value} (h2 : w.ownsRow base e size v m xs) : some b ≠ v.ownBlock := by
  intro heq
  obtain ⟨D, ⟨es, clock, hblk, _⟩, _⟩ := h
  obtain ⟨_, h5⟩ := h2
  rcases h5 with ⟨rfl, _⟩ | ⟨g2, cap2, cur2, hv2, _, hh2, _⟩
  · cases heq
  · rw [hv2] at heq
    cases heq
    rw [hblk] at hh2
    cases hh2
/-- What clausulae hands back: the list in a row of its own. -/
def ClRet (L : List (Int × Int)) (w : World) (e : Ending) (w' : World) : Prop := ∃ u, e = .returned u ∧ w'.ownsRow w.heap.size 187 2 u L.length (csT L) ∧ Below w.heap.size w w'
theorem clk_two {v : List Ev} {k : Nat} {x y : Ev} (hx : v[k]? = some x) (hy : v[k + 1]? = some y) : clK v (k + 1) = if x.rest = false ∧ y.rest = false then clOf (btw x.pit y.pit).1 else 0 := by
  unfold clK noteB ivl
  rw [Nat.add_sub_cancel, hx, hy]
  simp
theorem cl_full {v : List Ev} {n k : Nat} (hn : v.length = n) (h : k = max n 1) : clausL v k = clausE v := by
  unfold clausE
  by_cases h0 : n = 0
  · have : k = 1 := by omega
    rw [this, clausL_one, hn, h0]; rfl
  · rw [show k = v.length by omega]
theorem btw_bd {p q : Pit3} (hp : pchk p = 0) (hq : pchk q = 0) : -62 ≤ (btw p q).1 ∧ (btw p q).1 ≤ 62 := by
  have := numP_bd hp; have := numP_bd hq
  unfold btw; simp only; omega
set_option maxRecDepth 100000 in
set_option maxHeartbeats 4000000 in
theorem clausulae_ok (A : Option Addr) (n c : Nat) (v : List Ev) (B : Nat) (w : World) (h : Reads w B 10 A n (csE v)) (hB : B ≤ w.heap.size) (hn : n ≤ 2000) (hp : PitsV v) (ht : Tabs w) :
    Calls Tryz.prog 144 #[.slice A n c] w fun e w' => ClRet (clausE v) w e w' := by
  have HL := Lib.hid h.evlen
  have HP := Lib.hid hp
  obtain ⟨i0, hi0, hz0, hz1, hz2⟩ := info_parts clausula_info
  have hfd : ∀ (w : World) (x y : Value), (Instr.field 131 (.agg #[x, y]) 0).run Tryz.prog w = .ok x w := fun _ _ _ => by kernel_rfl
  clear hp
  go_enter Tryz.func144, Tryz.ntmps144
  go_wp2_with fail
  refine (kinds_any _).mono ?_
  rintro e w1 ⟨mb, rfl, hmb, hT, hb1⟩
  have k1 : Below w.heap.size w w1 := hb1
  clear hb1
  go_wp2_with fail
  go_loopg [4, 5, 6, 7] (max n 1 - 1) (fun gh u i _ _ wr => ∃ k : Nat, 1 ≤ k ∧ k + gh = max n 1 ∧ i = .int .i64 (k : Int) ∧ wr.ownsRow w.heap.size 187 2 u (clausL v k).length (csT (clausL v k)) ∧ TMap wr keyInt elemInt mb 4 clF ∧ Below w.heap.size w wr)
  case atStart => exact ⟨1, by omega, by omega, rfl, by rw [clausL_one]; exact ⟨rfl, .inl ⟨rfl, rfl⟩⟩, hT, k1⟩
  case round =>
    clear hT k1
    obtain ⟨k, hk1, hkg, rfl, hrow, hT, k0⟩ := hrel
    cases gk with
    | zero =>
      have d0 : ¬ ((k : Int) < (n : Int)) := by omega
      have HF := Lib.hid (cl_full (k := k) HL.out (by omega))
      rw [HF.out] at hrow
      have HX := Lib.hid (show ClRet (clausE v) w (.returned u4) wr from ⟨_, rfl, hrow, k0⟩)
      obtain ⟨A9, c9, rfl, -, _, _⟩ := own_reads hrow
      clear hkg hrow hT
      go_wp2
      refine ret_of (by simp [results, Tryz.results144, go_sem, *]; repeat' (first | rfl | apply And.intro)) rfl ?_
      exact HX.out
    | succ g =>
      obtain ⟨j, hj⟩ : ∃ j, k = j + 1 := ⟨k - 1, by omega⟩
      have hkn : k < n := by omega
      have d0 : (k : Int) < (n : Int) := by omega
      obtain ⟨x, hx⟩ := get_some (l := v) (k := j) (by rw [HL.out]; omega)
      obtain ⟨y, hy⟩ := get_some (l := v) (k := k) (by rw [HL.out]; omega)
      have HK := Lib.hid (show clK v k = (if x.rest = false ∧ y.rest = false then clOf (btw x.pit y.pit).1 else 0) by rw [hj]; exact clk_two hx (by rw [← hj]; exact hy))
      have HC := Lib.hid (clausL_succ v k)
      have HPX := Lib.hid (HP.out x (List.mem_of_getElem? hx))
      have HPY := Lib.hid (HP.out y (List.mem_of_getElem? hy))
      obtain ⟨bx, ox, rfl, hbx, hcx⟩ := h.ev hB k0 (show j < n by omega) hx
      obtain ⟨by_, oy, hA2, hby, hcy⟩ := h.ev hB k0 hkn hy
      cases hA2
      obtain ⟨-, -, -, -, x4, x5, x6, x7, -, -⟩ := ten hcx
      obtain ⟨-, -, -, -, y4, y5, y6, y7, -, -⟩ := ten hcy
      obtain ⟨⟨_, _⟩, ⟨_, _⟩, ⟨p0, p1, p2⟩, r1, _, _⟩ := x
      obtain ⟨⟨_, _⟩, ⟨_, _⟩, ⟨q0, q1, q2⟩, r2, _, _⟩ := y
      simp only at x4 x5 x6 x7 y4 y5 y6 y7 HK HPX HPY
      have w1 : (k : Int) - 1 = (j : Int) := by omega
      have w2 : IntKind.i64.wrap (j : Int) = (j : Int) := IntWalk.i64_in _ (by omega)
      have lj : (j : Int) < (n : Int) := by omega
      have wk : IntKind.i64.wrap ((k : Int) + 1) = (k : Int) + 1 := IntWalk.i64_in _ (by omega)
      have hlen := clausL_len v k
      clear hx hy hcx hcy hj
      cases r1 with
      | true =>
        have E := Lib.hid (show clausL v (k + 1) = clausL v k by rw [HC.out, if_pos (by rw [HK.out, if_neg (by simp)]), List.append_nil])
        clear HK HC
        go_wp2
        go_roundg g
        case measure => omega
        case rel => exact ⟨k + 1, by omega, by omega, by go_num, by rw [E.out]; exact hrow, hT, k0⟩
      | false =>
        cases r2 with
        | true =>
          have E := Lib.hid (show clausL v (k + 1) = clausL v k by rw [HC.out, if_pos (by rw [HK.out, if_neg (by simp)]), List.append_nil])
          clear HK HC
          go_wp2
          go_roundg g
          case measure => omega
          case rel => exact ⟨k + 1, by omega, by omega, by go_num, by rw [E.out]; exact hrow, hT, k0⟩
        | false =>
          obtain ⟨wq, hwq⟩ : ∃ z, z = wr := ⟨_, rfl⟩
          subst hwq
          have qa := fun W (hW : Below wq.heap.size wq W) => cbtw_ok (p0, p1, p2) (q0, q1, q2) (HPX.out rfl) (HPY.out rfl) W (ht.kept (below_call k0 hW))
          have HBD := btw_bd (HPX.out rfl) (HPY.out rfl)
          obtain ⟨⟨s, hh⟩, hs⟩ : ∃ z, z = btw (p0, p1, p2) (q0, q1, q2) := ⟨_, rfl⟩
          rw [← hs] at qa HBD
          have HK2 := Lib.hid (show clK v k = clOf s by rw [HK.out, if_pos ⟨rfl, rfl⟩, ← hs])
          clear hs HK
          simp only at HBD
          have os : okI s := by unfold okI; omega
          obtain ⟨kv, bb, hkb⟩ : ∃ kv bb, (kv, bb) = ((clF s).getD 0, (clF s).isSome) := ⟨_, _, rfl⟩
          have HKB := Lib.hid hkb
          have lkF := fun W (hW : Below wq.heap.size wq W) => (hT.call hW).look Tryz.underlying202 (y0 := (0 : Int)) (zero_int W) (show okI 0 by unfold okI; omega) (x := s) os
          simp only [Prod.mk.injEq] at hkb
          rw [← hkb.1, ← hkb.2] at lkF
          have lkF : ∀ W, Below wq.heap.size wq W → (Instr.lookup 202 (.map (some mb)) (.int .i64 s) true).run Tryz.prog W = .ok (.tuple #[.int .i64 kv, .bool bb]) W := lkF
          clear hkb HBD os
          go_wp2_with fail
          go_region_held3 (fun w' => w'.cell? ⟨bx, ox + j * 10 + 4, none⟩ = some (.int .i64 p0) ∧ w'.cell? ⟨bx, ox + j * 10 + 5, none⟩ = some (.int .i64 p1) ∧ w'.cell? ⟨bx, ox + j * 10 + 6, none⟩ = some (.int .i64 p2) ∧ w'.cell? ⟨bx, ox + k * 10 + 4, none⟩ = some (.int .i64 q0) ∧ w'.cell? ⟨bx, ox + k * 10 + 5, none⟩ = some (.int .i64 q1) ∧ w'.cell? ⟨bx, ox + k * 10 + 6, none⟩ = some (.int .i64 q2) ∧ Below wq.heap.size wq w') ((refine (fun hb => ⟨(hb.cell (p := ⟨_, _, none⟩) hbx).trans x4, (hb.cell (p := ⟨_, _, none⟩) hbx).trans x5, (hb.cell (p := ⟨_, _, none⟩) hbx).trans x6, (hb.cell (p := ⟨_, _, none⟩) hbx).trans y4, (hb.cell (p := ⟨_, _, none⟩) hbx).trans y5, (hb.cell (p := ⟨_, _, none⟩) hbx).trans y6, hb⟩) ?_; repeat (first | with_reducible exact Below.refl _ _ | with_reducible exact hBd | with_reducible exact (show _ ∧ _ ∧ _ ∧ _ ∧ _ ∧ _ ∧ Below wq.heap.size wq _ by assumption).2.2.2.2.2.2 | with_reducible refine Below.drew ?_))) (first | (go_at_call 114; refine Calls.mono (qa _ (show _ ∧ _ ∧ _ ∧ _ ∧ _ ∧ _ ∧ Below wq.heap.size wq _ by assumption).2.2.2.2.2.2) ?_; rintro e wd ⟨rfl, hbd⟩; have hBd := below_call (show _ ∧ _ ∧ _ ∧ _ ∧ _ ∧ _ ∧ Below wq.heap.size wq _ by assumption).2.2.2.2.2.2 hbd; have lk := lkF wd hBd))
          all_goals
            have hB5 := (show _ ∧ _ ∧ _ ∧ _ ∧ _ ∧ _ ∧ Below wq.heap.size wq _ by assumption).2.2.2.2.2.2
            obtain ⟨wv, hwv⟩ := name_world hB5
            rw [← hwv] at hB5 ⊢
            have rowV := own_call hrow hB5
            have tV := hT.call hB5
            have kV := below_call k0 hB5
            have zV := kV.size
            clear hwv lk hbd hrow hT qa lkF x4 x5 x6 y4 y5 y6 x7 y7 hbx hby
            cases bb with
            | false =>
              have E := Lib.hid (show clausL v (k + 1) = clausL v k by
                rw [HC.out, if_pos (by
                  rw [HK2.out]
                  have := congrArg Prod.snd HKB.out
                  simp only [clF] at this
                  by_cases h0 : clOf s = 0
                  · exact h0
                  · rw [if_neg h0] at this; cases this), List.append_nil])
              clear HKB HK2 HC
              go_wp2
              go_roundg g
              case measure => omega
              case rel => exact ⟨k + 1, by omega, by omega, by go_num, by rw [E.out]; exact rowV, tV, kV⟩
            | true =>
              have E := Lib.hid (show clausL v (k + 1) = clausL v k ++ [((k : Int), kv)] by
                have h1 := congrArg Prod.snd HKB.out
                have h2 := congrArg Prod.fst HKB.out
                simp only [clF] at h1 h2
                by_cases h0 : clOf s = 0
                · rw [if_pos h0] at h1; cases h1
                · rw [if_neg h0] at h2
                  rw [HC.out, if_neg (by rw [HK2.out]; exact h0), HK2.out, h2]; rfl)
              clear HKB HK2 HC
              go_wp2_with (at_builtin; (refine wpList_append_any _ rfl (.tmp 47) (.tmp 51) 184 rfl w.heap.size 187 i0 _ 2 16 Tryz.underlying184 hi0 hz0 hz1 hz2 rfl (by omega) u4 (clausL v k).length (csT (clausL v k)) rfl (own_call rowV (below_alloc (Below.refl _ _) _)) (wv.heap.size + 1) (some ⟨wv.heap.size, 0, none⟩) 1 1 (csT [((k : Int), kv)]) rfl (Reads.newAt _ _ _ 1 2 _ rfl rfl) (one_csT _) (by simp only [maxLen]; omega) (by omega) (by simp; omega) ?_); intro v5 w5 hown5 hg5 hat5)
              have rA := own_call rowV (below_alloc (Below.refl wv.heap.size wv) (.cells #[.int .i64 (k : Int), .int .i64 kv] 187))
              have hB6 : Below w.heap.size wv w5 := Below.grown (B := w.heap.size) (a := wv) ((below_alloc (Below.refl wv.heap.size wv) (.cells #[.int .i64 (k : Int), .int .i64 kv] 187)).mono (by omega)) hg5 (by simp; omega) (fun x hx => (rowV.lt x hx).1)
              have t5 := (tV.call (below_alloc (Below.refl wv.heap.size wv) (.cells #[.int .i64 (k : Int), .int .i64 kv] 187))).grown hg5 (own_ne (tV.call (below_alloc (Below.refl wv.heap.size wv) (.cells #[.int .i64 (k : Int), .int .i64 kv] 187))) rA)
              go_roundg g
              case measure => omega
              case rel => exact ⟨k + 1, by omega, by omega, by go_num, by rw [E.out, csT_append, List.length_append]; exact hown5, t5, kV.trans hB6⟩
end Go.Proofs.YtpkmiegccfhpnaaGreatDoor
