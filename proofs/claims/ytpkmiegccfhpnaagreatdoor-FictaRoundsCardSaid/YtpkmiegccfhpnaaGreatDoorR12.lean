/- Parts of the proof of LawRounds31: RdTools, FiSup, FiBin. -/
import Derived.Test.YtpkmiegccfhpnaaGreatDoorR11
set_option maxRecDepth 100000
set_option maxHeartbeats 16000000
namespace Go.Proofs.YtpkmiegccfhpnaaGreatDoor
open Go.RowKit
section
variable {P : Program} {L n : Nat} {Q : Exit → Act → World → Prop}
theorem rowsIn_round {row : String} {args : Array Value} {w : World} {R : Value → World → Prop} (h : Rows P row args w R) : RowsIn (Fence.wide.inRound L) n P row args w R :=
 fun c cs _ => let ⟨v, w', r, s⟩ := h c cs; ⟨v, w', r, stepsIn_wide.2 s⟩
theorem callsIn_round {f : FuncId} {args : Array Value} {w : World} {R : Ending → World → Prop} (h : Calls P f args w R) : CallsIn (Fence.wide.inRound L) n P f args w R := CallsIn.inRound L (callsIn_wide.2 h)
theorem opIn_of_op {o : Oper} {a : Act} {w : World} {next next' : Act → World → Prop} (hnd : ∀ c, o.op ≠ .defer c) (hn : ∀ a w, next a w → next' a w) (h : o.wp P a w next Q) : o.wpIn (Fence.wide.inRound L) n P a w next' Q := by
 unfold Oper.wp at h
 unfold Oper.wpIn
 refine ⟨fun _ _ => trivial, ?_⟩
 rw [Oper.semAt_eq _ _ _ hnd]
 cases hr : (execOp a.eval o).run P w with
 | ok x w' =>
  rw [hr] at h
  cases x with
  | value v => exact hn _ _ h
  | skip => exact hn _ _ h
  | defer d => exact hn _ _ h
  | enter f args =>
   refine ⟨fun hd => by simp [Fence.wide] at hd, callsIn_round (Calls.mono h ?_)⟩
   intro e w'' he
   cases e with
   | returned v => exact hn _ _ he
   | panicked c => exact he
   | outgrown => exact he
  | row r args => exact ⟨fun hd => by simp [Fence.wide] at hd, rowsIn_round (fun c cs => let ⟨v, w', r, s⟩ := h c cs; ⟨v, w', hn _ _ r, s⟩)⟩
  | round => exact h.elim
  | _ => exact h.elim
 | halt x w' =>
  rw [hr] at h
  cases x with
  | panic v => exact h
  | _ => exact h.elim
def noDefer (ops : Array Oper) : Bool := ops.toList.all fun o => match o.op with
 | .defer _ => false
 | _ => true
theorem noDefer_at {ops : Array Oper} (h : noDefer ops = true) {i : Nat} {o : Oper} (ho : ops[i]? = some o) : ∀ c, o.op ≠ .defer c := by
 intro c hc
 unfold noDefer at h
 rw [List.all_eq_true] at h
 have := h o (by rw [Array.mem_toList_iff]; exact Array.mem_of_getElem? ho)
 rw [hc] at this
 cases this
theorem opsIn_of_ops {ops : Array Oper} (hnd : noDefer ops = true) (hout : ∀ a w, ¬ Q .outgrown a w) : ∀ (l : List Nat) (a : Act) (w : World), wpOps P ops Q l a w → wpOpsIn (Fence.wide.inRound L) n P ops Q l a w := by
 intro l
 induction l with
 | nil => exact fun _ _ h => h
 | cons i rest ih =>
  intro a w h
  unfold wpOps at h
  unfold wpOpsIn
  cases ho : ops[i]? with
  | none => rw [ho] at h; exact ih _ _ h
  | some o =>
   rw [ho] at h
   simp only at h ⊢
   by_cases hw : Region.wanted o (yielded ops a.tmps) = true
   ·rw [if_pos hw] at h ⊢
    rcases h with h | ⟨_, a', w', h⟩
    ·exact opIn_of_op (noDefer_at hnd ho) ih h
    ·exact absurd h (hout _ _)
   ·rw [if_neg hw] at h ⊢
    exact ⟨fun _ _ => trivial, ih _ _ h⟩
theorem wpIn_region_any' {id : Nat} {ops : Array Oper} {a : Act} {w : World} (hnd : noDefer ops = true) (hout : ∀ a w, ¬ Q .outgrown a w) (hm : P.follows .mixedOrders = true)
  (h : wpAny P .any ops Q ops.size (Array.replicate ops.size false) a { w with drawn := w.drawn + 1 }) : (Code.region id ops true).wpIn (Fence.wide.inRound L) n P Q a w :=
 wpIn_region_draw fun t => opsIn_of_ops hnd hout _ _ _ (by
  simp only [Region.schedule, hm, Bool.true_or, if_true]
  exact wpAny_sound ops.size t _ a _ h)
theorem wpIn_region_held' {id : Nat} {ops : Array Oper} {S : World → Prop} {a : Act} {w : World} (hnd : noDefer ops = true) (hout : ∀ a w, ¬ Q .outgrown a w) (hm : P.follows .mixedOrders = true) (hS : S w.drew)
  (h : S w.drew → wpAnyH P .any ops Q S ops.size (Array.replicate ops.size false) a w.drew) : (Code.region id ops true).wpIn (Fence.wide.inRound L) n P Q a w :=
 wpIn_region_any' hnd hout hm (wpAny_of_held _ _ _ _ (h hS))
/-! ### A region whose head keeps a condition S, and whose last operations follow one behind the other -/
def headH (P : Program) (md : Region.Mode) (ops : Array Oper) (Q : Exit → Act → World → Prop) (S : World → Prop) (n : Nat) (L : Array Bool → Act → World → Prop) : Nat → Array Bool → Act → World → Prop
 | 0, s, a, w => L s a w
 | f + 1, s, a, w => Region.ready md ops s ≠ [] ∧ ∀ i ∈ Region.ready md ops s, i < n ∧ wpOp P ops Q i (fun a' w' => S w' ∧ headH P md ops Q S n L f (s.setIfInBounds i true) a' w') a w
end
section
variable {P : Program} {ops : Array Oper} {Q : Exit → Act → World → Prop} {md : Region.Mode} {S : World → Prop} {n : Nat} {L : Array Bool → Act → World → Prop}
theorem any_of_headH {g : Nat} (hL : ∀ s a w, L s a w → wpAny P md ops Q g s a w) : ∀ (f : Nat) (s : Array Bool) (a : Act) (w : World), headH P md ops Q S n L f s a w → wpAny P md ops Q (f + g) s a w
 | 0, s, a, w, h => by rw [Nat.zero_add]; exact hL _ _ _ h
 | f + 1, s, a, w, h => by
  rw [Nat.add_right_comm]
  exact ⟨fun h0 => (h.1 h0).elim, fun i hi => wpOp_mono (fun a' w' h' => any_of_headH hL f _ a' w' h'.2) (h.2 i hi).2⟩
theorem headH_first {i : Nat} {oi : Oper} {v : Value} (hi : ops[i]? = some oi) (hsel : ∀ (j : Nat) (o : Oper) cs b, ops[j]? = some o → o.op ≠ .select cs b)
  (hQ : ∀ c a w, Q (.panic c) (a.put oi.dst v) w → Q (.panic c) a w) (hs : Region.sinkB md ops n = true) (hc : Region.chainB md ops n = true) (hn : n < ops.size) (hin : i < n)
  (hdone : ∀ s a w, L s a w → ∀ j ∈ Region.ready md ops s, n ≤ j) (f : Nat) :
  ∀ (s : Array Bool) (a : Act) (w : World), HeadInv md ops n s →
   (∀ j oj, ops[j]? = some oj → j ≠ i → s.getD j true = false → (∀ e ∈ oj.after, Region.binds md e = true → e.on ≠ i) → oi.apart ops oj = true) →
   i ∈ Region.ready md ops s → YieldsIf P ops S oi v a → S w → headH P md ops Q S n L f (s.setIfInBounds i true) (a.put oi.dst v) w → headH P md ops Q S n L (f + 1) s a w := by
 induction f with
 | zero =>
  intro s a w inv _ hr hy hS H
  have hun := (mem_ready.1 hr).1
  refine ⟨fun h => (by rw [h] at hr; cases hr), fun j hj => ?_⟩
  have hjn : j < n := Nat.lt_of_not_le fun h => tail_waits hs hc hn inv _ i rfl hin hun j h hj
  refine ⟨hjn, ?_⟩
  by_cases hji : j = i
  ·subst hji; exact hy.wpOp hi hS ⟨hS, H⟩
  ·exact absurd (hdone _ _ _ H j (ready_mono hj hji)) (by omega)
 | succ f ih =>
  intro s a w inv hfree hr hy hS H
  have hun := (mem_ready.1 hr).1
  refine ⟨fun h => (by rw [h] at hr; cases hr), fun j hj => ?_⟩
  have hjn : j < n := Nat.lt_of_not_le fun h => tail_waits hs hc hn inv _ i rfl hin hun j h hj
  refine ⟨hjn, ?_⟩
  by_cases hji : j = i
  ·subst hji; exact hy.wpOp hi hS ⟨hS, H⟩
  ·have h1 := (H.2 j (ready_mono hj hji)).2
   obtain ⟨hjun, oj, hoj, hall⟩ := mem_ready.1 hj
   have hnot : ∀ e ∈ oj.after, Region.binds md e = true → e.on ≠ i := fun e he hb heq => by
    have h2 := hall e he hb
    rw [heq, getD_both hun] at h2
    cases h2
   have h2 := wpOp_putIf hoj (hfree j oj hoj hji hjun hnot) (fun cs b => hsel i oi cs b hi) (fun cs b => hsel j oj cs b hoj) hQ hy h1
   have hfree' : ∀ k ok, ops[k]? = some ok → k ≠ i → (s.setIfInBounds j true).getD k true = false → (∀ e ∈ ok.after, Region.binds md e = true → e.on ≠ i) → oi.apart ops ok = true := fun k ok hk hki hk2 hno => by
    refine hfree k ok hk hki ?_ hno
    by_cases hjk : j = k
    ·subst hjk; exact hjun
    ·rw [getD_set_ne true hjk] at hk2; exact hk2
   refine wpOp_mono (fun a' w' h3 => ⟨h3.2.1, ih (s.setIfInBounds j true) a' w' (inv.set hj hjn) hfree' (ready_mono hr (Ne.symm hji)) h3.1 h3.2.1 ?_⟩) h2
   rw [Array.setIfInBounds_comm _ _ hji]
   exact h3.2.2
def headB (md : Region.Mode) (ops : Array Oper) (n : Nat) (s : Array Bool) : Bool :=
 decide (s.size = ops.size) && ((List.range ops.size).all fun j => match ops[j]? with
  | some oj => !s.getD j false || oj.after.toList.all fun e => !Region.binds md e || s.getD e.on false
  | none => true) && (List.range ops.size).all fun t => decide (t < n) || !s.getD t true
theorem headB_spec {s : Array Bool} (h : headB md ops n s = true) : HeadInv md ops n s := by
 unfold headB at h
 simp only [Bool.and_eq_true, decide_eq_true_eq] at h
 obtain ⟨⟨h1, h2⟩, h3⟩ := h
 refine ⟨h1, fun j oj hj hl e he hb => ?_, fun t ht htl => ?_⟩
 ·have h4 := List.all_eq_true.1 h2 j (List.mem_range.2 (Array.getElem?_eq_some_iff.1 hj).1)
  rw [hj] at h4
  simp only [hl, Bool.not_true, Bool.false_or] at h4
  have h5 := List.all_eq_true.1 h4 e (Array.mem_toList_iff.2 he)
  simpa [hb] using h5
 ·have h4 := List.all_eq_true.1 h3 t (List.mem_range.2 htl)
  rw [decide_eq_false (by omega), Bool.false_or] at h4
  simpa using h4
structure Heads (md : Region.Mode) (ops : Array Oper) (n : Nat) : Prop where
 sel : Region.noSelect ops = true
 sink : Region.sinkB md ops n = true
 chain : Region.chainB md ops n = true
 lt : decide (n < ops.size) = true
theorem headH_take {i : Nat} {oi : Oper} {v : Value} {f : Nat} {s : Array Bool} {a : Act} {w : World} (hi : ops[i]? = some oi) (hd : Heads md ops n) (hin : i < n) (hb : headB md ops n s = true) (hf : Region.free md ops s i = true) (hr : (Region.ready md ops s).contains i = true)
  (hdone : ∀ s a w, L s a w → ∀ j ∈ Region.ready md ops s, n ≤ j) (hQ : ∀ c a w, Q (.panic c) (a.put oi.dst v) w → Q (.panic c) a w) (hy : YieldsIf P ops S oi v a) (hS : S w)
  (h : headH P md ops Q S n L f (s.setIfInBounds i true) (a.put oi.dst v) w) : headH P md ops Q S n L (f + 1) s a w :=
 headH_first hi (Region.noSelect_spec hd.sel) hQ hd.sink hd.chain (of_decide_eq_true hd.lt) hin hdone f s a w (headB_spec hb) (Region.free_spec hi hf) (by simpa using hr) hy hS h
theorem headH_one {i : Nat} {o : Oper} {f : Nat} {s : Array Bool} {a : Act} {w : World} (hr : Region.ready md ops s = [i]) (hin : i < n) (ho : ops[i]? = some o)
  (h : ∀ K' : Act → World → Prop, Shut (∀ a w, S w → (S w → headH P md ops Q S n L f (s.setIfInBounds i true) a w) → K' a w) → if Region.wanted o (yielded ops a.tmps) = true then Oper.wp P o a w K' Q else K' (a.put o.dst undef) w) : headH P md ops Q S n L (f + 1) s a w :=
 ⟨by rw [hr]; simp, fun j hj => by
  rw [hr] at hj
  cases List.mem_singleton.1 hj
  exact ⟨hin, wpOp_step ho (fun K' hK => h K' (fun a w hS hW => hK a w ⟨hS, hW hS⟩))⟩⟩
def tailL (P : Program) (md : Region.Mode) (ops : Array Oper) (Q : Exit → Act → World → Prop) (n : Nat) (l : List Oper) (s : Array Bool) (a : Act) (w : World) : Prop := Region.seqB md ops (ops.size - n) n s = true ∧ wpList P ops Q l a w
theorem tailL_done {l : List Oper} : ∀ s a w, tailL P md ops Q n l s a w → ∀ j ∈ Region.ready md ops s, n ≤ j := fun _ _ _ h => seqB_ready h.1
theorem wpIn_region_heads {id L' nF : Nat} {a : Act} {w : World} {l : List Oper} (n : Nat) (hnd : noDefer l.toArray = true) (hout : ∀ a w, ¬ Q .outgrown a w) (hm : P.follows .mixedOrders = true) (hn : decide (n ≤ l.length) = true) (hS : S w.drew)
  (h : S w.drew → headH P .any l.toArray Q S n (tailL P .any l.toArray Q n (l.drop n)) n (Array.replicate l.toArray.size false) a w.drew) : (Code.region id l.toArray true).wpIn (Fence.wide.inRound L') nF P Q a w := by
 have hn := of_decide_eq_true hn
 refine wpIn_region_any' hnd hout hm ?_
 have := any_of_headH (g := l.toArray.size - n) (fun s a w (hL : tailL P .any l.toArray Q n (l.drop n) s a w) => by
  have hdl : (l.drop n).length = l.toArray.size - n := by simp
  have := wpAny_of_seq (md := .any) (Q' := Q) (l.drop n) n s a w (fun j => by simp [List.getElem?_drop]) (by rw [hdl]; exact hL.1) hL.2
  rwa [hdl] at this) _ _ _ _ (h hS)
 rw [show n + (l.toArray.size - n) = l.toArray.size by simp; omega] at this
 exact this
end
end Go.Proofs.YtpkmiegccfhpnaaGreatDoor
namespace Go.Proofs.YtpkmiegccfhpnaaGreatDoor
open Go.RowKit Go.Maps
theorem supP_none {l : List (List Ev)} {k e : Nat} {v : List Ev} (hv : l[k]? = some v) (h : e = 0 ∨ v.length ≤ e + 1) : supP l k e = [] := by
 unfold supP
 rw [getD_at hv]
 split
 ·rename_i x y z _ _ hz
  rw [if_neg]
  rintro ⟨h1, _⟩
  rcases h with h | h
  ·omega
  ·have := (List.getElem?_eq_some_iff.1 hz).1; omega
 ·rfl
theorem supP_some {l : List (List Ev)} {k j : Nat} {v : List Ev} {x y z : Ev} (hv : l[k]? = some v) (hx : v[j]? = some x) (hy : v[j + 1]? = some y) (hz : v[j + 1 + 1]? = some z) :
  supP l k (j + 1) = if (x.rest = false ∧ y.rest = false ∧ z.rest = false) ∧ x.pit = z.pit ∧ x.pit.1 = 5 ∧ y.pit.2.2 = 0 ∧ numP y.pit = numP x.pit + 1 then [((k : Int), ((j + 1 : Nat) : Int))] else [] := by
 unfold supP
 rw [getD_at hv, show j + 1 - 1 = j by omega, hx, hy, hz]
 simp
theorem supV_next (l : List (List Ev)) (v k : Nat) : supV l v (k + 1) = supV l v k ++ supP l v k := by unfold supV; rw [flat_succ]
theorem supS_next (l : List (List Ev)) (k : Nat) : supS l (k + 1) = supS l k ++ supV l k (l.getD k []).length := by unfold supS; rw [flat_succ]
theorem supV_start {l : List (List Ev)} {k : Nat} {v : List Ev} (hv : l[k]? = some v) : supV l k 1 = [] := by
 rw [supV_next, supP_none hv (.inl rfl)]; rfl
theorem supV_end {l : List (List Ev)} {k e : Nat} {v : List Ev} (hv : l[k]? = some v) (h1 : e = 1 ∨ e < v.length) (he : v.length ≤ e + 1) : supV l k v.length = supV l k e := by
 rcases Nat.lt_or_ge e v.length with h | h
 ·have : v.length = e + 1 := by omega
  rw [this, supV_next, supP_none hv (.inr he), List.append_nil]
 ·obtain rfl : e = 1 := by omega
  rcases Nat.eq_or_lt_of_le h with h | h
  ·rw [h]
  ·have : v.length = 0 := by omega
   rw [this, supV_start hv]; rfl
theorem trip_blk {w w8 : World} {C1 C2 C3 : Array Value} {t1 t2 t3 : TypeId} (h : w8 = (((w.alloc (.cells C1 t1)).alloc (.cells C2 t2)).alloc (.cells C3 t3)).drew) : Blk w8 w.heap.size t1 C1 ∧ Blk w8 (w.heap.size + 1) t2 C2 ∧ Blk w8 (w.heap.size + 1 + 1) t3 C3 ∧ Below w.heap.size w w8 := by
 subst h
 refine ⟨Blk.drew (Blk.alloc (Blk.alloc (Blk.new _ _ _) _) _), Blk.drew (Blk.alloc (Blk.newAt _ _ _ _ (by simp)) _), Blk.drew (Blk.newAt _ _ _ _ (by simp)), ?_⟩
 repeat (first | with_reducible (first | exact Below.refl _ _ | assumption | refine below_drewN ?_ _ | refine Below.drew ?_ | refine below_alloc ?_ _) | (with_reducible refine Below.setCell ?_ ?_ _; rotate_left; ((try simp only); omega)))
theorem superLa_ok {w : World} {db ob ib mo no : Nat} {pd : Option Nat} {dn f : Plc → Option Fic} (h : YS w db ob ib pd dn mo no f 3) (hno : no ≤ 10000000) (A : Option Addr) (n c : Nat) (l : List (List Ev)) (B : Nat) (hV : ReadsV w B A n l) (hB : B ≤ mo) (hl : SetV l) :
  Calls Tryz.prog 65 #[.slice A n c, .func (.func 66) #[] #[.pointer (some ⟨db, 0, none⟩), .pointer (some ⟨ob, 0, none⟩), .pointer (some ⟨ib, 0, none⟩)]] w
   fun e w' => e = .returned (.tuple #[]) ∧ ∃ no', no' ≤ no + 100000 ∧ RInv w w' db ob ib pd dn mo no' (ylds dn 3 (-1) f (supL l)) 3 := by
 have hmo := h.out.lt
 have hLN := hV.len
 have hn8 : n ≤ 8 := by have := hl.len; omega
 have HE := Lib.hid (show supS l n = supL l by rw [← hLN]; rfl)
 have HLN := Lib.hid hLN
 have HV := Lib.hid hV
 have HY := Lib.hid h
 have HSL := Lib.hid hl
 have inv0 : RInv w w db ob ib pd dn mo no f 3 := ⟨h, Gb.refl _ _⟩
 clear h hV hl hLN
 go_enter Tryz.func65, Tryz.ntmps65
 go_wp2_with fail
 go_loopg [4, 5, 6, 7, 8, 9, 10, 11, 12, 15] n (fun gh _ _ _ _ _ _ _ _ _ i wr => ∃ (k no' : Nat), k + gh = n ∧ i = .int .i64 (k : Int) ∧ no' ≤ no + k * 2000 ∧ RInv w wr db ob ib pd dn mo no' (ylds dn 3 (-1) f (supS l k)) 3)
 case atStart => exact ⟨0, no, by omega, by simp, by omega, inv0⟩
 case round =>
  clear inv0
  obtain ⟨k, no', hkg, rfl, hno', inv⟩ := hrel
  have wk : IntKind.i64.wrap ((k : Int) + 1) = (k : Int) + 1 := IntWalk.i64_in _ (by omega)
  cases gk with
  | zero =>
   have hk : k = n := by omega
   subst hk
   have d0 : ¬ ((k : Int) < (k : Int)) := by omega
   go_wp2
   refine bodyPost_end (results_none rfl _ _ _) rfl ?_
   rw [← HE.out]
   exact ⟨rfl, no', by omega, inv⟩
  | succ gh =>
   have hkn : k < n := by omega
   have d0 : (k : Int) < (n : Int) := by omega
   obtain ⟨v, hv⟩ := get_some (l := l) (k := k) (by have := HLN.out; omega)
   have hm := List.mem_of_getElem? hv
   have hv2 := HSL.out.few v hm
   have HVL := Lib.hid hv
   have HS1 := Lib.hid (show supS l (k + 1) = supS l k ++ supV l k v.length by rw [supS_next, getD_at hv])
   have HP := Lib.hid (HSL.out.pits v hm)
   obtain ⟨lv, hlv⟩ : ∃ z, z = v.length := ⟨_, rfl⟩
   have HLV := Lib.hid hlv
   clear hv hm hlv
   go_wp2_with fail
   go_loopg [5, 6, 7, 8, 9, 10, 11, 12] lv (fun g2 x _ _ _ _ _ _ _ wy => ∃ (e no' : Nat), e + g2 = lv + 1 ∧ 1 ≤ e ∧ (e = 1 ∨ e < lv) ∧ x = .int .i64 (e : Int) ∧ no' ≤ no + k * 2000 + e ∧ RInv w wy db ob ib pd dn mo no' (ylds dn 3 (-1) f (supS l k ++ supV l k e)) 3)
   case atStart => exact ⟨1, no', by omega, by omega, .inl rfl, by simp, by omega, by rw [supV_start HVL.out, List.append_nil]; exact inv⟩
   case round =>
    clear inv
    obtain ⟨e, no', heg, he1, hee, rfl, hno', inv⟩ := hrel
    obtain ⟨bv, ov, A', n', c', rfl, hbv, cv, rv, hn', hvn⟩ := (HV.out.under (inv.low hB hmo)).voice (by have := inv.gb.size; omega) (Below.refl _ _) hkn HVL.out
    obtain rfl : n' = lv := by rw [HLV.out]; exact hvn.symm
    have hBr : B ≤ wr.heap.size := by have := inv.gb.size; omega
    have we : IntKind.i64.wrap ((e : Int) + 1) = (e : Int) + 1 := IntWalk.i64_in _ (by omega)
    by_cases hlt : e + 1 < n'
    ·have d1 : (e : Int) + 1 < (n' : Int) := by omega
     obtain ⟨j, hj⟩ : ∃ j, e = j + 1 := ⟨e - 1, by omega⟩
     obtain ⟨x, hx⟩ := get_some (l := v) (k := j) (by omega)
     obtain ⟨y, hy⟩ := get_some (l := v) (k := j + 1) (by omega)
     obtain ⟨z, hz⟩ := get_some (l := v) (k := j + 1 + 1) (by omega)
     obtain ⟨bx, ox, hA', hbx, hcx⟩ := rv.ev hBr (Below.refl _ _) (show j < n' by omega) hx
     obtain ⟨bx', ox', hA'', -, hcy⟩ := rv.ev hBr (Below.refl _ _) (show j + 1 < n' by omega) hy
     rw [hA'] at hA''
     cases hA''
     obtain ⟨bx', ox', hA'', -, hcz⟩ := rv.ev hBr (Below.refl _ _) (show j + 1 + 1 < n' by omega) hz
     rw [hA'] at hA''
     cases hA''
     obtain ⟨m, hm⟩ : ∃ m, m = j + 1 + 1 := ⟨_, rfl⟩
     rw [← hm] at hcz
     rw [← hj] at hcy
     have a1 : (e : Int) - 1 = (j : Int) := by omega
     have a2 : (e : Int) + 1 = (m : Int) := by omega
     have a3 : IntKind.i64.wrap (j : Int) = (j : Int) := IntWalk.i64_in _ (by omega)
     have a4 : IntKind.i64.wrap (m : Int) = (m : Int) := IntWalk.i64_in _ (by omega)
     have l1 : (j : Int) < (n' : Int) := by omega
     have l2 : (e : Int) < (n' : Int) := by omega
     have l3 : (m : Int) < (n' : Int) := by omega
     have n1 : j < n' := by omega
     have n2 : e < n' := by omega
     have n3 : m < n' := by omega
     subst hA'
     have E := Lib.hid (supP_some HVL.out hx hy hz)
     have hpx := HP.out x (List.mem_of_getElem? hx)
     have hpy := HP.out y (List.mem_of_getElem? hy)
     have hye := Lib.hid (evA_nat HVL.out hy)
     rw [← hj] at E hye
     have HN := Lib.hid (show supV l k (e + 1) = supV l k e ++ supP l k e from supV_next l k e)
     obtain ⟨X0, X1, X2, X3, X4, X5, X6, X7, X8, X9⟩ := ten hcx
     obtain ⟨Y0, Y1, Y2, Y3, Y4, Y5, Y6, Y7, Y8, Y9⟩ := ten hcy
     obtain ⟨Z0, Z1, Z2, Z3, Z4, Z5, Z6, Z7, Z8, Z9⟩ := ten hcz
     obtain ⟨⟨x0, x1⟩, ⟨x2, x3⟩, ⟨x4, x5, x6⟩, rx, x8, x9⟩ := x
     obtain ⟨⟨y0, y1⟩, ⟨y2, y3⟩, ⟨y4, y5, y6⟩, ry, y8, y9⟩ := y
     obtain ⟨⟨z0, z1⟩, ⟨z2, z3⟩, ⟨z4, z5, z6⟩, rz, z8, z9⟩ := z
     simp only at X0 X1 X2 X3 X4 X5 X6 X7 X8 X9 Y0 Y1 Y2 Y3 Y4 Y5 Y6 Y7 Y8 Y9 Z0 Z1 Z2 Z3 Z4 Z5 Z6 Z7 Z8 Z9
     have HJ := Lib.hid (And.intro hj hm)
     clear hx hy hz hcx hcy hcz hj hm rv hvn hn' hee he1
     go_wp2_with fail
     apply share
     ·intro main
      refine wp_region_held (S := fun w' => Below wr.heap.size wr w') (by kernel_rfl) ?_
      have hHeld : Below wr.heap.size wr wr.drew := (Below.refl _ _).drew
      show wpAnyH _ _ _ _ _ _ _ _ wr.drew
      refine wpAnyH_take (i := 0) (oi := _) (v := ?_) rfl (by kernel_rfl) (by kernel_rfl) (by kernel_rfl) (fun _ _ _ h => h) (Or.inl ⟨by rfl, ?_⟩) hHeld ?_
      rotate_left 1
      ·(intro w s; (try dsimp only at s); have r1 := fun o => s.cell (p := ⟨bx, o, none⟩) hbx; have r2 := s.cell (p := ⟨bv, ov + k, none⟩) hbv; have r3 : bx < w.heap.size := Nat.lt_of_lt_of_le hbx s.size; have r4 : bv < w.heap.size := Nat.lt_of_lt_of_le hbv s.size; go_simp; try with_reducible rfl)
      simp only [Act.put]
      refine wpAnyH_take (i := 1) (oi := _) (v := ?_) rfl (by kernel_rfl) (by kernel_rfl) (by kernel_rfl) (fun _ _ _ h => h) (Or.inl ⟨by rfl, ?_⟩) hHeld ?_
      rotate_left 1
      ·(intro w s; (try dsimp only at s); have r1 := fun o => s.cell (p := ⟨bx, o, none⟩) hbx; have r2 := s.cell (p := ⟨bv, ov + k, none⟩) hbv; have r3 : bx < w.heap.size := Nat.lt_of_lt_of_le hbx s.size; have r4 : bv < w.heap.size := Nat.lt_of_lt_of_le hbv s.size; go_simp; try with_reducible rfl)
      simp only [Act.put]
      refine wpAnyH_take (i := 2) (oi := _) (v := ?_) rfl (by kernel_rfl) (by kernel_rfl) (by kernel_rfl) (fun _ _ _ h => h) (Or.inl ⟨by rfl, ?_⟩) hHeld ?_
      rotate_left 1
      ·(intro w s; (try dsimp only at s); have r1 := fun o => s.cell (p := ⟨bx, o, none⟩) hbx; have r2 := s.cell (p := ⟨bv, ov + k, none⟩) hbv; have r3 : bx < w.heap.size := Nat.lt_of_lt_of_le hbx s.size; have r4 : bv < w.heap.size := Nat.lt_of_lt_of_le hbv s.size; go_simp; try with_reducible rfl)
      simp only [Act.put]
      refine wpAnyH_take (i := 3) (oi := _) (v := ?_) rfl (by kernel_rfl) (by kernel_rfl) (by kernel_rfl) (fun _ _ _ h => h) (Or.inl ⟨by rfl, ?_⟩) hHeld ?_
      rotate_left 1
      ·(intro w s; (try dsimp only at s); have r1 := fun o => s.cell (p := ⟨bx, o, none⟩) hbx; have r2 := s.cell (p := ⟨bv, ov + k, none⟩) hbv; have r3 : bx < w.heap.size := Nat.lt_of_lt_of_le hbx s.size; have r4 : bv < w.heap.size := Nat.lt_of_lt_of_le hbv s.size; go_simp; try with_reducible rfl)
      simp only [Act.put]
      refine wpAnyH_take (i := 4) (oi := _) (v := ?_) rfl (by kernel_rfl) (by kernel_rfl) (by kernel_rfl) (fun _ _ _ h => h) (Or.inl ⟨by rfl, ?_⟩) hHeld ?_
      rotate_left 1
      ·(intro w s; (try dsimp only at s); have r1 := fun o => s.cell (p := ⟨bx, o, none⟩) hbx; have r2 := s.cell (p := ⟨bv, ov + k, none⟩) hbv; have r3 : bx < w.heap.size := Nat.lt_of_lt_of_le hbx s.size; have r4 : bv < w.heap.size := Nat.lt_of_lt_of_le hbv s.size; go_simp; try with_reducible rfl)
      simp only [Act.put]
      refine wpAnyH_take (i := 5) (oi := _) (v := ?_) rfl (by kernel_rfl) (by kernel_rfl) (by kernel_rfl) (fun _ _ _ h => h) (Or.inl ⟨by rfl, ?_⟩) hHeld ?_
      rotate_left 1
      ·(intro w s; (try dsimp only at s); have r1 := fun o => s.cell (p := ⟨bx, o, none⟩) hbx; have r2 := s.cell (p := ⟨bv, ov + k, none⟩) hbv; have r3 : bx < w.heap.size := Nat.lt_of_lt_of_le hbx s.size; have r4 : bv < w.heap.size := Nat.lt_of_lt_of_le hbv s.size; go_simp; try with_reducible rfl)
      simp only [Act.put]
      refine wpAnyH_take (i := 6) (oi := _) (v := ?_) rfl (by kernel_rfl) (by kernel_rfl) (by kernel_rfl) (fun _ _ _ h => h) (Or.inl ⟨by rfl, ?_⟩) hHeld ?_
      rotate_left 1
      ·(intro w s; (try dsimp only at s); have r1 := fun o => s.cell (p := ⟨bx, o, none⟩) hbx; have r2 := s.cell (p := ⟨bv, ov + k, none⟩) hbv; have r3 : bx < w.heap.size := Nat.lt_of_lt_of_le hbx s.size; have r4 : bv < w.heap.size := Nat.lt_of_lt_of_le hbv s.size; go_simp; try with_reducible rfl)
      simp only [Act.put]
      refine wpAnyH_take (i := 7) (oi := _) (v := ?_) rfl (by kernel_rfl) (by kernel_rfl) (by kernel_rfl) (fun _ _ _ h => h) (Or.inl ⟨by rfl, ?_⟩) hHeld ?_
      rotate_left 1
      ·(intro w s; (try dsimp only at s); have r1 := fun o => s.cell (p := ⟨bx, o, none⟩) hbx; have r2 := s.cell (p := ⟨bv, ov + k, none⟩) hbv; have r3 : bx < w.heap.size := Nat.lt_of_lt_of_le hbx s.size; have r4 : bv < w.heap.size := Nat.lt_of_lt_of_le hbv s.size; go_simp; try with_reducible rfl)
      simp only [Act.put]
      refine wpAnyH_take (i := 8) (oi := _) (v := ?_) rfl (by kernel_rfl) (by kernel_rfl) (by kernel_rfl) (fun _ _ _ h => h) (Or.inl ⟨by rfl, ?_⟩) hHeld ?_
      rotate_left 1
      ·(intro w s; (try dsimp only at s); have r1 := fun o => s.cell (p := ⟨bx, o, none⟩) hbx; have r2 := s.cell (p := ⟨bv, ov + k, none⟩) hbv; have r3 : bx < w.heap.size := Nat.lt_of_lt_of_le hbx s.size; have r4 : bv < w.heap.size := Nat.lt_of_lt_of_le hbv s.size; go_simp; try with_reducible rfl)
      simp only [Act.put]
      refine wpAnyH_take (i := 9) (oi := _) (v := ?_) rfl (by kernel_rfl) (by kernel_rfl) (by kernel_rfl) (fun _ _ _ h => h) (Or.inl ⟨by rfl, ?_⟩) hHeld ?_
      rotate_left 1
      ·(intro w s; (try dsimp only at s); have r1 := fun o => s.cell (p := ⟨bx, o, none⟩) hbx; have r2 := s.cell (p := ⟨bv, ov + k, none⟩) hbv; have r3 : bx < w.heap.size := Nat.lt_of_lt_of_le hbx s.size; have r4 : bv < w.heap.size := Nat.lt_of_lt_of_le hbv s.size; go_simp; try with_reducible rfl)
      simp only [Act.put]
      refine wpAnyH_take (i := 10) (oi := _) (v := ?_) rfl (by kernel_rfl) (by kernel_rfl) (by kernel_rfl) (fun _ _ _ h => h) (Or.inl ⟨by rfl, ?_⟩) hHeld ?_
      rotate_left 1
      ·(intro w s; (try dsimp only at s); have r1 := fun o => s.cell (p := ⟨bx, o, none⟩) hbx; have r2 := s.cell (p := ⟨bv, ov + k, none⟩) hbv; have r3 : bx < w.heap.size := Nat.lt_of_lt_of_le hbx s.size; have r4 : bv < w.heap.size := Nat.lt_of_lt_of_le hbv s.size; go_simp; try with_reducible rfl)
      simp only [Act.put]
      refine wpAnyH_take (i := 11) (oi := _) (v := ?_) rfl (by kernel_rfl) (by kernel_rfl) (by kernel_rfl) (fun _ _ _ h => h) (Or.inl ⟨by rfl, ?_⟩) hHeld ?_
      rotate_left 1
      ·(intro w s; (try dsimp only at s); have r1 := fun o => s.cell (p := ⟨bx, o, none⟩) hbx; have r2 := s.cell (p := ⟨bv, ov + k, none⟩) hbv; have r3 : bx < w.heap.size := Nat.lt_of_lt_of_le hbx s.size; have r4 : bv < w.heap.size := Nat.lt_of_lt_of_le hbv s.size; go_simp; try with_reducible rfl)
      simp only [Act.put]
      refine wpAnyH_take (i := 12) (oi := _) (v := ?_) rfl (by kernel_rfl) (by kernel_rfl) (by kernel_rfl) (fun _ _ _ h => h) (Or.inl ⟨by rfl, ?_⟩) hHeld ?_
      rotate_left 1
      ·(intro w s; (try dsimp only at s); have r1 := fun o => s.cell (p := ⟨bx, o, none⟩) hbx; have r2 := s.cell (p := ⟨bv, ov + k, none⟩) hbv; have r3 : bx < w.heap.size := Nat.lt_of_lt_of_le hbx s.size; have r4 : bv < w.heap.size := Nat.lt_of_lt_of_le hbv s.size; go_simp; try with_reducible rfl)
      simp only [Act.put]
      refine wpAnyH_take (i := 13) (oi := _) (v := ?_) rfl (by kernel_rfl) (by kernel_rfl) (by kernel_rfl) (fun _ _ _ h => h) (Or.inl ⟨by rfl, ?_⟩) hHeld ?_
      rotate_left 1
      ·(intro w s; (try dsimp only at s); have r1 := fun o => s.cell (p := ⟨bx, o, none⟩) hbx; have r2 := s.cell (p := ⟨bv, ov + k, none⟩) hbv; have r3 : bx < w.heap.size := Nat.lt_of_lt_of_le hbx s.size; have r4 : bv < w.heap.size := Nat.lt_of_lt_of_le hbv s.size; go_simp; try with_reducible rfl)
      simp only [Act.put]
      refine wpAnyH_take (i := 14) (oi := _) (v := ?_) rfl (by kernel_rfl) (by kernel_rfl) (by kernel_rfl) (fun _ _ _ h => h) (Or.inl ⟨by rfl, ?_⟩) hHeld ?_
      rotate_left 1
      ·(intro w s; (try dsimp only at s); have r1 := fun o => s.cell (p := ⟨bx, o, none⟩) hbx; have r2 := s.cell (p := ⟨bv, ov + k, none⟩) hbv; have r3 : bx < w.heap.size := Nat.lt_of_lt_of_le hbx s.size; have r4 : bv < w.heap.size := Nat.lt_of_lt_of_le hbv s.size; go_simp; try with_reducible rfl)
      simp only [Act.put]
      refine wpAnyH_take (i := 15) (oi := _) (v := ?_) rfl (by kernel_rfl) (by kernel_rfl) (by kernel_rfl) (fun _ _ _ h => h) (Or.inl ⟨by rfl, ?_⟩) hHeld ?_
      rotate_left 1
      ·(intro w s; (try dsimp only at s); have r1 := fun o => s.cell (p := ⟨bx, o, none⟩) hbx; have r2 := s.cell (p := ⟨bv, ov + k, none⟩) hbv; have r3 : bx < w.heap.size := Nat.lt_of_lt_of_le hbx s.size; have r4 : bv < w.heap.size := Nat.lt_of_lt_of_le hbv s.size; go_simp; try with_reducible rfl)
      simp only [Act.put]
      refine wpAnyH_take (i := 16) (oi := _) (v := ?_) rfl (by kernel_rfl) (by kernel_rfl) (by kernel_rfl) (fun _ _ _ h => h) (Or.inl ⟨by rfl, ?_⟩) hHeld ?_
      rotate_left 1
      ·(intro w s; (try dsimp only at s); have r1 := fun o => s.cell (p := ⟨bx, o, none⟩) hbx; have r2 := s.cell (p := ⟨bv, ov + k, none⟩) hbv; have r3 : bx < w.heap.size := Nat.lt_of_lt_of_le hbx s.size; have r4 : bv < w.heap.size := Nat.lt_of_lt_of_le hbv s.size; go_simp; try with_reducible rfl)
      simp only [Act.put]
      refine wpAnyH_take (i := 17) (oi := _) (v := ?_) rfl (by kernel_rfl) (by kernel_rfl) (by kernel_rfl) (fun _ _ _ h => h) (Or.inl ⟨by rfl, ?_⟩) hHeld ?_
      rotate_left 1
      ·(intro w s; (try dsimp only at s); have r1 := fun o => s.cell (p := ⟨bx, o, none⟩) hbx; have r2 := s.cell (p := ⟨bv, ov + k, none⟩) hbv; have r3 : bx < w.heap.size := Nat.lt_of_lt_of_le hbx s.size; have r4 : bv < w.heap.size := Nat.lt_of_lt_of_le hbv s.size; go_simp; try with_reducible rfl)
      simp only [Act.put]
      refine wpAnyH_take (i := 18) (oi := _) (v := ?_) rfl (by kernel_rfl) (by kernel_rfl) (by kernel_rfl) (fun _ _ _ h => h) (Or.inl ⟨by rfl, ?_⟩) hHeld ?_
      rotate_left 1
      ·(intro w s; (try dsimp only at s); have r1 := fun o => s.cell (p := ⟨bx, o, none⟩) hbx; have r2 := s.cell (p := ⟨bv, ov + k, none⟩) hbv; have r3 : bx < w.heap.size := Nat.lt_of_lt_of_le hbx s.size; have r4 : bv < w.heap.size := Nat.lt_of_lt_of_le hbv s.size; go_simp; try with_reducible rfl)
      simp only [Act.put]
      refine wpAnyH_take (i := 19) (oi := _) (v := ?_) rfl (by kernel_rfl) (by kernel_rfl) (by kernel_rfl) (fun _ _ _ h => h) (Or.inl ⟨by rfl, ?_⟩) hHeld ?_
      rotate_left 1
      ·(intro w s; (try dsimp only at s); have r1 := fun o => s.cell (p := ⟨bx, o, none⟩) hbx; have r2 := s.cell (p := ⟨bv, ov + k, none⟩) hbv; have r3 : bx < w.heap.size := Nat.lt_of_lt_of_le hbx s.size; have r4 : bv < w.heap.size := Nat.lt_of_lt_of_le hbv s.size; go_simp; try with_reducible rfl)
      simp only [Act.put]
      refine wpAnyH_take (i := 20) (oi := _) (v := ?_) rfl (by kernel_rfl) (by kernel_rfl) (by kernel_rfl) (fun _ _ _ h => h) (Or.inl ⟨by rfl, ?_⟩) hHeld ?_
      rotate_left 1
      ·(intro w s; (try dsimp only at s); have r1 := fun o => s.cell (p := ⟨bx, o, none⟩) hbx; have r2 := s.cell (p := ⟨bv, ov + k, none⟩) hbv; have r3 : bx < w.heap.size := Nat.lt_of_lt_of_le hbx s.size; have r4 : bv < w.heap.size := Nat.lt_of_lt_of_le hbv s.size; go_simp; try with_reducible rfl)
      simp only [Act.put]
      refine wpAnyH_take (i := 21) (oi := _) (v := ?_) rfl (by kernel_rfl) (by kernel_rfl) (by kernel_rfl) (fun _ _ _ h => h) (Or.inl ⟨by rfl, ?_⟩) hHeld ?_
      rotate_left 1
      ·(intro w s; (try dsimp only at s); have r1 := fun o => s.cell (p := ⟨bx, o, none⟩) hbx; have r2 := s.cell (p := ⟨bv, ov + k, none⟩) hbv; have r3 : bx < w.heap.size := Nat.lt_of_lt_of_le hbx s.size; have r4 : bv < w.heap.size := Nat.lt_of_lt_of_le hbv s.size; go_simp; try with_reducible rfl)
      simp only [Act.put]
      refine wpAnyH_take (i := 22) (oi := _) (v := ?_) rfl (by kernel_rfl) (by kernel_rfl) (by kernel_rfl) (fun _ _ _ h => h) (Or.inl ⟨by rfl, ?_⟩) hHeld ?_
      rotate_left 1
      ·(intro w s; (try dsimp only at s); have r1 := fun o => s.cell (p := ⟨bx, o, none⟩) hbx; have r2 := s.cell (p := ⟨bv, ov + k, none⟩) hbv; have r3 : bx < w.heap.size := Nat.lt_of_lt_of_le hbx s.size; have r4 : bv < w.heap.size := Nat.lt_of_lt_of_le hbv s.size; go_simp; try with_reducible rfl)
      simp only [Act.put]
      refine wpAnyH_ready (rs := [23,24,25]) (by kernel_rfl) (by simp) ?_
      refine AllReadyH.cons (o := _) rfl (fun K hK => ?_) (AllReadyH.cons (o := _) rfl (fun K hK => ?_) (AllReadyH.cons (o := _) rfl (fun K hK => ?_) (AllReadyH.nil)))
      ·rw [if_pos (by rfl)]
       go_simp
       refine hK.out _ _ (below_alloc (Below.refl _ _).drew _) (fun _ => ?_)
       clear hK
       refine wpAnyH_ready (rs := [24,25]) (by kernel_rfl) (by simp) ?_
       refine AllReadyH.cons (o := _) rfl (fun K hK => ?_) (AllReadyH.cons (o := _) rfl (fun K hK => ?_) (AllReadyH.nil))
       ·rw [if_pos (by rfl)]
        go_simp
        refine hK.out _ _ (below_alloc (below_alloc (Below.refl _ _).drew _) _) (fun _ => ?_)
        clear hK
        refine wpAnyH_ready (rs := [25]) (by kernel_rfl) (by simp) ?_
        refine AllReadyH.cons (o := _) rfl (fun K hK => ?_) (AllReadyH.nil)
        ·rw [if_pos (by rfl)]
         go_simp
         refine hK.out _ _ (below_alloc (below_alloc (below_alloc (Below.refl _ _).drew _) _) _) (fun _ => ?_)
         clear hK
         refine wpAnyH_ready (rs := [26]) (by kernel_rfl) (by simp) ?_
         refine AllReadyH.cons (o := _) rfl (fun K hK => ?_) AllReadyH.nil
         rw [if_pos (by rfl)]
         go_simp
         refine hK.out _ _ (below_alloc (below_alloc (below_alloc (Below.refl _ _).drew _) _) _) (fun _ => ?_)
         clear hK
         refine wpAnyH_ready (rs := [27]) (by kernel_rfl) (by simp) ?_
         refine AllReadyH.cons (o := _) rfl (fun K hK => ?_) AllReadyH.nil
         rw [if_pos (by rfl)]
         go_simp
         refine hK.out _ _ (below_alloc (below_alloc (below_alloc (Below.refl _ _).drew _) _) _) (fun _ => ?_)
         clear hK
         refine wpAnyH_ready (rs := [28]) (by kernel_rfl) (by simp) ?_
         refine AllReadyH.cons (o := _) rfl (fun K hK => ?_) AllReadyH.nil
         rw [if_pos (by rfl)]
         go_simp
         refine hK.out _ _ (below_alloc (below_alloc (below_alloc (Below.refl _ _).drew _) _) _) (fun _ => ?_)
         clear hK
         refine wpAnyH_done (by kernel_rfl) ?_ _
         have e1 : wr.drew.heap.size = wr.heap.size := rfl
         obtain ⟨w6, hw6⟩ : ∃ z, z = (((wr.alloc (.cells #[.int .i64 x0, .int .i64 x1, .int .i64 x2, .int .i64 x3, .int .i64 x4, .int .i64 x5, .int .i64 x6, .bool rx, .int .i64 x8, .int .i64 x9] 49)).alloc (.cells #[.int .i64 y0, .int .i64 y1, .int .i64 y2, .int .i64 y3, .int .i64 y4, .int .i64 y5, .int .i64 y6, .bool ry, .int .i64 y8, .int .i64 y9] 49)).alloc (.cells #[.int .i64 z0, .int .i64 z1, .int .i64 z2, .int .i64 z3, .int .i64 z4, .int .i64 z5, .int .i64 z6, .bool rz, .int .i64 z8, .int .i64 z9] 49)).drew := ⟨_, rfl⟩
         rw [← hw6]
         obtain ⟨BX, BY, BZ, hB6⟩ := trip_blk hw6
         obtain ⟨gZ, hgZ⟩ : ∃ z, z = wr.heap.size + 1 + 1 := ⟨_, rfl⟩
         have lZ : wr.heap.size ≤ gZ := by omega
         rw [← hgZ] at BZ ⊢
         obtain ⟨gY, hgY⟩ : ∃ z, z = wr.heap.size + 1 := ⟨_, rfl⟩
         have lY : wr.heap.size ≤ gY := by omega
         rw [← hgY] at BY ⊢
         obtain ⟨gX, hgX⟩ : ∃ z, z = wr.heap.size := ⟨_, rfl⟩
         have lX : wr.heap.size ≤ gX := by omega
         rw [← hgX] at BX ⊢
         clear hw6 hgX hgY hgZ e1
         revert lZ
         revert BZ
         revert lY
         revert BY
         revert lX
         revert BX
         revert gZ
         revert gY
         revert gX
         revert hB6
         revert w6
         exact main.out
       ·rw [if_pos (by rfl)]
        go_simp
        refine hK.out _ _ (below_alloc (below_alloc (Below.refl _ _).drew _) _) (fun _ => ?_)
        clear hK
        refine wpAnyH_ready (rs := [24]) (by kernel_rfl) (by simp) ?_
        refine AllReadyH.cons (o := _) rfl (fun K hK => ?_) (AllReadyH.nil)
        ·rw [if_pos (by rfl)]
         go_simp
         refine hK.out _ _ (below_alloc (below_alloc (below_alloc (Below.refl _ _).drew _) _) _) (fun _ => ?_)
         clear hK
         refine wpAnyH_ready (rs := [26]) (by kernel_rfl) (by simp) ?_
         refine AllReadyH.cons (o := _) rfl (fun K hK => ?_) AllReadyH.nil
         rw [if_pos (by rfl)]
         go_simp
         refine hK.out _ _ (below_alloc (below_alloc (below_alloc (Below.refl _ _).drew _) _) _) (fun _ => ?_)
         clear hK
         refine wpAnyH_ready (rs := [27]) (by kernel_rfl) (by simp) ?_
         refine AllReadyH.cons (o := _) rfl (fun K hK => ?_) AllReadyH.nil
         rw [if_pos (by rfl)]
         go_simp
         refine hK.out _ _ (below_alloc (below_alloc (below_alloc (Below.refl _ _).drew _) _) _) (fun _ => ?_)
         clear hK
         refine wpAnyH_ready (rs := [28]) (by kernel_rfl) (by simp) ?_
         refine AllReadyH.cons (o := _) rfl (fun K hK => ?_) AllReadyH.nil
         rw [if_pos (by rfl)]
         go_simp
         refine hK.out _ _ (below_alloc (below_alloc (below_alloc (Below.refl _ _).drew _) _) _) (fun _ => ?_)
         clear hK
         refine wpAnyH_done (by kernel_rfl) ?_ _
         have e1 : wr.drew.heap.size = wr.heap.size := rfl
         obtain ⟨w6, hw6⟩ : ∃ z, z = (((wr.alloc (.cells #[.int .i64 x0, .int .i64 x1, .int .i64 x2, .int .i64 x3, .int .i64 x4, .int .i64 x5, .int .i64 x6, .bool rx, .int .i64 x8, .int .i64 x9] 49)).alloc (.cells #[.int .i64 z0, .int .i64 z1, .int .i64 z2, .int .i64 z3, .int .i64 z4, .int .i64 z5, .int .i64 z6, .bool rz, .int .i64 z8, .int .i64 z9] 49)).alloc (.cells #[.int .i64 y0, .int .i64 y1, .int .i64 y2, .int .i64 y3, .int .i64 y4, .int .i64 y5, .int .i64 y6, .bool ry, .int .i64 y8, .int .i64 y9] 49)).drew := ⟨_, rfl⟩
         rw [← hw6]
         obtain ⟨BX, BZ, BY, hB6⟩ := trip_blk hw6
         exact main.out w6 hB6 (wr.heap.size) (wr.heap.size + 1 + 1) (wr.heap.size + 1) BX (by omega) BY (by omega) BZ (by omega)
      ·rw [if_pos (by rfl)]
       go_simp
       refine hK.out _ _ (below_alloc (Below.refl _ _).drew _) (fun _ => ?_)
       clear hK
       refine wpAnyH_ready (rs := [23,25]) (by kernel_rfl) (by simp) ?_
       refine AllReadyH.cons (o := _) rfl (fun K hK => ?_) (AllReadyH.cons (o := _) rfl (fun K hK => ?_) (AllReadyH.nil))
       ·rw [if_pos (by rfl)]
        go_simp
        refine hK.out _ _ (below_alloc (below_alloc (Below.refl _ _).drew _) _) (fun _ => ?_)
        clear hK
        refine wpAnyH_ready (rs := [25]) (by kernel_rfl) (by simp) ?_
        refine AllReadyH.cons (o := _) rfl (fun K hK => ?_) (AllReadyH.nil)
        ·rw [if_pos (by rfl)]
         go_simp
         refine hK.out _ _ (below_alloc (below_alloc (below_alloc (Below.refl _ _).drew _) _) _) (fun _ => ?_)
         clear hK
         refine wpAnyH_ready (rs := [26]) (by kernel_rfl) (by simp) ?_
         refine AllReadyH.cons (o := _) rfl (fun K hK => ?_) AllReadyH.nil
         rw [if_pos (by rfl)]
         go_simp
         refine hK.out _ _ (below_alloc (below_alloc (below_alloc (Below.refl _ _).drew _) _) _) (fun _ => ?_)
         clear hK
         refine wpAnyH_ready (rs := [27]) (by kernel_rfl) (by simp) ?_
         refine AllReadyH.cons (o := _) rfl (fun K hK => ?_) AllReadyH.nil
         rw [if_pos (by rfl)]
         go_simp
         refine hK.out _ _ (below_alloc (below_alloc (below_alloc (Below.refl _ _).drew _) _) _) (fun _ => ?_)
         clear hK
         refine wpAnyH_ready (rs := [28]) (by kernel_rfl) (by simp) ?_
         refine AllReadyH.cons (o := _) rfl (fun K hK => ?_) AllReadyH.nil
         rw [if_pos (by rfl)]
         go_simp
         refine hK.out _ _ (below_alloc (below_alloc (below_alloc (Below.refl _ _).drew _) _) _) (fun _ => ?_)
         clear hK
         refine wpAnyH_done (by kernel_rfl) ?_ _
         have e1 : wr.drew.heap.size = wr.heap.size := rfl
         obtain ⟨w6, hw6⟩ : ∃ z, z = (((wr.alloc (.cells #[.int .i64 y0, .int .i64 y1, .int .i64 y2, .int .i64 y3, .int .i64 y4, .int .i64 y5, .int .i64 y6, .bool ry, .int .i64 y8, .int .i64 y9] 49)).alloc (.cells #[.int .i64 x0, .int .i64 x1, .int .i64 x2, .int .i64 x3, .int .i64 x4, .int .i64 x5, .int .i64 x6, .bool rx, .int .i64 x8, .int .i64 x9] 49)).alloc (.cells #[.int .i64 z0, .int .i64 z1, .int .i64 z2, .int .i64 z3, .int .i64 z4, .int .i64 z5, .int .i64 z6, .bool rz, .int .i64 z8, .int .i64 z9] 49)).drew := ⟨_, rfl⟩
         rw [← hw6]
         obtain ⟨BY, BX, BZ, hB6⟩ := trip_blk hw6
         exact main.out w6 hB6 (wr.heap.size + 1) (wr.heap.size) (wr.heap.size + 1 + 1) BX (by omega) BY (by omega) BZ (by omega)
       ·rw [if_pos (by rfl)]
        go_simp
        refine hK.out _ _ (below_alloc (below_alloc (Below.refl _ _).drew _) _) (fun _ => ?_)
        clear hK
        refine wpAnyH_ready (rs := [23]) (by kernel_rfl) (by simp) ?_
        refine AllReadyH.cons (o := _) rfl (fun K hK => ?_) (AllReadyH.nil)
        ·rw [if_pos (by rfl)]
         go_simp
         refine hK.out _ _ (below_alloc (below_alloc (below_alloc (Below.refl _ _).drew _) _) _) (fun _ => ?_)
         clear hK
         refine wpAnyH_ready (rs := [26]) (by kernel_rfl) (by simp) ?_
         refine AllReadyH.cons (o := _) rfl (fun K hK => ?_) AllReadyH.nil
         rw [if_pos (by rfl)]
         go_simp
         refine hK.out _ _ (below_alloc (below_alloc (below_alloc (Below.refl _ _).drew _) _) _) (fun _ => ?_)
         clear hK
         refine wpAnyH_ready (rs := [27]) (by kernel_rfl) (by simp) ?_
         refine AllReadyH.cons (o := _) rfl (fun K hK => ?_) AllReadyH.nil
         rw [if_pos (by rfl)]
         go_simp
         refine hK.out _ _ (below_alloc (below_alloc (below_alloc (Below.refl _ _).drew _) _) _) (fun _ => ?_)
         clear hK
         refine wpAnyH_ready (rs := [28]) (by kernel_rfl) (by simp) ?_
         refine AllReadyH.cons (o := _) rfl (fun K hK => ?_) AllReadyH.nil
         rw [if_pos (by rfl)]
         go_simp
         refine hK.out _ _ (below_alloc (below_alloc (below_alloc (Below.refl _ _).drew _) _) _) (fun _ => ?_)
         clear hK
         refine wpAnyH_done (by kernel_rfl) ?_ _
         have e1 : wr.drew.heap.size = wr.heap.size := rfl
         obtain ⟨w6, hw6⟩ : ∃ z, z = (((wr.alloc (.cells #[.int .i64 y0, .int .i64 y1, .int .i64 y2, .int .i64 y3, .int .i64 y4, .int .i64 y5, .int .i64 y6, .bool ry, .int .i64 y8, .int .i64 y9] 49)).alloc (.cells #[.int .i64 z0, .int .i64 z1, .int .i64 z2, .int .i64 z3, .int .i64 z4, .int .i64 z5, .int .i64 z6, .bool rz, .int .i64 z8, .int .i64 z9] 49)).alloc (.cells #[.int .i64 x0, .int .i64 x1, .int .i64 x2, .int .i64 x3, .int .i64 x4, .int .i64 x5, .int .i64 x6, .bool rx, .int .i64 x8, .int .i64 x9] 49)).drew := ⟨_, rfl⟩
         rw [← hw6]
         obtain ⟨BY, BZ, BX, hB6⟩ := trip_blk hw6
         exact main.out w6 hB6 (wr.heap.size + 1 + 1) (wr.heap.size) (wr.heap.size + 1) BX (by omega) BY (by omega) BZ (by omega)
      ·rw [if_pos (by rfl)]
       go_simp
       refine hK.out _ _ (below_alloc (Below.refl _ _).drew _) (fun _ => ?_)
       clear hK
       refine wpAnyH_ready (rs := [23,24]) (by kernel_rfl) (by simp) ?_
       refine AllReadyH.cons (o := _) rfl (fun K hK => ?_) (AllReadyH.cons (o := _) rfl (fun K hK => ?_) (AllReadyH.nil))
       ·rw [if_pos (by rfl)]
        go_simp
        refine hK.out _ _ (below_alloc (below_alloc (Below.refl _ _).drew _) _) (fun _ => ?_)
        clear hK
        refine wpAnyH_ready (rs := [24]) (by kernel_rfl) (by simp) ?_
        refine AllReadyH.cons (o := _) rfl (fun K hK => ?_) (AllReadyH.nil)
        ·rw [if_pos (by rfl)]
         go_simp
         refine hK.out _ _ (below_alloc (below_alloc (below_alloc (Below.refl _ _).drew _) _) _) (fun _ => ?_)
         clear hK
         refine wpAnyH_ready (rs := [26]) (by kernel_rfl) (by simp) ?_
         refine AllReadyH.cons (o := _) rfl (fun K hK => ?_) AllReadyH.nil
         rw [if_pos (by rfl)]
         go_simp
         refine hK.out _ _ (below_alloc (below_alloc (below_alloc (Below.refl _ _).drew _) _) _) (fun _ => ?_)
         clear hK
         refine wpAnyH_ready (rs := [27]) (by kernel_rfl) (by simp) ?_
         refine AllReadyH.cons (o := _) rfl (fun K hK => ?_) AllReadyH.nil
         rw [if_pos (by rfl)]
         go_simp
         refine hK.out _ _ (below_alloc (below_alloc (below_alloc (Below.refl _ _).drew _) _) _) (fun _ => ?_)
         clear hK
         refine wpAnyH_ready (rs := [28]) (by kernel_rfl) (by simp) ?_
         refine AllReadyH.cons (o := _) rfl (fun K hK => ?_) AllReadyH.nil
         rw [if_pos (by rfl)]
         go_simp
         refine hK.out _ _ (below_alloc (below_alloc (below_alloc (Below.refl _ _).drew _) _) _) (fun _ => ?_)
         clear hK
         refine wpAnyH_done (by kernel_rfl) ?_ _
         have e1 : wr.drew.heap.size = wr.heap.size := rfl
         obtain ⟨w6, hw6⟩ : ∃ z, z = (((wr.alloc (.cells #[.int .i64 z0, .int .i64 z1, .int .i64 z2, .int .i64 z3, .int .i64 z4, .int .i64 z5, .int .i64 z6, .bool rz, .int .i64 z8, .int .i64 z9] 49)).alloc (.cells #[.int .i64 x0, .int .i64 x1, .int .i64 x2, .int .i64 x3, .int .i64 x4, .int .i64 x5, .int .i64 x6, .bool rx, .int .i64 x8, .int .i64 x9] 49)).alloc (.cells #[.int .i64 y0, .int .i64 y1, .int .i64 y2, .int .i64 y3, .int .i64 y4, .int .i64 y5, .int .i64 y6, .bool ry, .int .i64 y8, .int .i64 y9] 49)).drew := ⟨_, rfl⟩
         rw [← hw6]
         obtain ⟨BZ, BX, BY, hB6⟩ := trip_blk hw6
         exact main.out w6 hB6 (wr.heap.size + 1) (wr.heap.size + 1 + 1) (wr.heap.size) BX (by omega) BY (by omega) BZ (by omega)
       ·rw [if_pos (by rfl)]
        go_simp
        refine hK.out _ _ (below_alloc (below_alloc (Below.refl _ _).drew _) _) (fun _ => ?_)
        clear hK
        refine wpAnyH_ready (rs := [23]) (by kernel_rfl) (by simp) ?_
        refine AllReadyH.cons (o := _) rfl (fun K hK => ?_) (AllReadyH.nil)
        ·rw [if_pos (by rfl)]
         go_simp
         refine hK.out _ _ (below_alloc (below_alloc (below_alloc (Below.refl _ _).drew _) _) _) (fun _ => ?_)
         clear hK
         refine wpAnyH_ready (rs := [26]) (by kernel_rfl) (by simp) ?_
         refine AllReadyH.cons (o := _) rfl (fun K hK => ?_) AllReadyH.nil
         rw [if_pos (by rfl)]
         go_simp
         refine hK.out _ _ (below_alloc (below_alloc (below_alloc (Below.refl _ _).drew _) _) _) (fun _ => ?_)
         clear hK
         refine wpAnyH_ready (rs := [27]) (by kernel_rfl) (by simp) ?_
         refine AllReadyH.cons (o := _) rfl (fun K hK => ?_) AllReadyH.nil
         rw [if_pos (by rfl)]
         go_simp
         refine hK.out _ _ (below_alloc (below_alloc (below_alloc (Below.refl _ _).drew _) _) _) (fun _ => ?_)
         clear hK
         refine wpAnyH_ready (rs := [28]) (by kernel_rfl) (by simp) ?_
         refine AllReadyH.cons (o := _) rfl (fun K hK => ?_) AllReadyH.nil
         rw [if_pos (by rfl)]
         go_simp
         refine hK.out _ _ (below_alloc (below_alloc (below_alloc (Below.refl _ _).drew _) _) _) (fun _ => ?_)
         clear hK
         refine wpAnyH_done (by kernel_rfl) ?_ _
         have e1 : wr.drew.heap.size = wr.heap.size := rfl
         obtain ⟨w6, hw6⟩ : ∃ z, z = (((wr.alloc (.cells #[.int .i64 z0, .int .i64 z1, .int .i64 z2, .int .i64 z3, .int .i64 z4, .int .i64 z5, .int .i64 z6, .bool rz, .int .i64 z8, .int .i64 z9] 49)).alloc (.cells #[.int .i64 y0, .int .i64 y1, .int .i64 y2, .int .i64 y3, .int .i64 y4, .int .i64 y5, .int .i64 y6, .bool ry, .int .i64 y8, .int .i64 y9] 49)).alloc (.cells #[.int .i64 x0, .int .i64 x1, .int .i64 x2, .int .i64 x3, .int .i64 x4, .int .i64 x5, .int .i64 x6, .bool rx, .int .i64 x8, .int .i64 x9] 49)).drew := ⟨_, rfl⟩
         rw [← hw6]
         obtain ⟨BZ, BY, BX, hB6⟩ := trip_blk hw6
         exact main.out w6 hB6 (wr.heap.size + 1 + 1) (wr.heap.size + 1) (wr.heap.size) BX (by omega) BY (by omega) BZ (by omega)
     intro w6 hB6 gX gY gZ BX lX BY lY BZ lZ
     have hcl : True := trivial
     clear X0 X1 X2 X3 X4 X5 X6 X7 X8 X9 Y0 Y1 Y2 Y3 Y4 Y5 Y6 Y7 Y8 Y9 Z0 Z1 Z2 Z3 Z4 Z5 Z6 Z7 Z8 Z9 cv hbv hbx n1 n2 n3 l1 l2 l3 hcl
     have inv6 := inv.call hB6
     have s1 := hB6.size
     have cX := BX.cell
     have zX := BX.lt
     have cY := BY.cell
     have zY := BY.lt
     have cZ := BZ.cell
     have zZ := BZ.lt
     have HNO := Lib.hid (fun (w9 : World) (hb9 : Below w6.heap.size w6 w9) (h0 : supP l k e = []) => show RInv w w9 db ob ib pd dn mo no' (ylds dn 3 (-1) f (supS l k ++ supV l k (e + 1))) 3 by rw [HN.out, h0, List.append_nil]; exact inv6.call hb9)
     clear inv
     cases rx with
     | true =>
      have h0 := E.out.trans (if_neg (by simp))
      have R := Lib.hid (fun w9 hb9 => HNO.out w9 hb9 h0)
      clear h0 E HNO hpx hpy hye
      go_wp2
      go_roundg (gk - 1)
      case measure => omega
      case rel => exact ⟨e + 1, no', by omega, by omega, by omega, by go_num, by omega, R.out _ (by repeat (first | with_reducible (first | exact Below.refl _ _ | assumption | refine below_drewN ?_ _ | refine Below.drew ?_ | refine below_alloc ?_ _) | (with_reducible refine Below.setCell ?_ ?_ _; rotate_left; ((try simp only); omega))))⟩
     | false =>
     cases ry with
     | true =>
      have h0 := E.out.trans (if_neg (by simp))
      have R := Lib.hid (fun w9 hb9 => HNO.out w9 hb9 h0)
      clear h0 E HNO hpx hpy hye
      go_wp2
      go_roundg (gk - 1)
      case measure => omega
      case rel => exact ⟨e + 1, no', by omega, by omega, by omega, by go_num, by omega, R.out _ (by repeat (first | with_reducible (first | exact Below.refl _ _ | assumption | refine below_drewN ?_ _ | refine Below.drew ?_ | refine below_alloc ?_ _) | (with_reducible refine Below.setCell ?_ ?_ _; rotate_left; ((try simp only); omega))))⟩
     | false =>
     cases rz with
     | true =>
      have h0 := E.out.trans (if_neg (by simp))
      have R := Lib.hid (fun w9 hb9 => HNO.out w9 hb9 h0)
      clear h0 E HNO hpx hpy hye
      go_wp2
      go_roundg (gk - 1)
      case measure => omega
      case rel => exact ⟨e + 1, no', by omega, by omega, by omega, by go_num, by omega, R.out _ (by repeat (first | with_reducible (first | exact Below.refl _ _ | assumption | refine below_drewN ?_ _ | refine Below.drew ?_ | refine below_alloc ?_ _) | (with_reducible refine Below.setCell ?_ ?_ _; rotate_left; ((try simp only); omega))))⟩
     | false =>
     have hpx : pchk (x4, x5, x6) = 0 := hpx rfl
     have hpy : pchk (y4, y5, y6) = 0 := hpy rfl
     by_cases hq : x4 = z4
     rotate_left
     ·have hqb : (x4 == z4) = false := by simpa using hq
      have h0 := E.out.trans (if_neg (by rintro ⟨_, h, _⟩; simp only [Prod.mk.injEq] at h; first | exact hq h.1 | exact hq h.2.1 | exact hq h.2.2))
      have R := Lib.hid (fun w9 hb9 => HNO.out w9 hb9 h0)
      clear h0 E HNO hpx hpy hye
      go_wp2
      go_roundg (gk - 1)
      case measure => omega
      case rel => exact ⟨e + 1, no', by omega, by omega, by omega, by go_num, by omega, R.out _ (by repeat (first | with_reducible (first | exact Below.refl _ _ | assumption | refine below_drewN ?_ _ | refine Below.drew ?_ | refine below_alloc ?_ _) | (with_reducible refine Below.setCell ?_ ?_ _; rotate_left; ((try simp only); omega))))⟩
     subst hq
     by_cases hq : x5 = z5
     rotate_left
     ·have hqb : (x5 == z5) = false := by simpa using hq
      have h0 := E.out.trans (if_neg (by rintro ⟨_, h, _⟩; simp only [Prod.mk.injEq] at h; first | exact hq h.1 | exact hq h.2.1 | exact hq h.2.2))
      have R := Lib.hid (fun w9 hb9 => HNO.out w9 hb9 h0)
      clear h0 E HNO hpx hpy hye
      go_wp2
      go_roundg (gk - 1)
      case measure => omega
      case rel => exact ⟨e + 1, no', by omega, by omega, by omega, by go_num, by omega, R.out _ (by repeat (first | with_reducible (first | exact Below.refl _ _ | assumption | refine below_drewN ?_ _ | refine Below.drew ?_ | refine below_alloc ?_ _) | (with_reducible refine Below.setCell ?_ ?_ _; rotate_left; ((try simp only); omega))))⟩
     subst hq
     by_cases hq : x6 = z6
     rotate_left
     ·have hqb : (x6 == z6) = false := by simpa using hq
      have h0 := E.out.trans (if_neg (by rintro ⟨_, h, _⟩; simp only [Prod.mk.injEq] at h; first | exact hq h.1 | exact hq h.2.1 | exact hq h.2.2))
      have R := Lib.hid (fun w9 hb9 => HNO.out w9 hb9 h0)
      clear h0 E HNO hpx hpy hye
      go_wp2
      go_roundg (gk - 1)
      case measure => omega
      case rel => exact ⟨e + 1, no', by omega, by omega, by omega, by go_num, by omega, R.out _ (by repeat (first | with_reducible (first | exact Below.refl _ _ | assumption | refine below_drewN ?_ _ | refine Below.drew ?_ | refine below_alloc ?_ _) | (with_reducible refine Below.setCell ?_ ?_ _; rotate_left; ((try simp only); omega))))⟩
     subst hq
     by_cases h5 : x4 = 5
     rotate_left
     ·have h5b : (x4 != 5) = true := by simpa using h5
      have h0 := E.out.trans (if_neg (by rintro ⟨_, _, h, _⟩; exact h5 h))
      have R := Lib.hid (fun w9 hb9 => HNO.out w9 hb9 h0)
      clear h0 E HNO hpx hpy hye
      go_wp2
      go_roundg (gk - 1)
      case measure => omega
      case rel => exact ⟨e + 1, no', by omega, by omega, by omega, by go_num, by omega, R.out _ (by repeat (first | with_reducible (first | exact Below.refl _ _ | assumption | refine below_drewN ?_ _ | refine Below.drew ?_ | refine below_alloc ?_ _) | (with_reducible refine Below.setCell ?_ ?_ _; rotate_left; ((try simp only); omega))))⟩
     have h5b : (x4 != 5) = false := by simp [h5]
     have rV6 := HV.out.under (inv6.low hB hmo)
     have hB6s : B ≤ w6.heap.size := by omega
     have qf := fun W (hW : Below w6.heap.size w6 W) => free_ok (some ⟨bv, ov, none⟩) n c l B W (rV6.below hB6s hW) (Nat.le_trans hB6s hW.size) hye.out
     have hfb : freeB l ((k : Int), (e : Int)) = decide (y6 = 0) := by rw [free_ev hye.out]; rfl
     obtain ⟨fb, hfb'⟩ : ∃ z, z = freeB l ((k : Int), (e : Int)) := ⟨_, rfl⟩
     rw [← hfb'] at qf hfb
     have HFB := Lib.hid hfb
     have E2 := Lib.hid (show supP l k e = if y6 = 0 ∧ numP (y4, y5, y6) = numP (x4, x5, x6) + 1 then [((k : Int), (e : Int))] else [] from E.out.trans (by simp [h5]))
     have HX5 := Lib.hid h5
     clear E
     have q1 := fun W => number_ok (x4, x5, x6) hpx W
     have q2 := fun W => number_ok (y4, y5, y6) hpy W
     have b1 := numP_bd hpx
     obtain ⟨P1, hP1⟩ : ∃ z, z = numP (x4, x5, x6) := ⟨_, rfl⟩
     obtain ⟨P2, hP2⟩ : ∃ z, z = numP (y4, y5, y6) := ⟨_, rfl⟩
     rw [← hP1] at q1 E2 b1
     rw [← hP2] at q2 E2
     have wP : IntKind.i64.wrap (P1 + 1) = P1 + 1 := IntWalk.i64_in _ (by omega)
     clear hfb hfb' hP1 hP2 h5 hpx hpy hye
     go_wp2_with fail
     refine (qf _ (by repeat (first | with_reducible (first | exact Below.refl _ _ | assumption | refine below_drewN ?_ _ | refine Below.drew ?_ | refine below_alloc ?_ _) | (with_reducible refine Below.setCell ?_ ?_ _; rotate_left; ((try simp only); omega))))).mono ?_
     rintro e0 w7 ⟨rfl, hb7⟩
     have bx7 := BX.kept hb7
     have by7 := BY.kept hb7
     clear cX zX cY zY cZ zZ qf
     have cX := bx7.cell
     have zX := bx7.lt
     have cY := by7.cell
     have zY := by7.lt
     cases fb with
     | false =>
      have h0 := E2.out.trans (if_neg (by rintro ⟨h, _⟩; have := HFB.out; simp [h] at this))
      have R := Lib.hid (fun w9 hb9 => HNO.out w9 hb9 h0)
      clear h0 E2 HNO q1 q2
      go_wp2
      go_roundg (gk - 1)
      case measure => omega
      case rel => exact ⟨e + 1, no', by omega, by omega, by omega, by go_num, by omega, R.out _ (by repeat (first | with_reducible (first | exact Below.refl _ _ | assumption | refine below_drewN ?_ _ | refine Below.drew ?_ | refine below_alloc ?_ _) | (with_reducible refine Below.setCell ?_ ?_ _; rotate_left; ((try simp only); omega))))⟩
     | true =>
     have HY6 := Lib.hid (show y6 = 0 by simpa using HFB.out.symm)
     go_wp2_with fail
     refine (q1 _).mono ?_
     rintro e1 w8 ⟨rfl, hb8⟩
     have k8 := below_call hb7 hb8
     have by8 := by7.kept hb8
     clear cX zX cY zY q1
     have cY := by8.cell
     have zY := by8.lt
     go_wp2_with fail
     refine (q2 _).mono ?_
     rintro e2 w9 ⟨rfl, hb9⟩
     have k9 := below_call k8 hb9
     clear cY zY q2
     by_cases hP : P2 = P1 + 1
     ·have hPb : (P2 == P1 + 1) = true := by simpa using hP
      have h0 := E2.out.trans (if_pos ⟨HY6.out, hP⟩)
      have he2 : e ≤ 2000 := by have := HLV.out; omega
      have hn' : no' ≤ 100000000 := by omega
      have qy := fun W (hW : Below w6.heap.size w6 W) => yield_ok (inv6.ys.call hW) hn' (by omega) ((k : Int), (e : Int)) (by unfold okI; simp only; omega) (-1)
      simp only at qy
      have HY9 := Lib.hid (fun (w10 : World) (hy : YS w10 db ob ib pd dn mo (no' + 1) (yld dn 3 (-1) (ylds dn 3 (-1) f (supS l k ++ supV l k e)) ((k : Int), (e : Int))) 3) (hg : w9.grownBy w10 (some mo)) => show RInv w w10 db ob ib pd dn mo (no' + 1) (ylds dn 3 (-1) f (supS l k ++ supV l k (e + 1))) 3 by
       rw [HN.out, h0, ← List.append_assoc, ylds_append]
       exact ⟨hy, Gb.tr (inv6.call k9).gb hg⟩)
      clear h0 E2 HNO hP
      go_wp2_with fail
      refine (qy _ (by repeat (first | with_reducible (first | exact Below.refl _ _ | assumption | refine below_drewN ?_ _ | refine Below.drew ?_ | refine below_alloc ?_ _) | (with_reducible refine Below.setCell ?_ ?_ _; rotate_left; ((try simp only); omega))))).mono ?_
      rintro e3 w10 ⟨rfl, hY, hG⟩
      go_wp2
      go_roundg (gk - 1)
      case measure => omega
      case rel => exact ⟨e + 1, no' + 1, by omega, by omega, by omega, by go_num, by omega, HY9.out _ hY hG⟩
     ·have hPb : (P2 == P1 + 1) = false := by simpa using hP
      have h0 := E2.out.trans (if_neg (fun h => hP h.2))
      have R := Lib.hid (fun w9 hb9 => HNO.out w9 hb9 h0)
      clear h0 E2 HNO hP
      go_wp2
      go_roundg (gk - 1)
      case measure => omega
      case rel => exact ⟨e + 1, no', by omega, by omega, by omega, by go_num, by omega, R.out _ (by repeat (first | with_reducible (first | exact Below.refl _ _ | assumption | refine below_drewN ?_ _ | refine Below.drew ?_ | refine below_alloc ?_ _) | (with_reducible refine Below.setCell ?_ ?_ _; rotate_left; ((try simp only); omega))))⟩
    ·have d1 : ¬ ((e : Int) + 1 < (n' : Int)) := by omega
     have HEN := Lib.hid (supV_end HVL.out (by omega) (show v.length ≤ e + 1 by omega))
     have he2 : e ≤ 2000 := by have := HLV.out; omega
     clear hee rv hn'
     go_wp2
     go_roundg gh
     case measure => omega
     case rel => exact ⟨k + 1, no', by omega, by go_num, by omega, by rw [HS1.out, HEN.out]; exact inv⟩
end Go.Proofs.YtpkmiegccfhpnaaGreatDoor
namespace Go.Proofs.YtpkmiegccfhpnaaGreatDoor
open Go.RowKit
def cmp3 (a b : Int) : Int := if a < b then -1 else if b < a then 1 else 0
theorem isNaN_any (a : Int) (w : World) : Calls Tryz.prog 50 #[.int .i64 a] w fun e w' => e = .returned (.bool false) ∧ Below w.heap.size w w' := by
 go_enter Tryz.func50, Tryz.ntmps50
 go_wp2
 go_ret
 exact ⟨by simp, by repeat (first | with_reducible (first | exact Below.refl _ _ | assumption | refine below_drewN ?_ _ | refine Below.drew ?_ | refine below_alloc ?_ _) | (with_reducible refine Below.setCell ?_ ?_ _; rotate_left; ((try simp only); omega)))⟩
theorem cmpI_any (a b : Int) (w : World) : Calls Tryz.prog 32 #[.int .i64 a, .int .i64 b] w fun e w' => e = .returned (.int .i64 (cmp3 a b)) ∧ Below w.heap.size w w' := by
 go_enter Tryz.func32, Tryz.ntmps32
 go_wp2_with fail
 refine (isNaN_any a _).mono ?_
 rintro e w1 ⟨rfl, h1⟩
 go_wp2_with fail
 refine (isNaN_any b _).mono ?_
 rintro e w2 ⟨rfl, h2⟩
 have h3 := below_call h1 h2
 by_cases c1 : a < b
 ·have E := Lib.hid (show cmp3 a b = -1 by unfold cmp3; rw [if_pos c1])
  go_wp2
  go_ret
  rw [E.out]
  exact ⟨rfl, h3⟩
 ·by_cases c2 : b < a
  ·have E := Lib.hid (show cmp3 a b = 1 by unfold cmp3; rw [if_neg c1, if_pos c2])
   go_wp2
   go_ret
   rw [E.out]
   exact ⟨rfl, h3⟩
  ·have E := Lib.hid (show cmp3 a b = 0 by unfold cmp3; rw [if_neg c1, if_neg c2])
   go_wp2
   go_ret
   rw [E.out]
   exact ⟨rfl, h3⟩
def orS : List Int → Int
 | [] => 0
 | x :: l => if x ≠ 0 then x else orS l
theorem or_any (A : Option Addr) (n c : Nat) (l : List Int) (B : Nat) (w : World) (h : Reads w B 1 A n (csN l)) (hB : B ≤ w.heap.size) (hn : n ≤ 1000) :
  Calls Tryz.prog 31 #[.slice A n c] w fun e w' => e = .returned (.int .i64 (orS l)) ∧ Below w.heap.size w w' := by
 have HL := Lib.hid (show l.length = n from h.len (size := 1) (l := l) (f := cI) (fun _ => rfl) (by decide))
 go_enter Tryz.func31, Tryz.ntmps31
 go_wp2
 go_loopg [5, 8] n (fun g _ i wr => ∃ k : Nat, k + g = n ∧ i = .int .i64 k ∧ Below w.heap.size w wr ∧ Hid (orS (l.drop k) = orS l))
 case atStart => exact ⟨0, by omega, by simp, Below.refl _ _, Lib.hid rfl⟩
 case round =>
  obtain ⟨k, hkg, rfl, kr, hE⟩ := hrel
  cases gk with
  | zero =>
   obtain rfl : k = n := by omega
   have d0 : ¬ ((k : Int) < (k : Int)) := by omega
   have E := Lib.hid (show orS l = 0 by rw [← hE.out, List.drop_of_length_le (by have := HL.out; omega)]; rfl)
   go_wp2
   go_ret
   rw [E.out]
   exact ⟨rfl, kr⟩
  | succ g =>
   have hk : k < n := by omega
   have hk' : (k : Int) < (n : Int) := by omega
   obtain ⟨x, hx⟩ := get_some (l := l) (k := k) (by have := HL.out; omega)
   obtain ⟨b, off, hA, hb, hc⟩ := Reads.elem (f := cI) (fun _ => rfl) (h.below hB kr) hk hx
   have hD : l.drop k = x :: l.drop (k + 1) := by
    have := List.drop_eq_getElem_cons (i := k) (l := l) (by have := HL.out; omega)
    rw [this, (List.getElem?_eq_some_iff.1 hx).2]
   have HD := Lib.hid (show (if x ≠ 0 then x else orS (l.drop (k + 1))) = orS l by rw [← hE.out, hD]; rfl)
   have c0 : wr.cell? ⟨b, off + k, none⟩ = some (.int .i64 x) := by have := hc 0 _ rfl; simpa using this
   have hbw : b < wr.heap.size := by have := kr.size; omega
   subst hA
   clear hc hD hx hE
   by_cases hz : x = 0
   ·have HN := Lib.hid (show orS (l.drop (k + 1)) = orS l by rw [← HD.out, if_neg (fun h => h hz)])
    have f0 : (x != 0) = false := by simp [hz]
    go_wp2
    go_roundg g
    case measure => omega
    case rel => exact ⟨k + 1, by omega, by go_num, kr, HN⟩
   ·have HN := Lib.hid (show orS l = x by rw [← HD.out, if_pos hz])
    have f0 : (x != 0) = true := by simp [hz]
    go_wp2
    go_ret
    rw [HN.out]
    exact ⟨rfl, kr⟩
def Halves (m : List Tm) (t : Tm) (i j : Nat) : Prop := (∀ (k : Nat) x, k < i → m[k]? = some x → ltT x t) ∧ (∀ (k : Nat) x, j ≤ k → m[k]? = some x → ¬ ltT x t)
theorem halves_right {m : List Tm} (hs : SA m) (ho : OkL m) {t x : Tm} (ht : ok t) {i j h : Nat} (hh : Halves m t i j) (hx : m[h]? = some x) (hl : ltT x t) : Halves m t (h + 1) j := by
 refine ⟨fun k y hk hy => ?_, hh.2⟩
 rcases Nat.lt_or_ge k h with h1 | h1
 ·have := List.pairwise_iff_getElem.1 hs k h (List.getElem?_eq_some_iff.1 hy).1 (List.getElem?_eq_some_iff.1 hx).1 h1
  rw [(List.getElem?_eq_some_iff.1 hy).2, (List.getElem?_eq_some_iff.1 hx).2] at this
  exact ltT_trans (ho _ (List.mem_of_getElem? hy)) (ho _ (List.mem_of_getElem? hx)) ht this hl
 ·obtain rfl : k = h := by omega
  rw [hx] at hy; cases hy; exact hl
theorem halves_left {m : List Tm} (hs : SA m) (ho : OkL m) {t x : Tm} (ht : ok t) {i j h : Nat} (hh : Halves m t i j) (hx : m[h]? = some x) (hl : ¬ ltT x t) : Halves m t i h := by
 refine ⟨hh.1, fun k y hk hy => ?_⟩
 rcases Nat.lt_or_ge h k with h1 | h1
 ·have := List.pairwise_iff_getElem.1 hs h k (List.getElem?_eq_some_iff.1 hx).1 (List.getElem?_eq_some_iff.1 hy).1 h1
  rw [(List.getElem?_eq_some_iff.1 hy).2, (List.getElem?_eq_some_iff.1 hx).2] at this
  exact leT_trans ht (ho _ (List.mem_of_getElem? hx)) (ho _ (List.mem_of_getElem? hy)) hl (ltT_asym this)
 ·obtain rfl : k = h := by omega
  rw [hx] at hy; cases hy; exact hl
theorem halves_end {m : List Tm} {t : Tm} {i : Nat} (hh : Halves m t i i) (hi : i ≤ m.length) : posW m t = i := posW_is hh.1 hi (fun x hx => hh.2 i x (Nat.le_refl _) hx)
/-! ### The onsets of a voice -/
def ats (v : List Ev) : List Tm := v.map (·.at_)
theorem ats_at {v : List Ev} {k : Nat} {x : Ev} (h : v[k]? = some x) : (ats v)[k]? = some x.at_ := by unfold ats; rw [List.getElem?_map, h]; rfl
theorem ats_len (v : List Ev) : (ats v).length = v.length := by unfold ats; rw [List.length_map]
theorem ats_sa {v : List Ev} (h : Val v) : SA (ats v) := by
 unfold SA
 rw [List.pairwise_iff_getElem]
 intro i j hi hj hij
 have hi' : i < v.length := by rw [← ats_len v]; exact hi
 have hj' : j < v.length := by rw [← ats_len v]; exact hj
 obtain ⟨x, hx⟩ := get_some hi'
 obtain ⟨y, hy⟩ := get_some hj'
 have e1 := ats_at hx
 have e2 := ats_at hy
 rw [(List.getElem?_eq_some_iff.1 e1).2, (List.getElem?_eq_some_iff.1 e2).2]
 exact (at_lt h j i x y hx hy hij).1
theorem ats_ok {v : List Ev} (h : Val v) : OkL (ats v) := by
 intro t ht
 unfold ats at ht
 obtain ⟨x, hx, rfl⟩ := List.mem_map.1 ht
 exact (val_mem h x hx).1
def cmpX (a b : Tm) : Int := cmp3 (a.1 * b.2) (b.1 * a.2)
theorem cmpX_lt {a b : Tm} : decide (cmpX a b < 0) = decide (ltT a b) := by
 apply decide_eq_decide.2
 unfold cmpX cmp3 ltT
 by_cases h : a.1 * b.2 < b.1 * a.2
 ·rw [if_pos h]; exact ⟨fun _ => h, fun _ => by decide⟩
 ·rw [if_neg h]
  refine ⟨fun hh => ?_, fun hh => absurd hh h⟩
  split at hh <;> omega
theorem cmpX_eq {a b : Tm} (ha : ok a) (hb : ok b) : (cmpX a b == 0) = decide (a = b) := by
 unfold cmpX cmp3
 by_cases e : a = b
 ·rw [e, if_neg (by omega), if_neg (by omega)]; simp
 ·have : ¬ (a.1 * b.2 - b.1 * a.2 = 0) := fun h0 => e (ok_eq ha hb (by omega))
  rw [decide_eq_false e]
  split
  ·rfl
  ·rw [if_pos (by omega)]; rfl
theorem mulx_bd {a b : Int} (h0 : 0 ≤ a) (h1 : a ≤ 1099511627776) (h2 : 0 ≤ b) (h3 : b ≤ 1048576) : 0 ≤ a * b ∧ a * b ≤ 1152921504606846976 :=
 ⟨Int.mul_nonneg h0 h2, Int.le_trans (Int.mul_le_mul h1 h3 h2 (by omega)) (by decide)⟩
theorem lead1_any (x : Ev) (t : Tm) (hx : ok x.at_) (ht : ok t) (w : World) :
  Calls Tryz.prog 87 #[.agg (cE x).toArray, .agg #[.int .i64 t.1, .int .i64 t.2]] w fun e w' => e = .returned (.int .i64 (cmpX x.at_ t)) ∧ Below w.heap.size w w' := by
 have E := Lib.hid (show cmpX x.at_ t = cmp3 (x.at_.1 * t.2) (t.1 * x.at_.2) from rfl)
 have m1 := mulx_bd hx.1 hx.2.1 (show 0 ≤ t.2 by have := ht.2.2.1; omega) ht.2.2.2.1
 have m2 := mulx_bd ht.1 ht.2.1 (show 0 ≤ x.at_.2 by have := hx.2.2.1; omega) hx.2.2.2.1
 obtain ⟨⟨a0, a1⟩, ⟨d0, d1⟩, ⟨p0, p1, p2⟩, rs, sg, ps⟩ := x
 obtain ⟨t0, t1⟩ := t
 simp only at m1 m2 E ⊢
 have w1 : IntKind.i64.wrap (a0 * t1) = a0 * t1 := IntWalk.i64_in _ (by omega)
 have w2 : IntKind.i64.wrap (t0 * a1) = t0 * a1 := IntWalk.i64_in _ (by omega)
 have q := fun W => cmpI_any (a0 * t1) (t0 * a1) W
 rw [E.out]
 obtain ⟨u, hu⟩ : ∃ z, z = cmp3 (a0 * t1) (t0 * a1) := ⟨_, rfl⟩
 rw [← hu] at q ⊢
 rw [show (cE ⟨(a0, a1), (d0, d1), (p0, p1, p2), rs, sg, ps⟩).toArray = #[.int .i64 a0, .int .i64 a1, .int .i64 d0, .int .i64 d1, .int .i64 p0, .int .i64 p1, .int .i64 p2, .bool rs, .int .i64 sg, .int .i64 ps] from rfl]
 clear hu hx ht E m1 m2
 go_enter Tryz.func87, Tryz.ntmps87
 go_wp2_with fail
 refine (q _).mono ?_
 rintro e w1 ⟨rfl, hb1⟩
 have kb : Below w.heap.size w w1 := by repeat (first | exact Below.refl _ _ | refine below_drewN ?_ _ | refine Below.drew ?_ | refine below_alloc ?_ _ | (refine below_call ?_ (by assumption)) | (refine Below.setCell ?_ ?_ _; rotate_left; (simp; try omega)))
 go_wp2
 go_ret
 exact ⟨rfl, by repeat (first | with_reducible (first | exact Below.refl _ _ | assumption | refine below_drewN ?_ _ | refine Below.drew ?_ | refine below_alloc ?_ _) | (with_reducible refine Below.setCell ?_ ?_ _; rotate_left; ((try simp only); omega)))⟩
theorem binE_any (A : Option Addr) (n c : Nat) (v : List Ev) (t : Tm) (B : Nat) (w : World) (h : Reads w B 10 A n (csE v)) (hB : B ≤ w.heap.size) (hn : n ≤ 2000) (hv : Val v) (ht : ok t) :
  Calls Tryz.prog 86 #[.slice A n c, .agg #[.int .i64 t.1, .int .i64 t.2], .func (.func 87) #[] #[]] w fun e w' =>
   e = .returned (.tuple #[.int .i64 (posW (ats v) t : Nat), .bool (decide ((ats v)[posW (ats v) t]? = some t))]) ∧ Below w.heap.size w w' := by
 have HL := Lib.hid h.evlen
 have HS := Lib.hid (ats_sa hv)
 have HO := Lib.hid (ats_ok hv)
 have HLA := Lib.hid (ats_len v)
 have HT := Lib.hid ht
 clear hv ht
 obtain ⟨t0, t1⟩ := t
 go_enter Tryz.func86, Tryz.ntmps86
 go_wp2
 go_loopg [9, 10, 11] n (fun g i j _ wr => ∃ a b : Nat, a + g = b ∧ b ≤ n ∧ i = .int .i64 a ∧ j = .int .i64 b ∧ Hid (Halves (ats v) (t0, t1) a b) ∧ Below w.heap.size w wr ∧ Blk wr w.heap.size 45 #[.int .i64 t0, .int .i64 t1])
 case atStart =>
  refine ⟨0, n, by omega, by omega, by simp, rfl, Lib.hid ⟨fun k x hk _ => by omega, fun k x hk hx => ?_⟩, by repeat (first | with_reducible (first | exact Below.refl _ _ | assumption | refine below_drewN ?_ _ | refine Below.drew ?_ | refine below_alloc ?_ _) | (with_reducible refine Below.setCell ?_ ?_ _; rotate_left; ((try simp only); omega))), by with_reducible exact Blk.new _ _ _⟩
  have := (List.getElem?_eq_some_iff.1 hx).1
  rw [HLA.out] at this
  have := HL.out
  omega
 case round =>
  obtain ⟨a, b, hab, hbn, rfl, rfl, hH, k0, bT⟩ := hrel
  have t0c : wr.cell? ⟨w.heap.size, 0, none⟩ = some (.int .i64 t0) := bT.cell 0
  have t1c : wr.cell? ⟨w.heap.size, 1, none⟩ = some (.int .i64 t1) := bT.cell 1
  have lT := bT.lt
  cases gk with
  | zero =>
   obtain rfl : a = b := by omega
   have HP := Lib.hid (halves_end hH.out (by rw [HLA.out]; have := HL.out; omega))
   clear hH
   by_cases han : a < n
   ·have hlt : (a : Int) < (n : Int) := by omega
    obtain ⟨s, hs⟩ := get_some (l := v) (k := a) (by have := HL.out; omega)
    have HM := Lib.hid (ats_at hs)
    have hso := HO.out _ (List.mem_of_getElem? HM.out)
    obtain ⟨bb, off, rfl, hbb, hcx⟩ := h.ev hB k0 han hs
    obtain ⟨X0, X1, X2, X3, X4, X5, X6, X7, X8, X9⟩ := ten hcx
    have q1 := fun W => lead1_any s (t0, t1) hso HT.out W
    have D := Lib.hid (cmpX_eq hso HT.out)
    obtain ⟨⟨a0, a1⟩, ⟨d0, d1⟩, ⟨p0, p1, p2⟩, rs, sg, ps⟩ := s
    simp only at q1 D X0 X1 X2 X3 X4 X5 X6 X7 X8 X9 HM
    rw [show (cE ⟨(a0, a1), (d0, d1), (p0, p1, p2), rs, sg, ps⟩).toArray = #[.int .i64 a0, .int .i64 a1, .int .i64 d0, .int .i64 d1, .int .i64 p0, .int .i64 p1, .int .i64 p2, .bool rs, .int .i64 sg, .int .i64 ps] from rfl] at q1
    obtain ⟨x, hx⟩ : ∃ y, y = cmpX (a0, a1) (t0, t1) := ⟨_, rfl⟩
    rw [← hx] at q1 D
    clear hx hso hs hcx
    go_wp2_with fail
    refine wp_region_calm (by kernel_rfl) (by kernel_rfl) ?_
    repeat (go_big_quiet_step ((go_at_call 87; with_reducible exact calm_call (q1 _))))
    refine wpQuiet_nil ?_
    intro w6 g6
    go_wp2
    go_ret2
    rw [HP.out, HM.out, D.out]
    exact ⟨by simp, below_call k0 g6⟩
   ·have han' : a = n := by omega
    subst han'
    have HM := Lib.hid (show (ats v)[a]? = none by rw [List.getElem?_eq_none]; rw [HLA.out]; have := HL.out; omega)
    go_wp2_with fail
    refine wp_region_calm (by kernel_rfl) (by kernel_rfl) ?_
    repeat (go_big_quiet_step (fail))
    refine wpQuiet_nil ?_
    intro w6 g6
    go_wp2
    go_ret2
    rw [HP.out, HM.out]
    exact ⟨by simp, below_call k0 g6⟩
  | succ g =>
   have hlt : (a : Int) < (b : Int) := by omega
   have w1 : IntKind.i64.wrap ((a : Int) + (b : Int)) = (a : Int) + (b : Int) := IntWalk.i64_in _ (by omega)
   have w2 : IntKind.u64.wrap ((a : Int) + (b : Int)) = (a : Int) + (b : Int) := IntWalk.u64_in _ (by omega)
   obtain ⟨h0, hh0⟩ : ∃ h0 : Nat, h0 = (a + b) / 2 := ⟨_, rfl⟩
   have hd : ((a : Int) + (b : Int)) / 2 = (h0 : Int) := by omega
   have hh1 : a ≤ h0 ∧ h0 < b := by omega
   clear hh0
   obtain ⟨s, hs⟩ := get_some (l := v) (k := h0) (by have := HL.out; omega)
   have HM := Lib.hid (ats_at hs)
   have hso := HO.out _ (List.mem_of_getElem? HM.out)
   have hh2 : h0 < n := by omega
   have hh3 : (h0 : Int) < (n : Int) := by omega
   have hh4 : (0 : Int) ≤ (h0 : Int) := by omega
   obtain ⟨bb, off, hA, hbb, hcx⟩ := h.ev hB k0 hh2 hs
   obtain ⟨X0, X1, X2, X3, X4, X5, X6, X7, X8, X9⟩ := ten hcx
   have q1 := fun W => lead1_any s (t0, t1) hso HT.out W
   have D : decide (cmpX s.at_ (t0, t1) < 0) = decide (ltT s.at_ (t0, t1)) := cmpX_lt
   have w3 : IntKind.i64.wrap ((h0 : Int) + 1) = (h0 : Int) + 1 := IntWalk.i64_in _ (by omega)
   go_wp2_with fail
   obtain ⟨⟨a0, a1⟩, ⟨d0, d1⟩, ⟨p0, p1, p2⟩, rs, sg, ps⟩ := s
   simp only at q1 D X0 X1 X2 X3 X4 X5 X6 X7 X8 X9 HM
   rw [show (cE ⟨(a0, a1), (d0, d1), (p0, p1, p2), rs, sg, ps⟩).toArray = #[.int .i64 a0, .int .i64 a1, .int .i64 d0, .int .i64 d1, .int .i64 p0, .int .i64 p1, .int .i64 p2, .bool rs, .int .i64 sg, .int .i64 ps] from rfl] at q1
   obtain ⟨x, hx⟩ : ∃ y, y = cmpX (a0, a1) (t0, t1) := ⟨_, rfl⟩
   rw [← hx] at q1 D
   clear hx hso hs hcx
   subst hA
   by_cases hl : ltT (a0, a1) (t0, t1)
   ·have HN := Lib.hid (halves_right HS.out HO.out HT.out hH.out HM.out hl)
    rw [decide_eq_true hl] at D
    clear hl hH
    refine wp_region_calm (by kernel_rfl) (by kernel_rfl) ?_
    repeat (go_big_quiet_step ((go_at_call 87; with_reducible exact calm_call (q1 _))))
    refine wpQuiet_nil ?_
    intro w6 g6
    go_wp2
    go_roundg (b - (h0 + 1))
    case measure => omega
    case rel => exact ⟨h0 + 1, b, by omega, hbn, by go_num, rfl, HN, below_call k0 g6, bT.kept g6⟩
   ·have HN := Lib.hid (halves_left HS.out HO.out HT.out hH.out HM.out hl)
    rw [decide_eq_false hl] at D
    clear hl hH
    refine wp_region_calm (by kernel_rfl) (by kernel_rfl) ?_
    repeat (go_big_quiet_step ((go_at_call 87; with_reducible exact calm_call (q1 _))))
    refine wpQuiet_nil ?_
    intro w6 g6
    go_wp2
    go_roundg (h0 - a)
    case measure => omega
    case rel => exact ⟨a, h0, by omega, by omega, rfl, rfl, HN, below_call k0 g6, bT.kept g6⟩
end Go.Proofs.YtpkmiegccfhpnaaGreatDoor
