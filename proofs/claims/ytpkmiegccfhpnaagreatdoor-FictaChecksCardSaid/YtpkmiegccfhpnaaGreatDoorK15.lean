/- Parts of the proofs of layer 31: FiTris, RdTools. -/
import Derived.Test.YtpkmiegccfhpnaaGreatDoorK14
import Derived.Test.YtpkmiegccfhpnaaGreatDoorK01
import Derived.RangeFuncNested
import Derived.RangeFuncBound
import Derived.RangeFuncCalls
import Derived.RangeFuncLeaves
import Derived.OwnWalkIn
import Derived.TacticsInMore
import Derived.LoopNIn
import Derived.LoopIn
import Derived.Sort.LoopGhostIn
namespace Go.Proofs.YtpkmiegccfhpnaaGreatDoor
open Go.RowKit Go.Maps
theorem triR_low (l : List (List Ev)) (t : Tm) (a : Nat) : triR l t a (a + 1) = [] := by
  unfold triR
  rw [List.flatMap_eq_nil_iff]
  intro b hb
  rw [if_neg (by have := List.mem_range.1 hb; omega)]
theorem triR_next (l : List (List Ev)) (t : Tm) {a k : Nat} (h : a < k) : triR l t a (k + 1) = triR l t a k ++ triP l t a k := by unfold triR; rw [flat_succ, if_pos h]
theorem triV_next (l : List (List Ev)) (t : Tm) (k : Nat) : triV l t (k + 1) = triV l t k ++ triR l t k l.length := by unfold triV; rw [flat_succ]
theorem triS_next (l : List (List Ev)) (k : Nat) : triS l (k + 1) = triS l k ++ triV l (mAt (momS l) k) l.length := by unfold triS; rw [flat_succ]
/-- Slice k of a row of slices. -/
theorem OwnS.sl_ {W : World} {base n K c : Nat} {S : Option Addr} {l : List (List Ev)} (h : OwnS W base (.slice S K c) ((List.range K).map (slOf l (momS l)))) (hn : l.length = n) (h0 : 0 < n) {k : Nat} (hk : k < K) :
    ∃ (bs os be oe ce : Nat) (t d0 d1 : _), t = mAt (momS l) k ∧ S = some ⟨bs, os, none⟩ ∧ bs < W.heap.size ∧ be < W.heap.size ∧ W.cell? ⟨bs, os + k * 5, none⟩ = some (.int .i64 t.1) ∧ W.cell? ⟨bs, os + k * 5 + 1, none⟩ = some (.int .i64 t.2) ∧
      W.cell? ⟨bs, os + k * 5 + 2, none⟩ = some (.int .i64 d0) ∧ W.cell? ⟨bs, os + k * 5 + 3, none⟩ = some (.int .i64 d1) ∧ W.cell? ⟨bs, os + k * 5 + 4, none⟩ = some (.slice (some ⟨be, oe, none⟩) n ce) ∧
      ∀ i : Nat, i < n → W.cell? ⟨be, oe + i, none⟩ = some (.int .i64 (onS (l.getD i []) t)) := by
  obtain ⟨A, c', e, hr⟩ := h.reads
  rw [List.length_map, List.length_range] at e hr
  cases e
  have hg : ((List.range K).map (slOf l (momS l)))[k]? = some (slOf l (momS l) k) := by rw [List.getElem?_map, List.getElem?_range hk]; rfl
  obtain ⟨bs, os, p, q, ce, hS, hbs, hq, hre, c0, c1, c2, c3, c4⟩ := hr.el (Nat.le_refl _) (Below.refl _ _) hk hg
  have hqn : q = n := by rw [← hq]; show (l.map _).length = n; rw [List.length_map]; exact hn
  subst hqn
  obtain ⟨v0, hv0⟩ := get_some (l := l) (k := 0) (by omega)
  obtain ⟨be, oe, hp, hbe, _⟩ := Reads.elem (f := cI) (fun _ => rfl) hre (k := 0) h0 (x := onS v0 (mAt (momS l) k)) (by show (l.map _)[0]? = _; rw [List.getElem?_map, hv0]; rfl)
  subst hp
  refine ⟨bs, os, be, oe, ce, _, _, _, rfl, hS, hbs, hbe, c0, c1, c2, c3, c4, fun i hi => ?_⟩
  obtain ⟨v, hv⟩ := get_some (l := l) (k := i) (by omega)
  obtain ⟨be', oe', hp', _, hce⟩ := Reads.elem (f := cI) (fun _ => rfl) hre (k := i) hi (x := onS v (mAt (momS l) k)) (by show (l.map _)[i]? = _; rw [List.getElem?_map, hv]; rfl)
  cases hp'
  have h0 := hce 0 _ rfl
  rw [getD_at hv]
  simpa using h0
/-- What the loops of a rule keep. -/
structure RInv (w wr : World) (db ob ib : Nat) (pd : Option Nat) (dn : Plc → Option Fic) (mo no : Nat) (f : Plc → Option Fic) (r : Int) : Prop where
  ys : YS wr db ob ib pd dn mo no f r
  gb : w.grownBy wr (some mo)
theorem RInv.call {w wr wx : World} {db ob ib mo no : Nat} {pd : Option Nat} {dn f : Plc → Option Fic} {r : Int} (h : RInv w wr db ob ib pd dn mo no f r) (hb : Below wr.heap.size wr wx) : RInv w wx db ob ib pd dn mo no f r := ⟨h.ys.call hb, Gb.call h.gb hb⟩
theorem RInv.next {w wr wx : World} {db ob ib mo no no' : Nat} {pd : Option Nat} {dn f f' : Plc → Option Fic} {r : Int} (h : RInv w wr db ob ib pd dn mo no f r) (hy : YS wx db ob ib pd dn mo no' f' r) (hg : wr.grownBy wx (some mo)) : RInv w wx db ob ib pd dn mo no' f' r := ⟨hy, Gb.tr h.gb hg⟩
theorem RInv.low {w wr : World} {db ob ib mo no n : Nat} {pd : Option Nat} {dn f : Plc → Option Fic} {r : Int} (h : RInv w wr db ob ib pd dn mo no f r) (hn : n ≤ mo) (hm : mo < w.heap.size) : Below n w wr := Gb.below h.gb hn (by omega)
theorem Reads.under {w W : World} {B size n : Nat} {A : Option Addr} {xs : List Value} (h : Reads w B size A n xs) (hb : Below B w W) : Reads W B size A n xs := h.keep fun _ _ hp => hb.cell (by simp; omega)
theorem ReadsV.under {w W : World} {B n : Nat} {A : Option Addr} {l : List (List Ev)} (h : ReadsV w B A n l) (hb : Below B w W) : ReadsV W B A n l := by
  obtain ⟨ds, h1, h2, h3⟩ := h
  exact ⟨ds, h1, h2.under hb, fun k d v hd hv => ⟨(h3 k d v hd hv).1.under hb, (h3 k d v hd hv).2⟩⟩
theorem cell_gb {W W' : World} {mo no : Nat} {γ β : Type} {K : TypeId} {G : KeyG γ K} {T : ElemT β} {f : γ → Option β} (hm : TMap W G T mo no f) (hg : W.grownBy W' (some mo)) {g o : Nat} {v : Value} (h : W.cell? ⟨g, o, none⟩ = some v) : W'.cell? ⟨g, o, none⟩ = some v := by
  have hl := lt_of_cell h
  have hne : g ≠ mo := by
    rintro rfl
    obtain ⟨D, ⟨es, clock, hblk, _⟩, _⟩ := hm
    simp [World.cell?, hblk] at h
  rw [World.cell?_of_block (a := ⟨g, o, none⟩) (hg.block g hl (fun e => hne (Option.some.inj e)))]
  exact h
theorem Tabs.gb {W W' : World} {mo no : Nat} {γ β : Type} {K : TypeId} {G : KeyG γ K} {T : ElemT β} {f : γ → Option β} (h : Tabs W) (hm : TMap W G T mo no f) (hg : W.grownBy W' (some mo)) : Tabs W' := by
  constructor <;> (intro k hk; first | exact cell_gb hm hg (h.half k hk) | exact cell_gb hm hg (h.size k hk) | exact cell_gb hm hg (h.kind k hk))
set_option maxRecDepth 100000 in
set_option maxHeartbeats 8000000 in
theorem tritones_ok {w : World} {db ob ib mo no : Nat} {pd : Option Nat} {dn f : Plc → Option Fic} (h : YS w db ob ib pd dn mo no f 2) (hno : no ≤ 1000000) (A : Option Addr) (n c : Nat) (l : List (List Ev)) (B : Nat) (hV : ReadsV w B A n l) (hB : B ≤ mo) (hl : SetV l) (hs : (slicesE l).2 = 0) (hT : Tabs w) :
    Calls Tryz.prog 64 #[.slice A n c, .func (.func 66) #[] #[.pointer (some ⟨db, 0, none⟩), .pointer (some ⟨ob, 0, none⟩), .pointer (some ⟨ib, 0, none⟩)]] w
      fun e w' => e = .returned (.tuple #[]) ∧ ∃ no', no' ≤ no + 3000000 ∧ RInv w w' db ob ib pd dn mo no' (ylds dn 2 (-1) f (triL l)) 2 := by
  have hmo := h.out.lt
  obtain ⟨hz, hsl⟩ := slicesE_ok hs
  have hbig := mom_big hz
  have hLN := hV.len
  have hn8 : n ≤ 8 := by have := hl.len; omega
  have HOK := Lib.hid (fun k (hk : k < (momS l).length) => ok_mAt (set_facts hz).2.2.2.2 hk)
  have qs := slices_any A n c l B w hV (by omega) (by omega)
  rw [hsl] at qs
  obtain ⟨K, hK⟩ : ∃ z, z = (momS l).length - 1 := ⟨_, rfl⟩
  rw [← hK] at qs
  have HK := Lib.hid hK
  have hK2 : K ≤ 32000 := by omega
  have HL0 := Lib.hid (show 0 < K → 0 < n by
    intro hk
    rcases Nat.eq_zero_or_pos n with h0 | h0
    · have : l = [] := List.length_eq_zero_iff.1 (by omega)
      subst this
      have : (momS ([] : List (List Ev))).length = 0 := rfl
      omega
    · exact h0)
  have HE := Lib.hid (show triS l K = triL l by rw [hK]; rfl)
  have HLN := Lib.hid hLN
  have HV := Lib.hid hV
  have HT := Lib.hid hT
  have HY := Lib.hid h
  have HSL := Lib.hid hl
  simp only at qs
  clear h hV hl hs hT hz hsl hbig hK hLN
  go_enter Tryz.func64, Tryz.ntmps64
  go_wp2_with fail
  refine qs.mono ?_
  rintro e w1 ⟨v, rfl, ho, hb1⟩
  obtain ⟨S, cS, rfl, -⟩ := ho.reads
  rw [List.length_map, List.length_range] at ho ⊢
  have inv0 : RInv w w1 db ob ib pd dn mo no f 2 := ⟨HY.out.call hb1, Gb.of_below hb1⟩
  have HO := Lib.hid ho
  have h1s := hb1.size
  clear qs ho hb1
  go_wp2_with fail
  go_loopg [7, 8, 9, 17, 23] K (fun gh _ _ _ i _ wr => ∃ (k no' : Nat), k + gh = K ∧ i = .int .i64 (k : Int) ∧ no' ≤ no + k * 64 ∧ w1.grownBy wr (some mo) ∧ RInv w wr db ob ib pd dn mo no' (ylds dn 2 (-1) f (triS l k)) 2)
  case atStart => exact ⟨0, no, by omega, by simp, by omega, Gb.refl _ _, inv0⟩
  case round =>
    clear inv0
    obtain ⟨k, no', hkg, rfl, hno', hg1, inv⟩ := hrel
    have wk : IntKind.i64.wrap ((k : Int) + 1) = (k : Int) + 1 := IntWalk.i64_in _ (by omega)
    cases gk with
    | zero =>
      have hk : k = K := by omega
      subst hk
      have d0 : ¬ ((k : Int) < (k : Int)) := by omega
      go_wp2
      refine bodyPost_end (results_none rfl _ _ _) rfl ?_
      rw [← HE.out]
      exact ⟨rfl, no', by omega, inv⟩
    | succ gh =>
      have hkK : k < K := by omega
      have d0 : (k : Int) < (K : Int) := by omega
      obtain ⟨bs, os, be, oe, ce, ⟨t0, t1⟩, s0, s1, ht, rfl, hbs, hbe, c0, c1, c2, c3, c4, y0⟩ := (HO.out.gb hg1 (by omega)).sl_ HLN.out (HL0.out (by omega)) hkK
      have HTM := Lib.hid (show ok (t0, t1) by rw [ht]; exact HOK.out k (by have := HK.out; omega))
      have HS1 := Lib.hid (show triS l (k + 1) = triS l k ++ triV l (t0, t1) n by rw [triS_next, ← ht, HLN.out])
      have HYO := Lib.hid y0
      simp only at c0 c1
      clear ht y0
      go_wp2_with fail
      obtain ⟨w5, hw5⟩ : ∃ x, x = wr.alloc (.cells #[.int .i64 t0, .int .i64 t1, .int .i64 s0, .int .i64 s1, .slice (some ⟨be, oe, none⟩) n ce] 85) := ⟨_, rfl⟩
      have B5 : Blk w5 wr.heap.size 85 #[.int .i64 t0, .int .i64 t1, .int .i64 s0, .int .i64 s1, .slice (some ⟨be, oe, none⟩) n ce] := by rw [hw5]; exact Blk.new _ _ _
      have k5 : Below wr.heap.size wr w5 := by rw [hw5]; exact below_alloc (Below.refl _ _) _
      have inv5 := inv.call k5
      have g5 := Gb.call hg1 k5
      have i5 := inv.gb
      have y5 := fun i hi => (k5.cell (p := ⟨be, oe + i, none⟩) hbe).trans (HYO.out i hi)
      have lb5 : be < w5.heap.size := by have := k5.size; omega
      rw [← hw5]
      obtain ⟨xb, hxb⟩ : ∃ x, x = wr.heap.size := ⟨_, rfl⟩
      rw [← hxb] at B5 ⊢
      have hxw : mo < xb := by rw [hxb]; have := inv.gb.size; omega
      have HY5 := Lib.hid (And.intro inv5.ys.out y5)
      clear hw5 hxb c0 c1 c2 c3 c4 hbs hbe HYO inv hg1 k5 i5 y5
      go_wp2_with fail
      go_loopg [8, 9, 23] n (fun g2 _ _ i wy => ∃ (a no' : Nat), a + g2 = n ∧ i = .int .i64 (a : Int) ∧ no' ≤ no + k * 64 + a * 8 ∧ w1.grownBy wy (some mo) ∧ w5.grownBy wy (some mo) ∧ Blk wy xb 85 #[.int .i64 t0, .int .i64 t1, .int .i64 s0, .int .i64 s1, .slice (some ⟨be, oe, none⟩) n ce] ∧ RInv w wy db ob ib pd dn mo no' (ylds dn 2 (-1) f (triS l k ++ triV l (t0, t1) a)) 2)
      case atStart => exact ⟨0, no', by omega, by simp, by omega, g5, Gb.refl _ _, B5, by simpa [triV] using inv5⟩
      case round =>
        clear inv5 g5 B5
        obtain ⟨a, no', hag, rfl, hno', hg1, hg5, BX, inv⟩ := hrel
        have wa : IntKind.i64.wrap ((a : Int) + 1) = (a : Int) + 1 := IntWalk.i64_in _ (by omega)
        cases gk with
        | zero =>
          have ha : a = n := by omega
          have d1 : ¬ ((a : Int) < (n : Int)) := by omega
          subst ha
          go_wp2
          go_roundg gh
          case measure => omega
          case rel => exact ⟨k + 1, no', by omega, by go_num, by omega, hg1, by rw [HS1.out]; exact inv⟩
        | succ g2 =>
          have han : a < n := by omega
          have d1 : (a : Int) < (n : Int) := by omega
          have HV1 := Lib.hid (show triV l (t0, t1) (a + 1) = triV l (t0, t1) a ++ triR l (t0, t1) a n by rw [triV_next, HLN.out])
          go_wp2_with fail
          go_loopg [9] (n - (a + 1)) (fun g3 x wz => ∃ (b no' : Nat), b + g3 = n ∧ a < b ∧ x = .int .i64 (b : Int) ∧ no' ≤ no + k * 64 + a * 8 + b ∧ w1.grownBy wz (some mo) ∧ w5.grownBy wz (some mo) ∧ Blk wz xb 85 #[.int .i64 t0, .int .i64 t1, .int .i64 s0, .int .i64 s1, .slice (some ⟨be, oe, none⟩) n ce] ∧ RInv w wz db ob ib pd dn mo no' (ylds dn 2 (-1) f (triS l k ++ triV l (t0, t1) a ++ triR l (t0, t1) a b)) 2)
          case atStart => exact ⟨a + 1, no', by omega, by omega, by go_num, by omega, hg1, hg5, BX, by rw [triR_low, List.append_nil]; exact inv⟩
          case round =>
            clear inv BX hg1 hg5
            obtain ⟨b, no', hbg, hab, rfl, hno', hg1, hg5, BX, inv⟩ := hrel
            have wb : IntKind.i64.wrap ((b : Int) + 1) = (b : Int) + 1 := IntWalk.i64_in _ (by omega)
            cases gk with
            | zero =>
              have hb : b = n := by omega
              have d2 : ¬ ((b : Int) < (n : Int)) := by omega
              subst hb
              go_wp2
              go_roundg g2
              case measure => omega
              case rel => exact ⟨a + 1, no', by omega, by go_num, by omega, hg1, hg5, BX, by rw [HV1.out, ← List.append_assoc]; exact inv⟩
            | succ g3 =>
              have hbn : b < n := by omega
              have d2 : (b : Int) < (n : Int) := by omega
              have HR1 := Lib.hid (triR_next l (t0, t1) hab)
              have hb5 : be < wr.heap.size := by have := hg5.size; omega
              have q := tritone_ok inv.ys (by omega) A n c l B (HV.out.under (inv.low hB hmo)) (by have := inv.gb.size; omega) HSL.out (HT.out.gb HY.out.out inv.gb) (t0, t1) HTM.out s0 s1 be oe ce hb5 (fun i hi => cell_gb HY5.out.1 hg5 (HY5.out.2 i hi)) a b hab hbn
              simp only at q
              have x0 := BX.cell 0
              have x1 := BX.cell 1
              have x2 := BX.cell 2
              have x3 := BX.cell 3
              have x4 := BX.cell 4
              have xl := BX.lt
              simp only [List.getElem?_toArray, List.getElem?_cons_zero, List.getElem?_cons_succ] at x0 x1 x2 x3 x4
              go_wp2_with fail
              refine q.mono ?_
              rintro e w9 ⟨rfl, hy, hg9⟩
              have inv9 := inv.next hy hg9
              have h91 := Gb.tr hg1 hg9
              have h95 := Gb.tr hg5 hg9
              have BY := BX.gb hg9 (by omega)
              rw [← ylds_append] at inv9
              clear q x0 x1 x2 x3 x4 xl inv hy hg9 hg1 hg5 BX
              go_wp2
              go_roundg g3
              case measure => omega
              case rel => exact ⟨b + 1, no' + 1, by omega, by omega, by go_num, by omega, h91, h95, BY, by rw [HR1.out, ← List.append_assoc]; exact inv9⟩
end Go.Proofs.YtpkmiegccfhpnaaGreatDoor
namespace Go.Proofs.YtpkmiegccfhpnaaGreatDoor
open Go.RowKit
section
variable {P : Program} {L n : Nat} {Q : Exit → Act → World → Prop}
theorem rowsIn_round {row : String} {args : Array Value} {w : World} {R : Value → World → Prop} (h : Rows P row args w R) : RowsIn (Fence.wide.inRound L) n P row args w R :=
  fun c cs _ => let ⟨v, w', r, s⟩ := h c cs; ⟨v, w', r, stepsIn_wide.2 s⟩
theorem callsIn_round {f : FuncId} {args : Array Value} {w : World} {R : Ending → World → Prop} (h : Calls P f args w R) : CallsIn (Fence.wide.inRound L) n P f args w R := CallsIn.inRound L (callsIn_wide.2 h)
theorem opIn_of_op {o : Oper} {a : Act} {w : World} {next next' : Act → World → Prop} (hnd : ∀ c, o.op ≠ .defer c) (hn : ∀ a w, next a w → next' a w) (h : o.wp P a w next Q) : o.wpIn (Fence.wide.inRound L) n P a w next' Q := by
  unfold Oper.wp at h
  unfold Oper.wpIn
  refine ⟨fun _ _ => trivial, ?_⟩
  rw [Oper.semAt_eq _ _ _ hnd]
  cases hr : (execOp a.eval o).run P w with
  | ok x w' =>
    rw [hr] at h
    cases x with
    | value v => exact hn _ _ h
    | skip => exact hn _ _ h
    | defer d => exact hn _ _ h
    | enter f args =>
      refine ⟨fun hd => by simp [Fence.wide] at hd, callsIn_round (Calls.mono h ?_)⟩
      intro e w'' he
      cases e with
      | returned v => exact hn _ _ he
      | panicked c => exact he
      | outgrown => exact he
    | row r args => exact ⟨fun hd => by simp [Fence.wide] at hd, rowsIn_round (fun c cs => let ⟨v, w', r, s⟩ := h c cs; ⟨v, w', hn _ _ r, s⟩)⟩
    | round => exact h.elim
    | _ => exact h.elim
  | halt x w' =>
    rw [hr] at h
    cases x with
    | panic v => exact h
    | _ => exact h.elim
def noDefer (ops : Array Oper) : Bool := ops.toList.all fun o => match o.op with
  | .defer _ => false
  | _ => true
theorem noDefer_at {ops : Array Oper} (h : noDefer ops = true) {i : Nat} {o : Oper} (ho : ops[i]? = some o) : ∀ c, o.op ≠ .defer c := by
  intro c hc
  unfold noDefer at h
  rw [List.all_eq_true] at h
  have := h o (by rw [Array.mem_toList_iff]; exact Array.mem_of_getElem? ho)
  rw [hc] at this
  cases this
theorem opsIn_of_ops {ops : Array Oper} (hnd : noDefer ops = true) (hout : ∀ a w, ¬ Q .outgrown a w) : ∀ (l : List Nat) (a : Act) (w : World), wpOps P ops Q l a w → wpOpsIn (Fence.wide.inRound L) n P ops Q l a w := by
  intro l
  induction l with
  | nil => exact fun _ _ h => h
  | cons i rest ih =>
    intro a w h
    unfold wpOps at h
    unfold wpOpsIn
    cases ho : ops[i]? with
    | none => rw [ho] at h; exact ih _ _ h
    | some o =>
      rw [ho] at h
      simp only at h ⊢
      by_cases hw : Region.wanted o (yielded ops a.tmps) = true
      · rw [if_pos hw] at h ⊢
        rcases h with h | ⟨_, a', w', h⟩
        · exact opIn_of_op (noDefer_at hnd ho) ih h
        · exact absurd h (hout _ _)
      · rw [if_neg hw] at h ⊢
        exact ⟨fun _ _ => trivial, ih _ _ h⟩
theorem wpIn_region_any' {id : Nat} {ops : Array Oper} {a : Act} {w : World} (hnd : noDefer ops = true) (hout : ∀ a w, ¬ Q .outgrown a w) (hm : P.follows .mixedOrders = true)
    (h : wpAny P .any ops Q ops.size (Array.replicate ops.size false) a { w with drawn := w.drawn + 1 }) : (Code.region id ops true).wpIn (Fence.wide.inRound L) n P Q a w :=
  wpIn_region_draw fun t => opsIn_of_ops hnd hout _ _ _ (by
    simp only [Region.schedule, hm, Bool.true_or, if_true]
    exact wpAny_sound ops.size t _ a _ h)
theorem wpIn_region_held' {id : Nat} {ops : Array Oper} {S : World → Prop} {a : Act} {w : World} (hnd : noDefer ops = true) (hout : ∀ a w, ¬ Q .outgrown a w) (hm : P.follows .mixedOrders = true) (hS : S w.drew)
    (h : S w.drew → wpAnyH P .any ops Q S ops.size (Array.replicate ops.size false) a w.drew) : (Code.region id ops true).wpIn (Fence.wide.inRound L) n P Q a w :=
  wpIn_region_any' hnd hout hm (wpAny_of_held _ _ _ _ (h hS))
/-! ### A region whose head keeps a condition S, and whose last operations follow one behind the other -/
def headH (P : Program) (md : Region.Mode) (ops : Array Oper) (Q : Exit → Act → World → Prop) (S : World → Prop) (n : Nat) (L : Array Bool → Act → World → Prop) : Nat → Array Bool → Act → World → Prop
  | 0, s, a, w => L s a w
  | f + 1, s, a, w => Region.ready md ops s ≠ [] ∧ ∀ i ∈ Region.ready md ops s, i < n ∧ wpOp P ops Q i (fun a' w' => S w' ∧ headH P md ops Q S n L f (s.setIfInBounds i true) a' w') a w
end
section
variable {P : Program} {ops : Array Oper} {Q : Exit → Act → World → Prop} {md : Region.Mode} {S : World → Prop} {n : Nat} {L : Array Bool → Act → World → Prop}
theorem any_of_headH {g : Nat} (hL : ∀ s a w, L s a w → wpAny P md ops Q g s a w) : ∀ (f : Nat) (s : Array Bool) (a : Act) (w : World), headH P md ops Q S n L f s a w → wpAny P md ops Q (f + g) s a w
  | 0, s, a, w, h => by rw [Nat.zero_add]; exact hL _ _ _ h
  | f + 1, s, a, w, h => by
    rw [Nat.add_right_comm]
    exact ⟨fun h0 => (h.1 h0).elim, fun i hi => wpOp_mono (fun a' w' h' => any_of_headH hL f _ a' w' h'.2) (h.2 i hi).2⟩
theorem headH_first {i : Nat} {oi : Oper} {v : Value} (hi : ops[i]? = some oi) (hsel : ∀ (j : Nat) (o : Oper) cs b, ops[j]? = some o → o.op ≠ .select cs b)
    (hQ : ∀ c a w, Q (.panic c) (a.put oi.dst v) w → Q (.panic c) a w) (hs : Region.sinkB md ops n = true) (hc : Region.chainB md ops n = true) (hn : n < ops.size) (hin : i < n)
    (hdone : ∀ s a w, L s a w → ∀ j ∈ Region.ready md ops s, n ≤ j) (f : Nat) :
    ∀ (s : Array Bool) (a : Act) (w : World), HeadInv md ops n s →
      (∀ j oj, ops[j]? = some oj → j ≠ i → s.getD j true = false → (∀ e ∈ oj.after, Region.binds md e = true → e.on ≠ i) → oi.apart ops oj = true) →
      i ∈ Region.ready md ops s → YieldsIf P ops S oi v a → S w → headH P md ops Q S n L f (s.setIfInBounds i true) (a.put oi.dst v) w → headH P md ops Q S n L (f + 1) s a w := by
  induction f with
  | zero =>
    intro s a w inv _ hr hy hS H
    have hun := (mem_ready.1 hr).1
    refine ⟨fun h => (by rw [h] at hr; cases hr), fun j hj => ?_⟩
    have hjn : j < n := Nat.lt_of_not_le fun h => tail_waits hs hc hn inv _ i rfl hin hun j h hj
    refine ⟨hjn, ?_⟩
    by_cases hji : j = i
    · subst hji; exact hy.wpOp hi hS ⟨hS, H⟩
    · exact absurd (hdone _ _ _ H j (ready_mono hj hji)) (by omega)
  | succ f ih =>
    intro s a w inv hfree hr hy hS H
    have hun := (mem_ready.1 hr).1
    refine ⟨fun h => (by rw [h] at hr; cases hr), fun j hj => ?_⟩
    have hjn : j < n := Nat.lt_of_not_le fun h => tail_waits hs hc hn inv _ i rfl hin hun j h hj
    refine ⟨hjn, ?_⟩
    by_cases hji : j = i
    · subst hji; exact hy.wpOp hi hS ⟨hS, H⟩
    · have h1 := (H.2 j (ready_mono hj hji)).2
      obtain ⟨hjun, oj, hoj, hall⟩ := mem_ready.1 hj
      have hnot : ∀ e ∈ oj.after, Region.binds md e = true → e.on ≠ i := fun e he hb heq => by
        have h2 := hall e he hb
        rw [heq, getD_both hun] at h2
        cases h2
      have h2 := wpOp_putIf hoj (hfree j oj hoj hji hjun hnot) (fun cs b => hsel i oi cs b hi) (fun cs b => hsel j oj cs b hoj) hQ hy h1
      have hfree' : ∀ k ok, ops[k]? = some ok → k ≠ i → (s.setIfInBounds j true).getD k true = false → (∀ e ∈ ok.after, Region.binds md e = true → e.on ≠ i) → oi.apart ops ok = true := fun k ok hk hki hk2 hno => by
        refine hfree k ok hk hki ?_ hno
        by_cases hjk : j = k
        · subst hjk; exact hjun
        · rw [getD_set_ne true hjk] at hk2; exact hk2
      refine wpOp_mono (fun a' w' h3 => ⟨h3.2.1, ih (s.setIfInBounds j true) a' w' (inv.set hj hjn) hfree' (ready_mono hr (Ne.symm hji)) h3.1 h3.2.1 ?_⟩) h2
      rw [Array.setIfInBounds_comm _ _ hji]
      exact h3.2.2
def headB (md : Region.Mode) (ops : Array Oper) (n : Nat) (s : Array Bool) : Bool :=
  decide (s.size = ops.size) && ((List.range ops.size).all fun j => match ops[j]? with
    | some oj => !s.getD j false || oj.after.toList.all fun e => !Region.binds md e || s.getD e.on false
    | none => true) && (List.range ops.size).all fun t => decide (t < n) || !s.getD t true
theorem headB_spec {s : Array Bool} (h : headB md ops n s = true) : HeadInv md ops n s := by
  unfold headB at h
  simp only [Bool.and_eq_true, decide_eq_true_eq] at h
  obtain ⟨⟨h1, h2⟩, h3⟩ := h
  refine ⟨h1, fun j oj hj hl e he hb => ?_, fun t ht htl => ?_⟩
  · have h4 := List.all_eq_true.1 h2 j (List.mem_range.2 (Array.getElem?_eq_some_iff.1 hj).1)
    rw [hj] at h4
    simp only [hl, Bool.not_true, Bool.false_or] at h4
    have h5 := List.all_eq_true.1 h4 e (Array.mem_toList_iff.2 he)
    simpa [hb] using h5
  · have h4 := List.all_eq_true.1 h3 t (List.mem_range.2 htl)
    rw [decide_eq_false (by omega), Bool.false_or] at h4
    simpa using h4
/-- The bounds that every take of a region asks, shown once. -/
structure Heads (md : Region.Mode) (ops : Array Oper) (n : Nat) : Prop where
  sel : Region.noSelect ops = true
  sink : Region.sinkB md ops n = true
  chain : Region.chainB md ops n = true
  lt : decide (n < ops.size) = true
theorem headH_take {i : Nat} {oi : Oper} {v : Value} {f : Nat} {s : Array Bool} {a : Act} {w : World} (hi : ops[i]? = some oi) (hd : Heads md ops n) (hin : i < n) (hb : headB md ops n s = true) (hf : Region.free md ops s i = true) (hr : (Region.ready md ops s).contains i = true)
    (hdone : ∀ s a w, L s a w → ∀ j ∈ Region.ready md ops s, n ≤ j) (hQ : ∀ c a w, Q (.panic c) (a.put oi.dst v) w → Q (.panic c) a w) (hy : YieldsIf P ops S oi v a) (hS : S w)
    (h : headH P md ops Q S n L f (s.setIfInBounds i true) (a.put oi.dst v) w) : headH P md ops Q S n L (f + 1) s a w :=
  headH_first hi (Region.noSelect_spec hd.sel) hQ hd.sink hd.chain (of_decide_eq_true hd.lt) hin hdone f s a w (headB_spec hb) (Region.free_spec hi hf) (by simpa using hr) hy hS h
theorem headH_one {i : Nat} {o : Oper} {f : Nat} {s : Array Bool} {a : Act} {w : World} (hr : Region.ready md ops s = [i]) (hin : i < n) (ho : ops[i]? = some o)
    (h : ∀ K' : Act → World → Prop, Shut (∀ a w, S w → (S w → headH P md ops Q S n L f (s.setIfInBounds i true) a w) → K' a w) → if Region.wanted o (yielded ops a.tmps) = true then Oper.wp P o a w K' Q else K' (a.put o.dst undef) w) : headH P md ops Q S n L (f + 1) s a w :=
  ⟨by rw [hr]; simp, fun j hj => by
    rw [hr] at hj
    cases List.mem_singleton.1 hj
    exact ⟨hin, wpOp_step ho (fun K' hK => h K' (fun a w hS hW => hK a w ⟨hS, hW hS⟩))⟩⟩
/-- The tail: what is asked of the operations from n on. -/
def tailL (P : Program) (md : Region.Mode) (ops : Array Oper) (Q : Exit → Act → World → Prop) (n : Nat) (l : List Oper) (s : Array Bool) (a : Act) (w : World) : Prop := Region.seqB md ops (ops.size - n) n s = true ∧ wpList P ops Q l a w
theorem tailL_done {l : List Oper} : ∀ s a w, tailL P md ops Q n l s a w → ∀ j ∈ Region.ready md ops s, n ≤ j := fun _ _ _ h => seqB_ready h.1
theorem wpIn_region_heads {id L' nF : Nat} {a : Act} {w : World} {l : List Oper} (n : Nat) (hnd : noDefer l.toArray = true) (hout : ∀ a w, ¬ Q .outgrown a w) (hm : P.follows .mixedOrders = true) (hn : decide (n ≤ l.length) = true) (hS : S w.drew)
    (h : S w.drew → headH P .any l.toArray Q S n (tailL P .any l.toArray Q n (l.drop n)) n (Array.replicate l.toArray.size false) a w.drew) : (Code.region id l.toArray true).wpIn (Fence.wide.inRound L') nF P Q a w := by
  have hn := of_decide_eq_true hn
  refine wpIn_region_any' hnd hout hm ?_
  have := any_of_headH (g := l.toArray.size - n) (fun s a w (hL : tailL P .any l.toArray Q n (l.drop n) s a w) => by
    have hdl : (l.drop n).length = l.toArray.size - n := by simp
    have := wpAny_of_seq (md := .any) (Q' := Q) (l.drop n) n s a w (fun j => by simp [List.getElem?_drop]) (by rw [hdl]; exact hL.1) hL.2
    rwa [hdl] at this) _ _ _ _ (h hS)
  rw [show n + (l.toArray.size - n) = l.toArray.size by simp; omega] at this
  exact this
end
end Go.Proofs.YtpkmiegccfhpnaaGreatDoor
