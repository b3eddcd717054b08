/- Parts of the proof of LawRounds31: Shelf, FiVals, SoSort, FiRound, FiCopy, FiWith, FiMerge. -/
import Derived.Test.YtpkmiegccfhpnaaGreatDoorR14
set_option maxRecDepth 100000
set_option maxHeartbeats 16000000
namespace Go.Proofs
open Go.Shelf
def Tryz.sortF_ren : Go.Shelf.Ren := ⟨fun | 6 => 83 | 15 => 110 | 14 => 109 | 28 => 141 | 29 => 142 | 20 => 133 | 21 => 134 | 22 => 135 | 23 => 136 | 24 => 137 | 25 => 138 | 26 => 139 | 27 => 140 | 46 => 151 | 47 => 152 | 48 => 153 | 49 => 154 | 50 => 155 | 57 => 169 | n => n, fun | 22 => 23 | 24 => 39 | 25 => 100 | 3 => 3 | 39 => 146 | 0 => 0 | 53 => 180 | 55 => 182 | 4 => 4 | 46 => 174 | 45 => 173 | 50 => 127 | 5 => 5 | 9 => 9 | 66 => 196 | 70 => 200 | 76 => 211 | 77 => 192 | n => n, fun | n => n⟩
theorem Tryz.sortF : Go.Proofs.SlLaysF0.n6 Tryz.prog Tryz.sortF_ren := {
 mixed := by kernel_rfl
 f6 := ⟨Tryz.f83.name, by decide, Tryz.func83.trans (congrArg some (by kernel_rfl))⟩
 f14 := ⟨Tryz.f109.name, by decide, Tryz.func109.trans (congrArg some (by kernel_rfl))⟩
 f15 := Tryz.func110.trans (congrArg some (by kernel_rfl))
 f20 := ⟨Tryz.f133.name, by decide, Tryz.func133.trans (congrArg some (by kernel_rfl))⟩
 f21 := ⟨Tryz.f134.name, by decide, Tryz.func134.trans (congrArg some (by kernel_rfl))⟩
 f22 := ⟨Tryz.f135.name, by decide, Tryz.func135.trans (congrArg some (by kernel_rfl))⟩
 f23 := ⟨Tryz.f136.name, by decide, Tryz.func136.trans (congrArg some (by kernel_rfl))⟩
 f24 := ⟨Tryz.f137.name, by decide, Tryz.func137.trans (congrArg some (by kernel_rfl))⟩
 f25 := ⟨Tryz.f138.name, by decide, Tryz.func138.trans (congrArg some (by kernel_rfl))⟩
 f26 := ⟨Tryz.f139.name, by decide, Tryz.func139.trans (congrArg some (by kernel_rfl))⟩
 f27 := ⟨Tryz.f140.name, by decide, Tryz.func140.trans (congrArg some (by kernel_rfl))⟩
 f28 := Tryz.func141.trans (congrArg some (by kernel_rfl))
 f29 := Tryz.func142.trans (congrArg some (by kernel_rfl))
 f46 := ⟨Tryz.f151.name, by decide, Tryz.func151.trans (congrArg some (by kernel_rfl))⟩
 f47 := Tryz.func152.trans (congrArg some (by kernel_rfl))
 f48 := Tryz.func153.trans (congrArg some (by kernel_rfl))
 f49 := ⟨Tryz.f154.name, by decide, Tryz.func154.trans (congrArg some (by kernel_rfl))⟩
 f50 := ⟨Tryz.f155.name, by decide, Tryz.func155.trans (congrArg some (by kernel_rfl))⟩
 f57 := ⟨Tryz.f169.name, by decide, Tryz.func169.trans (congrArg some (by kernel_rfl))⟩
 t0 := Tryz.underlying0
 a0 := Tryz.isAgg0
 z0 := Tryz.sizeOf0
 v0 := Tryz.zeroValue0
 t3 := Tryz.underlying3
 a3 := Tryz.isAgg3
 z3 := Tryz.sizeOf3
 v3 := Tryz.zeroValue3
 t4 := Tryz.underlying4
 a4 := Tryz.isAgg4
 z4 := Tryz.sizeOf4
 v4 := Tryz.zeroValue4
 t5 := Tryz.underlying5
 a5 := Tryz.isAgg5
 z5 := Tryz.sizeOf5
 v5 := Tryz.zeroValue5
 t9 := Tryz.underlying9
 a9 := Tryz.isAgg9
 z9 := Tryz.sizeOf9
 v9 := Tryz.zeroValue9
 t22 := Tryz.underlying23
 a22 := Tryz.isAgg23
 z22 := Tryz.sizeOf23
 v22 := Tryz.zeroValue23
 t25 := Tryz.underlying100
 a25 := Tryz.isAgg100
 z25 := Tryz.sizeOf100
 v25 := Tryz.zeroValue100
 t39 := Tryz.underlying146
 a39 := Tryz.isAgg146
 z39 := Tryz.sizeOf146
 v39 := Tryz.zeroValue146
 t45 := Tryz.underlying173
 a45 := Tryz.isAgg173
 z45 := Tryz.sizeOf173
 v45 := Tryz.zeroValue173
 t46 := Tryz.underlying174
 a46 := Tryz.isAgg174
 z46 := Tryz.sizeOf174
 v46 := Tryz.zeroValue174
 t50 := Tryz.underlying127
 a50 := Tryz.isAgg127
 z50 := Tryz.sizeOf127
 v50 := Tryz.zeroValue127
 t53 := Tryz.underlying180
 a53 := Tryz.isAgg180
 z53 := Tryz.sizeOf180
 v53 := Tryz.zeroValue180
 t55 := Tryz.underlying182
 a55 := Tryz.isAgg182
 z55 := Tryz.sizeOf182
 v55 := Tryz.zeroValue182
 t66 := Tryz.underlying196
 a66 := Tryz.isAgg196
 z66 := Tryz.sizeOf196
 v66 := Tryz.zeroValue196
 t70 := Tryz.underlying200
 a70 := Tryz.isAgg200
 z70 := Tryz.sizeOf200
 v70 := Tryz.zeroValue200
 t76 := Tryz.underlying211
 a76 := Tryz.isAgg211
 z76 := Tryz.sizeOf211
 v76 := Tryz.zeroValue211
 t77 := Tryz.underlying192
 a77 := Tryz.isAgg192
 z77 := Tryz.sizeOf192
 v77 := Tryz.zeroValue192 }
def Tryz.sortC_ren : Go.Shelf.Ren := ⟨fun | 6 => 117 | 15 => 110 | 14 => 145 | 28 => 141 | 29 => 142 | 20 => 157 | 21 => 158 | 22 => 159 | 23 => 160 | 24 => 161 | 25 => 162 | 26 => 163 | 27 => 164 | 46 => 170 | 47 => 152 | 48 => 153 | 49 => 171 | 50 => 172 | 57 => 176 | n => n, fun | 22 => 122 | 24 => 126 | 25 => 157 | 3 => 3 | 39 => 146 | 0 => 0 | 53 => 180 | 55 => 182 | 4 => 4 | 46 => 174 | 45 => 173 | 50 => 127 | 5 => 5 | 9 => 9 | 66 => 196 | 70 => 200 | 76 => 211 | 77 => 192 | n => n, fun | n => n⟩
theorem Tryz.sortC : Go.Proofs.SlLaysF0.n6 Tryz.prog Tryz.sortC_ren := {
 mixed := by kernel_rfl
 f6 := ⟨Tryz.f117.name, by decide, Tryz.func117.trans (congrArg some (by kernel_rfl))⟩
 f14 := ⟨Tryz.f145.name, by decide, Tryz.func145.trans (congrArg some (by kernel_rfl))⟩
 f15 := Tryz.func110.trans (congrArg some (by kernel_rfl))
 f20 := ⟨Tryz.f157.name, by decide, Tryz.func157.trans (congrArg some (by kernel_rfl))⟩
 f21 := ⟨Tryz.f158.name, by decide, Tryz.func158.trans (congrArg some (by kernel_rfl))⟩
 f22 := ⟨Tryz.f159.name, by decide, Tryz.func159.trans (congrArg some (by kernel_rfl))⟩
 f23 := ⟨Tryz.f160.name, by decide, Tryz.func160.trans (congrArg some (by kernel_rfl))⟩
 f24 := ⟨Tryz.f161.name, by decide, Tryz.func161.trans (congrArg some (by kernel_rfl))⟩
 f25 := ⟨Tryz.f162.name, by decide, Tryz.func162.trans (congrArg some (by kernel_rfl))⟩
 f26 := ⟨Tryz.f163.name, by decide, Tryz.func163.trans (congrArg some (by kernel_rfl))⟩
 f27 := ⟨Tryz.f164.name, by decide, Tryz.func164.trans (congrArg some (by kernel_rfl))⟩
 f28 := Tryz.func141.trans (congrArg some (by kernel_rfl))
 f29 := Tryz.func142.trans (congrArg some (by kernel_rfl))
 f46 := ⟨Tryz.f170.name, by decide, Tryz.func170.trans (congrArg some (by kernel_rfl))⟩
 f47 := Tryz.func152.trans (congrArg some (by kernel_rfl))
 f48 := Tryz.func153.trans (congrArg some (by kernel_rfl))
 f49 := ⟨Tryz.f171.name, by decide, Tryz.func171.trans (congrArg some (by kernel_rfl))⟩
 f50 := ⟨Tryz.f172.name, by decide, Tryz.func172.trans (congrArg some (by kernel_rfl))⟩
 f57 := ⟨Tryz.f176.name, by decide, Tryz.func176.trans (congrArg some (by kernel_rfl))⟩
 t0 := Tryz.underlying0
 a0 := Tryz.isAgg0
 z0 := Tryz.sizeOf0
 v0 := Tryz.zeroValue0
 t3 := Tryz.underlying3
 a3 := Tryz.isAgg3
 z3 := Tryz.sizeOf3
 v3 := Tryz.zeroValue3
 t4 := Tryz.underlying4
 a4 := Tryz.isAgg4
 z4 := Tryz.sizeOf4
 v4 := Tryz.zeroValue4
 t5 := Tryz.underlying5
 a5 := Tryz.isAgg5
 z5 := Tryz.sizeOf5
 v5 := Tryz.zeroValue5
 t9 := Tryz.underlying9
 a9 := Tryz.isAgg9
 z9 := Tryz.sizeOf9
 v9 := Tryz.zeroValue9
 t22 := Tryz.underlying122
 a22 := Tryz.isAgg122
 z22 := Tryz.sizeOf122
 v22 := Tryz.zeroValue122
 t25 := Tryz.underlying157
 a25 := Tryz.isAgg157
 z25 := Tryz.sizeOf157
 v25 := Tryz.zeroValue157
 t39 := Tryz.underlying146
 a39 := Tryz.isAgg146
 z39 := Tryz.sizeOf146
 v39 := Tryz.zeroValue146
 t45 := Tryz.underlying173
 a45 := Tryz.isAgg173
 z45 := Tryz.sizeOf173
 v45 := Tryz.zeroValue173
 t46 := Tryz.underlying174
 a46 := Tryz.isAgg174
 z46 := Tryz.sizeOf174
 v46 := Tryz.zeroValue174
 t50 := Tryz.underlying127
 a50 := Tryz.isAgg127
 z50 := Tryz.sizeOf127
 v50 := Tryz.zeroValue127
 t53 := Tryz.underlying180
 a53 := Tryz.isAgg180
 z53 := Tryz.sizeOf180
 v53 := Tryz.zeroValue180
 t55 := Tryz.underlying182
 a55 := Tryz.isAgg182
 z55 := Tryz.sizeOf182
 v55 := Tryz.zeroValue182
 t66 := Tryz.underlying196
 a66 := Tryz.isAgg196
 z66 := Tryz.sizeOf196
 v66 := Tryz.zeroValue196
 t70 := Tryz.underlying200
 a70 := Tryz.isAgg200
 z70 := Tryz.sizeOf200
 v70 := Tryz.zeroValue200
 t76 := Tryz.underlying211
 a76 := Tryz.isAgg211
 z76 := Tryz.sizeOf211
 v76 := Tryz.zeroValue211
 t77 := Tryz.underlying192
 a77 := Tryz.isAgg192
 z77 := Tryz.sizeOf192
 v77 := Tryz.zeroValue192 }
end Go.Proofs
namespace Go.Proofs.YtpkmiegccfhpnaaGreatDoor
open Go.RowKit Go.Maps
attribute [local go_sem] Oper.semAt_some
theorem grown_alloc (W : World) (o : Obj) : W.grownBy (W.alloc o) none := ⟨rfl, rfl, rfl, by simp, fun i hi _ => Below.heap_alloc W o i hi⟩
section
variable {γ β : Type} {K : TypeId} {G : KeyG γ K} {T : ElemT β} {w w' : World} {b n r : Nat} {f : γ → Option β} {S : γ → Bool}
theorem TRng.walks (h : TRng w G T b r n f S) (hk : KeepsWalks w w') : TRng w' G T b r n f S ∧ w'.rangeLeft b r = w.rangeLeft b r := by
 obtain ⟨D, left, cnt, h1, h2⟩ := h
 have h3 := h1.of_walks hk
 exact ⟨⟨D, left, cnt, h3, h2⟩, by rw [h3.left_eq, h1.left_eq]⟩
theorem TRng.iter (h : TRng w G T b r n f S) : ∃ o, w.heap[r]? = some o ∧ o.isWalk = true := by
 obtain ⟨D, left, cnt, h1, h2⟩ := h
 exact h1.iter_walk
end
def ValRet (w : World) (e : Ending) (w' : World) (mb : Option Nat) : Prop := e = .returned (.func (.func 84) #[] #[.pointer (some ⟨w.heap.size, 0, none⟩)]) ∧ w' = w.alloc (.cells #[.map mb] 71)
theorem values_any (mb : Option Nat) (w : World) : Calls Tryz.prog 61 #[.map mb] w fun e w' => ValRet w e w' mb := by
 go_enter Tryz.func61, Tryz.ntmps61
 go_wp2
 go_ret
 exact ⟨rfl, rfl⟩
def ValOk (f : Plc → Option Fic) (lp : Nat) (J : List (Plc × Fic) → World → Prop) : Prop :=
 ∀ (pre : List (Plc × Fic)) (p : Plc) (y : Fic) (W : World), J pre W → PartF f (pre ++ [(p, y)]) →
  ∃ fn tmps assign body, (Instr.yield lp #[.agg #[.int .i64 y.1, .int .i64 y.2.1, .int .i64 y.2.2.1, .int .i64 y.2.2.2]]).run Tryz.prog W = .ok (.round lp fn tmps assign body) W ∧
   RoundIn Fence.wide 0 Tryz.prog lp fn tmps assign body W fun e W' => e = .returned (.bool true) ∧ J (pre ++ [(p, y)]) W' ∧ KeepsWalks W W'
def AbF (B : Nat) (J : List (Plc × Fic) → World → Prop) : Prop := ∀ pre W W' row, J pre W → W.grownBy W' row → (∀ r, row = some r → B ≤ r ∧ ∃ o : Obj, W.heap[r]? = some o ∧ o.isWalk = true) → J pre W'
theorem PartF.snoc {f : Plc → Option Fic} {ps : List (Plc × Fic)} (h : PartF f ps) {x : Plc} {y : Fic} (hy : f x = some y) (hx : ¬ x ∈ ps.map (·.1)) : PartF f (ps ++ [(x, y)]) := by
 refine ⟨?_, fun p hp => ?_⟩
 ·rw [List.map_append, List.nodup_append]
  exact ⟨h.1, by simp, by rintro a ha b hb rfl; simp at hb; subst hb; exact hx ha⟩
 ·rcases List.mem_append.1 hp with hp | hp
  ·exact h.2 p hp
  ·rw [List.mem_singleton.1 hp]; exact hy
theorem vals1_any (lp p0 b nn : Nat) (f : Plc → Option Fic) (w : World) (J : List (Plc × Fic) → World → Prop) (hp : Blk w p0 71 #[.map (some b)]) (hm : TMap w keyPlace elemFic b nn f) (hok : ∀ x, f x ≠ none → okI x.1 ∧ okI x.2) (hA : AbF w.heap.size J) (h0 : J [] w) (hY : ValOk f lp J) :
  Calls Tryz.prog 84 #[.func (.yield lp) #[] #[], .pointer (some ⟨p0, 0, none⟩)] w fun e w' => (∃ v, e = .returned v) ∧ ∃ ps, AllF f ps ∧ J ps w' := by
 have HA := Lib.hid hA
 have HY := Lib.hid hY
 have HOK := Lib.hid hok
 clear hA hY hok
 have c0 := hp.cell 0
 simp only [List.getElem?_toArray, List.getElem?_cons_zero] at c0
 go_enter Tryz.func84, Tryz.ntmps84
 go_wp2_with (refine wpList_trange rfl (.tmp 5) rfl hm Tryz.underlying71 rfl ?_; intro w0 hR0 hg0 hs0)
 have hJ0 := HA.out [] w w0 none h0 hg0 (fun r e => by cases e)
 have HW := Lib.hid (show w.heap.size ≤ w.heap.size from Nat.le_refl _)
 obtain ⟨rb, hrb⟩ : ∃ z, z = w.heap.size := ⟨_, rfl⟩
 rw [← hrb] at hR0 HA ⊢
 clear hs0 hg0 c0 hm hp h0 hrb HW
 go_frame
 go_loopw [4] (fun _ wr => ∃ (S : Plc → Bool) (ps : List (Plc × Fic)), TRng wr keyPlace elemFic b rb nn f S ∧ Hid (∀ x, S x = true ↔ x ∈ ps.map (·.1)) ∧ Hid (PartF f ps) ∧ J ps wr) (fun _ wr => wr.rangeLeft b rb)
 case atStart => exact ⟨_, [], hR0, Lib.hid (fun x => by simp), Lib.hid ⟨by simp, by simp⟩, hJ0⟩
 case round =>
  clear hR0 hJ0
  obtain ⟨S, ps, hR, hS, hP, hJ⟩ := hrel
  go_wp2_with (refine wpList_tnext rfl (.tmp 6) rfl hR rfl ?_ ?_)
  ·intro hall
   have HF := Lib.hid (show AllF f ps from ⟨hP.out, fun x hx => (hS.out x).1 (hall x.1 x.2 (HOK.out x hx) hx)⟩)
   clear hall
   go_wp2
   go_end0
   exact ⟨⟨_, rfl⟩, ps, HF.out, hJ⟩
  ·intro x1 x2 y1 y2 y3 y4 w2 hx hy hfx hSx hR2 hlt hg2 hs2 hen
   rw [show keyPlace.enc (x1, x2) = .agg #[.int .i64 x1, .int .i64 x2] from rfl, show elemFic.enc (y1, y2, y3, y4) = .agg #[.int .i64 y1, .int .i64 y2, .int .i64 y3, .int .i64 y4] from rfl] at hen ⊢
   have hJ2 := HA.out ps wr w2 (some rb) hJ hg2 (fun r e => by cases e; exact ⟨Nat.le_refl _, hR.iter⟩)
   have HPN := Lib.hid (show PartF f (ps ++ [((x1, x2), (y1, y2, y3, y4))]) from hP.out.snoc hfx (fun hh => by rw [(hS.out _).2 hh] at hSx; cases hSx))
   have hJ3 := HA.out ps w2 (w2.alloc (.cells #[.int .i64 y1, .int .i64 y2, .int .i64 y3, .int .i64 y4] 39)) none hJ2 (grown_alloc _ _) (fun r e => by cases e)
   have HLT := Lib.hid hlt
   have HSN := Lib.hid (show ∀ z, (S z || decide (z = (x1, x2))) = true ↔ z ∈ (ps ++ [((x1, x2), (y1, y2, y3, y4))]).map (·.1) from fun z => by
    rw [Bool.or_eq_true, hS.out z, decide_eq_true_eq, List.map_append, List.mem_append]; simp)
   have hR3 := hR2.call (below_alloc (Below.refl _ _) (.cells #[.int .i64 y1, .int .i64 y2, .int .i64 y3, .int .i64 y4] 39))
   have HL3 := Lib.hid (hR2.walks (KeepsWalks.alloc w2 (.cells #[.int .i64 y1, .int .i64 y2, .int .i64 y3, .int .i64 y4] 39))).2
   obtain ⟨fn, tmps, assign, body, hyd, hRd⟩ := HY.out ps (x1, x2) (y1, y2, y3, y4) _ hJ3 HPN.out
   clear hs2 hg2 hlt hfx hSx hJ hJ2 hR hR2 hJ3
   simp only at hyd
   repeat ((fail_if_success (with_reducible show (Code.region 3 _ _).wp _ _ _ _)); go_step)
   refine (wpIn_wide (n := 1)).1 ?_
   gi_wp2
   refine hRd.mono ?_
   rintro e W3 ⟨rfl, hJ3, hk3⟩
   clear hyd hRd
   obtain ⟨hR4, hl4⟩ := hR3.walks hk3
   have HL4 := Lib.hid hl4
   clear hl4 hR3 hk3
   gi_wp2
   go_wp2
   go_roundw
   case rel => exact ⟨_, _, hR4, HSN, HPN, hJ3⟩
   case measure => rw [HL4.out, HL3.out]; exact HLT.out
/-! ### slices.AppendSeq over such an iterator -/
def VJ (w : World) (r : Loop) (ps : List (Plc × Fic)) (W : World) : Prop :=
 ∃ u, Blk W w.heap.size 23 #[u] ∧ W.ownsRow (w.heap.size + 3) 39 4 u ps.length (csFic (ps.map (·.2))) ∧ W.heap[w.heap.size + 2]? = some (.loop r) ∧ W.heap[w.heap.size + 1]? = some (.deferred (some [])) ∧ Below w.heap.size w W
theorem VJ.abides {w : World} {r : Loop} {B : Nat} (hB : w.heap.size + 3 ≤ B) : AbF B (VJ w r) := by
 intro ps W W' row h hg hr
 obtain ⟨u, h1, h2, h3, h4, h5⟩ := h
 have hlt := (Array.getElem?_eq_some_iff.1 h3).1
 have hno : ∀ j, j < w.heap.size + 3 → some j ≠ row := fun j hj e => by have := (hr j e.symm).1; omega
 refine ⟨u, (hg.block _ h1.lt (hno _ (by omega))).trans h1, ?_, (hg.block _ hlt (hno _ (by omega))).trans h3, (hg.block _ (by omega) (hno _ (by omega))).trans h4, h5.grown hg h5.size (fun k e => by have := (hr k e).1; omega)⟩
 refine h2.kept hg ?_
 rcases h2.2 with ⟨rfl, _⟩ | ⟨g, cap, cur, rfl, _, hgb, _⟩
 ·exact .inl rfl
 ·refine .inr fun e' => ?_
  obtain ⟨_, o, ho, hw⟩ := hr g (by simpa [Value.ownBlock] using e'.symm)
  rw [hgb] at ho; cases ho; cases hw
def CRet (f : Plc → Option Fic) (w : World) (e : Ending) (w' : World) : Prop :=
 ∃ u ps, e = .returned u ∧ AllF f ps ∧ w'.ownsRow w.heap.size 39 4 u ps.length (csFic (ps.map (·.2))) ∧ Below w.heap.size w w'
theorem not_walk {W : World} {base : Nat} {e : TypeId} {size : Nat} {v : Value} {k : Nat} {xs : List Value} (h : W.ownsRow base e size v k xs) : ∀ (j : Nat) (o : Obj), v.ownBlock = some j → W.heap[j]? = some o → o.isWalk = false := by
 intro j o hj ho
 rcases h.2 with ⟨rfl, _⟩ | ⟨g, cap, cur, rfl, _, hgb, _⟩
 ·simp [Value.ownBlock] at hj
 ·have : g = j := by simpa [Value.ownBlock] using hj
  subst this; rw [hgb] at ho; cases ho; rfl
theorem appSeq_any (p0 b nn : Nat) (f : Plc → Option Fic) (w : World) (hp : Blk w p0 71 #[.map (some b)]) (hm : TMap w keyPlace elemFic b nn f) (hok : ∀ x, f x ≠ none → okI x.1 ∧ okI x.2) (M : Nat) (hM : ∀ ps, PartF f ps → ps.length ≤ M) (hM2 : M ≤ 1000000) :
  Calls Tryz.prog 108 #[.slice none 0 0, .func (.func 84) #[] #[.pointer (some ⟨p0, 0, none⟩)]] w fun e w' => CRet f w e w' := by
 have HM := Lib.hid hM
 have HP := Lib.hid hp
 have HT := Lib.hid hm
 have HOK := Lib.hid hok
 clear hM hp hm hok
 obtain ⟨i0, hi0, hz0, hz1, hz2⟩ := info_parts fic_info
 refine (callsIn_wide (n := 1)).1 (callsIn_of_wp_marks Tryz.func108 rfl trivial ?_)
 simp only [Tryz.ntmps108, List.size_toArray, List.length_cons, List.length_nil, Nat.reduceAdd, Nat.reduceSub, Array.replicate_succ, Array.replicate_zero, List.push_toArray, List.append_toArray, List.nil_append, List.cons_append]
 refine wpIn_wide.2 ?_
 go_wp2_with fail
 obtain ⟨w3, hw3⟩ : ∃ w3, w3 = w.alloc (.cells #[.slice none 0 0] 23) := ⟨_, rfl⟩
 have hs3 : w3.heap.size = w.heap.size + 1 := by rw [hw3]; simp
 have CO : Blk w3 w.heap.size 23 #[.slice none 0 0] := by rw [hw3]; exact Blk.new _ _ _
 have hb3 : Below w.heap.size w w3 := by rw [hw3]; exact below_alloc (Below.refl _ _) _
 rw [← hw3]
 clear hw3
 have HS3 := Lib.hid hs3
 clear hs3
 refine wp_rangeFunc_calls rfl (fun args w => by simp [go_sem]) ?_
 intro fn rec W1 hrec hL hD hs hb
 have hb31 := hb3.trans (hb.mono (by have := hb3.size; omega))
 have HR1 := Lib.hid hrec
 clear hrec
 rw [HS3.out] at hL hD hs hb ⊢
 refine (vals1_any (w.heap.size + 2) p0 b nn f W1 (VJ w (rec .ready none)) (HP.out.kept hb31) (HT.out.call hb31) HOK.out (VJ.abides (by omega)) ?_ ?_).mono ?_
 ·exact ⟨_, CO.below hb (by omega), ⟨rfl, .inl ⟨rfl, rfl⟩⟩, hL, hD, hb31⟩
 ·clear hL hD hb hb31 CO hb3
  intro pre pl y W hJ hPN
  obtain ⟨u, co, how, hl, hd, hbw⟩ := hJ
  have hl' := hl
  rw [HR1.out] at hl'
  refine round_of_walk hl' rfl ?_
  clear hl'
  have hlt := (Array.getElem?_eq_some_iff.1 hl).1
  have hpreM : pre.length ≤ 1000000 := by have := HM.out _ hPN; rw [List.length_append] at this; omega
  obtain ⟨y1, y2, y3, y4⟩ := y
  simp only
  clear hPN
  gi_wp2
  obtain ⟨W0, hW0⟩ : ∃ W0, W0 = W.alloc (.cells #[.int .i64 y1, .int .i64 y2, .int .i64 y3, .int .i64 y4] 39) := ⟨_, rfl⟩
  have hs0 : W0.heap.size = W.heap.size + 1 := by rw [hW0]; simp
  have hba0 : Below W.heap.size W W0 := by rw [hW0]; exact below_alloc (Below.refl _ _) _
  have bs0 : Blk W0 W.heap.size 39 #[.int .i64 y1, .int .i64 y2, .int .i64 y3, .int .i64 y4] := by rw [hW0]; exact Blk.new _ _ _
  have kn0 : KeepsWalks W W0 := by rw [hW0]; exact KeepsWalks.alloc _ _
  rw [← hW0]
  clear hW0
  have hlW := (hba0.block _ hlt).trans hl
  refine ⟨_, run_beginRound hlW (by rw [HR1.out]; rfl), ?_⟩
  have hd0 := (hba0.block (w.heap.size + 1) (by omega)).trans hd
  have hbw0 := hbw.trans (hba0.mono hbw.size)
  have how0 := own_call how hba0
  have co0 := co.kept hba0
  obtain ⟨r1, hr1⟩ : ∃ r1 : Loop, { rec .ready none with state := .busy } = r1 := ⟨_, rfl⟩
  rw [hr1]
  obtain ⟨W2, hW2⟩ : ∃ W2, W2 = W0.putObj (w.heap.size + 2) (.loop r1) := ⟨_, rfl⟩
  have hs2 : W2.heap.size = W.heap.size + 1 := by rw [hW2]; simp [hs0]
  have hlB : W2.heap[w.heap.size + 2]? = some (.loop r1) := by rw [hW2]; exact World.putObj_heap_same (by omega)
  have hdB : W2.heap[w.heap.size + 1]? = some (.deferred (some [])) := by rw [hW2]; exact (World.putObj_heap_other (by omega)).trans hd0
  have hbB : Below w.heap.size w W2 := by rw [hW2]; exact below_put hbw0 _ (by omega)
  have howB : W2.ownsRow (w.heap.size + 3) 39 4 u pre.length (csFic (pre.map (·.2))) := by rw [hW2]; exact own_put how0 _ (by omega)
  have boB : Blk W2 w.heap.size 23 #[u] := by rw [hW2]; exact co0.put _ (by omega)
  have bsB : Blk W2 W.heap.size 39 #[.int .i64 y1, .int .i64 y2, .int .i64 y3, .int .i64 y4] := by rw [hW2]; exact bs0.put _ (by omega)
  have knB : KeepsWalks W W2 := by rw [hW2]; exact kn0.trans (KeepsWalks.putObj _ hlW rfl)
  rw [← hW2]
  clear hW2 hs0 bs0 kn0 hlW hd0 hbw0 how0 co0 hba0 hl hd hbw how co
  have mo := boB.cell 0
  have s0 := bsB.cell 0
  have s1 := bsB.cell 1
  have s2 := bsB.cell 2
  have s3 := bsB.cell 3
  have lo := boB.lt
  have ls := bsB.lt
  simp only [List.getElem?_toArray, List.getElem?_cons_zero, List.getElem?_cons_succ] at mo s0 s1 s2 s3
  have HKN := Lib.hid knB
  have HB := Lib.hid hbB
  have HS2 := Lib.hid hs2
  have hob : ∀ x, u.ownBlock = some x → w.heap.size + 3 ≤ x := fun x hx => (howB.lt x hx).1
  have hA := below_alloc (Below.refl W2.heap.size W2) (.cells #[.int .i64 y1, .int .i64 y2, .int .i64 y3, .int .i64 y4] 39)
  clear hs2 knB hbB
  repeat ((fail_if_success gi_at_builtin); gi_step)
  refine wpListIn_append_own _ rfl (.tmp 8) (.tmp 10) 23 rfl (w.heap.size + 3) 39 i0 _ 4 32 Tryz.underlying23 hi0 hz0 hz1 hz2 rfl (by omega) u pre.length (csFic (pre.map (·.2))) rfl (own_call howB hA) ⟨W2.heap.size, 0, none⟩ 1 1 [.int .i64 y1, .int .i64 y2, .int .i64 y3, .int .i64 y4] rfl rfl (cells_new _ _ _ _ rfl) (by simp [Value.oneCell']) (by simp only [maxLen]; omega) (by omega) (by have := HS2.out; simp; omega) ?_
  intro v5 w5 hown5 hg5 hat5
  obtain ⟨g5, cap5, rfl⟩ := ownsRow_succ hown5
  have bo5 := Blk.grow (boB.kept hA) hg5 (fun he => by have := hob _ he.symm; omega)
  have co5 := bo5.cell 0
  have fo5 := bo5.frozen 0
  simp only [List.getElem?_toArray, List.getElem?_cons_zero] at co5
  clear mo s0 s1 s2 s3
  gi_wp2
  have hgA : ∀ g, g < w.heap.size + 3 → g < W2.heap.size → w5.heap[g]? = W2.heap[g]? := fun g h1 h2 =>
   (hg5.block g (by simp; omega) (fun he => by have := hob g he.symm; omega)).trans (hA.block g h2)
  have hsz := HS2.out
  have hl5 : (w5.setCell ⟨w.heap.size, 0, none⟩ (.slice (some ⟨g5, 0, none⟩) (pre.length + 1) cap5)).heap[w.heap.size + 2]? = some (.loop r1) :=
   (Below.heap_setCell _ _ _ _ (by show w.heap.size + 2 ≠ w.heap.size; omega)).trans ((hgA _ (by omega) (by omega)).trans hlB)
  have hd5 : (w5.setCell ⟨w.heap.size, 0, none⟩ (.slice (some ⟨g5, 0, none⟩) (pre.length + 1) cap5)).heap[w.heap.size + 1]? = some (.deferred (some [])) :=
   (Below.heap_setCell _ _ _ _ (by show w.heap.size + 1 ≠ w.heap.size; omega)).trans ((hgA _ (by omega) (by omega)).trans hdB)
  have hrA := own_call howB hA
  have hbe2 : Below w.heap.size W2 w5 := Below.grown (B := w.heap.size) (a := W2) (hA.mono (by omega)) hg5 (by simp; omega) (fun x hx => by have := hob x hx; omega)
  have hbel := HB.out.trans hbe2
  refine ⟨_, _, run_endRound none hl5, rfl, ?_, ?_⟩
  ·refine ⟨.slice (some ⟨g5, 0, none⟩) (pre.length + 1) cap5, ?_, ?_, ?_, ?_, ?_⟩
   ·refine Blk.put ?_ _ (by omega)
    exact bo5.set_ 0 _
   ·rw [List.map_append, csFic_append, List.length_append]
    refine own_put (own_set ?_ (by show w.heap.size < _; omega)) _ (by omega)
    exact hown5
   ·have e1 : ({ r1 with state := (if (none : Option Code).isNone then LoopState.ready else .done), pending := none } : Loop) = rec .ready none := by rw [← hr1, HR1.out]; rfl
    rw [e1]
    exact World.putObj_heap_same (Array.getElem?_eq_some_iff.1 hl5).1
   ·exact (World.putObj_heap_other (by omega)).trans hd5
   ·refine below_put ?_ _ (by omega)
    exact hbel.setCell (by simp) _
  ·exact (((HKN.out.trans (KeepsWalks.alloc _ _)).trans (KeepsWalks.of_grownBy hg5 (not_walk hrA))).trans (KeepsWalks.setCell _ _ _)).trans (KeepsWalks.putObj _ hl5 rfl)
 ·clear hL hD hb hb31 CO hb3
  rintro e W2 ⟨⟨v, rfl⟩, ps, hall, u, co, how, hl, hd, hbw⟩
  refine ⟨⟨v, rfl⟩, .ready, none, by simp, hl, ?_⟩
  simp only
  have hlt := (Array.getElem?_eq_some_iff.1 hl).1
  have HALL := Lib.hid hall
  have co' := co.put (.loop (rec .exhausted none)) (r := w.heap.size + 1 + 1) (by omega)
  have how' := own_put how (.loop (rec .exhausted none)) (r := w.heap.size + 1 + 1) (by omega)
  have hd' := (World.putObj_heap_other (w := W2) (r := w.heap.size + 1 + 1) (o := .loop (rec .exhausted none)) (k := w.heap.size + 1) (by omega)).trans hd
  have hb' := below_put hbw (.loop (rec .exhausted none)) (r := w.heap.size + 1 + 1) (by omega)
  clear hall hl co how hd hbw
  generalize W2.putObj (w.heap.size + 1 + 1) (.loop (rec .exhausted none)) = W4 at *
  have o0 := co'.cell 0
  have lo := co'.lt
  simp only [List.getElem?_toArray, List.getElem?_cons_zero] at o0
  obtain ⟨A5, c5, hu5, _, _, _⟩ := own_reads how'
  have HOW := Lib.hid how'
  have HU := Lib.hid hu5
  clear how'
  subst hu5
  go_wp2
  refine ⟨by simp, .inl ⟨w.heap.size + 1, _, rfl, run_takeDeferred hd', ?_⟩⟩
  refine ⟨.slice A5 ps.length c5, ?_, ?_⟩
  ·have hres : Tryz.f108.results = #[.tmp 4] := by kernel_rfl
   simp only [results, hres]
   go_simp
  ·refine ⟨_, ps, rfl, HALL.out, ?_, below_put hb' _ (by omega)⟩
   exact own_lower (own_put HOW.out _ (by omega)) (by omega)
theorem collect_any (p0 b nn : Nat) (f : Plc → Option Fic) (w : World) (hp : Blk w p0 71 #[.map (some b)]) (hm : TMap w keyPlace elemFic b nn f) (hok : ∀ x, f x ≠ none → okI x.1 ∧ okI x.2) (M : Nat) (hM : ∀ ps, PartF f ps → ps.length ≤ M) (hM2 : M ≤ 1000000) :
  Calls Tryz.prog 82 #[.func (.func 84) #[] #[.pointer (some ⟨p0, 0, none⟩)]] w fun e w' => CRet f w e w' := by
 have q := appSeq_any p0 b nn f w hp hm hok M hM hM2
 clear hp hm hok hM
 go_enter Tryz.func82, Tryz.ntmps82
 go_wp2_with fail
 refine q.mono ?_
 rintro e w1 ⟨u, ps, rfl, hall, how, hb⟩
 obtain ⟨A5, c5, hu5, _, _, _⟩ := own_reads how
 have H := Lib.hid (show CRet f w (.returned u) w1 from ⟨u, ps, rfl, hall, how, hb⟩)
 clear q how hall hb
 subst hu5
 go_wp2
 go_ret
 exact H.out
end Go.Proofs.YtpkmiegccfhpnaaGreatDoor
namespace Go.Proofs.YtpkmiegccfhpnaaGreatDoor
open Go.RowKit Go.Sort Go.Maps
instance fic_inh : Inhabited Fic := ⟨(0, 0, 0, 0)⟩
theorem sortsC_all (N : Nat) (hN : N < 4611686018427387904) : SortsC N := by
 intro u cs base w how hlen hok
 have eg : ∀ args w, (callFunc 118 args).run Tryz.prog w = .ok (.enter 118 args) w := enters_of Tryz.func118 (by kernel_rfl) rfl
 obtain ⟨l, hl⟩ : ∃ l : List CadV, l.map (·.1) = cs := ⟨cs.pmap (fun x h => (⟨x, h⟩ : CadV)) hok, by rw [List.map_pmap, List.pmap_eq_map, List.map_id']⟩
 have hlen2 : l.length = cs.length := by rw [← hl, List.length_map]
 have hfl : ∀ m : List CadV, m.flatMap (fun x => cCad x.1) = csCad (m.map (·.1)) := fun m => by unfold csCad; rw [List.flatMap_map]
 have h := sort_row (P := Tryz.prog) Tryz.sortC 7 (fun w => Tryz.isAgg126 w) (fun w => Tryz.sizeOf126 w) (fun x : CadV => cCad x.1) (fun _ => rfl) (fun x v hv => one_csCad [x.1] v (by simpa [csCad] using hv)) cmpCadV swo_cad _ eg (fun x y W => ford_w x.1 y.1 W) l u base 126 w (by rw [hfl, hl, hlen2]; exact how) (by omega)
 have h : Calls Tryz.prog 117 #[u, .func (.func 118) #[] #[]] w _ := h
 refine h.mono ?_
 rintro e w' ⟨rfl, l', hp, _, how', hg⟩
 refine ⟨rfl, l'.map (·.1), ?_, ?_, hg⟩
 ·rw [← hl]; exact hp.map _
 ·rw [hfl, hlen2] at how'; exact how'
theorem sortF_any (l : List Fic) (u : Value) (base : Nat) (w : World) (how : w.ownsRow base 39 4 u l.length (csFic l)) (hlen : l.length ≤ 1000000) :
  Calls Tryz.prog 83 #[u, .func (.func 62) #[] #[]] w fun e w' => e = .returned (.tuple #[]) ∧ ∃ l' : List Fic, l'.Perm l ∧ l'.Pairwise (fun x y => ¬ lessF y x) ∧ w'.ownsRow base 39 4 u l.length (csFic l') ∧ w.grownBy w' u.ownBlock := by
 have eg : ∀ args w, (callFunc 62 args).run Tryz.prog w = .ok (.enter 62 args) w := enters_of Tryz.func62 (by kernel_rfl) rfl
 have h := sort_row (P := Tryz.prog) Tryz.sortF 4 (fun w => Tryz.isAgg39 w) (fun w => Tryz.sizeOf39 w) cFic (fun _ => rfl) (fun x => one_cFic x) cmpFic swo_fic _ eg sord_w l u base 39 w how (by omega)
 have h : Calls Tryz.prog 83 #[u, .func (.func 62) #[] #[]] w _ := h
 refine h.mono ?_
 rintro e w' ⟨rfl, l', hp, hs, how', hg⟩
 refine ⟨rfl, l', hp, hs.imp fun {a b} hab => ?_, how', hg⟩
 rw [cmpFic_lt] at hab
 exact of_decide_eq_false hab
def SRet (L : List Fic) (w : World) (e : Ending) (w' : World) : Prop := ∃ u, e = .returned u ∧ w'.ownsRow w.heap.size 39 4 u L.length (csFic L) ∧ Below w.heap.size w w'
theorem sortedFunc_any (p0 b nn : Nat) (l : List (List Ev)) (f : Plc → Option Fic) (w : World) (hp : Blk w p0 71 #[.map (some b)]) (hm : TMap w keyPlace elemFic b nn f) (hok : ∀ x, f x ≠ none → okI x.1 ∧ okI x.2) (hf : FicOK l f) (hl : (plcL l).length ≤ 1000000) :
  Calls Tryz.prog 60 #[.func (.func 84) #[] #[.pointer (some ⟨p0, 0, none⟩)], .func (.func 62) #[] #[]] w fun e w' => SRet (listF l f) w e w' := by
 have q := collect_any p0 b nn f w hp hm hok (plcL l).length (fun ps hps => hps.few hf) hl
 have HF := Lib.hid hf
 have HLN := Lib.hid hl
 clear hp hm hok hf hl
 go_enter Tryz.func60, Tryz.ntmps60
 go_wp2_with fail
 refine q.mono ?_
 rintro e w1 ⟨u, ps, rfl, hall, how, hb⟩
 have hperm := hall.perm HF.out
 have hlen : (ps.map (·.2)).length = ps.length := by simp
 rw [← hlen] at how
 have hfew : (ps.map (·.2)).length ≤ 1000000 := by rw [hperm.length_eq]; exact Nat.le_trans (listF_len l f) HLN.out
 have q2 := sortF_any (ps.map (·.2)) u _ w1 how hfew
 obtain ⟨L, hL⟩ : ∃ z, z = ps.map (·.2) := ⟨_, rfl⟩
 rw [← hL] at hperm hlen how hfew q2
 have HLL := Lib.hid hperm
 have HOW := Lib.hid how
 have HB := Lib.hid hb
 obtain ⟨A5, c5, hu5, _, _, _⟩ := own_reads how
 subst hu5
 clear hall hperm hlen how hfew hL hb
 go_wp2_with fail
 refine q2.mono ?_
 rintro e w2 ⟨rfl, L', hp, hs, how', hg⟩
 have HR := Lib.hid (show SRet (listF l f) w (.returned (.slice A5 L.length c5)) w2 from by
  have e1 : L' = listF l f := eq_of_orders (hp.trans HLL.out) hs (listF_sorted HF.out)
  have e2 : L.length = (listF l f).length := HLL.out.length_eq
  rw [e1] at how'
  refine ⟨_, rfl, by rw [← e2]; exact how', Below.grown (B := w.heap.size) HB.out hg HB.out.size (fun x hx => (HOW.out.lt x hx).1)⟩)
 clear hp hs how' hg q q2
 go_wp2
 go_ret
 exact HR.out
theorem sorted_any (b nn : Nat) (l : List (List Ev)) (f : Plc → Option Fic) (w : World) (hm : TMap w keyPlace elemFic b nn f) (hok : ∀ x, f x ≠ none → okI x.1 ∧ okI x.2) (hf : FicOK l f) (hl : (plcL l).length ≤ 1000000) :
  Calls Tryz.prog 42 #[.map (some b)] w fun e w' => SRet (listF l f) w e w' := by
 have q := fun W (hW : Below w.heap.size w W) p0 (hp : Blk W p0 71 #[.map (some b)]) => sortedFunc_any p0 b nn l f W hp (hm.call hW) hok hf hl
 clear hm hok hf hl
 go_enter Tryz.func42, Tryz.ntmps42
 go_wp2_with fail
 refine (values_any _ _).mono ?_
 rintro e w1 ⟨rfl, rfl⟩
 have kb := below_alloc (Below.refl w.heap.size w) (.cells #[.map (some b)] 71)
 have q := q _ kb w.heap.size (Blk.new _ _ _)
 have HK := Lib.hid kb
 clear kb
 go_wp2_with fail
 refine q.mono ?_
 rintro e w2 ⟨u, rfl, how, hb⟩
 have HR := Lib.hid (show SRet (listF l f) w (.returned u) w2 from ⟨u, rfl, own_lower how (by simp), below_call HK.out hb⟩)
 obtain ⟨A5, c5, hu5, _, _, _⟩ := own_reads how
 clear how hb q
 subst hu5
 go_wp2
 go_ret
 exact HR.out
end Go.Proofs.YtpkmiegccfhpnaaGreatDoor
namespace Go.Proofs.YtpkmiegccfhpnaaGreatDoor
open Go.RowKit Go.Maps
structure YQ (W : World) (db ob : Nat) (pd : Option Nat) (dn : Plc → Option Fic) (mo no : Nat) (f : Plc → Option Fic) : Prop where
 dbox : Blk W db 71 #[.map pd]
 done : DoneAt W pd dn
 apart : pd ≠ some mo
 obox : Blk W ob 71 #[.map (some mo)]
 out : TMap W keyPlace elemFic mo no f
theorem YQ.call {W W' : World} {db ob mo no : Nat} {pd : Option Nat} {dn f : Plc → Option Fic} (h : YQ W db ob pd dn mo no f) (hb : Below W.heap.size W W') : YQ W' db ob pd dn mo no f :=
 ⟨h.dbox.kept hb, h.done.call hb, h.apart, h.obox.kept hb, h.out.call hb⟩
theorem YQ.ys {W : World} {db ob ib mo no : Nat} {pd : Option Nat} {dn f : Plc → Option Fic} {r : Int} (h : YQ W db ob pd dn mo no f) (hi : Blk W ib 3 #[.int .i64 (r - 1)]) : YS W db ob ib pd dn mo no f r := ⟨h.dbox, h.done, h.apart, h.obox, h.out, hi⟩
theorem YS.yq {W : World} {db ob ib mo no : Nat} {pd : Option Nat} {dn f : Plc → Option Fic} {r : Int} (h : YS W db ob ib pd dn mo no f r) : YQ W db ob pd dn mo no f := ⟨h.dbox, h.done, h.apart, h.obox, h.out⟩
def StageK (l : List (List Ev)) (dn : Plc → Option Fic) (k : Nat) (f : Plc → Option Fic) : Prop :=
 (k = 0 ∧ f = fun _ => none) ∨ (k = 1 ∧ ∃ L, (∀ p, p ∈ L ↔ leadB l p = true) ∧ f = ylds dn 1 1 (fun _ => none) L) ∨
 (k = 2 ∧ ∃ L, (∀ p, p ∈ L ↔ leadB l p = true) ∧ f = ylds dn 2 (-1) (ylds dn 1 1 (fun _ => none) L) (triL l)) ∨ (k = 3 ∧ f = rnd l dn)
theorem StageK.zero {l : List (List Ev)} {dn f : Plc → Option Fic} (h : StageK l dn 0 f) : f = fun _ => none := by
 rcases h with h | h | h | h <;> first | exact h.2 | (have := h.1; omega)
theorem StageK.one {l : List (List Ev)} {dn f : Plc → Option Fic} (h : StageK l dn 1 f) : ∃ L, (∀ p, p ∈ L ↔ leadB l p = true) ∧ f = ylds dn 1 1 (fun _ => none) L := by
 rcases h with h | h | h | h <;> first | exact h.2 | (have := h.1; omega)
theorem StageK.two {l : List (List Ev)} {dn f : Plc → Option Fic} (h : StageK l dn 2 f) : ∃ L, (∀ p, p ∈ L ↔ leadB l p = true) ∧ f = ylds dn 2 (-1) (ylds dn 1 1 (fun _ => none) L) (triL l) := by
 rcases h with h | h | h | h <;> first | exact h.2 | (have := h.1; omega)
theorem StageK.three {l : List (List Ev)} {dn f : Plc → Option Fic} (h : StageK l dn 3 f) : f = rnd l dn := by
 rcases h with h | h | h | h <;> first | exact h.2 | (have := h.1; omega)
theorem rnd_some {l : List (List Ev)} {dn : Plc → Option Fic} {L : List Plc} (hL : ∀ p, p ∈ L ↔ leadB l p = true) : ylds dn 3 (-1) (ylds dn 2 (-1) (ylds dn 1 1 (fun _ => none) L) (triL l)) (supL l) = rnd l dn := rnd_eq hL
def RoundRet (l : List (List Ev)) (dn : Plc → Option Fic) (w : World) (e : Ending) (w' : World) : Prop :=
 ∃ mo no, e = .returned (.map (some mo)) ∧ no ≤ 4000000 ∧ w.heap.size ≤ mo ∧ TMap w' keyPlace elemFic mo no (rnd l dn) ∧ Below w.heap.size w w'
def RLoop (w w1 : World) (db ob fb : Nat) (pd : Option Nat) (dn : Plc → Option Fic) (mo : Nat) (l : List (List Ev)) (k : Nat) (wr : World) : Prop :=
 ∃ no f, no ≤ k * 3500000 ∧ (k = 1 → no ≤ 300000) ∧ (k = 2 → no ≤ 3300000) ∧ (k = 3 → no ≤ 3400000) ∧ StageK l dn k f ∧ YQ wr db ob pd dn mo no f ∧ Blk wr fb 101 #[.func (.func 63) #[] #[], .func (.func 64) #[] #[], .func (.func 65) #[] #[]] ∧ w1.grownBy wr (some mo) ∧ Below w.heap.size w wr
theorem round_ok {w : World} {pd : Option Nat} {dn : Plc → Option Fic} (hd : DoneAt w pd dn) (A : Option Addr) (n c : Nat) (l : List (List Ev)) (B : Nat) (hV : ReadsV w B A n l) (hB : B ≤ w.heap.size) (hl : SetV l) (hs : (slicesE l).2 = 0) (hT : Tabs w) :
  Calls Tryz.prog 43 #[.slice A n c, .map pd] w fun e w' => RoundRet l dn w e w' := by
 have hmm := @run_makeMap Tryz.prog
 have HV := Lib.hid hV
 have HT := Lib.hid hT
 have HSL := Lib.hid hl
 have HSE := Lib.hid hs
 have HD := Lib.hid hd
 have hpd : ∀ b, pd = some b → b < w.heap.size := fun b hb => by
  rcases hd with ⟨h, _⟩ | ⟨b', nd, h, hm⟩
  ·rw [h] at hb; cases hb
  ·rw [h] at hb; cases hb; exact hm.lt
 clear hV hT hl hs hd
 go_enter Tryz.func43, Tryz.ntmps43
 go_wp2_with fail
 obtain ⟨w1, hw1⟩ : ∃ z, z = (((w.alloc (.cells #[.map pd] 71)).alloc (.map #[] 0)).alloc (.cells #[.map (some (w.heap.size + 1))] 71)).alloc (.cells #[.func (.func 63) #[] #[], .func (.func 64) #[] #[], .func (.func 65) #[] #[]] 101) := ⟨_, rfl⟩
 have kb : Below w.heap.size w w1 := by rw [hw1]; repeat (first | with_reducible (first | exact Below.refl _ _ | assumption | refine below_drewN ?_ _ | refine Below.drew ?_ | refine below_alloc ?_ _) | (with_reducible refine Below.setCell ?_ ?_ _; rotate_left; ((try simp only); omega)))
 have hsz : w1.heap.size = w.heap.size + 4 := by rw [hw1]; simp
 have db0 : Blk w1 w.heap.size 71 #[.map pd] := by rw [hw1]; exact (((Blk.new _ _ _).alloc _).alloc _).alloc _
 have ob0 : Blk w1 (w.heap.size + 2) 71 #[.map (some (w.heap.size + 1))] := by rw [hw1]; exact (Blk.newAt _ _ _ _ (by simp)).alloc _
 have fb0 : Blk w1 (w.heap.size + 3) 101 #[.func (.func 63) #[] #[], .func (.func 64) #[] #[], .func (.func 65) #[] #[]] := by rw [hw1]; exact Blk.newAt _ _ _ _ (by simp)
 have tm0 : TMap w1 keyPlace elemFic (w.heap.size + 1) 0 (fun _ => none) := by
  rw [hw1]
  have h0 := TMap.made (w.alloc (.cells #[.map pd] 71)) keyPlace elemFic
  rw [show (w.alloc (.cells #[.map pd] 71)).heap.size = w.heap.size + 1 by simp] at h0
  exact (h0.call (below_alloc (Below.refl _ _) _)).call (below_alloc (Below.refl _ _) _)
 rw [← hw1]
 clear hw1
 have HSZ := Lib.hid hsz
 have HKB := Lib.hid kb
 have r0 : RLoop w w1 w.heap.size (w.heap.size + 2) (w.heap.size + 3) pd dn (w.heap.size + 1) l 0 w1 :=
  ⟨0, _, by omega, by omega, by omega, by omega, .inl ⟨rfl, rfl⟩, ⟨db0, HD.out.call kb, fun e => by have := hpd _ e; omega, ob0, tm0⟩, fb0, ⟨rfl, rfl, rfl, Nat.le_refl _, fun _ _ _ => rfl⟩, kb⟩
 clear db0 ob0 fb0 tm0 kb hsz
 go_loopg [6, 7, 11] 3 (fun gh _ _ i wr => ∃ k : Nat, k + gh = 3 ∧ i = .int .i64 (k : Int) ∧ RLoop w w1 w.heap.size (w.heap.size + 2) (w.heap.size + 3) pd dn (w.heap.size + 1) l k wr)
 case atStart => exact ⟨0, by omega, by simp, r0⟩
 case round =>
  clear r0
  obtain ⟨k, hkg, rfl, hR⟩ := hrel
  obtain ⟨no, f, hno, hno1, hno2, hno3, hst, hyq, hfb, hgb, hbw⟩ := hR
  cases gk with
  | zero =>
   have hk : k = 3 := by omega
   subst hk
   have d0 : ¬ (((3 : Nat) : Int) < 3) := by omega
   have HF := hst.three
   subst HF
   have o0 := hyq.obox.cell 0
   have lo := hyq.obox.lt
   simp only [List.getElem?_toArray, List.getElem?_cons_zero] at o0
   have HR := Lib.hid (show RoundRet l dn w (.returned (.map (some (w.heap.size + 1)))) wr from ⟨_, no, rfl, by have := hno3 rfl; omega, by omega, hyq.out, hbw⟩)
   clear hyq hfb hgb hbw hno hno1 hno2 hno3
   go_wp2
   refine ret_of (by simp [results, Tryz.results43, go_sem, *]; repeat' (first | rfl | apply And.intro)) rfl HR.out
  | succ gh =>
   have hk3 : k < 3 := by omega
   have d0 : (k : Int) < 3 := by omega
   have wk : IntKind.i64.wrap ((k : Int) + 1) = (k : Int) + 1 := IntWalk.i64_in _ (by omega)
   have hb1 : B ≤ w.heap.size + 1 := by omega
   have hv1 := HV.out.under (hbw.mono hB)
   have ht1 := HT.out.kept hbw
   have hp1 := hgb.size
   have hs0 := hbw.size
   rcases (show k = 0 ∨ k = 1 ∨ k = 2 by omega) with rfl | rfl | rfl
   ·have c0 : wr.cell? ⟨w.heap.size + 3, 0, none⟩ = some (.func (.func 63) #[] #[]) := hfb.cell 0
    obtain ⟨w5, hw5⟩ : ∃ z, z = wr.alloc (.cells #[.int .i64 0] 3) := ⟨_, rfl⟩
    have k5 : Below wr.heap.size wr w5 := by rw [hw5]; repeat (first | with_reducible (first | exact Below.refl _ _ | assumption | refine below_drewN ?_ _ | refine Below.drew ?_ | refine below_alloc ?_ _) | (with_reducible refine Below.setCell ?_ ?_ _; rotate_left; ((try simp only); omega)))
    have b5 : Blk w5 wr.heap.size 3 #[.int .i64 ((0 + 1 : Int) - 1)] := by rw [hw5]; exact Blk.new _ _ _
    have ys5 := (hyq.call k5).ys b5
    have fb5 := hfb.kept k5
    have gb5 := Gb.call hgb k5
    have bw5 := below_call hbw k5
    have hs5 := bw5.size
    have HF0 := Lib.hid hst.zero
    have hno0 : no ≤ 0 := by omega
    have q := leading_ok 200000 (sortsC_all _ (by omega)) ys5 (by omega) A n c l B (hv1.under (k5.mono (by omega))) hb1 HSL.out (Nat.le_refl _) (ht1.kept k5)
    have HF5 := Lib.hid fb5
    have HG5 := Lib.hid gb5
    clear fb5 gb5 hfb hgb hyq
    go_wp2_with fail
    rw [← hw5]
    refine q.mono ?_
    rintro e w9 ⟨rfl, no', L, hno', hL, hI⟩
    have HST : StageK l dn (0 + 1) (ylds dn 1 1 f L) := .inr (.inl ⟨rfl, L, hL, by rw [HF0.out]⟩)
    have gb9 := Gb.tr HG5.out hI.gb
    have bw9 : Below w.heap.size w w9 := HKB.out.trans (Gb.below gb9 (by omega) (by have := HSZ.out; omega))
    have fb9 := Blk.gb HF5.out hI.gb (by omega)
    have HR := Lib.hid (show RLoop w w1 w.heap.size (w.heap.size + 2) (w.heap.size + 3) pd dn (w.heap.size + 1) l (0 + 1) w9 from ⟨no', _, by omega, by omega, by omega, by omega, HST, hI.ys.yq, fb9, gb9, bw9⟩)
    clear gb9 bw9 fb9 HF5 HG5 q hI ys5 HST
    go_wp2
    go_roundg gh
    case measure => omega
    case rel => exact ⟨0 + 1, by omega, by go_num, HR.out⟩
   ·have c0 : wr.cell? ⟨w.heap.size + 3, 1, none⟩ = some (.func (.func 64) #[] #[]) := hfb.cell 1
    obtain ⟨w5, hw5⟩ : ∃ z, z = wr.alloc (.cells #[.int .i64 1] 3) := ⟨_, rfl⟩
    have k5 : Below wr.heap.size wr w5 := by rw [hw5]; repeat (first | with_reducible (first | exact Below.refl _ _ | assumption | refine below_drewN ?_ _ | refine Below.drew ?_ | refine below_alloc ?_ _) | (with_reducible refine Below.setCell ?_ ?_ _; rotate_left; ((try simp only); omega)))
    have b5 : Blk w5 wr.heap.size 3 #[.int .i64 ((1 + 1 : Int) - 1)] := by rw [hw5]; exact Blk.new _ _ _
    have ys5 := (hyq.call k5).ys b5
    have fb5 := hfb.kept k5
    have gb5 := Gb.call hgb k5
    have bw5 := below_call hbw k5
    have hs5 := bw5.size
    have HF0 := Lib.hid hst.one
    have hno0 : no ≤ 300000 := hno1 rfl
    have q := tritones_ok ys5 (by omega) A n c l B (hv1.under (k5.mono (by omega))) hb1 HSL.out HSE.out (ht1.kept k5)
    have HF5 := Lib.hid fb5
    have HG5 := Lib.hid gb5
    clear fb5 gb5 hfb hgb hyq
    go_wp2_with fail
    rw [← hw5]
    refine q.mono ?_
    rintro e w9 ⟨rfl, no', hno', hI⟩
    have HST : StageK l dn (1 + 1) (ylds dn 2 (-1) f (triL l)) := by
     obtain ⟨L, hL, e⟩ := HF0.out
     exact .inr (.inr (.inl ⟨rfl, L, hL, by rw [e]⟩))
    have gb9 := Gb.tr HG5.out hI.gb
    have bw9 : Below w.heap.size w w9 := HKB.out.trans (Gb.below gb9 (by omega) (by have := HSZ.out; omega))
    have fb9 := Blk.gb HF5.out hI.gb (by omega)
    have HR := Lib.hid (show RLoop w w1 w.heap.size (w.heap.size + 2) (w.heap.size + 3) pd dn (w.heap.size + 1) l (1 + 1) w9 from ⟨no', _, by omega, by omega, by omega, by omega, HST, hI.ys.yq, fb9, gb9, bw9⟩)
    clear gb9 bw9 fb9 HF5 HG5 q hI ys5 HST
    go_wp2
    go_roundg gh
    case measure => omega
    case rel => exact ⟨1 + 1, by omega, by go_num, HR.out⟩
   ·have c0 : wr.cell? ⟨w.heap.size + 3, 2, none⟩ = some (.func (.func 65) #[] #[]) := hfb.cell 2
    obtain ⟨w5, hw5⟩ : ∃ z, z = wr.alloc (.cells #[.int .i64 2] 3) := ⟨_, rfl⟩
    have k5 : Below wr.heap.size wr w5 := by rw [hw5]; repeat (first | with_reducible (first | exact Below.refl _ _ | assumption | refine below_drewN ?_ _ | refine Below.drew ?_ | refine below_alloc ?_ _) | (with_reducible refine Below.setCell ?_ ?_ _; rotate_left; ((try simp only); omega)))
    have b5 : Blk w5 wr.heap.size 3 #[.int .i64 ((2 + 1 : Int) - 1)] := by rw [hw5]; exact Blk.new _ _ _
    have ys5 := (hyq.call k5).ys b5
    have fb5 := hfb.kept k5
    have gb5 := Gb.call hgb k5
    have bw5 := below_call hbw k5
    have hs5 := bw5.size
    have HF0 := Lib.hid hst.two
    have hno0 : no ≤ 3300000 := hno2 rfl
    have q := superLa_ok ys5 (by omega) A n c l B (hv1.under (k5.mono (by omega))) hb1 HSL.out
    have HF5 := Lib.hid fb5
    have HG5 := Lib.hid gb5
    clear fb5 gb5 hfb hgb hyq
    go_wp2_with fail
    rw [← hw5]
    refine q.mono ?_
    rintro e w9 ⟨rfl, no', hno', hI⟩
    have HST : StageK l dn (2 + 1) (ylds dn 3 (-1) f (supL l)) := by
     obtain ⟨L, hL, e⟩ := HF0.out
     exact .inr (.inr (.inr ⟨rfl, by rw [e]; exact rnd_some hL⟩))
    have gb9 := Gb.tr HG5.out hI.gb
    have bw9 : Below w.heap.size w w9 := HKB.out.trans (Gb.below gb9 (by omega) (by have := HSZ.out; omega))
    have fb9 := Blk.gb HF5.out hI.gb (by omega)
    have HR := Lib.hid (show RLoop w w1 w.heap.size (w.heap.size + 2) (w.heap.size + 3) pd dn (w.heap.size + 1) l (2 + 1) w9 from ⟨no', _, by omega, by omega, by omega, by omega, HST, hI.ys.yq, fb9, gb9, bw9⟩)
    clear gb9 bw9 fb9 HF5 HG5 q hI ys5 HST
    go_wp2
    go_roundg gh
    case measure => omega
    case rel => exact ⟨2 + 1, by omega, by go_num, HR.out⟩
end Go.Proofs.YtpkmiegccfhpnaaGreatDoor
namespace Go.Proofs.YtpkmiegccfhpnaaGreatDoor
open Go.RowKit
def VocAt (w : World) (base : Nat) (ds : List Pl) (l : List (List Ev)) : Prop := ∀ (k : Nat) d v, ds[k]? = some d → l[k]? = some v → w.ownsRow base 49 10 (.slice d.1 d.2.1 d.2.2) d.2.1 (csE v) ∧ d.2.1 ≤ 9223372036854775807
theorem VocAt.kept {w W : World} {base : Nat} {ds : List Pl} {l : List (List Ev)} (h : VocAt w base ds l) (hb : Below w.heap.size w W) : VocAt W base ds l := fun k d v hd hv => ⟨own_call (h k d v hd hv).1 hb, (h k d v hd hv).2⟩
def Far (ds : List Pl) : Prop := ∀ (j k : Nat) (d d' : Pl) (p q : Addr), j < k → ds[j]? = some d → ds[k]? = some d' → d.1 = some p → d'.1 = some q → p.block < q.block
theorem Far.nil_ : Far [] := fun j k d d' p q _ h => by simp at h
theorem Far.snoc {ds : List Pl} {x : Pl} {B : Nat} (h : Far ds) (h1 : ∀ d ∈ ds, ∀ p, d.1 = some p → p.block < B) (h2 : ∀ q, x.1 = some q → B ≤ q.block) : Far (ds ++ [x]) := by
 intro j k d d' p q hjk hd hd' hp hq
 rcases Nat.lt_or_ge k ds.length with hk | hk
 ·rw [List.getElem?_append_left hk] at hd'
  rw [List.getElem?_append_left (by omega)] at hd
  exact h j k d d' p q hjk hd hd' hp hq
 ·have hk2 : k = ds.length := by
   have := (List.getElem?_eq_some_iff.1 hd').1
   rw [List.length_append, List.length_singleton] at this
   omega
  subst hk2
  rw [List.getElem?_append_right (Nat.le_refl _)] at hd'
  simp at hd'
  subst hd'
  rw [List.getElem?_append_left (by omega)] at hd
  have a1 := h1 d (List.mem_of_getElem? hd) p hp
  have a2 := h2 q hq
  omega
theorem VocAt.lt {w : World} {base : Nat} {ds : List Pl} {l : List (List Ev)} (h : VocAt w base ds l) (hl : ds.length ≤ l.length) : ∀ d ∈ ds, ∀ p, d.1 = some p → p.block < w.heap.size := fun d hd p hp => by
 obtain ⟨k, hk⟩ := List.getElem?_of_mem hd
 obtain ⟨v, hv⟩ := get_some (l := l) (k := k) (by have := (List.getElem?_eq_some_iff.1 hk).1; omega)
 have h1 := (h k d v hk hv).1
 rw [hp] at h1
 exact (h1.lt p.block rfl).2
theorem own_base {w : World} {base size n m c : Nat} {e : TypeId} {q : Addr} {xs : List Value} (h : w.ownsRow base e size (.slice (some q) m c) n xs) : base ≤ q.block := (h.lt q.block rfl).1
theorem m_split (done rest : List Ev) (y : Ev) : csE (done ++ y :: rest) = csE done ++ .int .i64 y.at_.1 :: .int .i64 y.at_.2 :: .int .i64 y.dur.1 :: .int .i64 y.dur.2 :: .int .i64 y.pit.1 :: .int .i64 y.pit.2.1 :: .int .i64 y.pit.2.2 :: .bool y.rest :: .int .i64 y.sign :: .int .i64 y.pass :: csE rest := by
 rw [csE_append]; rfl
def VocF (w : World) (base : Nat) (ds : List Pl) (l : List (List Ev)) (g : Nat → List Ev → List Ev) : Prop :=
 ∀ (j : Nat) d v, ds[j]? = some d → l[j]? = some v → w.ownsRow base 49 10 (.slice d.1 d.2.1 d.2.2) d.2.1 (csE (g j v)) ∧ d.2.1 ≤ 9223372036854775807
structure CopyAt (w : World) (base lim : Nat) (u : Value) (ds : List Pl) (l : List (List Ev)) (g : Nat → List Ev → List Ev) : Prop where
 row : w.ownsRow base 36 1 u ds.length (csV ds)
 voc : VocF w base ds l g
 far : Far ds
 len : ds.length = l.length
 inn : ∀ d ∈ ds, ∀ p, d.1 = some p → p.block < lim
 out : ∀ b, u.ownBlock = some b → b < lim
theorem own_lim {w w' : World} {base size n B : Nat} {e : TypeId} {v : Value} {xs : List Value} (h : w.ownsRow base e size v n xs) (hl : ∀ b, v.ownBlock = some b → b < B) (hb : Below B w w') : w'.ownsRow base e size v n xs := by
 obtain ⟨h1, h2⟩ := h
 refine ⟨h1, ?_⟩
 rcases h2 with h2 | ⟨g, cap, cur, h2, h3, h4, h5⟩
 ·exact .inl h2
 ·refine .inr ⟨g, cap, cur, h2, h3, ?_, h5⟩
  rw [hb.block g (hl g (by rw [h2]; rfl))]; exact h4
theorem CopyAt.kept {w w' : World} {base lim B : Nat} {u : Value} {ds : List Pl} {l : List (List Ev)} {g : Nat → List Ev → List Ev} (h : CopyAt w base lim u ds l g) (hb : Below B w w') (hB : lim ≤ B) : CopyAt w' base lim u ds l g where
 row := own_lim h.row (fun b hb' => by have := h.out b hb'; omega) hb
 voc := fun j d v hd hv => ⟨own_lim (h.voc j d v hd hv).1 (fun b hb' => by
  obtain ⟨A, n, c⟩ := d
  cases A with
  | none => cases hb'
  | some p =>
   have := h.inn _ (List.mem_of_getElem? hd) p rfl
   cases hb'
   omega) hb, (h.voc j d v hd hv).2⟩
 far := h.far
 len := h.len
 inn := h.inn
 out := h.out
theorem csV_get : ∀ (ds : List Pl) (i : Nat), (csV ds)[i]? = ds[i]?.map (fun d : Pl => Value.slice d.1 d.2.1 d.2.2)
 | [], i => by simp [csV]
 | d :: ds, 0 => rfl
 | d :: ds, i + 1 => by
  have := csV_get ds i
  rw [List.getElem?_cons_succ, ← this]
  rfl
theorem CopyAt.at_ {w : World} {base lim i : Nat} {u : Value} {ds : List Pl} {l : List (List Ev)} {g : Nat → List Ev → List Ev} {v : List Ev} (h : CopyAt w base lim u ds l g) (hv : l[i]? = some v) :
  ∃ bu cu A n c, u = .slice (some ⟨bu, 0, none⟩) ds.length cu ∧ base ≤ bu ∧ bu < w.heap.size ∧ w.cell? ⟨bu, i, none⟩ = some (.slice A n c) ∧ ds[i]? = some (A, n, c) ∧ w.ownsRow base 49 10 (.slice A n c) n (csE (g i v)) := by
 have hi := (List.getElem?_eq_some_iff.1 hv).1
 obtain ⟨⟨A, n, c⟩, hd⟩ := get_some (l := ds) (k := i) (by have := h.len; omega)
 have hr := h.row
 rcases hr.2 with ⟨_, h0⟩ | ⟨bu, cu, cur, hu, hb, hh, _, _, _, _⟩
 ·have := h.len; omega
 ·refine ⟨bu, cu, A, n, c, hu, hb, ?_, ?_, hd, (h.voc i _ v hd hv).1⟩
  ·exact (hr.lt bu (by rw [hu]; rfl)).2
  ·rw [hu] at hr
   rw [hr.cellAt i (by have := h.len; omega)]
   rw [csV_get, hd]; rfl
theorem CopyAt.put {w w' : World} {base lim i gi n c : Nat} {u : Value} {ds : List Pl} {l : List (List Ev)} {g g' : Nat → List Ev → List Ev} {v : List Ev} (h : CopyAt w base lim u ds l g) (hv : l[i]? = some v) (hd : ds[i]? = some (some ⟨gi, 0, none⟩, n, c))
  (hst : ∀ (b0 size m : Nat) (e : TypeId) (x : Value) (xs : List Value), w.ownsRow b0 e size x m xs → (∀ b, x.ownBlock = some b → b ≠ gi) → w'.ownsRow b0 e size x m xs)
  (hnew : w'.ownsRow base 49 10 (.slice (some ⟨gi, 0, none⟩) n c) n (csE (g' i v))) (hg : ∀ j, j ≠ i → ∀ x, g' j x = g j x) : CopyAt w' base lim u ds l g' where
 row := hst _ _ _ _ _ _ h.row (fun b hb hbg => by
  subst hbg
  have h1 := (h.voc i _ v hd hv).1
  rcases h1.2 with ⟨h0, _⟩ | ⟨g1, c1, cur, hu, _, hh, _⟩
  ·cases h0
  ·cases hu
   rcases h.row.2 with ⟨h0, _⟩ | ⟨g2, c2, cur2, hu2, _, hh2, _⟩
   ·rw [h0] at hb; cases hb
   ·rw [hu2] at hb
    cases hb
    rw [hh] at hh2
    have hne : 49 ≠ 36 := by decide
    cases hh2)
 voc := fun j d x hdj hx => by
  by_cases hj : j = i
  ·subst hj
   rw [hd] at hdj
   rw [hv] at hx
   cases hdj
   cases hx
   exact ⟨hnew, (h.voc j _ v hd hv).2⟩
  ·rw [hg j hj]
   refine ⟨hst _ _ _ _ _ _ (h.voc j d x hdj hx).1 (fun b hb hbg => ?_), (h.voc j d x hdj hx).2⟩
   obtain ⟨A, m, c'⟩ := d
   cases A with
   | none => cases hb
   | some p =>
    cases hb
    rcases Nat.lt_or_ge j i with hlt | hge
    ·have := h.far j i _ _ p ⟨gi, 0, none⟩ hlt hdj hd rfl rfl
     simp only at this; omega
    ·have := h.far i j _ _ ⟨gi, 0, none⟩ p (by omega) hd hdj rfl rfl
     simp only at this; omega
 far := h.far
 len := h.len
 inn := h.inn
 out := h.out
theorem st_one {w : World} {gi q : Nat} {a : Value} (b0 size m : Nat) (e : TypeId) (x : Value) (xs : List Value) (h : w.ownsRow b0 e size x m xs) (hne : ∀ b, x.ownBlock = some b → b ≠ gi) : (w.setCell ⟨gi, q, none⟩ a).ownsRow b0 e size x m xs := by
 obtain ⟨h1, h2⟩ := h
 refine ⟨h1, ?_⟩
 rcases h2 with h2 | ⟨g, cap, cur, hv, hg, hh, rest⟩
 ·exact .inl h2
 ·exact .inr ⟨g, cap, cur, hv, hg, by rw [Below.heap_setCell w ⟨gi, q, none⟩ a g (hne g (by rw [hv]; rfl))]; exact hh, rest⟩
theorem m_get {done rest : List Ev} {x : Ev} {k : Nat} (hk : done.length = k) (j : Nat) (hj : j < 10) : (csE (done ++ x :: rest))[k * 10 + j]? = (cE x)[j]? := by
 subst hk
 rw [csE_append, ← csE_len done, List.getElem?_append_right (by omega), Nat.add_sub_cancel_left]
 show (cE x ++ csE rest)[j]? = _
 exact List.getElem?_append_left (by show j < 10; exact hj)
theorem one_csV (l : List Pl) : ∀ u ∈ csV l, u.oneCell' = true := by
 intro u hu
 obtain ⟨t, _, ht⟩ := List.mem_flatMap.1 hu
 simp [slV] at ht
 subst ht; rfl
theorem csV_append (a b : List Pl) : csV (a ++ b) = csV a ++ csV b := by unfold csV; rw [List.flatMap_append]
theorem m_set_alt (done rest : List Ev) (x : Ev) (p : Int) : (csE (done ++ x :: rest)).set (done.length * 10 + 6) (.int .i64 p) = csE (done ++ altE p x :: rest) := by
 rw [m_split, m_split, ← csE_len done]; unfold altE; simp
theorem CopyAt.evk {w : World} {base lim i k m : Nat} {u : Value} {ds : List Pl} {l : List (List Ev)} {g : Nat → List Ev → List Ev} {v done rest : List Ev} {x : Ev} (h : CopyAt w base lim u ds l g) (hv : l[i]? = some v) (hg : g i v = done ++ x :: rest) (hk : done.length = k) (hm : ds.length = m) :
  ∃ bu cu gi cx nv, u = .slice (some ⟨bu, 0, none⟩) m cu ∧ bu < w.heap.size ∧ base ≤ bu ∧ w.cell? ⟨bu, i, none⟩ = some (.slice (some ⟨gi, 0, none⟩) nv cx) ∧ ds[i]? = some (some ⟨gi, 0, none⟩, nv, cx) ∧ base ≤ gi ∧ gi < w.heap.size ∧ k < nv ∧ nv = (done ++ x :: rest).length ∧
   w.ownsRow base 49 10 (.slice (some ⟨gi, 0, none⟩) nv cx) nv (csE (done ++ x :: rest)) ∧ (∃ y, w.cell? ⟨gi, k * 10 + 6, none⟩ = some (.int .i64 y)) ∧ ∀ j, w.frozen? ⟨gi, j, none⟩ = false := by
 obtain ⟨bu, cu, A1, n1, c1, hu, hb, hlt, hcell, hd, hrow⟩ := h.at_ hv
 rw [hg] at hrow
 have hl := hrow.1
 rw [csE_len] at hl
 have hn : n1 = (done ++ x :: rest).length := by omega
 have hkn : k < n1 := by rw [hn, List.length_append, hk]; simp
 rcases hrow.2 with ⟨_, h0⟩ | ⟨gi, cap, cur, hgi, hbg, hh, _⟩
 ·omega
 ·have e1 : A1 = some ⟨gi, 0, none⟩ := by injection hgi
  subst e1
  refine ⟨bu, cu, gi, c1, n1, by rw [← hm]; exact hu, hlt, hb, hcell, hd, hbg, (hrow.lt gi rfl).2, hkn, hn, hrow, ⟨x.pit.2.2, ?_⟩, fun j => hrow.frozenAt j⟩
  rw [hrow.cellAt (k * 10 + 6) (by omega), m_get hk 6 (by decide)]
  rfl
def gW (l : List (List Ev)) (L : List Fic) (j : Nat) (_ : List Ev) : List Ev := (withL l L).getD j []
theorem withL_snoc (l : List (List Ev)) (L : List Fic) (y : Fic) : withL l (L ++ [y]) = setA (withL l L) y := by unfold withL; rw [List.foldl_append]; rfl
theorem setA_len (l : List (List Ev)) (y : Fic) : (setA l y).length = l.length := by unfold setA; rw [List.length_modify]
theorem withL_len (l : List (List Ev)) (L : List Fic) : (withL l L).length = l.length := by
 induction L generalizing l with
 | nil => rfl
 | cons y L ih => show (withL (setA l y) L).length = _; rw [ih, setA_len]
theorem modify_mid {α : Type} (f : α → α) : ∀ (a : List α) (x : α) (b : List α), (a ++ x :: b).modify a.length f = a ++ f x :: b
 | [], _, _ => rfl
 | y :: a, x, b => by
  show (y :: (a ++ x :: b)).modify (a.length + 1) f = y :: (a ++ f x :: b)
  rw [List.modify_succ_cons, modify_mid f a x b]
theorem setA_at (l : List (List Ev)) (y : Fic) (j : Nat) : (setA l y)[j]? = if y.1.toNat = j then l[j]?.map (fun v => v.modify y.2.1.toNat (altE y.2.2.1)) else l[j]? := by
 unfold setA
 rw [List.getElem?_modify]
 split <;> simp
theorem setA_vlen {l : List (List Ev)} {y : Fic} {j : Nat} {v : List Ev} (h : (setA l y)[j]? = some v) : ∃ v0, l[j]? = some v0 ∧ v.length = v0.length := by
 rw [setA_at] at h
 split at h
 ·obtain ⟨v0, h0, rfl⟩ := Option.map_eq_some_iff.1 h
  exact ⟨v0, h0, by rw [List.length_modify]⟩
 ·exact ⟨v, h, rfl⟩
theorem withL_vlen {L : List Fic} : ∀ {l : List (List Ev)} {j : Nat} {v : List Ev}, (withL l L)[j]? = some v → ∃ v0, l[j]? = some v0 ∧ v.length = v0.length := by
 induction L with
 | nil => intro l j v h; exact ⟨v, h, rfl⟩
 | cons y L ih =>
  intro l j v h
  obtain ⟨v1, h1, e1⟩ := ih (l := setA l y) h
  obtain ⟨v0, h0, e0⟩ := setA_vlen h1
  exact ⟨v0, h0, e1.trans e0⟩
theorem inF_nat {l : List (List Ev)} {x : Fic} (h : inF l x = true) : ∃ (i k : Nat) (v : List Ev), x.1 = (i : Int) ∧ x.2.1 = (k : Int) ∧ l[i]? = some v ∧ k < v.length := by
 unfold inF at h
 rw [decide_eq_true_eq] at h
 obtain ⟨h1, h2, h3, h4⟩ := h
 obtain ⟨v, hv⟩ := get_some (l := l) (k := x.1.toNat) (by omega)
 rw [getD_at hv] at h4
 exact ⟨x.1.toNat, x.2.1.toNat, v, by omega, by omega, hv, by omega⟩
theorem gW_next {l : List (List Ev)} {L : List Fic} {y : Fic} {i k : Nat} {v : List Ev} (hi : y.1 = (i : Int)) (hk : y.2.1 = (k : Int)) (hv : l[i]? = some v) (hkv : k < v.length) :
  ∃ done x rest, gW l L i v = done ++ x :: rest ∧ done.length = k ∧ gW l (L ++ [y]) i v = done ++ altE y.2.2.1 x :: rest ∧ ∀ j, j ≠ i → ∀ z, gW l (L ++ [y]) j z = gW l L j z := by
 obtain ⟨v1, h1⟩ := get_some (l := withL l L) (k := i) (by rw [withL_len]; exact (List.getElem?_eq_some_iff.1 hv).1)
 obtain ⟨v0, h0, e0⟩ := withL_vlen h1
 rw [hv] at h0
 cases h0
 obtain ⟨x, hx⟩ := get_some (l := v1) (k := k) (by omega)
 have hsplit : v1 = v1.take k ++ x :: v1.drop (k + 1) := by rw [← drop_get hx, List.take_append_drop]
 have hlen : (v1.take k).length = k := by rw [List.length_take]; omega
 refine ⟨v1.take k, x, v1.drop (k + 1), ?_, hlen, ?_, ?_⟩
 ·unfold gW; rw [getD_at h1]; exact hsplit
 ·have h2 : (setA (withL l L) y)[i]? = some (v1.modify k (altE y.2.2.1)) := by rw [setA_at, if_pos (by omega), h1]; simp [hk]
  unfold gW
  rw [withL_snoc, getD_at h2]
  have h3 : v1.modify k (altE y.2.2.1) = (v1.take k ++ x :: v1.drop (k + 1)).modify k (altE y.2.2.1) := congrArg (fun z => z.modify k (altE y.2.2.1)) hsplit
  rw [h3]
  have h4 := modify_mid (altE y.2.2.1) (v1.take k) x (v1.drop (k + 1))
  rwa [hlen] at h4
 ·intro j hj z
  unfold gW
  rw [withL_snoc]
  have : (setA (withL l L) y)[j]? = (withL l L)[j]? := by rw [setA_at, if_neg (by omega)]
  simp [List.getD, this]
theorem voice_info : (Tryz.prog.info? 36).map (fun i => (i.zero, i.size, i.bytes)) = some (some (.slice none 0 0), 1, 24) := by kernel_rfl
@[go_sem] theorem eql_nilE (w : World) (A : Option Addr) (n c : Nat) : (binOp .eql 36 (.slice A n c) (.slice none 0 0)).run Tryz.prog w = .ok (.bool A.isNone) w := by
 unfold binOp
 simp [run_equal_slice_nil w _ _ A n c Tryz.underlying36]
theorem cloneE_any (A : Option Addr) (n c : Nat) (l : List Ev) (B : Nat) (w : World) (h : Reads w B 10 A n (csE l)) (hB : B ≤ w.heap.size) (hn : n ≤ 5000) :
  Calls Tryz.prog 55 #[.slice A n c] w fun e w' => ∃ A' c', e = .returned (.slice A' n c') ∧ OwnE w' w.heap.size n A' c' l ∧ Below w.heap.size w w' := by
 obtain ⟨i0, hi0, hz0, hz1, hz2⟩ := info_parts event_info
 cases A with
 | none =>
  have h0 := h.none_len rfl
  subst h0
  have hl : l = [] := List.eq_nil_of_length_eq_zero h.evlen
  subst hl
  go_enter Tryz.func55, Tryz.ntmps55
  go_wp2
  go_ret
  exact ⟨none, 0, rfl, ⟨⟨rfl, .inl ⟨rfl, rfl⟩⟩, Reads.none_, Nat.le_refl _⟩, Below.refl _ _⟩
 | some ad =>
  go_enter Tryz.func55, Tryz.ntmps55
  go_wp2_with (at_builtin; (refine wpList_append_any _ rfl (.tmp 5) (.tmp 6) _ rfl w.heap.size 49 i0 _ 10 80 Tryz.underlying36 hi0 hz0 hz1 hz2 rfl (by omega) (.slice (some ⟨w.heap.size, 0, none⟩) 0 0) 0 [] rfl (World.ownsRow_lit w #[] 0 (Nat.le_refl _) (by simp [maxLen]) rfl) B (some ad) n c (csE l) rfl (h.below hB (below_alloc (Below.refl _ _) _)) (one_csE l) (by simp only [maxLen]; omega) (by omega) (by simp) ?_); intro v1 w1 hown1 hg1 hat1)
  go_ret
  simp only [Nat.zero_add, List.nil_append] at hown1
  obtain ⟨A', c', e, ho⟩ := ownE_form hown1
  subst e
  exact ⟨A', c', rfl, ho, (below_alloc (Below.refl _ _) _).grown hg1 (by simp) (fun k hk => by simp [Value.ownBlock] at hk; omega)⟩
theorem CopyAt.start {w : World} {base n : Nat} {u : Value} {ds : List Pl} {l : List (List Ev)} (hrow : w.ownsRow base 36 1 u n (csV ds)) (hdl : ds.length = n) (hl : l.length = n) (hvs : VocAt w base ds l) (hfar : Far ds) : CopyAt w base w.heap.size u ds l (gW l []) where
 row := by rw [hdl]; exact hrow
 voc := fun j d v hd hv => by
  have : gW l [] j v = v := getD_at hv
  rw [this]; exact hvs j d v hd hv
 far := hfar
 len := by omega
 inn := fun d hd p hp => hvs.lt (by omega) d hd p hp
 out := fun b hb => (hrow.lt b hb).2
theorem CopyAt.readsW {w : World} {base lim n c : Nat} {A : Option Addr} {ds : List Pl} {l : List (List Ev)} {L : List Fic} (h : CopyAt w base lim (.slice A n c) ds l (gW l L)) (hn : l.length = n) : ReadsV w w.heap.size A n (withL l L) := by
 have hl := h.len
 obtain ⟨A9, c9, e9, r9, _, _⟩ := own_reads h.row
 cases e9
 refine ⟨ds, by rw [withL_len]; exact hl, r9, fun j d v hd hv => ?_⟩
 obtain ⟨v0, h0, _⟩ := withL_vlen hv
 obtain ⟨h1, h2⟩ := h.voc j d v0 hd h0
 rw [show gW l L j v0 = v from getD_at hv] at h1
 obtain ⟨A8, c8, e8, r8, _, _⟩ := own_reads h1
 cases e8
 exact ⟨r8, h2⟩
def WRet (n : Nat) (l : List (List Ev)) (w : World) (e : Ending) (w' : World) : Prop := ∃ A c, e = .returned (.slice A n c) ∧ ReadsV w' w'.heap.size A n l ∧ Below w.heap.size w w'
theorem fwith_ok (A : Option Addr) (n c : Nat) (l : List (List Ev)) (B : Nat) (w : World) (h : ReadsV w B A n l) (hB : B ≤ w.heap.size) (hn : n ≤ 10) (hv9 : ∀ v ∈ l, v.length ≤ 5000) (A2 : Option Addr) (m c2 : Nat) (L : List Fic) (B2 : Nat) (h2 : Reads w B2 4 A2 m (csFic L)) (hB2 : B2 ≤ w.heap.size) (hm : m ≤ 1000000) (hin : ∀ y ∈ L, inF l y = true) :
  Calls Tryz.prog 36 #[.slice A n c, .slice A2 m c2] w fun e w' => WRet n (withL l L) w e w' := by
 have HL := Lib.hid h.len
 have HV := Lib.hid h
 have HV9 := Lib.hid hv9
 have HR2 := Lib.hid h2
 have HLM := Lib.hid (show L.length = m from h2.len (size := 4) (l := L) (f := cFic) (fun _ => rfl) (by decide))
 have HIN := Lib.hid hin
 have HNE : 49 ≠ 36 := by decide
 obtain ⟨i0, hi0, hz0, hz1, hz2⟩ := info_parts voice_info
 clear hv9 h h2 hin
 go_enter Tryz.func36, Tryz.ntmps36
 go_wp2
 go_loopg [5, 7, 12] n (fun gh u _ i wr => ∃ (k : Nat) (ds : List Pl), k + gh = n ∧ i = .int .i64 (k : Int) ∧ wr.ownsRow w.heap.size 36 1 u k (csV ds) ∧ ds.length = k ∧ VocAt wr w.heap.size ds l ∧ Far ds ∧ Below w.heap.size w wr)
 case atStart => exact ⟨0, [], by omega, by simp, ⟨rfl, .inl ⟨rfl, rfl⟩⟩, rfl, fun k d v hd _ => by simp at hd, Far.nil_, Below.refl _ _⟩
 case round =>
  obtain ⟨k, ds, hkg, rfl, hrow, hdl, hvs, hfar, k0⟩ := hrel
  have wk : IntKind.i64.wrap ((k : Int) + 1) = (k : Int) + 1 := IntWalk.i64_in _ (by omega)
  cases gk with
  | zero =>
   have hkn : k = n := by omega
   have d0 : ¬ ((k : Int) < (n : Int)) := by omega
   subst hkn
   have K0 := CopyAt.start hrow hdl HL.out hvs hfar
   obtain ⟨A9, c9, hu9, -, _, _⟩ := own_reads hrow
   subst hu9
   have HDL := Lib.hid hdl
   obtain ⟨lim, hlim⟩ : ∃ z, z = wr.heap.size := ⟨_, rfl⟩
   rw [← hlim] at K0
   have hlim2 : lim ≤ wr.heap.size := by omega
   clear hdl hkg hrow hvs hfar wk hlim
   go_wp2_with fail
   go_loopg [9, 24] m (fun g2 _ i wy => ∃ q : Nat, q + g2 = m ∧ i = .int .i64 (q : Int) ∧ CopyAt wy w.heap.size lim (.slice A9 k c9) ds l (gW l (L.take q)) ∧ Below w.heap.size w wy ∧ lim ≤ wy.heap.size)
   case atStart => exact ⟨0, by omega, by simp, K0, k0, hlim2⟩
   case round =>
    clear K0 k0 hlim2
    obtain ⟨wy, hwy⟩ : ∃ z, z = wr := ⟨_, rfl⟩
    subst hwy
    obtain ⟨q, hqg, rfl, K, kr, hlm⟩ := hrel
    have wq : IntKind.i64.wrap ((q : Int) + 1) = (q : Int) + 1 := IntWalk.i64_in _ (by omega)
    cases gk with
    | zero =>
     have hq : q = m := by omega
     have d1 : ¬ ((q : Int) < (m : Int)) := by omega
     subst hq
     have HX := Lib.hid (show WRet k (withL l L) w (.returned (.slice A9 k c9)) wy from ⟨_, _, rfl, by
      have := K.readsW HL.out
      rwa [List.take_of_length_le (by rw [HLM.out]; exact Nat.le_refl _)] at this, kr⟩)
     clear K kr hlm
     go_wp2
     refine ret_of (by simp [results, Tryz.results36, go_sem, *]; repeat' (first | rfl | apply And.intro)) rfl HX.out
    | succ g2 =>
     have hqm : q < m := by omega
     have d1 : (q : Int) < (m : Int) := by omega
     obtain ⟨⟨y1, y2, y3, y4⟩, hy⟩ := get_some (l := L) (k := q) (by have := HLM.out; omega)
     obtain ⟨bf, off, hA2, hbf, hcf⟩ := Reads.elem (f := cFic) (fun _ => rfl) (HR2.out.below hB2 kr) hqm hy
     subst hA2
     have e0 := hcf 0 _ rfl
     have e1 := hcf 1 _ rfl
     have e2 := hcf 2 _ rfl
     have e3 := hcf 3 _ rfl
     simp only [Nat.add_zero, ← Nat.add_assoc] at e0 e1 e2 e3
     obtain ⟨i, j, v, hi, hj, hv, hjv⟩ := inF_nat (HIN.out _ (List.mem_of_getElem? hy))
     simp only at hi hj
     subst hi hj
     obtain ⟨done, x, rest, hg, hdn, hg2, hgo⟩ := gW_next (L := L.take q) (y := ((i : Int), (j : Int), y3, y4)) rfl rfl hv hjv
     rw [← take_get hy] at hg2 hgo
     obtain ⟨bu, cu, gi, cx, nv, hu, hbu, hbase, hcu, hds, hbg, hgl, hjn, hnv, how, ⟨z6, hz6⟩, hfz⟩ := K.evk hv hg hdn HDL.out
     have hik : i < k := by have := (List.getElem?_eq_some_iff.1 hv).1; have := HL.out; omega
     have hik' : (i : Int) < (k : Int) := by omega
     have hjn' : (j : Int) < (nv : Int) := by omega
     have hA9 : A9 = some ⟨bu, 0, none⟩ := by injection hu
     subst hA9
     have lbf : bf < wy.heap.size := by have := kr.size; omega
     have HG2 := Lib.hid hg2
     have HGO := Lib.hid hgo
     have HDN := Lib.hid hdn
     have HVV := Lib.hid hv
     have HDS := Lib.hid hds
     clear hy hcf hv hg hg2 hgo hdn hu hds hjv hnv
     go_wp2_with fail
     obtain ⟨w5, hw5⟩ : ∃ z, z = wy.alloc (.cells #[.int .i64 (i : Int), .int .i64 (j : Int), .int .i64 y3, .int .i64 y4] 39) := ⟨_, rfl⟩
     have k5 : Below wy.heap.size wy w5 := by rw [hw5]; repeat (first | with_reducible (first | exact Below.refl _ _ | assumption | refine below_drewN ?_ _ | refine Below.drew ?_ | refine below_alloc ?_ _) | (with_reducible refine Below.setCell ?_ ?_ _; rotate_left; ((try simp only); omega)))
     have b5 : Blk w5 wy.heap.size 39 #[.int .i64 (i : Int), .int .i64 (j : Int), .int .i64 y3, .int .i64 y4] := by rw [hw5]; exact Blk.new _ _ _
     have kr5 := below_call kr k5
     rw [← hw5]
     have f0 := b5.cell 0
     have f1 := b5.cell 1
     have f2 := b5.cell 2
     have lf := b5.lt
     simp only [List.getElem?_toArray, List.getElem?_cons_zero, List.getElem?_cons_succ] at f0 f1 f2
     have u0 := (k5.cell (p := ⟨bu, i, none⟩) hbu).trans hcu
     have lu : bu < w5.heap.size := by have := k5.size; omega
     have K5 := K.kept k5 hlm
     have o5 := own_call how k5
     have hlm5 : lim ≤ w5.heap.size := by have := k5.size; omega
     have hg5 : gi < w5.heap.size := by have := k5.size; omega
     have z5 := (k5.cell (p := ⟨gi, j * 10 + 6, none⟩) hgl).trans hz6
     clear hw5 K kr e0 e1 e2 e3 hcu hz6 how hfz k5 b5
     refine wp_region_calm_tail 12 (by kernel_rfl) (by kernel_rfl) ?_
     simp only [List.take_succ_cons, List.take_zero, List.drop_succ_cons, List.drop_zero]
     repeat (go_big_quiet_step (fail))
     refine wpQuiet_nil ?_
     intro wd gd
     have Kd := K5.kept gd hlm5
     have krd := below_call kr5 gd
     have od := own_call o5 gd
     have fd := od.frozenAt (j * 10 + 4 + 2)
     have zd : wd.cell? ⟨gi, j * 10 + 4 + 2, none⟩ = some (.int .i64 z6) := (gd.cell (p := ⟨gi, j * 10 + 6, none⟩) hg5).trans z5
     have lgd : gi < wd.heap.size := by have := gd.size; omega
     have hlmd : lim ≤ wd.heap.size := by have := gd.size; omega
     clear K5 kr5 o5 f0 f1 f2 u0 z5 gd
     go_wp2_with fail
     obtain ⟨w7, hw7⟩ : ∃ z, z = wd.setCell ⟨gi, j * 10 + 4 + 2, none⟩ (.int .i64 y3) := ⟨_, rfl⟩
     have K7 : CopyAt w7 w.heap.size lim (.slice (some ⟨bu, 0, none⟩) k c9) ds l (gW l (L.take (q + 1))) := by
      rw [hw7]
      refine Kd.put HVV.out HDS.out (fun _ _ _ _ _ _ h hne => st_one _ _ _ _ _ _ h hne) ?_ HGO.out
      have h1 := (od.stored (j * 10 + 6) (.int .i64 y3)).1
      have e := m_set_alt done rest x y3
      rw [HDN.out] at e
      rw [e] at h1
      rw [HG2.out]
      exact h1
     have kr7 : Below w.heap.size w w7 := by rw [hw7]; exact krd.setCell (by show w.heap.size ≤ gi; exact hbg) _
     have hl7 : lim ≤ w7.heap.size := by rw [hw7]; simpa using hlmd
     rw [← hw7]
     clear hw7 Kd krd od fd zd
     go_roundg g2
     case measure => omega
     case rel => exact ⟨q + 1, by omega, by go_num, K7, kr7, hl7⟩
  | succ g =>
   have hkn : k < n := by omega
   have d0 : (k : Int) < (n : Int) := by omega
   obtain ⟨v, hv⟩ := get_some (l := l) (k := k) (by have := HL.out; omega)
   have hv24 := HV9.out v (List.mem_of_getElem? hv)
   obtain ⟨b, off, A', n', c', rfl, hab, cv, rv, hn', hvn⟩ := HV.out.voice hB k0 hkn hv
   have q := cloneE_any A' n' c' v B wr rv (Nat.le_trans hB k0.size) (by omega)
   have HVK := Lib.hid hv
   have HDL := Lib.hid hdl
   have HN' := Lib.hid hn'
   have hn24 : n' ≤ 5000 := by omega
   have kz := k0.size
   clear hv hdl hvn hv24 hn' rv
   go_wp2_with fail
   refine q.mono ?_
   rintro e w3 ⟨A3, c3, rfl, ⟨hown3, _, _⟩, k3⟩
   have row3 := own_call hrow k3
   have vs3 := hvs.kept k3
   have z3 := k3.size
   clear q cv hab
   go_wp2_with (at_builtin; (refine wpList_append_any _ rfl (.tmp 16) (.tmp 19) 58 rfl w.heap.size 36 i0 _ 1 24 Tryz.underlying58 hi0 hz0 hz1 hz2 rfl (by omega) u5 k (csV ds) rfl (own_call row3 (below_alloc (Below.refl _ _) _)) (w3.heap.size + 1) (some ⟨w3.heap.size, 0, none⟩) 1 1 (csV [(A3, n', c3)]) rfl (Reads.newAt _ _ _ 1 1 _ rfl rfl) (one_csV _) (by simp only [maxLen]; omega) (by omega) (by simp; omega) ?_); intro v4 w4 hown4 hg4 hat4)
   have HFAR := Lib.hid (show Far (ds ++ [(A3, n', c3)]) from hfar.snoc (hvs.lt (by rw [HDL.out, HL.out]; exact Nat.le_of_lt hkn)) (fun q hq => by
    have h1 : A3 = some q := hq
    rw [h1] at hown3
    exact own_base hown3))
   have k2 := below_call k0 k3
   have hB4 : Below w.heap.size w3 w4 := Below.grown (B := w.heap.size) (a := w3) ((below_alloc (Below.refl w3.heap.size w3) (.cells #[.slice A3 n' c3] 36)).mono (by omega)) hg4 (by simp; omega) (fun x hx => (row3.lt x hx).1)
   have rowA := own_call row3 (below_alloc (Below.refl w3.heap.size w3) (.cells #[.slice A3 n' c3] 36))
   have HNV := Lib.hid (show VocAt w4 w.heap.size (ds ++ [(A3, n', c3)]) l from fun j d u hd hu => by
    rcases Nat.lt_or_ge j ds.length with hj | hj
    ·rw [List.getElem?_append_left hj] at hd
     have h1 := vs3 j d u hd hu
     exact ⟨own_far (own_call h1.1 (below_alloc (Below.refl w3.heap.size w3) (.cells #[.slice A3 n' c3] 36))) rowA hg4 HNE, h1.2⟩
    ·have hjk : j = k := by
      have h9 := (List.getElem?_eq_some_iff.1 hd).1
      rw [List.length_append, HDL.out] at h9
      rw [HDL.out] at hj
      have h10 : j < k + 1 := h9
      omega
     subst hjk
     rw [List.getElem?_append_right (by rw [HDL.out]; exact Nat.le_refl _), HDL.out] at hd
     simp at hd
     subst hd
     rw [HVK.out] at hu
     cases hu
     exact ⟨own_far (own_call (own_lower hown3 kz) (below_alloc (Below.refl w3.heap.size w3) (.cells #[.slice A3 n' c3] 36))) rowA hg4 HNE, HN'.out⟩)
   go_roundg g
   case measure => omega
   case rel => exact ⟨k + 1, ds ++ [(A3, n', c3)], by omega, by go_num, by rw [csV_append]; exact hown4, by rw [List.length_append, HDL.out]; rfl, HNV.out, HFAR.out, k2.trans hB4⟩
end Go.Proofs.YtpkmiegccfhpnaaGreatDoor
namespace Go.Proofs.YtpkmiegccfhpnaaGreatDoor
open Go.RowKit Go.Maps
section
variable {γ β : Type} {K : TypeId} {G : KeyG γ K} {T : ElemT β} {w w' : World} {b n r : Nat} {f : γ → Option β} {S : γ → Bool}
theorem TRng.kept2 {row : Option Nat} (h : TRng w G T b r n f S) (hg : w.grownBy w' row) (hb : some b ≠ row) (hr : some r ≠ row) : TRng w' G T b r n f S ∧ w'.rangeLeft b r = w.rangeLeft b r := by
 obtain ⟨D, left, cnt, h1, h2⟩ := h
 have h3 := h1.kept hg hb hr
 exact ⟨⟨D, left, cnt, h3, h2⟩, by rw [h3.left_eq, h1.left_eq]⟩
end
def mixF (fd fs : Plc → Option Fic) (S : Plc → Bool) : Plc → Option Fic := fun p => if S p = true then fs p else fd p
theorem mixF_put {fd fs : Plc → Option Fic} {S : Plc → Bool} {x : Plc} {y : Fic} (h : fs x = some y) : updO (mixF fd fs S) x y = mixF fd fs (fun z => S z || decide (z = x)) := by
 funext z
 unfold updO mixF
 by_cases e : z = x
 ·subst e; simp [h]
 ·simp [e]
theorem copy_any (bd bs nd ns : Nat) (fd fs : Plc → Option Fic) (w : World) (hd : TMap w keyPlace elemFic bd nd fd) (hs : TMap w keyPlace elemFic bs ns fs) (hne : bd ≠ bs) (hn : nd + ns ≤ 100000000000000) (hok : ∀ x, fs x ≠ none → okI x.1 ∧ okI x.2) :
  Calls Tryz.prog 59 #[.map (some bd), .map (some bs)] w fun e w' => e = .returned (.tuple #[]) ∧ TMap w' keyPlace elemFic bd (nd + ns) (mergeF fd fs) ∧ Gb bd w w' := by
 have HOK := Lib.hid hok
 have hlt := hd.lt
 clear hok
 go_enter Tryz.func59, Tryz.ntmps59
 go_wp2_with (refine wpList_trange rfl (.tmp 6) rfl hs Tryz.underlying71 rfl ?_; intro w0 hR0 hg0 hs0)
 have hd0 := hd.grown hg0 (by simp)
 have hgb0 : Gb bd w w0 := Gb.of_below ⟨hg0.os, hg0.tape, hg0.output, hg0.size, fun i hi => hg0.block i hi (by simp)⟩
 obtain ⟨rb, hrb⟩ : ∃ z, z = w.heap.size := ⟨_, rfl⟩
 have hrd : rb ≠ bd := by omega
 have hl0 := hR0.left_le
 have HRB := Lib.hid hrb
 rw [← hrb] at hR0 hl0 ⊢
 clear hs0 hg0 hd hs hrb
 go_frame
 go_loopw [4, 5] (fun _ _ wr => ∃ (S : Plc → Bool) (cnt : Nat), TRng wr keyPlace elemFic bs rb ns fs S ∧ Hid (∀ x, S x = true → fs x ≠ none) ∧ TMap wr keyPlace elemFic bd (nd + cnt) (mixF fd fs S) ∧ Hid (cnt + wr.rangeLeft bs rb ≤ ns) ∧ Gb bd w wr) (fun _ _ wr => wr.rangeLeft bs rb)
 case atStart => exact ⟨_, 0, hR0, Lib.hid (fun x h => by cases h), hd0.same (fun x _ => by simp [mixF]), Lib.hid (by omega), hgb0⟩
 case round =>
  clear hR0 hd0 hl0 hgb0
  obtain ⟨S, cnt, hR, hS, hM, hC, hG⟩ := hrel
  go_wp2_with (refine wpList_tnext rfl (.tmp 7) rfl hR rfl ?_ ?_)
  ·intro hall
   have HF := Lib.hid (show TMap wr keyPlace elemFic bd (nd + ns) (mergeF fd fs) from (hM.mono (by have := hC.out; omega)).same (fun x hx => by
    unfold mixF mergeF
    cases hfx : fs x with
    | none =>
     have : ¬ S x = true := fun h => hS.out x h hfx
     simp [this]
    | some y => rw [if_pos (hall x.1 x.2 hx (by rw [show ((x.1, x.2) : Plc) = x from rfl, hfx]; simp))]))
   clear hall hR hM
   go_wp2
   go_end0
   exact ⟨rfl, HF.out, hG⟩
  ·intro x1 x2 y1 y2 y3 y4 w2 hx hy hfx hSx hR2 hlt2 hg2 hs2 hen
   rw [show keyPlace.enc (x1, x2) = .agg #[.int .i64 x1, .int .i64 x2] from rfl, show elemFic.enc (y1, y2, y3, y4) = .agg #[.int .i64 y1, .int .i64 y2, .int .i64 y3, .int .i64 y4] from rfl] at hen ⊢
   have hM2 := hM.grown hg2 (by intro e; exact hrd (by injection e with e; omega))
   have hG2 : Gb bd w w2 := hG.off ⟨hg2.os, hg2.tape, hg2.output, hg2.size, fun i hi => hg2.block i (by have := hG.size; omega) (by have := HRB.out; intro e; injection e with e; omega)⟩
   have HLT := Lib.hid hlt2
   have HSN := Lib.hid (show ∀ z, (S z || decide (z = (x1, x2))) = true → fs z ≠ none from fun z hz => by
    rw [Bool.or_eq_true, decide_eq_true_eq] at hz
    rcases hz with hz | rfl
    ·exact hS.out z hz
    ·rw [hfx]; simp)
   have HPUT := Lib.hid (mixF_put (fd := fd) (S := S) hfx)
   have hkk := below_alloc (below_alloc (Below.refl w2.heap.size w2) (.cells #[.int .i64 x1, .int .i64 x2] 61)) (.cells #[.int .i64 y1, .int .i64 y2, .int .i64 y3, .int .i64 y4] 39)
   have hM3 := hM2.call hkk
   have hG3 := hG2.call hkk
   obtain ⟨hR3, hl3⟩ := hR2.kept2 (grown_alloc w2 (.cells #[.int .i64 x1, .int .i64 x2] 61)) (by simp) (by simp)
   obtain ⟨hR4, hl4⟩ := hR3.kept2 (grown_alloc _ (.cells #[.int .i64 y1, .int .i64 y2, .int .i64 y3, .int .i64 y4] 39)) (by simp) (by simp)
   have HL := Lib.hid (hl4.trans hl3)
   have hcn : nd + cnt ≤ 100000000000000 := by have := hC.out; omega
   clear hs2 hg2 hlt2 hfx hSx hR hR2 hR3 hl3 hl4 hM hM2 hG hG2 hkk
   go_wp2_with (refine wpList_tput rfl (.tmp 13) (.tmp 14) (.tmp 15) rfl hM3 Tryz.underlying71 (by simp only [maxLen]; omega) (x1, x2) hx (y1, y2, y3, y4) trivial rfl rfl rfl ?_; intro w5 m5 g5)
   obtain ⟨hR5, hl5⟩ := hR4.kept2 g5 (by intro e; injection e with e; omega) (by intro e; injection e with e; omega)
   have HL5 := Lib.hid hl5
   rw [HPUT.out] at m5
   have hG5 := hG3.tr g5
   clear hl5 hR4 g5 hM3 hG3
   go_frame
   go_roundw
   case rel => exact ⟨_, cnt + 1, hR5, HSN, by rw [show nd + (cnt + 1) = nd + cnt + 1 by omega]; exact m5, Lib.hid (by rw [HL5.out, HL.out]; have := HLT.out; have := hC.out; omega), hG5⟩
   case measure => rw [HL5.out, HL.out]; exact HLT.out
end Go.Proofs.YtpkmiegccfhpnaaGreatDoor
