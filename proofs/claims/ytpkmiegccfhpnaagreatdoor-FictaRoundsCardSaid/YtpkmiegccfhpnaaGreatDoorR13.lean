/- Parts of the proof of LawRounds31: CaPairs, CaMapIn, CaFindM, CaFindR, CaFind. -/
import Derived.Test.YtpkmiegccfhpnaaGreatDoorR12
set_option maxRecDepth 100000
set_option maxHeartbeats 16000000
namespace Go.Proofs.YtpkmiegccfhpnaaGreatDoor
open Go.RowKit
attribute [local go_sem] Oper.semAt_some
theorem ccheck_ok (A : Option Addr) (n c : Nat) (l : List (List Ev)) (B : Nat) (w : World) (h : ReadsV w B A n l) (hB : B ≤ w.heap.size) (hl : SetV l) :
  Calls Tryz.prog 111 #[.slice A n c] w fun e w' => e = .returned (.int .i64 0) ∧ Below w.heap.size w w' := by
 have HL := Lib.hid h.len
 have HS := Lib.hid hl
 have hn8 : n ≤ 8 := by have := hl.len; have := HL.out; omega
 have hn8' : ¬ ((8 : Int) < (n : Int)) := by omega
 have HR := Lib.hid h
 clear hl h
 go_enter Tryz.func111, Tryz.ntmps111
 go_wp2
 go_loopg [12] n (fun gh i wr => ∃ k : Nat, k + gh = n ∧ i = .int .i64 (k : Int) ∧ Below w.heap.size w wr)
 case atStart => exact ⟨0, by omega, rfl, Below.refl _ _⟩
 case round =>
  obtain ⟨k, hkg, rfl, kr⟩ := hrel
  cases gk with
  | zero =>
   have d0 : ¬ ((k : Int) < (n : Int)) := by omega
   clear hkg
   go_wp2
   refine ret_of (by simp [results, Tryz.results111, go_sem, *]; repeat' (first | rfl | apply And.intro)) rfl ⟨rfl, kr⟩
  | succ g =>
   have hkn : k < n := by omega
   have d0 : (k : Int) < (n : Int) := by omega
   have wk : IntKind.i64.wrap ((k : Int) + 1) = (k : Int) + 1 := IntWalk.i64_in _ (by omega)
   obtain ⟨v, hv⟩ := get_some (l := l) (k := k) (by rw [HL.out]; exact hkn)
   have hm := List.mem_of_getElem? hv
   obtain ⟨bv, ov, A', n', c', rfl, hbv, cv, rv, hn', hvn⟩ := HR.out.voice hB kr hkn hv
   have q1 := evCheck_any A' n' c' v B wr rv (Nat.le_trans hB kr.size) hn'
   rw [HS.out.chk v hm] at q1
   obtain ⟨y, hy⟩ : ∃ y, y = (checkS v).2 := ⟨_, rfl⟩
   rw [← hy] at q1
   clear hy hv hm
   go_wp2_with fail
   refine q1.mono ?_
   rintro e w1 ⟨rfl, hb1⟩
   have k2 := below_call kr hb1
   clear hb1
   go_wp2
   go_roundg g
   case measure => omega
   case rel => exact ⟨k + 1, by omega, by go_num, k2⟩
theorem pairs_any (n : Nat) (w : World) :
  Calls Tryz.prog 112 #[.int .i64 (n : Int)] w fun e w' => e = .returned (.func (.func 143) #[] #[.pointer (some ⟨w.heap.size, 0, none⟩)]) ∧ w' = w.alloc (.cells #[.int .i64 (n : Int)] 3) := by
 go_enter Tryz.func112, Tryz.ntmps112
 go_wp2
 go_ret
 exact ⟨rfl, rfl⟩
def rowPr (a k : Nat) : List (Nat × Nat) := (List.range k).flatMap fun b => if a ≠ b then [(a, b)] else []
def allPr (n k : Nat) : List (Nat × Nat) := (List.range k).flatMap fun a => rowPr a n
theorem rowPr_len (a : Nat) : ∀ k, (rowPr a k).length ≤ k
 | 0 => by simp [rowPr]
 | k + 1 => by
  have := rowPr_len a k
  unfold rowPr at this ⊢
  rw [flat_succ, List.length_append]
  by_cases h : a ≠ k
  ·rw [if_pos h]; show _ + 1 ≤ _; omega
  ·rw [if_neg h]; show _ + 0 ≤ _; omega
theorem allPr_len (n : Nat) : ∀ k, (allPr n k).length ≤ k * n
 | 0 => by simp [allPr]
 | k + 1 => by
  have := allPr_len n k
  have h2 := rowPr_len k n
  unfold allPr at this ⊢
  rw [flat_succ, List.length_append, Nat.succ_mul]
  omega
theorem pre_len {n k m : Nat} (hk : k < n) (hm : m < n) : (allPr n k ++ rowPr k m).length ≤ n * n := by
 have h1 := allPr_len n k
 have h2 := rowPr_len k m
 have h3 := Nat.mul_le_mul_right n (show k + 1 ≤ n from hk)
 rw [Nat.succ_mul] at h3
 rw [List.length_append]
 omega
def PairOk (n lp : Nat) (J : List (Nat × Nat) → World → Prop) : Prop :=
 ∀ (pre : List (Nat × Nat)) (a b : Nat) (W : World), a < n → b < n → a ≠ b → pre.length ≤ n * n → J pre W →
  ∃ fn tmps assign body, (Instr.yield lp #[.int .i64 (a : Int), .int .i64 (b : Int)]).run Tryz.prog W = .ok (.round lp fn tmps assign body) W ∧
   RoundIn Fence.wide 0 Tryz.prog lp fn tmps assign body W fun e W' => e = .returned (.bool true) ∧ J (pre ++ [(a, b)]) W'
theorem pairs1_any (n p0 lp : Nat) (w : World) (hn : n ≤ 1000) (J : List (Nat × Nat) → World → Prop) (hJ : ∀ pre W, J pre W → Blk W p0 3 #[.int .i64 (n : Int)]) (h0 : J [] w) (hY : PairOk n lp J) :
  Calls Tryz.prog 143 #[.func (.yield lp) #[] #[], .pointer (some ⟨p0, 0, none⟩)] w fun e w' => (∃ v, e = .returned v) ∧ J (allPr n n) w' := by
 have HJ := Lib.hid hJ
 have HY := Lib.hid hY
 clear hJ hY
 have c0 := (HJ.out _ _ h0).cell 0
 simp only [List.getElem?_toArray, List.getElem?_cons_zero] at c0
 go_enter Tryz.func143, Tryz.ntmps143
 go_wp2
 go_loopg [6] n (fun gh i wr => ∃ k : Nat, k + gh = n ∧ i = .int .i64 (k : Int) ∧ J (allPr n k) wr)
 case atStart => exact ⟨0, by omega, rfl, h0⟩
 case round =>
  clear h0 c0
  obtain ⟨k, hkg, rfl, hJk⟩ := hrel
  cases gk with
  | zero =>
   have d0 : ¬ ((k : Int) < (n : Int)) := by omega
   have hkn : k = n := by omega
   subst hkn
   go_wp2
   go_end0
   exact ⟨⟨_, rfl⟩, hJk⟩
  | succ g =>
   have hkn : k < n := by omega
   have d0 : (k : Int) < (n : Int) := by omega
   have wk : IntKind.i64.wrap ((k : Int) + 1) = (k : Int) + 1 := IntWalk.i64_in _ (by omega)
   have c1 := (HJ.out _ _ hJk).cell 0
   simp only [List.getElem?_toArray, List.getElem?_cons_zero] at c1
   obtain ⟨wq, hwq⟩ : ∃ z, z = wr := ⟨_, rfl⟩
   subst hwq
   go_wp2
   go_loopg [10] n (fun g2 i wr => ∃ m : Nat, m + g2 = n ∧ i = .int .i64 (m : Int) ∧ J (allPr n k ++ rowPr k m) wr)
   case atStart => exact ⟨0, by omega, rfl, by simpa [rowPr] using hJk⟩
   case round =>
    clear hJk c1
    obtain ⟨m, hmg, rfl, hJm⟩ := hrel
    cases gk with
    | zero =>
     have d1 : ¬ ((m : Int) < (n : Int)) := by omega
     have hmn : m = n := by omega
     subst hmn
     go_wp2
     go_roundg g
     case measure => omega
     case rel => exact ⟨k + 1, by omega, by go_num, by unfold allPr; rw [flat_succ]; exact hJm⟩
    | succ g2 =>
     have hmn : m < n := by omega
     have d1 : (m : Int) < (n : Int) := by omega
     have wm : IntKind.i64.wrap ((m : Int) + 1) = (m : Int) + 1 := IntWalk.i64_in _ (by omega)
     by_cases hkm : k = m
     ·have b1 : ((k : Int) != (m : Int)) = false := by simp [hkm]
      go_wp2
      go_roundg g2
      case measure => omega
      case rel => exact ⟨m + 1, by omega, by go_num, by unfold rowPr; rw [flat_succ, if_neg (by simpa using hkm), List.append_nil]; exact hJm⟩
     ·have b1 : ((k : Int) != (m : Int)) = true := by simp; omega
      obtain ⟨fn, tmps, assign, body, hyd, hRd⟩ := HY.out _ k m wr hkn hmn hkm (pre_len hkn hmn) hJm
      repeat ((fail_if_success (with_reducible show (Code.region 6 _ _).wp _ _ _ _)); go_step)
      refine (wpIn_wide (n := 1)).1 ?_
      gi_wp2
      refine hRd.mono ?_
      rintro e W3 ⟨rfl, hJ3⟩
      clear hyd hRd
      gi_wp2
      go_wp2
      go_roundg g2
      case measure => omega
      case rel => exact ⟨m + 1, by omega, by go_num, by unfold rowPr; rw [flat_succ, if_pos hkm, ← List.append_assoc]; exact hJ3⟩
end Go.Proofs.YtpkmiegccfhpnaaGreatDoor
namespace Go.Proofs.YtpkmiegccfhpnaaGreatDoor
open Go.RowKit Go.Maps
section
variable {γ β : Type} {K : TypeId} {G : KeyG γ K} {T : ElemT β} {F : Fence} {nF : Nat} {w : World} {b n r : Nat} {f : γ → Option β} {S : γ → Bool} {ops : Array Oper} {rest : List Oper} {o : Oper} {a : Act} {Q : Exit → Act → World → Prop}
theorem wpListIn_trange {t E : TypeId} (hg : o.guard = none) (m : Operand) (hop : o.op = Op.range t m) (h : TMap w G T b n f) (ht : Tryz.prog.underlying t = some (.map K E)) (hm : a.eval m = .map (some b))
  (hK : ∀ w', TRng w' G T b w.heap.size n f (fun _ => false) → w.grownBy w' none → w'.heap.size = w.heap.size + 1 → wpListIn F nF Tryz.prog ops Q rest (a.put o.dst (.pointer (some ⟨w.heap.size, 0, none⟩))) w') : wpListIn F nF Tryz.prog ops Q (o :: rest) a w := by
 obtain ⟨D, h, hf⟩ := h
 refine wpListIn_range_own w hg m t hop K E G.keyed ht T.R b n D hm h ?_
 intro w' h1 h2 h3
 exact hK w' ⟨D, _, _, h1, hf, fun x kl hx hkl => by rw [(hf x kl hx hkl).1]; simp⟩ h2 h3
theorem wpListIn_tnext [DecidableEq γ] (hg : o.guard = none) (it : Operand) (hop : o.op = Op.next it false) (h : TRng w G T b r n f S) (hit : a.eval it = .pointer (some ⟨r, 0, none⟩))
  (hDone : (∀ x, G.ok x → f x ≠ none → S x = true) → wpListIn F nF Tryz.prog ops Q rest (a.put o.dst (.tuple #[.bool false])) w)
  (hMore : ∀ (x : γ) (y : β) (w' : World), G.ok x → T.ok y → f x = some y → S x = false → TRng w' G T b r n f (fun z => S z || decide (z = x)) → w'.rangeLeft b r < w.rangeLeft b r → w.grownBy w' (some r) → w'.heap.size = w.heap.size →
   (Instr.entry (.pointer (some ⟨r, 0, none⟩))).run Tryz.prog w' = .ok (.tuple #[G.enc x, T.enc y]) w' → wpListIn F nF Tryz.prog ops Q rest (a.put o.dst (.tuple #[.bool true, G.enc x, T.enc y])) w') :
  wpListIn F nF Tryz.prog ops Q (o :: rest) a w := by
 obtain ⟨D, left, cnt, hr, hf, hl⟩ := h
 refine wpListIn_next_ranges w hg it hop K G.keyed T.R G.enc T.enc (fun key kl hk => by obtain ⟨x, _, e⟩ := G.inv key kl hk; exact ⟨x, e⟩) (fun v y hv => by obtain ⟨c, _, e, _⟩ := T.back v y hv; exact ⟨c, e⟩) b r n D left cnt hit hr ?_ ?_
 ·intro _ hall
  refine hDone fun x hx hfx => ?_
  obtain ⟨kl, hkl⟩ := G.keys x hx
  have := hl x kl hx hkl
  rw [hall kl] at this
  cases hS : S x with
  | true => rfl
  | false => rw [hS] at this; cases hfx' : f x with
   | none => exact absurd hfx' hfx
   | some y => rw [hfx'] at this; simp at this
 ·intro x c kl y w' cnt' hkey hleft hv hat hr' hlt hg' hs' hen
  have hx : G.ok x := by
   obtain ⟨x', hx', e⟩ := G.inv _ _ hkey
   rw [G.inj _ _ e]; exact hx'
  have h1 := hl x kl hx hkey
  rw [hleft] at h1
  have h1 := h1.symm
  rw [Bool.and_eq_true] at h1
  obtain ⟨h1, h2⟩ := h1
  obtain ⟨y0, hy0⟩ := Option.isSome_iff_exists.1 h1
  obtain ⟨y', hok, e1, e2⟩ := T.back _ _ hv
  have e3 := (hf x kl hx hkey).2 y0 hy0 (.lit (.bool false))
  rw [hat, e2] at e3
  have e4 : y' = y0 := T.inj _ _ e3
  subst e4
  rw [e1] at hen ⊢
  refine hMore x y' w' hx hok hy0 (by simpa using h2) ⟨D, _, cnt', hr', hf, ?_⟩ (by rw [hr'.left_eq, hr.left_eq]; exact hlt) hg' hs' hen
  intro z kz hz hkz
  rw [hl z kz hz hkz]
  by_cases e : z = x
  ·subst e
   rw [hkey] at hkz
   cases hkz
   rw [WideAt.sameKey_self (G.keyed.key hkey)]
   simp
  ·have hne : kz ≠ kl := fun e' => e (G.one (by rw [hkz, e']) hkey)
   rw [sameKey_ne hne]
   simp [e]
theorem TRng.left_le (h : TRng w G T b r n f S) : w.rangeLeft b r ≤ n := by
 obtain ⟨D, left, cnt, hr, _⟩ := h
 obtain ⟨es, clock, since, seen, c0, hb, _, hs, _, hr', _, hc, _⟩ := hr
 simp only [World.rangeLeft, hb, hr']
 refine Nat.le_trans ?_ hs
 unfold leftOf
 exact Array.size_filter_le
theorem TRng.left_same {w' : World} (h1 : w'.heap[b]? = w.heap[b]?) (h2 : w'.heap[r]? = w.heap[r]?) : w'.rangeLeft b r = w.rangeLeft b r := by
 simp only [World.rangeLeft, h1, h2]
end
end Go.Proofs.YtpkmiegccfhpnaaGreatDoor
namespace Go.Proofs.YtpkmiegccfhpnaaGreatDoor
open Go.RowKit
def cCad (x : Cad) : List Value := [.int .i64 x.at_.1, .int .i64 x.at_.2, .int .i64 x.c, .int .i64 x.t, .int .i64 x.b, .int .i64 x.step, .int .i64 x.kind]
def csCad (l : List Cad) : List Value := l.flatMap cCad
theorem csCad_append (l m : List Cad) : csCad (l ++ m) = csCad l ++ csCad m := by unfold csCad; rw [List.flatMap_append]
theorem one_csCad (l : List Cad) : ∀ u ∈ csCad l, u.oneCell' = true := by
 intro u hu
 obtain ⟨t, _, ht⟩ := List.mem_flatMap.1 hu
 simp [cCad] at ht
 rcases ht with rfl | rfl | rfl | rfl | rfl | rfl | rfl <;> rfl
theorem cadence_info : (Tryz.prog.info? 126).map (fun i => (i.zero, i.size, i.bytes)) = some (some (.agg #[.int .i64 0, .int .i64 0, .int .i64 0, .int .i64 0, .int .i64 0, .int .i64 0, .int .i64 0]), 7, 56) := by kernel_rfl
def Hit (l : List (List Ev)) (a i b k : Nat) (x : Cad) : Prop := x.at_ = atOf (l.getD a []) i ∧ x.c = (a : Int) ∧ x.kind = cadK l a i b k
structure CadsIn (l : List (List Ev)) (pre : List (Nat × Nat)) (cs : List Cad) : Prop where
 sound : ∀ x ∈ cs, CadOK l x
 full : ∀ p ∈ pre, ∀ i k, CadAt l p.1 i p.2 k = true → ∃ x ∈ cs, Hit l p.1 i p.2 k x
structure CadsR (l : List (List Ev)) (pre : List (Nat × Nat)) (a b : Nat) (S : Tm → Bool) (cs : List Cad) : Prop where
 base : CadsIn l pre cs
 here : ∀ i k, CadAt l a i b k = true → S (atOf (l.getD a []) i) = true → ∃ x ∈ cs, Hit l a i b k x
section
variable {l : List (List Ev)} {pre : List (Nat × Nat)} {a b : Nat} {S : Tm → Bool} {cs : List Cad} {t : Tm}
theorem CadsR.start (h : CadsIn l pre cs) (a b : Nat) : CadsR l pre a b (fun _ => false) cs := ⟨h, fun _ _ _ h => by cases h⟩
theorem CadsR.skip (h : CadsR l pre a b S cs) (hno : ∀ i k, CadAt l a i b k = true → atOf (l.getD a []) i = t → False) : CadsR l pre a b (fun z => S z || decide (z = t)) cs :=
 ⟨h.base, fun i k hc hs => by
  simp only [Bool.or_eq_true, decide_eq_true_eq] at hs
  rcases hs with hs | hs
  ·exact h.here i k hc hs
  ·exact (hno i k hc hs).elim⟩
theorem CadsR.add (h : CadsR l pre a b S cs) {x : Cad} (hx : CadOK l x) (hh : ∀ i k, CadAt l a i b k = true → atOf (l.getD a []) i = t → Hit l a i b k x) : CadsR l pre a b (fun z => S z || decide (z = t)) (cs ++ [x]) :=
 ⟨⟨fun y hy => by
   rcases List.mem_append.1 hy with hy | hy
   ·exact h.base.sound y hy
   ·rw [List.mem_singleton.1 hy]; exact hx,
  fun p hp i k hc => by
   obtain ⟨y, hy, hh⟩ := h.base.full p hp i k hc
   exact ⟨y, List.mem_append_left _ hy, hh⟩⟩,
  fun i k hc hs => by
  simp only [Bool.or_eq_true, decide_eq_true_eq] at hs
  rcases hs with hs | hs
  ·obtain ⟨y, hy, h2⟩ := h.here i k hc hs
   exact ⟨y, List.mem_append_left _ hy, h2⟩
  ·exact ⟨x, by simp, hh i k hc hs⟩⟩
theorem CadsR.done (h : CadsR l pre a b S cs) (hS : ∀ i k, CadAt l a i b k = true → S (atOf (l.getD a []) i) = true) : CadsIn l (pre ++ [(a, b)]) cs :=
 ⟨h.base.sound, fun p hp i k hc => by
  rcases List.mem_append.1 hp with hp | hp
  ·exact h.base.full p hp i k hc
  ·cases List.mem_singleton.1 hp
   exact h.here i k hc (hS i k hc)⟩
theorem CadsIn.nil_ (l : List (List Ev)) : CadsIn l [] [] := ⟨fun _ h => (by cases h), fun _ h => (by cases h)⟩
theorem all_pairs {n a b : Nat} (ha : a < n) (hb : b < n) (hab : a ≠ b) : (a, b) ∈ allPr n n := by
 unfold allPr rowPr
 rw [List.mem_flatMap]
 refine ⟨a, List.mem_range.2 ha, ?_⟩
 rw [List.mem_flatMap]
 exact ⟨b, List.mem_range.2 hb, by rw [if_pos hab]; simp⟩
theorem CadsIn.all_ {n : Nat} (hn : l.length = n) (h : CadsIn l (allPr n n) cs) {c i u k : Nat} (hc : CadAt l c i u k = true) : ∃ x ∈ cs, Hit l c i u k x := by
 obtain ⟨h1, h2, h3, _⟩ := cad_parts hc
 exact h.full (c, u) (all_pairs (by rw [← hn]; exact getD_lt (i := i) (by omega)) (by rw [← hn]; exact getD_lt (i := k) (by omega)) h1) i k hc
theorem end_none (hb : Val (l.getD b [])) (he : cEnd (l.getD b []) 2 t = none) : ∀ i k, CadAt l a i b k = true → atOf (l.getD a []) i = t → False := fun i k hc ht => by
 obtain ⟨_, _, h3, h4, _⟩ := cad_parts hc
 have := (cEnd_spec hb (show (2 : Int) ≠ 0 by decide) t (k : Int)).2 ⟨k, rfl, h3, by rw [← h4, ht]⟩
 rw [he] at this
 cases this
theorem end_two (ha : Val (l.getD a [])) (hb : Val (l.getD b [])) {i k : Nat} (h1 : clK (l.getD a []) i = 1) (h2 : atOf (l.getD a []) i = t) (h3 : clK (l.getD b []) k = 2) (h4 : atOf (l.getD b []) k = t) :
  ∀ i' k', CadAt l a i' b k' = true → atOf (l.getD a []) i' = t → i' = i ∧ k' = k := fun i' k' hc ht => by
 obtain ⟨_, g2, g3, g4, _⟩ := cad_parts hc
 exact ⟨atOf_inj ha (clK_ne (by omega)).2.2.2.1 (clK_ne (by omega)).2.2.2.1 (by rw [ht, h2]), atOf_inj hb (clK_ne (by omega)).2.2.2.1 (clK_ne (by omega)).2.2.2.1 (by rw [← g4, ht, h4])⟩
theorem cad_not (ha : Val (l.getD a [])) (hb : Val (l.getD b [])) {i k : Nat} (h1 : clK (l.getD a []) i = 1) (h2 : atOf (l.getD a []) i = t) (h3 : clK (l.getD b []) k = 2) (h4 : atOf (l.getD b []) k = t) (ho : octB (pitOf (l.getD a []) i) (pitOf (l.getD b []) k) = false) :
  ∀ i' k', CadAt l a i' b k' = true → atOf (l.getD a []) i' = t → False := fun i' k' hc ht => by
 obtain ⟨rfl, rfl⟩ := end_two ha hb h1 h2 h3 h4 i' k' hc ht
 have := (cad_parts hc).2.2.2.2
 rw [ho] at this
 cases this
theorem cad_is (hab : a ≠ b) {i k : Nat} (h1 : clK (l.getD a []) i = 1) (h2 : atOf (l.getD a []) i = t) (h3 : clK (l.getD b []) k = 2) (h4 : atOf (l.getD b []) k = t) (ho : octB (pitOf (l.getD a []) i) (pitOf (l.getD b []) k) = true) : CadAt l a i b k = true := by
 unfold CadAt
 rw [h1, h3, h2, h4, ho]
 simp [hab]
theorem cad_hit (ha : Val (l.getD a [])) (hb : Val (l.getD b [])) {i k : Nat} (h1 : clK (l.getD a []) i = 1) (h2 : atOf (l.getD a []) i = t) (h3 : clK (l.getD b []) k = 2) (h4 : atOf (l.getD b []) k = t) (x : Cad) (e1 : x.at_ = t) (e2 : x.c = (a : Int)) (e3 : x.kind = kindO (l.getD a []) i (l.getD b []) k) :
  ∀ i' k', CadAt l a i' b k' = true → atOf (l.getD a []) i' = t → Hit l a i' b k' x := fun i' k' hc ht => by
 obtain ⟨rfl, rfl⟩ := end_two ha hb h1 h2 h3 h4 i' k' hc ht
 exact ⟨by rw [e1, h2], e2, e3⟩
end
theorem tdiv_bd {s : Int} (h : -62 ≤ s ∧ s ≤ 62) : -62 ≤ s.tdiv 7 ∧ s.tdiv 7 ≤ 62 := by
 by_cases hp : 0 ≤ s
 ·rw [Int.tdiv_eq_ediv_of_nonneg hp]; omega
 ·obtain ⟨m, rfl⟩ : ∃ m, s = -m := ⟨-s, by omega⟩
  rw [Int.neg_tdiv, Int.tdiv_eq_ediv_of_nonneg (by omega)]
  omega
theorem oct_test (s h : Int) (hs : -62 ≤ s ∧ s ≤ 62) : (decide (s % 7 = 0) && decide (h = s / 7 * 12)) = !((s.tmod 7 != 0) || (h != s.tdiv 7 * 12)) := by
 have e0 : (s.tmod 7 = 0 ↔ s % 7 = 0) ∧ (s % 7 = 0 → s.tdiv 7 = s / 7) := by
  by_cases hp : 0 ≤ s
  ·rw [Int.tmod_eq_emod_of_nonneg hp, Int.tdiv_eq_ediv_of_nonneg hp]
   exact ⟨Iff.rfl, fun _ => rfl⟩
  ·obtain ⟨m, rfl⟩ : ∃ m, s = -m := ⟨-s, by omega⟩
   rw [Int.neg_tmod, Int.neg_tdiv, Int.tmod_eq_emod_of_nonneg (by omega), Int.tdiv_eq_ediv_of_nonneg (by omega)]
   omega
 have e1 := e0.1
 by_cases h0 : s % 7 = 0
 ·have e2 : s.tdiv 7 = s / 7 := e0.2 h0
  rw [e2]
  simp [h0, e1.2 h0]
  rw [Bool.eq_iff_iff]; simp
 ·have h1 : ¬ s.tmod 7 = 0 := fun h => h0 (e1.1 h)
  simp [h0, h1]
def FindRet (l : List (List Ev)) (w : World) (e : Ending) (w' : World) : Prop :=
 ∃ u cs, e = .returned (.tuple #[u, .int .i64 0]) ∧ w'.ownsRow w.heap.size 126 7 u cs.length (csCad cs) ∧ (∀ x ∈ cs, CadOK l x) ∧ (∀ c i t k, CadAt l c i t k = true → ∃ x ∈ cs, Hit l c i t k x) ∧ cs.length ≤ 200000 ∧ Below w.heap.size w w'
end Go.Proofs.YtpkmiegccfhpnaaGreatDoor
namespace Go.Proofs.YtpkmiegccfhpnaaGreatDoor
open Go.RowKit Go.Maps
theorem below_none {w w' : World} (h : w.grownBy w' none) : Below w.heap.size w w' := ⟨h.os, h.tape, h.output, h.size, fun i hi => h.block i hi (by simp)⟩
theorem own_other {W : World} {base size k j : Nat} {e : TypeId} {v : Value} {xs : List Value} {o : Obj} (h : W.ownsRow base e size v k xs) (hj : W.heap[j]? = some o) (hno : ∀ cur, o ≠ .cells cur e (0, 0)) : some j ≠ v.ownBlock := by
 intro heq
 rcases h.2 with ⟨rfl, _⟩ | ⟨g, cap, cur, rfl, _, hgb, _⟩
 ·cases heq
 ·cases heq
  rw [hgb] at hj
  cases hj
  exact hno cur rfl
theorem blk_other {W : World} {base size k j : Nat} {e t : TypeId} {v : Value} {xs : List Value} {cs : Array Value} (h : W.ownsRow base e size v k xs) (hj : Blk W j t cs) (hne : t ≠ e) : some j ≠ v.ownBlock :=
 own_other h hj (fun cur he => by cases he; exact hne rfl)
theorem rng_other {γ β : Type} {K : TypeId} {G : KeyG γ K} {T : ElemT β} {W : World} {b r n : Nat} {f : γ → Option β} {S : γ → Bool} (h : TRng W G T b r n f S) {base size k : Nat} {e : TypeId} {v : Value} {xs : List Value} (h2 : W.ownsRow base e size v k xs) : some r ≠ v.ownBlock := by
 obtain ⟨D, left, cnt, ⟨es, clock, since, seen, c0, _, _, _, _, a5, _⟩, _⟩ := h
 exact own_other h2 a5 (fun cur he => by cases he)
structure RK (w : World) (va vb : List Ev) (A : Option Addr) (n c bo p0 D bl bc r : Nat) (r1 : Loop) (S : Tm → Bool) (u : Value) (cs : List Cad) (W : World) : Prop where
 rng : TRng W keyTime elemInt bc r 2000 (cEnd va 1) S
 low : TMap W keyTime elemInt bl 2000 (cEnd vb 2)
 box : Blk W w.heap.size 22 #[.slice A n c]
 out : Blk W bo 122 #[u]
 row : W.ownsRow (D + 2) 126 7 u cs.length (csCad cs)
 pbox : Blk W p0 3 #[.int .i64 (n : Int)]
 loop : W.heap[D + 1]? = some (.loop r1)
 defr : W.heap[D]? = some (.deferred (some []))
 bel : Below w.heap.size w W
section
variable {w : World} {va vb : List Ev} {A : Option Addr} {n c bo p0 D bl bc r : Nat} {r1 : Loop} {S : Tm → Bool} {u : Value} {cs : List Cad} {W W' : World}
theorem RK.kept (h : RK w va vb A n c bo p0 D bl bc r r1 S u cs W) (hb : Below W.heap.size W W') : RK w va vb A n c bo p0 D bl bc r r1 S u cs W' where
 rng := h.rng.call hb
 low := h.low.call hb
 box := h.box.kept hb
 out := h.out.kept hb
 row := own_call h.row hb
 pbox := h.pbox.kept hb
 loop := (hb.block _ (Array.getElem?_eq_some_iff.1 h.loop).1).trans h.loop
 defr := (hb.block _ (Array.getElem?_eq_some_iff.1 h.defr).1).trans h.defr
 bel := below_call h.bel hb
theorem RK.left (h : RK w va vb A n c bo p0 D bl bc r r1 S u cs W) (hb : Below W.heap.size W W') : W'.rangeLeft bc r = W.rangeLeft bc r :=
 TRng.left_same (hb.block _ h.rng.map.lt) (hb.block _ h.rng.lt)
theorem RK.next (h : RK w va vb A n c bo p0 D bl bc r r1 S u cs W) {S' : Tm → Bool} (hr : TRng W' keyTime elemInt bc r 2000 (cEnd va 1) S') (hg : W.grownBy W' (some r)) (hne : bl ≠ r) (hw : w.heap.size < r) (hbo : bo < r) (hp : p0 < r) (hD : D + 1 < r) : RK w va vb A n c bo p0 D bl bc r r1 S' u cs W' where
 rng := hr
 low := h.low.grown hg (by simp [hne])
 box := Blk.gb h.box hg (by omega)
 out := Blk.gb h.out hg (by omega)
 row := own_gb h.row hg (fun k hk e => rng_other h.rng h.row (by rw [hk, e]))
 pbox := Blk.gb h.pbox hg (by omega)
 loop := (hg.block _ (Array.getElem?_eq_some_iff.1 h.loop).1 (fun e => by cases e; omega)).trans h.loop
 defr := (hg.block _ (Array.getElem?_eq_some_iff.1 h.defr).1 (fun e => by cases e; omega)).trans h.defr
 bel := below_grown h.bel hg (by omega) h.bel.size
theorem RK.put (h : RK w va vb A n c bo p0 D bl bc r r1 S u cs W) (hg : W.grownBy W' u.ownBlock) {u' : Value} {cs' : List Cad} (hrow : W'.ownsRow (D + 2) 126 7 u' cs'.length (csCad cs')) (h1 : w.heap.size < bo) (h2 : bo < p0) (h3 : p0 < D) (hbl : D + 1 < bl) (hbc : D + 1 < bc) (hr : D + 1 < r) :
  RK w va vb A n c bo p0 D bl bc r r1 S u' cs' (W'.setCell ⟨bo, 0, none⟩ u') := by
 have hb : Below bo W' (W'.setCell ⟨bo, 0, none⟩ u') := (Below.refl bo W').setCell (by show bo ≤ bo; omega) _
 have hs : ∀ j, j ≠ bo → (W'.setCell ⟨bo, 0, none⟩ u').heap[j]? = W'.heap[j]? := fun j hj => Below.heap_setCell W' ⟨bo, 0, none⟩ u' j hj
 have ho : ∀ {j : Nat} {o : Obj}, W.heap[j]? = some o → some j ≠ u.ownBlock → W'.heap[j]? = some o := fun hj hne => (hg.block _ (Array.getElem?_eq_some_iff.1 hj).1 hne).trans hj
 refine ⟨?_, ?_, ?_, ?_, ?_, ?_, ?_, ?_, ?_⟩
 ·have hk := h.rng.kept hg (own_ne h.rng.map h.row) (rng_other h.rng h.row)
  obtain ⟨E, left, cnt, ⟨es, clock, since, seen, c0, a1, a2, a3, a4, a5, a6⟩, h3⟩ := hk
  exact ⟨E, left, cnt, ⟨es, clock, since, seen, c0, (hs _ (by omega)).trans a1, a2, a3, a4, (hs _ (by omega)).trans a5, a6⟩, h3⟩
 ·obtain ⟨E, ⟨es, clock, a1, a2⟩, h3⟩ := h.low.grown hg (own_ne h.low h.row)
  exact ⟨E, ⟨es, clock, (hs _ (by omega)).trans a1, a2⟩, h3⟩
 ·exact (hs _ (by omega)).trans (ho h.box (blk_other h.row h.box (by decide)))
 ·have h4 : Blk W' bo 122 #[u] := ho h.out (blk_other h.row h.out (by decide))
  exact h4.set_ 0 u'
 ·exact own_set hrow (by show bo < D + 2; omega)
 ·exact (hs _ (by omega)).trans (ho h.pbox (blk_other h.row h.pbox (by decide)))
 ·exact (hs _ (by omega)).trans (ho h.loop (own_other h.row h.loop (fun cur he => by cases he)))
 ·exact (hs _ (by omega)).trans (ho h.defr (own_other h.row h.defr (fun cur he => by cases he)))
 ·refine Below.setCell ?_ (by show w.heap.size ≤ bo; omega) _
  refine ⟨hg.os.trans h.bel.os, hg.tape.trans h.bel.tape, hg.output.trans h.bel.output, Nat.le_trans h.bel.size hg.size, fun i hi => ?_⟩
  refine (hg.block i (Nat.lt_of_lt_of_le hi h.bel.size) (fun e => ?_)).trans (h.bel.block i hi)
  have := (h.row.lt i e.symm).1
  omega
theorem RK.put_left (h : RK w va vb A n c bo p0 D bl bc r r1 S u cs W) (hg : W.grownBy W' u.ownBlock) (u' : Value) (h1 : bc ≠ bo) (h2 : r ≠ bo) : (W'.setCell ⟨bo, 0, none⟩ u').rangeLeft bc r = W.rangeLeft bc r := by
 refine TRng.left_same ?_ ?_
 ·exact (Below.heap_setCell W' ⟨bo, 0, none⟩ u' _ h1).trans (hg.block _ h.rng.map.lt (own_ne h.rng.map h.row))
 ·exact (Below.heap_setCell W' ⟨bo, 0, none⟩ u' _ h2).trans (hg.block _ h.rng.lt (rng_other h.rng h.row))
end
end Go.Proofs.YtpkmiegccfhpnaaGreatDoor
namespace Go.Proofs.YtpkmiegccfhpnaaGreatDoor
open Go.RowKit
attribute [local go_sem] Oper.semAt_some
def SortsC (N : Nat) : Prop := ∀ (u : Value) (cs : List Cad) (base : Nat) (w : World), w.ownsRow base 126 7 u cs.length (csCad cs) → cs.length ≤ N → (∀ x ∈ cs, ok x.at_) →
 Calls Tryz.prog 117 #[u, .func (.func 118) #[] #[]] w fun e w' => e = .returned (.tuple #[]) ∧ ∃ cs' : List Cad, cs'.Perm cs ∧ w'.ownsRow base 126 7 u cs.length (csCad cs') ∧ w.grownBy w' u.ownBlock
def FJ (l : List (List Ev)) (w : World) (A : Option Addr) (n c bo p0 D : Nat) (r : Loop) (pre : List (Nat × Nat)) (W : World) : Prop :=
 ∃ u cs, Blk W w.heap.size 22 #[.slice A n c] ∧ Blk W bo 122 #[u] ∧ W.ownsRow (D + 2) 126 7 u cs.length (csCad cs) ∧ CadsIn l pre cs ∧ cs.length ≤ pre.length * 2000 ∧ Blk W p0 3 #[.int .i64 (n : Int)] ∧
  W.heap[D + 1]? = some (.loop r) ∧ W.heap[D]? = some (.deferred (some [])) ∧ Below w.heap.size w W
def D0 (w : World) : Nat := w.heap.size + 1
theorem find_ok (N : Nat) (hsort : SortsC N) (A : Option Addr) (n c : Nat) (l : List (List Ev)) (B : Nat) (w : World) (h : ReadsV w B A n l) (hB : B ≤ w.heap.size) (hl : SetV l) (hfew : 200000 ≤ N) (ht : Tabs w) :
  Calls Tryz.prog 85 #[.slice A n c] w fun e w' => FindRet l w e w' := by
 have HL := Lib.hid h.len
 have HS := Lib.hid hl
 have HSO := Lib.hid hsort
 have HF := Lib.hid hfew
 have hn8 : n ≤ 8 := by have := hl.len; have := HL.out; omega
 have HR := Lib.hid h
 have HTB := Lib.hid ht
 have q1 := fun W (hW : Below w.heap.size w W) => ccheck_ok A n c l B W (h.below hB hW) (Nat.le_trans hB hW.size) hl
 obtain ⟨i0, hi0, hz0, hz1, hz2⟩ := info_parts cadence_info
 clear hl hsort hfew h ht
 refine (callsIn_wide (n := 1)).1 (callsIn_of_wp_marks Tryz.func85 rfl trivial ?_)
 simp only [Tryz.ntmps85, List.size_toArray, List.length_cons, List.length_nil, Nat.reduceAdd, Nat.reduceSub, Array.replicate_succ, Array.replicate_zero, List.push_toArray, List.append_toArray, List.nil_append, List.cons_append]
 refine wpIn_wide.2 ?_
 go_wp2_with fail
 refine Calls.mono (q1 _ ?_) ?_
 ·repeat (first | with_reducible (first | exact Below.refl _ _ | assumption | refine below_drewN ?_ _ | refine Below.drew ?_ | refine below_alloc ?_ _) | (with_reducible refine Below.setCell ?_ ?_ _; rotate_left; ((try simp only); omega)))
 rintro e w1 ⟨rfl, hb1⟩
 have bv : Blk w1 w.heap.size 22 #[.slice A n c] := (Blk.new _ _ _).kept hb1
 have k1 : Below w.heap.size w w1 := below_call (below_alloc (Below.refl _ _) _) hb1
 have v0 := bv.cell 0
 simp only [List.getElem?_toArray, List.getElem?_cons_zero] at v0
 have lv := bv.lt
 clear hb1 q1
 go_wp2_with fail
 refine (pairs_any n _).mono ?_
 rintro e w2 ⟨rfl, rfl⟩
 go_wp2_with fail
 have hl1 : w.heap.size + 1 ≤ w1.heap.size := by omega
 obtain ⟨w3, hw3⟩ : ∃ w3, w3 = (w1.alloc (.cells #[.slice none 0 0] 122)).alloc (.cells #[.int .i64 (n : Int)] 3) := ⟨_, rfl⟩
 have hs3 : w3.heap.size = w1.heap.size + 2 := by rw [hw3]; simp
 have CV : Blk w3 w.heap.size 22 #[.slice A n c] := by rw [hw3]; exact (bv.alloc _).alloc _
 have CO : Blk w3 w1.heap.size 122 #[.slice none 0 0] := by rw [hw3]; exact (Blk.new _ _ _).alloc _
 have CP : Blk w3 (w1.heap.size + 1) 3 #[.int .i64 (n : Int)] := by rw [hw3]; exact Blk.newAt _ _ _ _ (by simp)
 have hb3 : Below w.heap.size w w3 := by rw [hw3]; exact below_alloc (below_alloc k1 _) _
 rw [← hw3]
 clear hw3 bv k1 v0
 have HS3 := Lib.hid hs3
 clear hs3
 refine wp_rangeFunc_calls rfl (fun args w => by simp [go_sem]) ?_
 intro fn rec W1 hrec hL hD hs hb
 have hb31 := hb3.trans (hb.mono (by have := hb3.size; omega))
 have HR1 := Lib.hid hrec
 clear hrec
 refine (pairs1_any n (w1.heap.size + 1) (w3.heap.size + 1) W1 (by omega) (FJ l w A n c w1.heap.size (w1.heap.size + 1) w3.heap.size (rec .ready none)) ?_ ?_ ?_).mono ?_
 ·rintro pre W ⟨u, cs, a1, a2, a3, a4, a5, a6, a7, a8, a9⟩
  exact a6
 ·exact ⟨_, [], CV.kept hb, CO.kept hb, ⟨rfl, .inl ⟨rfl, rfl⟩⟩, CadsIn.nil_ l, by simp, CP.kept hb, hL, hD, hb31⟩
 ·clear hL hD hb hb31 CV CO CP hb3
  intro pre a b W ha hb hab hpre hJ
  obtain ⟨u, cs, cv, co, how, hcs, hlen, cp, hl, hd, hbw⟩ := hJ
  have hl' := hl
  rw [HR1.out] at hl'
  refine round_of_walk hl' rfl ?_
  clear hl'
  have hlt := (Array.getElem?_eq_some_iff.1 hl).1
  gi_wp2
  refine ⟨_, run_beginRound hl (by rw [HR1.out]; rfl), ?_⟩
  have hD3 : w1.heap.size + 2 = w3.heap.size := HS3.out.symm
  have hpre64 : cs.length ≤ 128000 := by have := Nat.mul_le_mul hn8 hn8; omega
  obtain ⟨r1, hr1⟩ : ∃ r1 : Loop, { rec .ready none with state := .busy } = r1 := ⟨_, rfl⟩
  rw [hr1]
  obtain ⟨W2, hW2⟩ : ∃ W2, W2 = W.putObj (w3.heap.size + 1) (.loop r1) := ⟨_, rfl⟩
  have hlB : W2.heap[w3.heap.size + 1]? = some (.loop r1) := by rw [hW2]; exact World.putObj_heap_same (by omega)
  have hdB : W2.heap[w3.heap.size]? = some (.deferred (some [])) := by rw [hW2]; exact (World.putObj_heap_other (by omega)).trans hd
  have hbB : Below w.heap.size w W2 := by rw [hW2]; exact below_put hbw _ (by omega)
  have howB : W2.ownsRow (w3.heap.size + 2) 126 7 u cs.length (csCad cs) := by rw [hW2]; exact own_put how _ (by omega)
  have cvB : Blk W2 w.heap.size 22 #[.slice A n c] := by rw [hW2]; exact cv.put _ (by omega)
  have coB : Blk W2 w1.heap.size 122 #[u] := by rw [hW2]; exact co.put _ (by omega)
  have cpB : Blk W2 (w1.heap.size + 1) 3 #[.int .i64 (n : Int)] := by rw [hW2]; exact cp.put _ (by omega)
  have hs2 : w3.heap.size + 1 < W2.heap.size := (Array.getElem?_eq_some_iff.1 hlB).1
  rw [← hW2]
  clear hW2 hl hd hbw how cv co cp hlt
  have HC := Lib.hid hcs
  have HLen := Lib.hid hlen
  clear hcs hlen
  have hLa : a < l.length := by have := HL.out; omega
  have hLb : b < l.length := by have := HL.out; omega
  obtain ⟨va, hva⟩ := get_some hLa
  obtain ⟨vb, hvb⟩ := get_some hLb
  have ma := List.mem_of_getElem? hva
  have mb := List.mem_of_getElem? hvb
  have HVA := Lib.hid hva
  have HVB := Lib.hid hvb
  obtain ⟨bv, ov, A1, n1, c1, hA, hbv, x1, ra, hn1, hvn1⟩ := HR.out.voice hB hbB ha hva
  obtain ⟨bv', ov', A2, n2, c2, hA', hbv', x2, rb, hn2, hvn2⟩ := HR.out.voice hB hbB hb hvb
  subst hA
  cases hA'
  have hn12 : n1 ≤ 2000 := by have := HS.out.few va ma; omega
  have hn22 : n2 ≤ 2000 := by have := HS.out.few vb mb; omega
  have HB2 := Nat.le_trans hB hbB.size
  have qa := fun W (hW : Below W2.heap.size W2 W) => ends_ok A2 n2 c2 vb B W (rb.below HB2 hW) (Nat.le_trans HB2 hW.size) hn22 (HS.out.pits vb mb) (HS.out.ok_ mb) 2 (HTB.out.kept (below_call hbB hW))
  have qb := fun W (hW : Below W2.heap.size W2 W) => ends_ok A1 n1 c1 va B W (ra.below HB2 hW) (Nat.le_trans HB2 hW.size) hn12 (HS.out.pits va ma) (HS.out.ok_ ma) 1 (HTB.out.kept (below_call hbB hW))
  have v0 := cvB.cell 0
  simp only [List.getElem?_toArray, List.getElem?_cons_zero] at v0
  have hai : (a : Int) < (n : Int) := by omega
  have hbi : (b : Int) < (n : Int) := by omega
  have lv2 := cvB.lt
  gi_wp2_with (first
   | (refine ⟨trivial, rfl, (callsIn_round (qa _ (Below.refl _ _))).mono ?_⟩
      clear qa
      rintro e w4 ⟨bl, rfl, hbl, hTl, hb4⟩
      have y0 : w4.cell? ⟨w.heap.size, 0, none⟩ = some (.slice (some ⟨bv, ov, none⟩) n c) := (hb4.cell (p := ⟨w.heap.size, 0, none⟩) lv2).trans v0
      have y1 : w4.cell? ⟨bv, ov + a, none⟩ = some (.slice A1 n1 c1) := (hb4.cell (p := ⟨bv, ov + a, none⟩) hbv).trans x1
      have lv4 : w.heap.size < w4.heap.size := by have := hb4.size; omega
      have lb4 : bv < w4.heap.size := by have := hb4.size; omega
      clear v0 x1 x2)
   | (refine ⟨trivial, rfl, (callsIn_round (qb _ hb4)).mono ?_⟩
      clear qb
      rintro e w5 ⟨bc, rfl, hbc, hTc, hb5⟩
      have hTl5 := hTl.call hb5
      have k5 := below_call hb4 hb5)
   | (refine wpListIn_trange rfl (.tmp 34) rfl hTc Tryz.underlying151 rfl ?_; intro w6 hR6 hg6 hs6))
  have k6 : Below W2.heap.size W2 w6 := below_call k5 (below_none hg6)
  have z5 := k5.size
  have lbl := hTl.lt
  have lbc := hTc.lt
  have z45 := hb5.size
  have z4 := hb4.size
  have hK6 : RK w va vb (some ⟨bv, ov, none⟩) n c w1.heap.size (w1.heap.size + 1) w3.heap.size bl bc w5.heap.size r1 (fun _ => false) u cs w6 :=
   ⟨hR6, hTl5.call (below_none hg6), cvB.kept k6, coB.kept k6, own_call howB k6, cpB.kept k6, (k6.block _ (Array.getElem?_eq_some_iff.1 hlB).1).trans hlB, (k6.block _ (Array.getElem?_eq_some_iff.1 hdB).1).trans hdB, below_call hbB k6⟩
  have hC6 := CadsR.start HC.out a b
  have hL6 := hR6.left_le
  have HSIZE := Lib.hid (And.intro (show D0 w3 < bl by unfold D0; omega) (And.intro (show D0 w3 < bc by unfold D0; omega) (And.intro (show bl ≠ w5.heap.size by omega) (show bc < w5.heap.size by omega))))
  have HAB := Lib.hid (And.intro (show l.getD a [] = va from getD_at HVA.out) (show l.getD b [] = vb from getD_at HVB.out))
  have HVal := Lib.hid (And.intro (HS.out.val va ma) (HS.out.val vb mb))
  have HPit := Lib.hid (And.intro (HS.out.pits va ma) (HS.out.pits vb mb))
  have HN := Lib.hid (And.intro hvn1 hvn2)
  have HW25 := Lib.hid k5
  have h52 : W2.heap.size ≤ w5.heap.size := z5
  clear hR6 hTl5 hTl hTc hb4 hb5 cvB coB howB cpB hlB hdB hg6 k5 k6 hva hvb ma mb hvn1 hvn2 hn1 hn2 hs6 z4 z45
  go_frame
  gi_loopw [] (fun wr => ∃ S u2 cs2, RK w va vb (some ⟨bv, ov, none⟩) n c w1.heap.size (w1.heap.size + 1) w3.heap.size bl bc w5.heap.size r1 S u2 cs2 wr ∧ Hid (CadsR l pre a b S cs2) ∧ cs2.length + wr.rangeLeft bc w5.heap.size ≤ cs.length + 2000) (fun wr => wr.rangeLeft bc w5.heap.size)
  case atStart => exact ⟨_, u, cs, hK6, Lib.hid hC6, by omega⟩
  case round =>
   clear hK6 hC6 hL6
   obtain ⟨S, u2, cs2, hK, hCR, hcnt⟩ := hrel
   gi_wp2_with (first
    | (refine wpListIn_tnext rfl (.tmp 35) rfl hK.rng rfl ?_ ?_))
   ·intro hall
    have hl5 := hK.loop
    have hIn := CadsR.done hCR.out (fun i k hc => by
     obtain ⟨_, h2, _⟩ := cad_parts hc
     rw [HAB.out.1] at h2 ⊢
     have he := (cEnd_spec HVal.out.1 (show (1 : Int) ≠ 0 by decide) (atOf va i) (i : Int)).2 ⟨i, rfl, h2, rfl⟩
     obtain ⟨x, hx⟩ := get_some (l := va) (k := i) (clK_ne (by omega)).2.2.2.1
     have hox := time_ok (val_mem HVal.out.1 x (List.mem_of_getElem? hx)).1
     have hax : atOf va i = x.at_ := by unfold atOf; rw [hx]
     rw [hax] at he ⊢
     exact hall _ _ hox (by rw [he]; simp))
    clear hall
    have HIn := Lib.hid hIn
    clear hIn
    gi_wp2
    refine ⟨_, _, run_endRound none hl5, rfl, u2, cs2, hK.box.put _ (by omega), hK.out.put _ (by omega), own_put hK.row _ (by omega), HIn.out, ?_, hK.pbox.put _ (by omega), ?_, (World.putObj_heap_other (by omega)).trans hK.defr, below_put hK.bel _ (by omega)⟩
    ·rw [List.length_append, List.length_singleton, Nat.succ_mul]; have := HLen.out; omega
    ·have e1 : ({ r1 with state := (if (none : Option Code).isNone then LoopState.ready else .done), pending := none } : Loop) = rec .ready none := by rw [← hr1, HR1.out]; rfl
     rw [e1]
     exact World.putObj_heap_same (Array.getElem?_eq_some_iff.1 hl5).1
   ·intro t0 t1 y w7 hok hyo hfx hSx hR7 hlt7 hg7 hs7 hen
    rw [show keyTime.enc (t0, t1) = .agg #[.int .i64 t0, .int .i64 t1] from rfl, show elemInt.enc y = .int .i64 y from rfl] at hen ⊢
    obtain ⟨i, hi, hci, hat, hil⟩ := cEnd_some HVal.out.1 (show (1 : Int) ≠ 0 by decide) hfx
    subst hi
    have hK7 := hK.next hR7 hg7 HSIZE.out.2.2.1 (by omega) (by omega) (by omega) (by omega)
    have HOT := Lib.hid (show ok ((t0, t1) : Tm) by
     obtain ⟨x, hx⟩ := get_some hil
     have : atOf va i = x.at_ := by unfold atOf; rw [hx]
     rw [← hat, this]
     exact (val_mem HVal.out.1 x (List.mem_of_getElem? hx)).1)
    clear hK hyo hfx hSx hR7 hg7 hs7
    have k8 := below_alloc (Below.refl w7.heap.size w7) (.cells #[.int .i64 t0, .int .i64 t1] 45)
    have hK8 := hK7.kept k8
    have hl8 := hK7.left k8
    have bt : Blk (w7.alloc (.cells #[.int .i64 t0, .int .i64 t1] 45)) w7.heap.size 45 #[.int .i64 t0, .int .i64 t1] := Blk.new _ _ _
    obtain ⟨kv, hkv⟩ : ∃ z, z = (cEnd vb 2 (t0, t1)).getD 0 := ⟨_, rfl⟩
    obtain ⟨bb, hbb⟩ : ∃ z, z = (cEnd vb 2 (t0, t1)).isSome := ⟨_, rfl⟩
    have HKB := Lib.hid (And.intro hkv hbb)
    have lk := hK8.low.look Tryz.underlying151 (y0 := (0 : Int)) (zero_int _) (show okI 0 by unfold okI; omega) (x := (t0, t1)) hok
    rw [← hkv, ← hbb] at lk
    have lk : (Instr.lookup 151 (.map (some bl)) (.agg #[.int .i64 t0, .int .i64 t1]) true).run Tryz.prog (w7.alloc (.cells #[.int .i64 t0, .int .i64 t1] 45)) = .ok (.tuple #[.int .i64 kv, .bool bb]) (w7.alloc (.cells #[.int .i64 t0, .int .i64 t1] 45)) := lk
    clear hkv hbb
    cases bb with
    | false =>
     have HSK := Lib.hid (hCR.out.skip (t := (t0, t1)) (end_none (by rw [HAB.out.2]; exact HVal.out.2) (by
      rw [HAB.out.2]
      cases he : cEnd vb 2 (t0, t1) with
      | none => rfl
      | some z => have := HKB.out.2; rw [he] at this; cases this)))
     gi_wp2
     go_roundw
     case rel => exact ⟨_, u2, cs2, hK8, HSK, by omega⟩
     case measure => rw [hl8]; exact hlt7
    | true =>
     obtain ⟨k, hk, hck, hakt, hkl⟩ : ∃ k : Nat, kv = (k : Int) ∧ clK vb k = 2 ∧ atOf vb k = (t0, t1) ∧ k < vb.length := by
      obtain ⟨h1, h2⟩ := HKB.out
      obtain ⟨z, hz⟩ := Option.isSome_iff_exists.1 h2.symm
      rw [hz] at h1
      obtain ⟨k, e1, e2, e3, e4⟩ := cEnd_some HVal.out.2 (show (2 : Int) ≠ 0 by decide) hz
      exact ⟨k, by rw [h1]; exact e1, e2, e3, e4⟩
     subst hk
     have HKK := Lib.hid (And.intro (And.intro hci hat) (And.intro hck hakt))
     gi_wp2_with fail
     obtain ⟨w8, hw8⟩ : ∃ z, z = w7.alloc (.cells #[.int .i64 t0, .int .i64 t1] 45) := ⟨_, rfl⟩
     rw [← hw8] at hK8 hl8 bt k8 ⊢
     obtain ⟨_, _, A3, n3, c3, hA, hbv3, x3, ra3, _, hvn3⟩ := HR.out.voice hB hK8.bel ha HVA.out
     cases hA
     obtain ⟨_, _, A4, n4, c4, hA, _, x4, rb4, _, hvn4⟩ := HR.out.voice hB hK8.bel hb HVB.out
     cases hA
     have HB8 := Nat.le_trans hB hK8.bel.size
     obtain ⟨_, b1, o1, p, ⟨q0, q1, q2⟩, -, hin, rfl, hb1, -, hq, -, hpq, -, -, -, y4, y5, y6⟩ := ra3.ivl_ HB8 HPit.out.1 (i := i) (by omega)
     obtain ⟨_, b2, o2, p', ⟨r0, r1', r2⟩, -, hkn, rfl, hb2, -, hr, -, hpr, -, -, -, z4, z5, z6⟩ := rb4.ivl_ HB8 HPit.out.2 (i := k) (by omega)
     have HQ := Lib.hid (And.intro (And.intro hq hr) (And.intro hpq hpr))
     have v0 := hK8.box.cell 0
     simp only [List.getElem?_toArray, List.getElem?_cons_zero] at v0 y4 y5 y6 z4 z5 z6
     have lv8 := hK8.box.lt
     have hin' : (i : Int) < (n3 : Int) := by omega
     have hkn' : (k : Int) < (n4 : Int) := by omega
     have qc := fun W (hW : Below w8.heap.size w8 W) => cbtw_ok (q0, q1, q2) (r0, r1', r2) HQ.out.1.1 HQ.out.1.2 W (HTB.out.kept (below_call hK8.bel hW))
     obtain ⟨⟨s, hh⟩, hsh⟩ : ∃ z, z = btw (q0, q1, q2) (r0, r1', r2) := ⟨_, rfl⟩
     have HSH := Lib.hid hsh
     rw [← hsh] at qc
     clear hw8 lk hsh hq hr hpq hpr hci hat hck hakt hok hen
     simp only at qc
     have HSall := Lib.hid (fun W (hW : Below w8.heap.size w8 W) => And.intro ((hW.cell (p := ⟨w.heap.size, 0, none⟩) lv8).trans v0) (And.intro ((hW.cell (p := ⟨bv, ov + a, none⟩) hbv3).trans x3) (And.intro ((hW.cell (p := ⟨bv, ov + b, none⟩) hbv3).trans x4) (And.intro ((hW.cell (p := ⟨b1, o1 + i * 10 + 4, none⟩) hb1).trans y4) (And.intro ((hW.cell (p := ⟨b1, o1 + i * 10 + 5, none⟩) hb1).trans y5) (And.intro ((hW.cell (p := ⟨b1, o1 + i * 10 + 6, none⟩) hb1).trans y6) (And.intro ((hW.cell (p := ⟨b2, o2 + k * 10 + 4, none⟩) hb2).trans z4) (And.intro ((hW.cell (p := ⟨b2, o2 + k * 10 + 5, none⟩) hb2).trans z5) (And.intro ((hW.cell (p := ⟨b2, o2 + k * 10 + 6, none⟩) hb2).trans z6) hW)))))))))
     clear v0 x3 x4 y4 y5 y6 z4 z5 z6
     apply share
     ·intro main
      refine wpIn_region_held' (S := fun w' => w'.cell? ⟨w.heap.size, 0, none⟩ = some (.slice (some ⟨bv, ov, none⟩) n c) ∧ w'.cell? ⟨bv, ov + a, none⟩ = some (.slice (some ⟨b1, o1, none⟩) n3 c3) ∧ w'.cell? ⟨bv, ov + b, none⟩ = some (.slice (some ⟨b2, o2, none⟩) n4 c4) ∧ w'.cell? ⟨b1, o1 + i * 10 + 4, none⟩ = some (.int .i64 q0) ∧ w'.cell? ⟨b1, o1 + i * 10 + 5, none⟩ = some (.int .i64 q1) ∧ w'.cell? ⟨b1, o1 + i * 10 + 6, none⟩ = some (.int .i64 q2) ∧ w'.cell? ⟨b2, o2 + k * 10 + 4, none⟩ = some (.int .i64 r0) ∧ w'.cell? ⟨b2, o2 + k * 10 + 5, none⟩ = some (.int .i64 r1') ∧ w'.cell? ⟨b2, o2 + k * 10 + 6, none⟩ = some (.int .i64 r2) ∧ Below w8.heap.size w8 w') (by kernel_rfl) ?_ (by kernel_rfl) (HSall.out _ (Below.refl _ _).drew) (fun hHeld => ?_)
      ·intro a w h
       exact h
      refine wpAnyH_take (i := 0) (oi := _) (v := ?_) rfl (by kernel_rfl) (by kernel_rfl) (by kernel_rfl) (fun _ _ _ h => h) (Or.inl ⟨by rfl, ?_⟩) hHeld ?_
      rotate_left 1
      ·(intro w hSw; (try dsimp only at hSw); go_simp; try with_reducible rfl)
      simp only [Act.put]
      refine wpAnyH_take (i := 1) (oi := _) (v := ?_) rfl (by kernel_rfl) (by kernel_rfl) (by kernel_rfl) (fun _ _ _ h => h) (Or.inl ⟨by rfl, ?_⟩) hHeld ?_
      rotate_left 1
      ·(intro w hSw; (try dsimp only at hSw); go_simp; try with_reducible rfl)
      simp only [Act.put]
      refine wpAnyH_take (i := 2) (oi := _) (v := ?_) rfl (by kernel_rfl) (by kernel_rfl) (by kernel_rfl) (fun _ _ _ h => h) (Or.inl ⟨by rfl, ?_⟩) hHeld ?_
      rotate_left 1
      ·(intro w hSw; (try dsimp only at hSw); go_simp; try with_reducible rfl)
      simp only [Act.put]
      refine wpAnyH_take (i := 3) (oi := _) (v := ?_) rfl (by kernel_rfl) (by kernel_rfl) (by kernel_rfl) (fun _ _ _ h => h) (Or.inl ⟨by rfl, ?_⟩) hHeld ?_
      rotate_left 1
      ·(intro w hSw; (try dsimp only at hSw); go_simp; try with_reducible rfl)
      simp only [Act.put]
      refine wpAnyH_take (i := 4) (oi := _) (v := ?_) rfl (by kernel_rfl) (by kernel_rfl) (by kernel_rfl) (fun _ _ _ h => h) (Or.inl ⟨by rfl, ?_⟩) hHeld ?_
      rotate_left 1
      ·(intro w hSw; (try dsimp only at hSw); go_simp; try with_reducible rfl)
      simp only [Act.put]
      refine wpAnyH_take (i := 5) (oi := _) (v := ?_) rfl (by kernel_rfl) (by kernel_rfl) (by kernel_rfl) (fun _ _ _ h => h) (Or.inl ⟨by rfl, ?_⟩) hHeld ?_
      rotate_left 1
      ·(intro w hSw; (try dsimp only at hSw); go_simp; try with_reducible rfl)
      simp only [Act.put]
      refine wpAnyH_take (i := 6) (oi := _) (v := ?_) rfl (by kernel_rfl) (by kernel_rfl) (by kernel_rfl) (fun _ _ _ h => h) (Or.inl ⟨by rfl, ?_⟩) hHeld ?_
      rotate_left 1
      ·(intro w hSw; (try dsimp only at hSw); go_simp; try with_reducible rfl)
      simp only [Act.put]
      refine wpAnyH_take (i := 7) (oi := _) (v := ?_) rfl (by kernel_rfl) (by kernel_rfl) (by kernel_rfl) (fun _ _ _ h => h) (Or.inl ⟨by rfl, ?_⟩) hHeld ?_
      rotate_left 1
      ·(intro w hSw; (try dsimp only at hSw); go_simp; try with_reducible rfl)
      simp only [Act.put]
      refine wpAnyH_take (i := 8) (oi := _) (v := ?_) rfl (by kernel_rfl) (by kernel_rfl) (by kernel_rfl) (fun _ _ _ h => h) (Or.inl ⟨by rfl, ?_⟩) hHeld ?_
      rotate_left 1
      ·(intro w hSw; (try dsimp only at hSw); go_simp; try with_reducible rfl)
      simp only [Act.put]
      refine wpAnyH_take (i := 9) (oi := _) (v := ?_) rfl (by kernel_rfl) (by kernel_rfl) (by kernel_rfl) (fun _ _ _ h => h) (Or.inl ⟨by rfl, ?_⟩) hHeld ?_
      rotate_left 1
      ·(intro w hSw; (try dsimp only at hSw); go_simp; try with_reducible rfl)
      simp only [Act.put]
      refine wpAnyH_take (i := 10) (oi := _) (v := ?_) rfl (by kernel_rfl) (by kernel_rfl) (by kernel_rfl) (fun _ _ _ h => h) (Or.inl ⟨by rfl, ?_⟩) hHeld ?_
      rotate_left 1
      ·(intro w hSw; (try dsimp only at hSw); go_simp; try with_reducible rfl)
      simp only [Act.put]
      refine wpAnyH_take (i := 11) (oi := _) (v := ?_) rfl (by kernel_rfl) (by kernel_rfl) (by kernel_rfl) (fun _ _ _ h => h) (Or.inl ⟨by rfl, ?_⟩) hHeld ?_
      rotate_left 1
      ·(intro w hSw; (try dsimp only at hSw); go_simp; try with_reducible rfl)
      simp only [Act.put]
      refine wpAnyH_take (i := 12) (oi := _) (v := ?_) rfl (by kernel_rfl) (by kernel_rfl) (by kernel_rfl) (fun _ _ _ h => h) (Or.inl ⟨by rfl, ?_⟩) hHeld ?_
      rotate_left 1
      ·(intro w hSw; (try dsimp only at hSw); go_simp; try with_reducible rfl)
      simp only [Act.put]
      refine wpAnyH_take (i := 13) (oi := _) (v := ?_) rfl (by kernel_rfl) (by kernel_rfl) (by kernel_rfl) (fun _ _ _ h => h) (Or.inl ⟨by rfl, ?_⟩) hHeld ?_
      rotate_left 1
      ·(intro w hSw; (try dsimp only at hSw); go_simp; try with_reducible rfl)
      simp only [Act.put]
      refine wpAnyH_take (i := 14) (oi := _) (v := ?_) rfl (by kernel_rfl) (by kernel_rfl) (by kernel_rfl) (fun _ _ _ h => h) (Or.inl ⟨by rfl, ?_⟩) hHeld ?_
      rotate_left 1
      ·(intro w hSw; (try dsimp only at hSw); go_simp; try with_reducible rfl)
      simp only [Act.put]
      refine wpAnyH_take (i := 15) (oi := _) (v := ?_) rfl (by kernel_rfl) (by kernel_rfl) (by kernel_rfl) (fun _ _ _ h => h) (Or.inl ⟨by rfl, ?_⟩) hHeld ?_
      rotate_left 1
      ·(intro w hSw; (try dsimp only at hSw); go_simp; try with_reducible rfl)
      simp only [Act.put]
      refine wpAnyH_ready (rs := [16, 17]) (by kernel_rfl) (by simp) ?_
      refine AllReadyH.cons (o := _) rfl (fun K hK => ?_) (AllReadyH.cons (o := _) rfl (fun K hK => ?_) AllReadyH.nil)
      ·rw [if_pos (by rfl)]
       go_simp
       refine Calls.mono (qc _ (Below.refl _ _).drew) ?_
       rintro e wd ⟨rfl, hbd⟩
       have hB1 := below_call (Below.refl w8.heap.size w8).drew hbd
       refine hK.out _ _ (HSall.out _ hB1) (fun _ => ?_)
       clear hK hbd
       refine wpAnyH_ready (rs := [17]) (by kernel_rfl) (by simp) ?_
       refine AllReadyH.cons (o := _) rfl (fun K hK => ?_) AllReadyH.nil
       rw [if_pos (by rfl)]
       go_simp
       have hB2 := below_alloc hB1 (.cells #[.int .i64 0, .int .i64 0] 131)
       refine hK.out _ _ (HSall.out _ hB2) (fun _ => ?_)
       clear hK
       have bx := Blk.new wd 131 #[.int .i64 0, .int .i64 0]
       refine wpAnyH_ready (rs := [18]) (by kernel_rfl) (by simp) ?_
       refine AllReadyH.cons (o := _) rfl (fun K hK => ?_) AllReadyH.nil
       rw [if_pos (by rfl)]
       go_simp
       have hz1 := hB1.size
       have hB3 := below_alloc hB1 (.cells #[.int .i64 s, .int .i64 hh] 131)
       refine hK.out _ _ (HSall.out _ hB3) (fun _ => ?_)
       clear hK
       refine wpAnyH_done (by kernel_rfl) ?_ _
       have bx3 := Blk.new wd 131 #[.int .i64 s, .int .i64 hh]
       obtain ⟨w9, hw9⟩ := name_world hB3
       rw [← hw9] at hB3 bx3 ⊢
       have hle : w8.heap.size ≤ wd.heap.size := by omega
       obtain ⟨gx, hgx⟩ : ∃ z, z = wd.heap.size := ⟨_, rfl⟩
       rw [← hgx] at bx3 hle ⊢
       clear hw9 hgx
       revert bx3
       revert hle
       revert gx
       revert hB3
       revert w9
       exact main.out
      ·rw [if_pos (by rfl)]
       go_simp
       have hB1 := below_alloc (Below.refl w8.heap.size w8).drew (.cells #[.int .i64 0, .int .i64 0] 131)
       refine hK.out _ _ (HSall.out _ hB1) (fun _ => ?_)
       clear hK
       have bx0 : Blk (w8.drew.alloc (.cells #[.int .i64 0, .int .i64 0] 131)) w8.heap.size 131 #[.int .i64 0, .int .i64 0] := Blk.new _ _ _
       refine wpAnyH_ready (rs := [16]) (by kernel_rfl) (by simp) ?_
       refine AllReadyH.cons (o := _) rfl (fun K hK => ?_) AllReadyH.nil
       rw [if_pos (by rfl)]
       go_simp
       refine Calls.mono (qc _ hB1) ?_
       rintro e wd ⟨rfl, hbd⟩
       have hB2 := below_call hB1 hbd
       have bx := bx0.kept hbd
       have lx := bx.lt
       have cx0 := bx.cell 0
       have cx1 := bx.cell 1
       have fx0 := bx.frozen 0
       have fx1 := bx.frozen 1
       simp only [List.getElem?_toArray, List.getElem?_cons_zero, List.getElem?_cons_succ] at cx0 cx1
       refine hK.out _ _ (HSall.out _ hB2) (fun _ => ?_)
       clear hK hbd bx0
       refine wpAnyH_ready (rs := [18]) (by kernel_rfl) (by simp) ?_
       refine AllReadyH.cons (o := _) rfl (fun K hK => ?_) AllReadyH.nil
       rw [if_pos (by rfl)]
       go_simp
       have hB3 : Below w8.heap.size w8 ((wd.setCell ⟨w8.heap.size, 0, none⟩ (.int .i64 s)).setCell ⟨w8.heap.size, 1, none⟩ (.int .i64 hh)) := (Below.setCell (Below.setCell hB2 (by show w8.heap.size ≤ w8.heap.size; omega) _) (by show w8.heap.size ≤ w8.heap.size; omega) _)
       refine hK.out _ _ (HSall.out _ hB3) (fun _ => ?_)
       clear hK
       refine wpAnyH_done (by kernel_rfl) ?_ _
       have bx3 : Blk ((wd.setCell ⟨w8.heap.size, 0, none⟩ (.int .i64 s)).setCell ⟨w8.heap.size, 1, none⟩ (.int .i64 hh)) (w8.heap.size) 131 #[.int .i64 s, .int .i64 hh] := by repeat (first | with_reducible exact bx | with_reducible exact Blk.new _ _ _ | (with_reducible refine Blk.newAt _ _ _ _ ?_; first | rfl | (simp; done)) | with_reducible (first | apply Blk.alloc | apply Blk.drewN | apply Blk.drew | apply Blk.set_to) | (with_reducible apply Blk.far_; (simp only [ne_eq]; omega)) | rfl)
       obtain ⟨w9, hw9⟩ := name_world hB3
       rw [← hw9] at hB3 bx3 ⊢
       have hle := Nat.le_refl w8.heap.size
       clear hw9
       exact main.out w9 hB3 w8.heap.size hle bx3
     intro w9 hB9 gx hgx bx
     have hK9 := hK8.kept hB9
     have hl9 := hK8.left hB9
     have bt9 := bt.kept hB9
     have x0 := bx.cell 0
     have x1 := bx.cell 1
     have lx := bx.lt
     simp only [List.getElem?_toArray, List.getElem?_cons_zero, List.getElem?_cons_succ] at x0 x1
     have hsb := btw_bd HQ.out.1.1 HQ.out.1.2
     rw [← HSH.out] at hsb
     simp only at hsb
     have htd := tdiv_bd hsb
     have ho : octB (pitOf va i) (pitOf vb k) = !((s.tmod 7 != 0) || (hh != s.tdiv 7 * 12)) := by
      rw [HQ.out.2.1, HQ.out.2.2]
      unfold octB
      rw [← HSH.out]
      exact oct_test s hh hsb
     have wt : IntKind.i64.wrap (s.tdiv 7) = s.tdiv 7 := IntWalk.i64_in _ (by omega)
     have wm : IntKind.i64.wrap (s.tdiv 7 * 12) = s.tdiv 7 * 12 := IntWalk.i64_in _ (by omega)
     have HO := Lib.hid ho
     clear ho hK8 bt hB9 HSall hb1 hb2 hbv3 lv8 qc HSH hsb
     have HNO := Lib.hid (fun (h0 : octB (pitOf va i) (pitOf vb k) = false) => hCR.out.skip (t := (t0, t1)) (cad_not (by rw [HAB.out.1]; exact HVal.out.1) (by rw [HAB.out.2]; exact HVal.out.2) (by rw [HAB.out.1]; exact HKK.out.1.1) (by rw [HAB.out.1]; exact HKK.out.1.2) (by rw [HAB.out.2]; exact HKK.out.2.1) (by rw [HAB.out.2]; exact HKK.out.2.2) (by rw [HAB.out.1, HAB.out.2]; exact h0)))
     by_cases h1 : s.tmod 7 = 0
     ·by_cases h2 : hh = s.tdiv 7 * 12
      ·have b1 : (s.tmod 7 != 0) = false := by simpa using h1
       have b2 : (hh != s.tdiv 7 * 12) = false := by simpa using h2
       have HOct := Lib.hid (show octB (pitOf va i) (pitOf vb k) = true by rw [HO.out, b1, b2]; rfl)
       clear HNO HO h1 h2
       obtain ⟨_, _, A5, n5, c5, hA, hbv5, x5, ra5, _, hvn5⟩ := HR.out.voice hB hK9.bel ha HVA.out
       cases hA
       obtain ⟨_, _, A6, n6, c6, hA, _, x6, rb6, _, hvn6⟩ := HR.out.voice hB hK9.bel hb HVB.out
       cases hA
       have HB9 := Nat.le_trans hB hK9.bel.size
       obtain ⟨_, b5, o5, p5, ⟨s0, s1, s2⟩, -, hin5, rfl, hb5, -, -, -, hps, -, -, -, y4, y5, y6⟩ := ra5.ivl_ HB9 HPit.out.1 (i := i) (by have := HKK.out.1.1; omega)
       have hps2 : q0 = s0 := by
        have := hps.symm.trans HQ.out.2.1
        rw [Prod.mk.injEq] at this
        exact this.1.symm
       subst hps2
       have v0 := hK9.box.cell 0
       have u0 := hK9.out.cell 0
       have lv9 := hK9.box.lt
       have lo9 := hK9.out.lt
       have lt9 := bt9.lt
       have e0 := bt9.cell 0
       have e1 := bt9.cell 1
       simp only [List.getElem?_toArray, List.getElem?_cons_zero, List.getElem?_cons_succ] at v0 u0 e0 e1 y4
       have hin5' : (i : Int) < (n5 : Int) := by omega
       have hn52 : n5 ≤ 2000 := by rw [← hvn5]; exact HS.out.few va (List.mem_of_getElem? HVA.out)
       have hn62 : n6 ≤ 2000 := by rw [← hvn6]; exact HS.out.few vb (List.mem_of_getElem? HVB.out)
       have qd := fun W (hW : Below w9.heap.size w9 W) => bass_ok (some ⟨bv, ov, none⟩) n c l B W (HR.out.below hB (below_call hK9.bel hW)) (Nat.le_trans hB (below_call hK9.bel hW).size) HS.out (t0, t1) HOT.out q0 (a : Int) (b : Int) (HTB.out.kept (below_call hK9.bel hW))
       have qe := fun W (hW : Below w9.heap.size w9 W) => ckind_ok (some ⟨b5, o5, none⟩) A6 n5 n6 c5 c6 va vb B W (ra5.below HB9 hW) (rb6.below HB9 hW) (Nat.le_trans HB9 hW.size) hn52 hn62 HPit.out.1 HPit.out.2 i k (by have := HKK.out.1.1; omega) (by have := HKK.out.2.1; omega) (HTB.out.kept (below_call hK9.bel hW))
       obtain ⟨bs, hbs⟩ : ∃ z, z = bassF l (t0, t1) q0 (a : Int) (b : Int) := ⟨_, rfl⟩
       obtain ⟨kd, hkd⟩ : ∃ z, z = kindO va i vb k := ⟨_, rfl⟩
       have HKD := Lib.hid hkd
       rw [← hbs] at qd
       rw [← hkd] at qe
       clear hbs hkd hps y5 y6
       simp only at qd qe
       gi_wp2_with fail
       have HS9 := Lib.hid (fun W (hW : Below w9.heap.size w9 W) => And.intro ((hW.cell (p := ⟨w.heap.size, 0, none⟩) lv9).trans v0) (And.intro ((hW.cell (p := ⟨bv, ov + a, none⟩) hbv5).trans x5) (And.intro ((hW.cell (p := ⟨bv, ov + b, none⟩) hbv5).trans x6) (And.intro ((hW.cell (p := ⟨w7.heap.size, 0, none⟩) lt9).trans e0) (And.intro ((hW.cell (p := ⟨w7.heap.size, 1, none⟩) lt9).trans e1) (And.intro ((hW.cell (p := ⟨w1.heap.size, 0, none⟩) lo9).trans u0) hW))))))
       clear v0 x5 x6 e0 e1 u0 x0 x1 lx y4
       refine wpIn_region_heads (S := fun w' => w'.cell? ⟨w.heap.size, 0, none⟩ = some (.slice (some ⟨bv, ov, none⟩) n c) ∧ w'.cell? ⟨bv, ov + a, none⟩ = some (.slice (some ⟨b5, o5, none⟩) n5 c5) ∧ w'.cell? ⟨bv, ov + b, none⟩ = some (.slice A6 n6 c6) ∧ w'.cell? ⟨w7.heap.size, 0, none⟩ = some (.int .i64 t0) ∧ w'.cell? ⟨w7.heap.size, 1, none⟩ = some (.int .i64 t1) ∧ w'.cell? ⟨w1.heap.size, 0, none⟩ = some u2 ∧ Below w9.heap.size w9 w') 24 (by kernel_rfl) (fun a w h => h) (by kernel_rfl) (by kernel_rfl) (HS9.out _ (Below.refl _ _).drew) (fun hHeld => ?_)
       refine headH_take (i := 0) (oi := _) (v := ?_) rfl ⟨by kernel_rfl, by kernel_rfl, by kernel_rfl, by kernel_rfl⟩ (by decide) (by kernel_rfl) (by kernel_rfl) (by kernel_rfl) tailL_done (fun _ _ _ h => h) (Or.inl ⟨by rfl, ?_⟩) hHeld ?_
       rotate_left 1
       ·(intro w hSw; (try dsimp only at hSw); go_simp; try with_reducible rfl)
       simp only [Act.put]
       refine headH_take (i := 1) (oi := _) (v := ?_) rfl ⟨by kernel_rfl, by kernel_rfl, by kernel_rfl, by kernel_rfl⟩ (by decide) (by kernel_rfl) (by kernel_rfl) (by kernel_rfl) tailL_done (fun _ _ _ h => h) (Or.inl ⟨by rfl, ?_⟩) hHeld ?_
       rotate_left 1
       ·(intro w hSw; (try dsimp only at hSw); go_simp; try with_reducible rfl)
       simp only [Act.put]
       refine headH_take (i := 2) (oi := _) (v := ?_) rfl ⟨by kernel_rfl, by kernel_rfl, by kernel_rfl, by kernel_rfl⟩ (by decide) (by kernel_rfl) (by kernel_rfl) (by kernel_rfl) tailL_done (fun _ _ _ h => h) (Or.inl ⟨by rfl, ?_⟩) hHeld ?_
       rotate_left 1
       ·(intro w hSw; (try dsimp only at hSw); go_simp; try with_reducible rfl)
       simp only [Act.put]
       refine headH_take (i := 3) (oi := _) (v := ?_) rfl ⟨by kernel_rfl, by kernel_rfl, by kernel_rfl, by kernel_rfl⟩ (by decide) (by kernel_rfl) (by kernel_rfl) (by kernel_rfl) tailL_done (fun _ _ _ h => h) (Or.inl ⟨by rfl, ?_⟩) hHeld ?_
       rotate_left 1
       ·(intro w hSw; (try dsimp only at hSw); go_simp; try with_reducible rfl)
       simp only [Act.put]
       refine headH_take (i := 4) (oi := _) (v := ?_) rfl ⟨by kernel_rfl, by kernel_rfl, by kernel_rfl, by kernel_rfl⟩ (by decide) (by kernel_rfl) (by kernel_rfl) (by kernel_rfl) tailL_done (fun _ _ _ h => h) (Or.inl ⟨by rfl, ?_⟩) hHeld ?_
       rotate_left 1
       ·(intro w hSw; (try dsimp only at hSw); go_simp; try with_reducible rfl)
       simp only [Act.put]
       refine headH_take (i := 5) (oi := _) (v := ?_) rfl ⟨by kernel_rfl, by kernel_rfl, by kernel_rfl, by kernel_rfl⟩ (by decide) (by kernel_rfl) (by kernel_rfl) (by kernel_rfl) tailL_done (fun _ _ _ h => h) (Or.inl ⟨by rfl, ?_⟩) hHeld ?_
       rotate_left 1
       ·(intro w hSw; (try dsimp only at hSw); go_simp; try with_reducible rfl)
       simp only [Act.put]
       refine headH_take (i := 6) (oi := _) (v := ?_) rfl ⟨by kernel_rfl, by kernel_rfl, by kernel_rfl, by kernel_rfl⟩ (by decide) (by kernel_rfl) (by kernel_rfl) (by kernel_rfl) tailL_done (fun _ _ _ h => h) (Or.inl ⟨by rfl, ?_⟩) hHeld ?_
       rotate_left 1
       ·(intro w hSw; (try dsimp only at hSw); go_simp; try with_reducible rfl)
       simp only [Act.put]
       refine headH_take (i := 7) (oi := _) (v := ?_) rfl ⟨by kernel_rfl, by kernel_rfl, by kernel_rfl, by kernel_rfl⟩ (by decide) (by kernel_rfl) (by kernel_rfl) (by kernel_rfl) tailL_done (fun _ _ _ h => h) (Or.inl ⟨by rfl, ?_⟩) hHeld ?_
       rotate_left 1
       ·(intro w hSw; (try dsimp only at hSw); go_simp; try with_reducible rfl)
       simp only [Act.put]
       refine headH_take (i := 8) (oi := _) (v := ?_) rfl ⟨by kernel_rfl, by kernel_rfl, by kernel_rfl, by kernel_rfl⟩ (by decide) (by kernel_rfl) (by kernel_rfl) (by kernel_rfl) tailL_done (fun _ _ _ h => h) (Or.inl ⟨by rfl, ?_⟩) hHeld ?_
       rotate_left 1
       ·(intro w hSw; (try dsimp only at hSw); go_simp; try with_reducible rfl)
       simp only [Act.put]
       refine headH_take (i := 10) (oi := _) (v := ?_) rfl ⟨by kernel_rfl, by kernel_rfl, by kernel_rfl, by kernel_rfl⟩ (by decide) (by kernel_rfl) (by kernel_rfl) (by kernel_rfl) tailL_done (fun _ _ _ h => h) (Or.inl ⟨by rfl, ?_⟩) hHeld ?_
       rotate_left 1
       ·(intro w hSw; (try dsimp only at hSw); go_simp; try with_reducible rfl)
       simp only [Act.put]
       refine headH_take (i := 11) (oi := _) (v := ?_) rfl ⟨by kernel_rfl, by kernel_rfl, by kernel_rfl, by kernel_rfl⟩ (by decide) (by kernel_rfl) (by kernel_rfl) (by kernel_rfl) tailL_done (fun _ _ _ h => h) (Or.inl ⟨by rfl, ?_⟩) hHeld ?_
       rotate_left 1
       ·(intro w hSw; (try dsimp only at hSw); go_simp; try with_reducible rfl)
       simp only [Act.put]
       refine headH_take (i := 12) (oi := _) (v := ?_) rfl ⟨by kernel_rfl, by kernel_rfl, by kernel_rfl, by kernel_rfl⟩ (by decide) (by kernel_rfl) (by kernel_rfl) (by kernel_rfl) tailL_done (fun _ _ _ h => h) (Or.inl ⟨by rfl, ?_⟩) hHeld ?_
       rotate_left 1
       ·(intro w hSw; (try dsimp only at hSw); go_simp; try with_reducible rfl)
       simp only [Act.put]
       refine headH_take (i := 13) (oi := _) (v := ?_) rfl ⟨by kernel_rfl, by kernel_rfl, by kernel_rfl, by kernel_rfl⟩ (by decide) (by kernel_rfl) (by kernel_rfl) (by kernel_rfl) tailL_done (fun _ _ _ h => h) (Or.inl ⟨by rfl, ?_⟩) hHeld ?_
       rotate_left 1
       ·(intro w hSw; (try dsimp only at hSw); go_simp; try with_reducible rfl)
       simp only [Act.put]
       refine headH_take (i := 14) (oi := _) (v := ?_) rfl ⟨by kernel_rfl, by kernel_rfl, by kernel_rfl, by kernel_rfl⟩ (by decide) (by kernel_rfl) (by kernel_rfl) (by kernel_rfl) tailL_done (fun _ _ _ h => h) (Or.inl ⟨by rfl, ?_⟩) hHeld ?_
       rotate_left 1
       ·(intro w hSw; (try dsimp only at hSw); go_simp; try with_reducible rfl)
       simp only [Act.put]
       refine headH_take (i := 15) (oi := _) (v := ?_) rfl ⟨by kernel_rfl, by kernel_rfl, by kernel_rfl, by kernel_rfl⟩ (by decide) (by kernel_rfl) (by kernel_rfl) (by kernel_rfl) tailL_done (fun _ _ _ h => h) (Or.inl ⟨by rfl, ?_⟩) hHeld ?_
       rotate_left 1
       ·(intro w hSw; (try dsimp only at hSw); go_simp; try with_reducible rfl)
       simp only [Act.put]
       refine headH_take (i := 16) (oi := _) (v := ?_) rfl ⟨by kernel_rfl, by kernel_rfl, by kernel_rfl, by kernel_rfl⟩ (by decide) (by kernel_rfl) (by kernel_rfl) (by kernel_rfl) tailL_done (fun _ _ _ h => h) (Or.inl ⟨by rfl, ?_⟩) hHeld ?_
       rotate_left 1
       ·(intro w hSw; (try dsimp only at hSw); go_simp; try with_reducible rfl)
       simp only [Act.put]
       refine headH_take (i := 17) (oi := _) (v := ?_) rfl ⟨by kernel_rfl, by kernel_rfl, by kernel_rfl, by kernel_rfl⟩ (by decide) (by kernel_rfl) (by kernel_rfl) (by kernel_rfl) tailL_done (fun _ _ _ h => h) (Or.inl ⟨by rfl, ?_⟩) hHeld ?_
       rotate_left 1
       ·(intro w hSw; (try dsimp only at hSw); go_simp; try with_reducible rfl)
       simp only [Act.put]
       refine headH_take (i := 18) (oi := _) (v := ?_) rfl ⟨by kernel_rfl, by kernel_rfl, by kernel_rfl, by kernel_rfl⟩ (by decide) (by kernel_rfl) (by kernel_rfl) (by kernel_rfl) tailL_done (fun _ _ _ h => h) (Or.inl ⟨by rfl, ?_⟩) hHeld ?_
       rotate_left 1
       ·(intro w hSw; (try dsimp only at hSw); go_simp; try with_reducible rfl)
       simp only [Act.put]
       refine headH_take (i := 19) (oi := _) (v := ?_) rfl ⟨by kernel_rfl, by kernel_rfl, by kernel_rfl, by kernel_rfl⟩ (by decide) (by kernel_rfl) (by kernel_rfl) (by kernel_rfl) tailL_done (fun _ _ _ h => h) (Or.inl ⟨by rfl, ?_⟩) hHeld ?_
       rotate_left 1
       ·(intro w hSw; (try dsimp only at hSw); go_simp; try with_reducible rfl)
       simp only [Act.put]
       refine headH_take (i := 20) (oi := _) (v := ?_) rfl ⟨by kernel_rfl, by kernel_rfl, by kernel_rfl, by kernel_rfl⟩ (by decide) (by kernel_rfl) (by kernel_rfl) (by kernel_rfl) tailL_done (fun _ _ _ h => h) (Or.inl ⟨by rfl, ?_⟩) hHeld ?_
       rotate_left 1
       ·(intro w hSw; (try dsimp only at hSw); go_simp; try with_reducible rfl)
       simp only [Act.put]
       refine headH_one (i := 9) (o := _) (by kernel_rfl) (by decide) rfl (fun K hK => ?_)
       rw [if_pos (by rfl)]
       go_simp
       refine Calls.mono (qd _ (Below.refl _ _).drew) ?_
       rintro e wd ⟨rfl, hbd⟩
       have hB1 := below_call (Below.refl w9.heap.size w9).drew hbd
       refine hK.out _ _ (HS9.out _ hB1) (fun _ => ?_)
       clear hK hbd qd
       refine headH_one (i := 21) (o := _) (by kernel_rfl) (by decide) rfl (fun K hK => ?_)
       rw [if_pos (by rfl)]
       go_simp
       refine Calls.mono (qe _ hB1) ?_
       rintro e we ⟨rfl, hbe⟩
       have hB2 := below_call hB1 hbe
       refine hK.out _ _ (HS9.out _ hB2) (fun hHeld => ?_)
       clear hK hbe qe hB1
       refine headH_take (i := 22) (oi := _) (v := ?_) rfl ⟨by kernel_rfl, by kernel_rfl, by kernel_rfl, by kernel_rfl⟩ (by decide) (by kernel_rfl) (by kernel_rfl) (by kernel_rfl) tailL_done (fun _ _ _ h => h) (Or.inl ⟨by rfl, ?_⟩) hHeld ?_
       rotate_left 1
       ·(intro w hSw; (try dsimp only at hSw); go_simp; try with_reducible rfl)
       simp only [Act.put]
       refine headH_one (i := 23) (o := _) (by kernel_rfl) (by decide) rfl (fun K hK => ?_)
       rw [if_pos (by rfl)]
       go_simp
       have hB3 := below_alloc hB2 (.cells #[.int .i64 t0, .int .i64 t1, .int .i64 (a : Int), .int .i64 (b : Int), .int .i64 bs, .int .i64 q0, .int .i64 kd] 126)
       refine hK.out _ _ (HS9.out _ hB3) (fun _ => ?_)
       clear hK
       have hKe := hK9.kept hB2
       have hle := hK9.left hB2
       have kf := below_alloc (Below.refl we.heap.size we) (.cells #[.int .i64 t0, .int .i64 t1, .int .i64 (a : Int), .int .i64 (b : Int), .int .i64 bs, .int .i64 q0, .int .i64 kd] 126)
       have hKf := hKe.kept kf
       have hlf := hKe.left kf
       have HADD := Lib.hid (hCR.out.add (t := (t0, t1)) (x := ⟨(t0, t1), a, b, bs, q0, kd⟩) ⟨a, i, b, k, cad_is (t := (t0, t1)) hab (by rw [HAB.out.1]; exact HKK.out.1.1) (by rw [HAB.out.1]; exact HKK.out.1.2) (by rw [HAB.out.2]; exact HKK.out.2.1) (by rw [HAB.out.2]; exact HKK.out.2.2) (by rw [HAB.out.1, HAB.out.2]; exact HOct.out), by rw [HAB.out.1]; exact HKK.out.1.2.symm, rfl, rfl, by rw [HKD.out]; unfold cadK kindO; rw [HAB.out.1, HAB.out.2]⟩ (cad_hit (by rw [HAB.out.1]; exact HVal.out.1) (by rw [HAB.out.2]; exact HVal.out.2) (by rw [HAB.out.1]; exact HKK.out.1.1) (by rw [HAB.out.1]; exact HKK.out.1.2) (by rw [HAB.out.2]; exact HKK.out.2.1) (by rw [HAB.out.2]; exact HKK.out.2.2) _ rfl rfl (by rw [HAB.out.1, HAB.out.2]; exact HKD.out)))
       have hz9 := hKe.bel.size
       have hzD := (Array.getElem?_eq_some_iff.1 hKe.loop).1
       clear hK9 hKe hB2 hB3 HS9 ra5 rb6 bt9 kf
       refine ⟨by kernel_rfl, ?_⟩
       simp only [List.drop_succ_cons, List.drop_zero]
       go_wp2_with (at_builtin; (refine wpList_append_any _ rfl (.tmp 88) (.tmp 111) 122 rfl (w3.heap.size + 2) 126 i0 _ 7 56 Tryz.underlying122 hi0 hz0 hz1 hz2 rfl (by omega) u2 cs2.length (csCad cs2) rfl hKf.row (we.heap.size + 1) (some ⟨we.heap.size, 0, none⟩) 1 1 (csCad [⟨(t0, t1), a, b, bs, q0, kd⟩]) rfl (Reads.newAt _ _ _ 1 7 _ rfl rfl) (one_csCad _) (by simp only [maxLen]; omega) (by omega) (by simp; omega) ?_); intro v5 w10 hown5 hg5 hat5; have bo5 : Blk w10 w1.heap.size 122 #[u2] := (hg5.block _ hKf.out.lt (blk_other hKf.row hKf.out (by decide))).trans hKf.out; have co5 := bo5.cell 0; have fo5 := bo5.frozen 0; have lo5 := bo5.lt; simp only [List.getElem?_toArray, List.getElem?_cons_zero] at co5; obtain ⟨A9, c9, hv9, _, _, _⟩ := own_reads hown5; subst hv9)
       have hD0 : D0 w3 = w3.heap.size + 1 := rfl
       have hput := hKf.put hg5 (u' := .slice A9 (cs2.length + 1) c9) (cs' := cs2 ++ [⟨(t0, t1), a, b, bs, q0, kd⟩]) (by rw [csCad_append, List.length_append]; exact hown5) (by omega) (by omega) (by omega) (by have := HSIZE.out.1; omega) (by have := HSIZE.out.2.1; omega) (by omega)
       have hleft := hKf.put_left hg5 (.slice A9 (cs2.length + 1) c9) (by have := HSIZE.out.2.1; omega) (by omega)
       have hcount : (cs2 ++ [(⟨(t0, t1), a, b, bs, q0, kd⟩ : Cad)]).length = cs2.length + 1 := by rw [List.length_append]; rfl
       exact ⟨⟨_, _, _, hput, HADD, by rw [hcount, hleft, hlf, hle, hl9, hl8]; omega⟩, by rw [hleft, hlf, hle, hl9, hl8]; exact hlt7⟩
      ·have b1 : (s.tmod 7 != 0) = false := by simpa using h1
       have b2 : (hh != s.tdiv 7 * 12) = true := by simpa using h2
       have HSK := Lib.hid (HNO.out (by rw [HO.out, b2]; simp))
       clear HNO HO h1 h2
       gi_wp2
       go_roundw
       case rel => exact ⟨_, u2, cs2, hK9, HSK, by omega⟩
       case measure => rw [hl9, hl8]; exact hlt7
     ·have b1 : (s.tmod 7 != 0) = true := by simpa using h1
      have HSK := Lib.hid (HNO.out (by rw [HO.out, b1]; simp))
      clear HNO HO h1
      gi_wp2
      go_roundw
      case rel => exact ⟨_, u2, cs2, hK9, HSK, by omega⟩
      case measure => rw [hl9, hl8]; exact hlt7
 ·clear hL hD hb hb31 CV CO CP hb3
  rintro e W2 ⟨⟨v, rfl⟩, u, cs, cv, co, how, hcs, hlen, cp, hl, hd, hbw⟩
  refine ⟨⟨v, rfl⟩, .ready, none, by simp, hl, ?_⟩
  simp only
  have hD3 : w1.heap.size + 2 = w3.heap.size := HS3.out.symm
  have hlt := (Array.getElem?_eq_some_iff.1 hl).1
  have hcs64 : cs.length ≤ 200000 := by have h1 := allPr_len n n; have h2 := Nat.mul_le_mul hn8 hn8; omega
  have hov := HSO.out u cs (w3.heap.size + 2)
  have hN : cs.length ≤ N := Nat.le_trans hcs64 HF.out
  have hok : ∀ x ∈ cs, ok x.at_ := fun x hx => by
   obtain ⟨c', i', t', k', h1, h2, _⟩ := hcs.sound x hx
   obtain ⟨_, g2, _⟩ := cad_parts h1
   have hlc := getD_lt (l := l) (c := c') (i := i') (by omega)
   obtain ⟨vc, hvc⟩ := get_some hlc
   rw [getD_at hvc] at g2 h2
   obtain ⟨y, hy⟩ := get_some (l := vc) (k := i') (clK_ne (by omega)).2.2.2.1
   rw [h2, show atOf vc i' = y.at_ by unfold atOf; rw [hy]]
   exact HS.out.ok_ (List.mem_of_getElem? hvc) y (List.mem_of_getElem? hy)
  have HCS := Lib.hid hcs
  have HOK := Lib.hid hok
  have co' := co.put (.loop (rec .exhausted none)) (r := w3.heap.size + 1) (by omega)
  have how' := own_put how (.loop (rec .exhausted none)) (r := w3.heap.size + 1) (by omega)
  have hd' := (World.putObj_heap_other (w := W2) (r := w3.heap.size + 1) (o := .loop (rec .exhausted none)) (k := w3.heap.size) (by omega)).trans hd
  have hb' := below_put hbw (.loop (rec .exhausted none)) (r := w3.heap.size + 1) (by omega)
  clear hcs hok hl cv co how cp hd hbw
  generalize W2.putObj (w3.heap.size + 1) (.loop (rec .exhausted none)) = W4 at *
  have o0 := co'.cell 0
  have lo := co'.lt
  simp only [List.getElem?_toArray, List.getElem?_cons_zero] at o0
  go_wp2_with fail
  refine (hov _ how' hN HOK.out).mono ?_
  rintro e W5 ⟨rfl, cs', hperm, how5, hg5⟩
  have co5 : Blk W5 w1.heap.size 122 #[u] := (hg5.block _ co'.lt (blk_other how' co' (by decide))).trans co'
  have hd5 : W5.heap[w3.heap.size]? = some (.deferred (some [])) := (hg5.block _ (Array.getElem?_eq_some_iff.1 hd').1 (own_other how' hd' (fun cur he => by cases he))).trans hd'
  have hb5 : Below w.heap.size w W5 := ⟨hg5.os.trans hb'.os, hg5.tape.trans hb'.tape, hg5.output.trans hb'.output, Nat.le_trans hb'.size hg5.size, fun i hi => (hg5.block i (Nat.lt_of_lt_of_le hi hb'.size) (fun e => by have := (how'.lt i e.symm).1; omega)).trans (hb'.block i hi)⟩
  have o5 := co5.cell 0
  simp only [List.getElem?_toArray, List.getElem?_cons_zero] at o5
  obtain ⟨A5, c5, hu5, _, _, _⟩ := own_reads how5
  have HPERM := Lib.hid hperm
  have HOW := Lib.hid how5
  clear how' hg5 hd' hb' o0 lo co' how5 hperm hov hN
  go_wp2
  refine ⟨by simp, .inl ⟨w3.heap.size, _, rfl, run_takeDeferred hd5, ?_⟩⟩
  refine ⟨.tuple #[.slice A5 cs.length c5, .int .i64 0], ?_, ?_⟩
  ·have hres : Tryz.f85.results = #[.tmp 2, .tmp 3] := by kernel_rfl
   simp only [results, hres]
   go_simp
  ·refine ⟨_, cs', rfl, ?_, fun x hx => HCS.out.sound x (HPERM.out.mem_iff.1 hx), fun c' i' t' k' hc => ?_, by rw [HPERM.out.length_eq]; exact hcs64, below_put hb5 _ (by omega)⟩
   ·rw [HPERM.out.length_eq, ← hu5]
    exact own_lower (own_put HOW.out _ (by omega)) (by have := hb5.size; omega)
   ·obtain ⟨x, hx, hh⟩ := HCS.out.all_ HL.out hc
    exact ⟨x, HPERM.out.mem_iff.2 hx, hh⟩
end Go.Proofs.YtpkmiegccfhpnaaGreatDoor
