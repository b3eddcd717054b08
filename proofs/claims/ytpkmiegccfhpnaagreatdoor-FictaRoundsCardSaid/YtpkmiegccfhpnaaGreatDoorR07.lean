/- Parts of the proof of LawRounds31: CaClaus, AlMerge, AlWith. -/
import Derived.Test.YtpkmiegccfhpnaaGreatDoorR06
set_option maxRecDepth 100000
set_option maxHeartbeats 16000000
namespace Go.Proofs.YtpkmiegccfhpnaaGreatDoor
open Go.RowKit
theorem clausula_info : (Tryz.prog.info? 187).map (fun i => (i.zero, i.size, i.bytes)) = some (some (.agg #[.int .i64 0, .int .i64 0]), 2, 16) := by kernel_rfl
theorem zero_int (w : World) : (zeroValue 3).run Tryz.prog w = .ok (.int .i64 0) w := by kernel_rfl
theorem own_ne {γ β : Type} {K : TypeId} {G : KeyG γ K} {T : ElemT β} {w : World} {b n : Nat} {f : γ → Option β} (h : TMap w G T b n f) {base size m : Nat} {e : TypeId} {v : Value} {xs : List Value} (h2 : w.ownsRow base e size v m xs) : some b ≠ v.ownBlock := by
 intro heq
 obtain ⟨D, ⟨es, clock, hblk, _⟩, _⟩ := h
 obtain ⟨_, h5⟩ := h2
 rcases h5 with ⟨rfl, _⟩ | ⟨g2, cap2, cur2, hv2, _, hh2, _⟩
 ·cases heq
 ·rw [hv2] at heq
  cases heq
  rw [hblk] at hh2
  cases hh2
def ClRet (L : List (Int × Int)) (w : World) (e : Ending) (w' : World) : Prop := ∃ u, e = .returned u ∧ w'.ownsRow w.heap.size 187 2 u L.length (csT L) ∧ Below w.heap.size w w'
theorem clk_two {v : List Ev} {k : Nat} {x y : Ev} (hx : v[k]? = some x) (hy : v[k + 1]? = some y) : clK v (k + 1) = if x.rest = false ∧ y.rest = false then clOf (btw x.pit y.pit).1 else 0 := by
 unfold clK noteB ivl
 rw [Nat.add_sub_cancel, hx, hy]
 simp
theorem cl_full {v : List Ev} {n k : Nat} (hn : v.length = n) (h : k = max n 1) : clausL v k = clausE v := by
 unfold clausE
 by_cases h0 : n = 0
 ·have : k = 1 := by omega
  rw [this, clausL_one, hn, h0]; rfl
 ·rw [show k = v.length by omega]
theorem btw_bd {p q : Pit3} (hp : pchk p = 0) (hq : pchk q = 0) : -62 ≤ (btw p q).1 ∧ (btw p q).1 ≤ 62 := by
 have := numP_bd hp; have := numP_bd hq
 unfold btw; simp only; omega
theorem clausulae_ok (A : Option Addr) (n c : Nat) (v : List Ev) (B : Nat) (w : World) (h : Reads w B 10 A n (csE v)) (hB : B ≤ w.heap.size) (hn : n ≤ 2000) (hp : PitsV v) (ht : Tabs w) :
  Calls Tryz.prog 144 #[.slice A n c] w fun e w' => ClRet (clausE v) w e w' := by
 have HL := Lib.hid h.evlen
 have HP := Lib.hid hp
 obtain ⟨i0, hi0, hz0, hz1, hz2⟩ := info_parts clausula_info
 have hfd : ∀ (w : World) (x y : Value), (Instr.field 131 (.agg #[x, y]) 0).run Tryz.prog w = .ok x w := fun _ _ _ => by kernel_rfl
 clear hp
 go_enter Tryz.func144, Tryz.ntmps144
 go_wp2_with fail
 refine (kinds_any _).mono ?_
 rintro e w1 ⟨mb, rfl, hmb, hT, hb1⟩
 have k1 : Below w.heap.size w w1 := hb1
 clear hb1
 go_wp2_with fail
 go_loopg [4, 5, 6, 7] (max n 1 - 1) (fun gh u i _ _ wr => ∃ k : Nat, 1 ≤ k ∧ k + gh = max n 1 ∧ i = .int .i64 (k : Int) ∧ wr.ownsRow w.heap.size 187 2 u (clausL v k).length (csT (clausL v k)) ∧ TMap wr keyInt elemInt mb 4 clF ∧ Below w.heap.size w wr)
 case atStart => exact ⟨1, by omega, by omega, rfl, by rw [clausL_one]; exact ⟨rfl, .inl ⟨rfl, rfl⟩⟩, hT, k1⟩
 case round =>
  clear hT k1
  obtain ⟨k, hk1, hkg, rfl, hrow, hT, k0⟩ := hrel
  cases gk with
  | zero =>
   have d0 : ¬ ((k : Int) < (n : Int)) := by omega
   have HF := Lib.hid (cl_full (k := k) HL.out (by omega))
   rw [HF.out] at hrow
   have HX := Lib.hid (show ClRet (clausE v) w (.returned u4) wr from ⟨_, rfl, hrow, k0⟩)
   obtain ⟨A9, c9, rfl, -, _, _⟩ := own_reads hrow
   clear hkg hrow hT
   go_wp2
   refine ret_of (by simp [results, Tryz.results144, go_sem, *]; repeat' (first | rfl | apply And.intro)) rfl ?_
   exact HX.out
  | succ g =>
   obtain ⟨j, hj⟩ : ∃ j, k = j + 1 := ⟨k - 1, by omega⟩
   have hkn : k < n := by omega
   have d0 : (k : Int) < (n : Int) := by omega
   obtain ⟨x, hx⟩ := get_some (l := v) (k := j) (by rw [HL.out]; omega)
   obtain ⟨y, hy⟩ := get_some (l := v) (k := k) (by rw [HL.out]; omega)
   have HK := Lib.hid (show clK v k = (if x.rest = false ∧ y.rest = false then clOf (btw x.pit y.pit).1 else 0) by rw [hj]; exact clk_two hx (by rw [← hj]; exact hy))
   have HC := Lib.hid (clausL_succ v k)
   have HPX := Lib.hid (HP.out x (List.mem_of_getElem? hx))
   have HPY := Lib.hid (HP.out y (List.mem_of_getElem? hy))
   obtain ⟨bx, ox, rfl, hbx, hcx⟩ := h.ev hB k0 (show j < n by omega) hx
   obtain ⟨by_, oy, hA2, hby, hcy⟩ := h.ev hB k0 hkn hy
   cases hA2
   obtain ⟨-, -, -, -, x4, x5, x6, x7, -, -⟩ := ten hcx
   obtain ⟨-, -, -, -, y4, y5, y6, y7, -, -⟩ := ten hcy
   obtain ⟨⟨_, _⟩, ⟨_, _⟩, ⟨p0, p1, p2⟩, r1, _, _⟩ := x
   obtain ⟨⟨_, _⟩, ⟨_, _⟩, ⟨q0, q1, q2⟩, r2, _, _⟩ := y
   simp only at x4 x5 x6 x7 y4 y5 y6 y7 HK HPX HPY
   have w1 : (k : Int) - 1 = (j : Int) := by omega
   have w2 : IntKind.i64.wrap (j : Int) = (j : Int) := IntWalk.i64_in _ (by omega)
   have lj : (j : Int) < (n : Int) := by omega
   have wk : IntKind.i64.wrap ((k : Int) + 1) = (k : Int) + 1 := IntWalk.i64_in _ (by omega)
   have hlen := clausL_len v k
   clear hx hy hcx hcy hj
   cases r1 with
   | true =>
    have E := Lib.hid (show clausL v (k + 1) = clausL v k by rw [HC.out, if_pos (by rw [HK.out, if_neg (by simp)]), List.append_nil])
    clear HK HC
    go_wp2
    go_roundg g
    case measure => omega
    case rel => exact ⟨k + 1, by omega, by omega, by go_num, by rw [E.out]; exact hrow, hT, k0⟩
   | false =>
    cases r2 with
    | true =>
     have E := Lib.hid (show clausL v (k + 1) = clausL v k by rw [HC.out, if_pos (by rw [HK.out, if_neg (by simp)]), List.append_nil])
     clear HK HC
     go_wp2
     go_roundg g
     case measure => omega
     case rel => exact ⟨k + 1, by omega, by omega, by go_num, by rw [E.out]; exact hrow, hT, k0⟩
    | false =>
     obtain ⟨wq, hwq⟩ : ∃ z, z = wr := ⟨_, rfl⟩
     subst hwq
     have qa := fun W (hW : Below wq.heap.size wq W) => cbtw_ok (p0, p1, p2) (q0, q1, q2) (HPX.out rfl) (HPY.out rfl) W (ht.kept (below_call k0 hW))
     have HBD := btw_bd (HPX.out rfl) (HPY.out rfl)
     obtain ⟨⟨s, hh⟩, hs⟩ : ∃ z, z = btw (p0, p1, p2) (q0, q1, q2) := ⟨_, rfl⟩
     rw [← hs] at qa HBD
     have HK2 := Lib.hid (show clK v k = clOf s by rw [HK.out, if_pos ⟨rfl, rfl⟩, ← hs])
     clear hs HK
     simp only at HBD
     have os : okI s := by unfold okI; omega
     obtain ⟨kv, bb, hkb⟩ : ∃ kv bb, (kv, bb) = ((clF s).getD 0, (clF s).isSome) := ⟨_, _, rfl⟩
     have HKB := Lib.hid hkb
     have lkF := fun W (hW : Below wq.heap.size wq W) => (hT.call hW).look Tryz.underlying202 (y0 := (0 : Int)) (zero_int W) (show okI 0 by unfold okI; omega) (x := s) os
     simp only [Prod.mk.injEq] at hkb
     rw [← hkb.1, ← hkb.2] at lkF
     have lkF : ∀ W, Below wq.heap.size wq W → (Instr.lookup 202 (.map (some mb)) (.int .i64 s) true).run Tryz.prog W = .ok (.tuple #[.int .i64 kv, .bool bb]) W := lkF
     clear hkb HBD os
     go_wp2_with fail
     go_region_held3 (fun w' => w'.cell? ⟨bx, ox + j * 10 + 4, none⟩ = some (.int .i64 p0) ∧ w'.cell? ⟨bx, ox + j * 10 + 5, none⟩ = some (.int .i64 p1) ∧ w'.cell? ⟨bx, ox + j * 10 + 6, none⟩ = some (.int .i64 p2) ∧ w'.cell? ⟨bx, ox + k * 10 + 4, none⟩ = some (.int .i64 q0) ∧ w'.cell? ⟨bx, ox + k * 10 + 5, none⟩ = some (.int .i64 q1) ∧ w'.cell? ⟨bx, ox + k * 10 + 6, none⟩ = some (.int .i64 q2) ∧ Below wq.heap.size wq w') ((refine (fun hb => ⟨(hb.cell (p := ⟨_, _, none⟩) hbx).trans x4, (hb.cell (p := ⟨_, _, none⟩) hbx).trans x5, (hb.cell (p := ⟨_, _, none⟩) hbx).trans x6, (hb.cell (p := ⟨_, _, none⟩) hbx).trans y4, (hb.cell (p := ⟨_, _, none⟩) hbx).trans y5, (hb.cell (p := ⟨_, _, none⟩) hbx).trans y6, hb⟩) ?_; repeat (first | with_reducible (first | exact Below.refl _ _ | exact hBd | exact (show _ ∧ _ ∧ _ ∧ _ ∧ _ ∧ _ ∧ Below wq.heap.size wq _ by assumption).2.2.2.2.2.2 | refine Below.drew ?_)))) (first | (go_at_call 114; refine Calls.mono (qa _ (show _ ∧ _ ∧ _ ∧ _ ∧ _ ∧ _ ∧ Below wq.heap.size wq _ by assumption).2.2.2.2.2.2) ?_; rintro e wd ⟨rfl, hbd⟩; have hBd := below_call (show _ ∧ _ ∧ _ ∧ _ ∧ _ ∧ _ ∧ Below wq.heap.size wq _ by assumption).2.2.2.2.2.2 hbd; have lk := lkF wd hBd))
     all_goals
      have hB5 := (show _ ∧ _ ∧ _ ∧ _ ∧ _ ∧ _ ∧ Below wq.heap.size wq _ by assumption).2.2.2.2.2.2
      obtain ⟨wv, hwv⟩ := name_world hB5
      rw [← hwv] at hB5 ⊢
      have rowV := own_call hrow hB5
      have tV := hT.call hB5
      have kV := below_call k0 hB5
      have zV := kV.size
      clear hwv lk hbd hrow hT qa lkF x4 x5 x6 y4 y5 y6 x7 y7 hbx hby
      cases bb with
      | false =>
       have E := Lib.hid (show clausL v (k + 1) = clausL v k by
        rw [HC.out, if_pos (by
         rw [HK2.out]
         have := congrArg Prod.snd HKB.out
         simp only [clF] at this
         by_cases h0 : clOf s = 0
         ·exact h0
         ·rw [if_neg h0] at this; cases this), List.append_nil])
       clear HKB HK2 HC
       go_wp2
       go_roundg g
       case measure => omega
       case rel => exact ⟨k + 1, by omega, by omega, by go_num, by rw [E.out]; exact rowV, tV, kV⟩
      | true =>
       have E := Lib.hid (show clausL v (k + 1) = clausL v k ++ [((k : Int), kv)] by
        have h1 := congrArg Prod.snd HKB.out
        have h2 := congrArg Prod.fst HKB.out
        simp only [clF] at h1 h2
        by_cases h0 : clOf s = 0
        ·rw [if_pos h0] at h1; cases h1
        ·rw [if_neg h0] at h2
         rw [HC.out, if_neg (by rw [HK2.out]; exact h0), HK2.out, h2]; rfl)
       clear HKB HK2 HC
       go_wp2_with (at_builtin; (refine wpList_append_any _ rfl (.tmp 47) (.tmp 51) 184 rfl w.heap.size 187 i0 _ 2 16 Tryz.underlying184 hi0 hz0 hz1 hz2 rfl (by omega) u4 (clausL v k).length (csT (clausL v k)) rfl (own_call rowV (below_alloc (Below.refl _ _) _)) (wv.heap.size + 1) (some ⟨wv.heap.size, 0, none⟩) 1 1 (csT [((k : Int), kv)]) rfl (Reads.newAt _ _ _ 1 2 _ rfl rfl) (one_csT _) (by simp only [maxLen]; omega) (by omega) (by simp; omega) ?_); intro v5 w5 hown5 hg5 hat5)
       have rA := own_call rowV (below_alloc (Below.refl wv.heap.size wv) (.cells #[.int .i64 (k : Int), .int .i64 kv] 187))
       have hB6 : Below w.heap.size wv w5 := Below.grown (B := w.heap.size) (a := wv) ((below_alloc (Below.refl wv.heap.size wv) (.cells #[.int .i64 (k : Int), .int .i64 kv] 187)).mono (by omega)) hg5 (by simp; omega) (fun x hx => (rowV.lt x hx).1)
       have t5 := (tV.call (below_alloc (Below.refl wv.heap.size wv) (.cells #[.int .i64 (k : Int), .int .i64 kv] 187))).grown hg5 (own_ne (tV.call (below_alloc (Below.refl wv.heap.size wv) (.cells #[.int .i64 (k : Int), .int .i64 kv] 187))) rA)
       go_roundg g
       case measure => omega
       case rel => exact ⟨k + 1, by omega, by omega, by go_num, by rw [E.out, csT_append, List.length_append]; exact hown5, t5, kV.trans hB6⟩
def ReadsB (w : World) (B : Nat) (v : Value) (l : List Tm) : Prop := ∃ A c, v = .slice A l.length c ∧ Reads w B 2 A l.length (csT l) ∧ l.length ≤ c ∧ c ≤ 9223372036854775807
theorem ReadsB.below {w w' : World} {B : Nat} {v : Value} {l : List Tm} (h : ReadsB w B v l) (hb : Below B w w') : ReadsB w' B v l := by
 obtain ⟨A, c, e, hr, h1, h2⟩ := h
 exact ⟨A, c, e, hr.keep fun b o hbo => hb.cell (p := ⟨b, o, none⟩) hbo, h1, h2⟩
theorem ReadsB.nil_form {w : World} {B : Nat} {v : Value} (h : ReadsB w B v []) : ∃ A c, v = .slice A 0 c := by
 obtain ⟨A, c, e, _⟩ := h
 exact ⟨A, c, e⟩
theorem ReadsB.cons_form {w : World} {B : Nat} {v : Value} {x : Tm} {l : List Tm} (h : ReadsB w B v (x :: l)) :
  ∃ b off n c, n = l.length + 1 ∧ v = .slice (some ⟨b, off, none⟩) n c ∧ b < B ∧ w.cell? ⟨b, off, none⟩ = some (.int .i64 x.1) ∧ w.cell? ⟨b, off + 1, none⟩ = some (.int .i64 x.2) ∧
   ∃ A' c', ReadsB w B (.slice A' l.length c') l ∧ ∀ W : World, (Instr.slice 88 v (some (.int .i64 1)) none none).run Tryz.prog W = .ok (.slice A' l.length c') W := by
 obtain ⟨A, c, e, hr, h1, h2⟩ := h
 obtain ⟨b, off, hA, hb, hc⟩ := hr.elem (f := cT) (fun _ => rfl) (k := 0) (by simp) rfl
 subst hA
 obtain ⟨A', hA', hs⟩ := tm_tail (some ⟨b, off, none⟩) 1 (x :: l).length c (by simp) h1
 refine ⟨b, off, _, c, rfl, e, hb, by simpa using hc 0 _ rfl, by simpa using hc 1 _ rfl, A', c - 1, ⟨A', c - 1, rfl, ?_, by simp at h1; omega, by omega⟩, fun W => by rw [e]; exact hs W⟩
 have := reads_drop2 hr (k := 1) (by simp) A' hA'
 simpa using this
theorem own_last {w : World} {base n : Nat} {v : Value} {o : List Tm} (h : w.ownsRow base 45 2 v (n + 1) (csT o)) : ∃ b off c z, v = .slice (some ⟨b, off, none⟩) (n + 1) c ∧ b < w.heap.size ∧ o.getLast? = some z ∧ w.cell? ⟨b, off + n * 2, none⟩ = some (.int .i64 z.1) ∧ w.cell? ⟨b, off + n * 2 + 1, none⟩ = some (.int .i64 z.2) := by
 obtain ⟨A, c, e, hr, _, _⟩ := own_reads h
 have hl := hr.tlen
 obtain ⟨z, hz⟩ : ∃ z, o[n]? = some z := ⟨_, List.getElem?_eq_getElem (by omega)⟩
 obtain ⟨b, off, hA, hb, h0, h1⟩ := hr.tm (Nat.le_refl _) (Below.refl _ _) (k := n) (by omega) hz
 subst hA
 exact ⟨b, off, c, z, e, hb, by rw [List.getLast?_eq_getElem?, hl]; simpa using hz, h0, h1⟩
theorem two_parts (a b a' b' : Int) : (a = a' ∧ b = b') ∨ a ≠ a' ∨ (a = a' ∧ b ≠ b') := by omega
theorem mrg_swap {n : Nat} {o a b : List Tm} (h : swapB a b = true) : mrg (n + 1) o a b = mrg n (addE o (b.headD (0, 1))) b.tail a := by
 conv => lhs; unfold mrg
 rw [if_pos h]
theorem mrg_stay {n : Nat} {o a b : List Tm} (h : swapB a b = false) : mrg (n + 1) o a b = mrg n (addE o (a.headD (0, 1))) a.tail b := by
 conv => lhs; unfold mrg
 rw [if_neg (by rw [h]; simp)]
theorem merged_any (va vb : Value) (a b : List Tm) (w : World) (ha : ReadsT w va a) (hb : ReadsT w vb b) (hoa : OkL a) (hob : OkL b) (hl : a.length + b.length ≤ 40000) :
  Calls Tryz.prog 99 #[va, vb, .func (.func 74) #[] #[]] w fun e w' => ∃ v, e = .returned v ∧ w'.ownsRow w.heap.size 45 2 v (mrgS a b).length (csT (mrgS a b)) ∧ Below w.heap.size w w' := by
 have h1 : ReadsB w w.heap.size va a := ha
 have h2 : ReadsB w w.heap.size vb b := hb
 have HO := Lib.hid (And.intro hoa (And.intro hob hl))
 clear ha hb hoa hob hl
 obtain ⟨i0, hi0, hz0, hz1, hz2⟩ := info_parts tm_info
 obtain ⟨A1, c1, rfl, _, _, _⟩ := id h1
 obtain ⟨A2, c2, rfl, _, _, _⟩ := id h2
 go_enter Tryz.func99, Tryz.ntmps99
 go_wp2
 go_loopg [0, 1, 7] (a.length + b.length) (fun g ua ub v wr => ∃ o a' b' : List Tm, a'.length + b'.length = g ∧ ReadsB wr w.heap.size ua a' ∧ ReadsB wr w.heap.size ub b' ∧ wr.ownsRow w.heap.size 45 2 v o.length (csT o) ∧ Hid (mrg g o a' b' = mrgS a b) ∧ Hid (OkL a' ∧ OkL b' ∧ o.length + g ≤ 40000) ∧ Below w.heap.size w wr)
 case atStart => exact ⟨[], a, b, rfl, h1, h2, ⟨rfl, .inl ⟨rfl, rfl⟩⟩, Lib.hid rfl, Lib.hid ⟨HO.out.1, HO.out.2.1, by simpa using HO.out.2.2⟩, Below.refl _ _⟩
 case round =>
  clear h1 h2
  obtain ⟨o, a', b', hg, r1, r2, hown, hm, hok, k0⟩ := hrel
  have hlen := hok.out.2.2
  obtain ⟨N, hN⟩ : ∃ N, N = o.length := ⟨_, rfl⟩
  rw [← hN] at hown hlen
  have HN := Lib.hid hN.symm
  clear hN
  cases gk with
  | zero =>
   obtain rfl : a' = [] := List.eq_nil_of_length_eq_zero (by omega)
   obtain rfl : b' = [] := List.eq_nil_of_length_eq_zero (by omega)
   obtain ⟨A3, c3, rfl⟩ := r1.nil_form
   obtain ⟨A4, c4, rfl⟩ := r2.nil_form
   have E := Lib.hid (show mrgS a b = o from hm.out.symm)
   clear hm
   go_wp2
   go_ret
   rw [E.out, HN.out]
   exact ⟨_, rfl, hown, k0⟩
  | succ g =>
   cases a' with
   | nil =>
    cases b' with
    | nil => simp at hg
    | cons y b' =>
     obtain ⟨A3, c3, rfl⟩ := r1.nil_form
     obtain ⟨bp, op, np, cp, hnp, rfl, hbp, d0, d1, A', c', rT, sT⟩ := r2.cons_form
     have HM := Lib.hid (show mrg g (addE o y) b' [] = mrgS a b by rw [← hm.out, mrg_swap rfl]; rfl)
     have hQ := r1
     obtain ⟨y0, y1⟩ := y
     have dn : ((np : Int) == 0) = false := beq_eq_false_iff_ne.2 (by omega)
     have dg : decide ((0 : Int) < (np : Int)) = true := decide_eq_true (by omega)
     have dt : (1 : Int) ≤ (np : Int) := by omega
     have dnb : (np : Int) ≤ 40001 := by simp only [List.length_cons, List.length_nil] at hg; omega
     simp only at d0 d1
     clear hm hnp r1 r2
     by_cases ho0 : N = 0
     ·subst ho0
      have o0 : o = [] := List.eq_nil_of_length_eq_zero HN.out
      subst o0
      obtain ⟨Ao, co, hov, _, _, _⟩ := own_reads hown
      subst hov
      go_wp2_with fail
      refine wp_region_calm (by kernel_rfl) (by kernel_rfl) ?_
      repeat (go_big_quiet_step (fail))
      refine wpQuiet_nil ?_
      intro w3 g3
      have gB3 : Below w.heap.size wr w3 := g3.mono k0.size
      have ka := k0.size
      have m0 := (gB3.cell (p := ⟨bp, op, none⟩) hbp).trans d0
      have m1 := (gB3.cell (p := ⟨bp, op + 1, none⟩) hbp).trans d1
      have lb3 : bp < w3.heap.size := by have := g3.size; omega
      go_wp2_with fail
      refine wp_region_calm (by kernel_rfl) (by kernel_rfl) ?_
      repeat (go_big_quiet_step (fail))
      refine wpQuiet_nil ?_
      intro w4 g4
      have gB4 : Below w.heap.size wr w4 := gB3.trans (g4.mono (by have := g3.size; omega))
      have f0 := (gB4.cell (p := ⟨bp, op, none⟩) hbp).trans d0
      have f1 := (gB4.cell (p := ⟨bp, op + 1, none⟩) hbp).trans d1
      have lb4 : bp < w4.heap.size := by have := k0.size; have := g3.size; have := g4.size; omega
      have k4 := below_call (below_call k0 g3) g4
      have own4 := own_call (own_call hown g3) g4
      have hEA := Lib.hid (show addE [] (y0, y1) = [] ++ [(y0, y1)] by rfl)
      go_wp2_with (at_builtin; (refine wpList_append_any _ rfl (.tmp 50) (.tmp 54) 88 rfl w.heap.size 45 i0 _ 2 16 Tryz.underlying88 hi0 hz0 hz1 hz2 rfl (by omega) _ 0 (csT []) rfl (own_call own4 (below_alloc (Below.refl _ _) _)) (w4.heap.size + 1) (some ⟨w4.heap.size, 0, none⟩) 1 1 (csT [(y0, y1)]) rfl (Reads.newAt _ _ _ 1 2 _ rfl rfl) (one_csT _) (by simp only [maxLen]; omega) (by omega) (by have := k4.size; simp; omega) ?_); intro v5 w5 hown5 hg5 hat5)
      have k5 : Below w.heap.size w w5 := Below.grown (B := w.heap.size) (a := w) (below_alloc k4 _) hg5 (by have := k4.size; simp; omega) (fun q hq => (hown.lt q hq).1)
      have gB5 : Below w.heap.size wr w5 := Below.grown (B := w.heap.size) (a := wr) (gB4.alloc (by have := k4.size; omega) _) hg5 (by have := k4.size; simp; omega) (fun q hq => (hown.lt q hq).1)
      go_roundg g
      case measure => omega
      case rel => exact ⟨[] ++ [(y0, y1)], b', [], by simp only [List.length_cons, List.length_nil] at hg ⊢; omega, rT.below gB5, hQ.below gB5, by rw [csT_append]; exact hown5, Lib.hid (by rw [← hEA.out]; exact HM.out), Lib.hid ⟨(fun u hu => hok.out.2.1 u (List.mem_cons_of_mem _ hu)), (fun u hu => by cases hu), by simp; omega⟩, k5⟩
     ·obtain ⟨no, rfl⟩ : ∃ no, N = no + 1 := ⟨N - 1, by omega⟩
      have dz : ((no : Int) + 1 == 0) = false := beq_eq_false_iff_ne.2 (by omega)
      obtain ⟨bo, oo, co, ⟨z0, z1⟩, hov, hbo, hlast, e0, e1⟩ := own_last hown
      subst hov
      have t2 : IntKind.i64.wrap (no : Int) = (no : Int) := IntWalk.i64_in _ (by omega)
      have t4 : (no : Int) < (no : Int) + 1 := by omega
      have t5 : (no : Int) ≤ 40000 := by omega
      simp only at e0 e1
      rcases two_parts z0 z1 y0 y1 with ⟨rfl, rfl⟩ | hz
      ·go_wp2_with fail
       refine wp_region_calm (by kernel_rfl) (by kernel_rfl) ?_
       repeat (go_big_quiet_step (fail))
       refine wpQuiet_nil ?_
       intro w3 g3
       have gB3 : Below w.heap.size wr w3 := g3.mono k0.size
       have ka := k0.size
       have m0 := (gB3.cell (p := ⟨bp, op, none⟩) hbp).trans d0
       have m1 := (gB3.cell (p := ⟨bp, op + 1, none⟩) hbp).trans d1
       have lb3 : bp < w3.heap.size := by have := g3.size; omega
       have j0 := (g3.cell (p := ⟨bo, oo + no * 2, none⟩) hbo).trans e0
       have j1 := (g3.cell (p := ⟨bo, oo + no * 2 + 1, none⟩) hbo).trans e1
       have lo3 : bo < w3.heap.size := by have := g3.size; omega
       go_wp2_with fail
       refine wp_region_calm (by kernel_rfl) (by kernel_rfl) ?_
       repeat (go_big_quiet_step (fail))
       refine wpQuiet_nil ?_
       intro w4 g4
       have gB4 : Below w.heap.size wr w4 := gB3.trans (g4.mono (by have := g3.size; omega))
       clear t2 t4 t5
       have k4 := below_call (below_call k0 g3) g4
       have own4 := own_call (own_call hown g3) g4
       have hEA := Lib.hid (show addE o (z0, z1) = o by unfold addE; rw [hlast, if_pos rfl])
       go_wp2_with fail
       go_roundg g
       case measure => omega
       case rel => exact ⟨o, b', [], by simp only [List.length_cons, List.length_nil] at hg ⊢; omega, rT.below gB4, hQ.below gB4, by rw [HN.out]; exact own4, Lib.hid (by rw [← hEA.out]; exact HM.out), Lib.hid ⟨(fun u hu => hok.out.2.1 u (List.mem_cons_of_mem _ hu)), (fun u hu => by cases hu), by rw [HN.out]; omega⟩, k4⟩
      ·have hne : ¬ ((z0, z1) : Tm) = (y0, y1) := by rcases hz with h | ⟨_, h⟩ <;> intro e <;> cases e <;> exact h rfl
       have hd : (z0 == y0) = false ∨ ((z0 == y0) = true ∧ (z1 == y1) = false) := by rcases hz with h | ⟨h, h'⟩; exact .inl (by simpa using h); exact .inr ⟨by simpa using h, by simpa using h'⟩
       clear hz
       rcases hd with v0 | ⟨v0, v1⟩
       all_goals
        go_wp2_with fail
        refine wp_region_calm (by kernel_rfl) (by kernel_rfl) ?_
        repeat (go_big_quiet_step (fail))
        refine wpQuiet_nil ?_
        intro w3 g3
        have gB3 : Below w.heap.size wr w3 := g3.mono k0.size
        have ka := k0.size
        have m0 := (gB3.cell (p := ⟨bp, op, none⟩) hbp).trans d0
        have m1 := (gB3.cell (p := ⟨bp, op + 1, none⟩) hbp).trans d1
        have lb3 : bp < w3.heap.size := by have := g3.size; omega
        have j0 := (g3.cell (p := ⟨bo, oo + no * 2, none⟩) hbo).trans e0
        have j1 := (g3.cell (p := ⟨bo, oo + no * 2 + 1, none⟩) hbo).trans e1
        have lo3 : bo < w3.heap.size := by have := g3.size; omega
        go_wp2_with fail
        refine wp_region_calm (by kernel_rfl) (by kernel_rfl) ?_
        repeat (go_big_quiet_step (fail))
        refine wpQuiet_nil ?_
        intro w4 g4
        have gB4 : Below w.heap.size wr w4 := gB3.trans (g4.mono (by have := g3.size; omega))
        clear t2 t4 t5
        have f0 := (gB4.cell (p := ⟨bp, op, none⟩) hbp).trans d0
        have f1 := (gB4.cell (p := ⟨bp, op + 1, none⟩) hbp).trans d1
        have lb4 : bp < w4.heap.size := by have := k0.size; have := g3.size; have := g4.size; omega
        have k4 := below_call (below_call k0 g3) g4
        have own4 := own_call (own_call hown g3) g4
        have hEA := Lib.hid (show addE o (y0, y1) = o ++ [(y0, y1)] by unfold addE; rw [hlast, if_neg (fun h => hne (Option.some.inj h))])
        go_wp2_with (at_builtin; (refine wpList_append_any _ rfl (.tmp 50) (.tmp 54) 88 rfl w.heap.size 45 i0 _ 2 16 Tryz.underlying88 hi0 hz0 hz1 hz2 rfl (by omega) _ (no + 1) (csT o) rfl (own_call own4 (below_alloc (Below.refl _ _) _)) (w4.heap.size + 1) (some ⟨w4.heap.size, 0, none⟩) 1 1 (csT [(y0, y1)]) rfl (Reads.newAt _ _ _ 1 2 _ rfl rfl) (one_csT _) (by simp only [maxLen]; omega) (by omega) (by have := k4.size; simp; omega) ?_); intro v5 w5 hown5 hg5 hat5)
        have k5 : Below w.heap.size w w5 := Below.grown (B := w.heap.size) (a := w) (below_alloc k4 _) hg5 (by have := k4.size; simp; omega) (fun q hq => (hown.lt q hq).1)
        have gB5 : Below w.heap.size wr w5 := Below.grown (B := w.heap.size) (a := wr) (gB4.alloc (by have := k4.size; omega) _) hg5 (by have := k4.size; simp; omega) (fun q hq => (hown.lt q hq).1)
        go_roundg g
        case measure => omega
        case rel => exact ⟨o ++ [(y0, y1)], b', [], by simp only [List.length_cons, List.length_nil] at hg ⊢; omega, rT.below gB5, hQ.below gB5, by rw [List.length_append, HN.out, csT_append]; exact hown5, Lib.hid (by rw [← hEA.out]; exact HM.out), Lib.hid ⟨(fun u hu => hok.out.2.1 u (List.mem_cons_of_mem _ hu)), (fun u hu => by cases hu), by rw [List.length_append, HN.out]; simp; omega⟩, k5⟩
   | cons x a' =>
    cases b' with
    | nil =>
     obtain ⟨A3, c3, rfl⟩ := r2.nil_form
     obtain ⟨bp, op, np, cp, hnp, rfl, hbp, d0, d1, A', c', rT, sT⟩ := r1.cons_form
     have HM := Lib.hid (show mrg g (addE o x) a' [] = mrgS a b by rw [← hm.out, mrg_stay rfl]; rfl)
     have hQ := r2
     obtain ⟨x0, x1⟩ := x
     have dn : ((np : Int) == 0) = false := beq_eq_false_iff_ne.2 (by omega)
     have dg : decide ((0 : Int) < (np : Int)) = true := decide_eq_true (by omega)
     have dt : (1 : Int) ≤ (np : Int) := by omega
     have dnb : (np : Int) ≤ 40001 := by simp only [List.length_cons, List.length_nil] at hg; omega
     simp only at d0 d1
     clear hm hnp r1 r2
     by_cases ho0 : N = 0
     ·subst ho0
      have o0 : o = [] := List.eq_nil_of_length_eq_zero HN.out
      subst o0
      obtain ⟨Ao, co, hov, _, _, _⟩ := own_reads hown
      subst hov
      go_wp2_with fail
      refine wp_region_calm (by kernel_rfl) (by kernel_rfl) ?_
      repeat (go_big_quiet_step (fail))
      refine wpQuiet_nil ?_
      intro w3 g3
      have gB3 : Below w.heap.size wr w3 := g3.mono k0.size
      have ka := k0.size
      have m0 := (gB3.cell (p := ⟨bp, op, none⟩) hbp).trans d0
      have m1 := (gB3.cell (p := ⟨bp, op + 1, none⟩) hbp).trans d1
      have lb3 : bp < w3.heap.size := by have := g3.size; omega
      go_wp2_with fail
      refine wp_region_calm (by kernel_rfl) (by kernel_rfl) ?_
      repeat (go_big_quiet_step (fail))
      refine wpQuiet_nil ?_
      intro w4 g4
      have gB4 : Below w.heap.size wr w4 := gB3.trans (g4.mono (by have := g3.size; omega))
      have f0 := (gB4.cell (p := ⟨bp, op, none⟩) hbp).trans d0
      have f1 := (gB4.cell (p := ⟨bp, op + 1, none⟩) hbp).trans d1
      have lb4 : bp < w4.heap.size := by have := k0.size; have := g3.size; have := g4.size; omega
      have k4 := below_call (below_call k0 g3) g4
      have own4 := own_call (own_call hown g3) g4
      have hEA := Lib.hid (show addE [] (x0, x1) = [] ++ [(x0, x1)] by rfl)
      go_wp2_with (at_builtin; (refine wpList_append_any _ rfl (.tmp 50) (.tmp 54) 88 rfl w.heap.size 45 i0 _ 2 16 Tryz.underlying88 hi0 hz0 hz1 hz2 rfl (by omega) _ 0 (csT []) rfl (own_call own4 (below_alloc (Below.refl _ _) _)) (w4.heap.size + 1) (some ⟨w4.heap.size, 0, none⟩) 1 1 (csT [(x0, x1)]) rfl (Reads.newAt _ _ _ 1 2 _ rfl rfl) (one_csT _) (by simp only [maxLen]; omega) (by omega) (by have := k4.size; simp; omega) ?_); intro v5 w5 hown5 hg5 hat5)
      have k5 : Below w.heap.size w w5 := Below.grown (B := w.heap.size) (a := w) (below_alloc k4 _) hg5 (by have := k4.size; simp; omega) (fun q hq => (hown.lt q hq).1)
      have gB5 : Below w.heap.size wr w5 := Below.grown (B := w.heap.size) (a := wr) (gB4.alloc (by have := k4.size; omega) _) hg5 (by have := k4.size; simp; omega) (fun q hq => (hown.lt q hq).1)
      go_roundg g
      case measure => omega
      case rel => exact ⟨[] ++ [(x0, x1)], a', [], by simp only [List.length_cons, List.length_nil] at hg ⊢; omega, rT.below gB5, hQ.below gB5, by rw [csT_append]; exact hown5, Lib.hid (by rw [← hEA.out]; exact HM.out), Lib.hid ⟨(fun u hu => hok.out.1 u (List.mem_cons_of_mem _ hu)), (fun u hu => by cases hu), by simp; omega⟩, k5⟩
     ·obtain ⟨no, rfl⟩ : ∃ no, N = no + 1 := ⟨N - 1, by omega⟩
      have dz : ((no : Int) + 1 == 0) = false := beq_eq_false_iff_ne.2 (by omega)
      obtain ⟨bo, oo, co, ⟨z0, z1⟩, hov, hbo, hlast, e0, e1⟩ := own_last hown
      subst hov
      have t2 : IntKind.i64.wrap (no : Int) = (no : Int) := IntWalk.i64_in _ (by omega)
      have t4 : (no : Int) < (no : Int) + 1 := by omega
      have t5 : (no : Int) ≤ 40000 := by omega
      simp only at e0 e1
      rcases two_parts z0 z1 x0 x1 with ⟨rfl, rfl⟩ | hz
      ·go_wp2_with fail
       refine wp_region_calm (by kernel_rfl) (by kernel_rfl) ?_
       repeat (go_big_quiet_step (fail))
       refine wpQuiet_nil ?_
       intro w3 g3
       have gB3 : Below w.heap.size wr w3 := g3.mono k0.size
       have ka := k0.size
       have m0 := (gB3.cell (p := ⟨bp, op, none⟩) hbp).trans d0
       have m1 := (gB3.cell (p := ⟨bp, op + 1, none⟩) hbp).trans d1
       have lb3 : bp < w3.heap.size := by have := g3.size; omega
       have j0 := (g3.cell (p := ⟨bo, oo + no * 2, none⟩) hbo).trans e0
       have j1 := (g3.cell (p := ⟨bo, oo + no * 2 + 1, none⟩) hbo).trans e1
       have lo3 : bo < w3.heap.size := by have := g3.size; omega
       go_wp2_with fail
       refine wp_region_calm (by kernel_rfl) (by kernel_rfl) ?_
       repeat (go_big_quiet_step (fail))
       refine wpQuiet_nil ?_
       intro w4 g4
       have gB4 : Below w.heap.size wr w4 := gB3.trans (g4.mono (by have := g3.size; omega))
       clear t2 t4 t5
       have k4 := below_call (below_call k0 g3) g4
       have own4 := own_call (own_call hown g3) g4
       have hEA := Lib.hid (show addE o (z0, z1) = o by unfold addE; rw [hlast, if_pos rfl])
       go_wp2_with fail
       go_roundg g
       case measure => omega
       case rel => exact ⟨o, a', [], by simp only [List.length_cons, List.length_nil] at hg ⊢; omega, rT.below gB4, hQ.below gB4, by rw [HN.out]; exact own4, Lib.hid (by rw [← hEA.out]; exact HM.out), Lib.hid ⟨(fun u hu => hok.out.1 u (List.mem_cons_of_mem _ hu)), (fun u hu => by cases hu), by rw [HN.out]; omega⟩, k4⟩
      ·have hne : ¬ ((z0, z1) : Tm) = (x0, x1) := by rcases hz with h | ⟨_, h⟩ <;> intro e <;> cases e <;> exact h rfl
       have hd : (z0 == x0) = false ∨ ((z0 == x0) = true ∧ (z1 == x1) = false) := by rcases hz with h | ⟨h, h'⟩; exact .inl (by simpa using h); exact .inr ⟨by simpa using h, by simpa using h'⟩
       clear hz
       rcases hd with v0 | ⟨v0, v1⟩
       all_goals
        go_wp2_with fail
        refine wp_region_calm (by kernel_rfl) (by kernel_rfl) ?_
        repeat (go_big_quiet_step (fail))
        refine wpQuiet_nil ?_
        intro w3 g3
        have gB3 : Below w.heap.size wr w3 := g3.mono k0.size
        have ka := k0.size
        have m0 := (gB3.cell (p := ⟨bp, op, none⟩) hbp).trans d0
        have m1 := (gB3.cell (p := ⟨bp, op + 1, none⟩) hbp).trans d1
        have lb3 : bp < w3.heap.size := by have := g3.size; omega
        have j0 := (g3.cell (p := ⟨bo, oo + no * 2, none⟩) hbo).trans e0
        have j1 := (g3.cell (p := ⟨bo, oo + no * 2 + 1, none⟩) hbo).trans e1
        have lo3 : bo < w3.heap.size := by have := g3.size; omega
        go_wp2_with fail
        refine wp_region_calm (by kernel_rfl) (by kernel_rfl) ?_
        repeat (go_big_quiet_step (fail))
        refine wpQuiet_nil ?_
        intro w4 g4
        have gB4 : Below w.heap.size wr w4 := gB3.trans (g4.mono (by have := g3.size; omega))
        clear t2 t4 t5
        have f0 := (gB4.cell (p := ⟨bp, op, none⟩) hbp).trans d0
        have f1 := (gB4.cell (p := ⟨bp, op + 1, none⟩) hbp).trans d1
        have lb4 : bp < w4.heap.size := by have := k0.size; have := g3.size; have := g4.size; omega
        have k4 := below_call (below_call k0 g3) g4
        have own4 := own_call (own_call hown g3) g4
        have hEA := Lib.hid (show addE o (x0, x1) = o ++ [(x0, x1)] by unfold addE; rw [hlast, if_neg (fun h => hne (Option.some.inj h))])
        go_wp2_with (at_builtin; (refine wpList_append_any _ rfl (.tmp 50) (.tmp 54) 88 rfl w.heap.size 45 i0 _ 2 16 Tryz.underlying88 hi0 hz0 hz1 hz2 rfl (by omega) _ (no + 1) (csT o) rfl (own_call own4 (below_alloc (Below.refl _ _) _)) (w4.heap.size + 1) (some ⟨w4.heap.size, 0, none⟩) 1 1 (csT [(x0, x1)]) rfl (Reads.newAt _ _ _ 1 2 _ rfl rfl) (one_csT _) (by simp only [maxLen]; omega) (by omega) (by have := k4.size; simp; omega) ?_); intro v5 w5 hown5 hg5 hat5)
        have k5 : Below w.heap.size w w5 := Below.grown (B := w.heap.size) (a := w) (below_alloc k4 _) hg5 (by have := k4.size; simp; omega) (fun q hq => (hown.lt q hq).1)
        have gB5 : Below w.heap.size wr w5 := Below.grown (B := w.heap.size) (a := wr) (gB4.alloc (by have := k4.size; omega) _) hg5 (by have := k4.size; simp; omega) (fun q hq => (hown.lt q hq).1)
        go_roundg g
        case measure => omega
        case rel => exact ⟨o ++ [(x0, x1)], a', [], by simp only [List.length_cons, List.length_nil] at hg ⊢; omega, rT.below gB5, hQ.below gB5, by rw [List.length_append, HN.out, csT_append]; exact hown5, Lib.hid (by rw [← hEA.out]; exact HM.out), Lib.hid ⟨(fun u hu => hok.out.1 u (List.mem_cons_of_mem _ hu)), (fun u hu => by cases hu), by rw [List.length_append, HN.out]; simp; omega⟩, k5⟩
    | cons y b' =>
     have hox := hok.out.1 x (by simp)
     have hoy := hok.out.2.1 y (by simp)
     have q1 := fun W => compare_any y x W
     have hc := cmp_lt hoy hox
     obtain ⟨r, hr⟩ : ∃ r, r = (cmpS y x).1 := ⟨_, rfl⟩
     rw [← hr] at q1 hc
     by_cases hyx : ltT y x
     ·have dr : decide (r < 0) = true := by rw [hc]; simpa using hyx
      have HM := Lib.hid (show mrg g (addE o y) b' (x :: a') = mrgS a b by rw [← hm.out, mrg_swap (by simpa [swapB] using hyx)]; rfl)
      have hQ := r1
      obtain ⟨bq, oq, nq, cq, hnq, rfl, hbq, z0c, z1c, _, _, _, _⟩ := r1.cons_form
      obtain ⟨bp, op, np, cp, hnp, rfl, hbp, d0, d1, A', c', rT, sT⟩ := r2.cons_form
      obtain ⟨y0, y1⟩ := y
      obtain ⟨x0, x1⟩ := x
      have dn : ((np : Int) == 0) = false := beq_eq_false_iff_ne.2 (by omega)
      have dg : decide ((0 : Int) < (np : Int)) = true := decide_eq_true (by omega)
      have hbp2 : bp < wr.heap.size := Nat.lt_of_lt_of_le hbp k0.size
      have hbq2 : bq < wr.heap.size := Nat.lt_of_lt_of_le hbq k0.size
      have dgn : decide (0 < np) = true := decide_eq_true (by omega)
      have dgqn : decide (0 < nq) = true := decide_eq_true (by omega)
      have dnq : ((nq : Int) == 0) = false := beq_eq_false_iff_ne.2 (by omega)
      have dgq : decide ((0 : Int) < (nq : Int)) = true := decide_eq_true (by omega)
      have dt : (1 : Int) ≤ (np : Int) := by omega
      have dnb : (np : Int) + (nq : Int) ≤ 40002 := by simp only [List.length_cons] at hg; omega
      have dnc : (0 : Int) ≤ (np : Int) ∧ (np : Int) ≤ 40002 ∧ (nq : Int) ≤ 40002 := by omega
      have dtq : (0 : Int) < (nq : Int) := by omega
      simp only at d0 d1 z0c z1c q1
      clear hm hnp hnq r1 r2 hc hr hyx hox hoy
      by_cases ho0 : N = 0
      ·subst ho0
       have o0 : o = [] := List.eq_nil_of_length_eq_zero HN.out
       subst o0
       obtain ⟨Ao, co, hov, _, _, _⟩ := own_reads hown
       subst hov
       go_wp2_with fail
       refine wp_region_calm (by kernel_rfl) (by kernel_rfl) ?_
       repeat (go_big_quiet_step ((go_at_call 74; exact calm_call (q1 _))))
       refine wpQuiet_nil ?_
       intro w3 g3
       have gB3 : Below w.heap.size wr w3 := g3.mono k0.size
       have ka := k0.size
       have m0 := (gB3.cell (p := ⟨bp, op, none⟩) hbp).trans d0
       have m1 := (gB3.cell (p := ⟨bp, op + 1, none⟩) hbp).trans d1
       have lb3 : bp < w3.heap.size := by have := g3.size; omega
       go_wp2_with fail
       refine wp_region_calm (by kernel_rfl) (by kernel_rfl) ?_
       repeat (go_big_quiet_step (fail))
       refine wpQuiet_nil ?_
       intro w4 g4
       have gB4 : Below w.heap.size wr w4 := gB3.trans (g4.mono (by have := g3.size; omega))
       have f0 := (gB4.cell (p := ⟨bp, op, none⟩) hbp).trans d0
       have f1 := (gB4.cell (p := ⟨bp, op + 1, none⟩) hbp).trans d1
       have lb4 : bp < w4.heap.size := by have := k0.size; have := g3.size; have := g4.size; omega
       have k4 := below_call (below_call k0 g3) g4
       have own4 := own_call (own_call hown g3) g4
       have hEA := Lib.hid (show addE [] (y0, y1) = [] ++ [(y0, y1)] by rfl)
       go_wp2_with (at_builtin; (refine wpList_append_any _ rfl (.tmp 50) (.tmp 54) 88 rfl w.heap.size 45 i0 _ 2 16 Tryz.underlying88 hi0 hz0 hz1 hz2 rfl (by omega) _ 0 (csT []) rfl (own_call own4 (below_alloc (Below.refl _ _) _)) (w4.heap.size + 1) (some ⟨w4.heap.size, 0, none⟩) 1 1 (csT [(y0, y1)]) rfl (Reads.newAt _ _ _ 1 2 _ rfl rfl) (one_csT _) (by simp only [maxLen]; omega) (by omega) (by have := k4.size; simp; omega) ?_); intro v5 w5 hown5 hg5 hat5)
       have k5 : Below w.heap.size w w5 := Below.grown (B := w.heap.size) (a := w) (below_alloc k4 _) hg5 (by have := k4.size; simp; omega) (fun q hq => (hown.lt q hq).1)
       have gB5 : Below w.heap.size wr w5 := Below.grown (B := w.heap.size) (a := wr) (gB4.alloc (by have := k4.size; omega) _) hg5 (by have := k4.size; simp; omega) (fun q hq => (hown.lt q hq).1)
       go_roundg g
       case measure => omega
       case rel => exact ⟨[] ++ [(y0, y1)], b', ((x0, x1) :: a'), by simp only [List.length_cons] at hg ⊢; omega, rT.below gB5, hQ.below gB5, by rw [csT_append]; exact hown5, Lib.hid (by rw [← hEA.out]; exact HM.out), Lib.hid ⟨(fun u hu => hok.out.2.1 u (List.mem_cons_of_mem _ hu)), hok.out.1, by simp; omega⟩, k5⟩
      ·obtain ⟨no, rfl⟩ : ∃ no, N = no + 1 := ⟨N - 1, by omega⟩
       have dz : ((no : Int) + 1 == 0) = false := beq_eq_false_iff_ne.2 (by omega)
       obtain ⟨bo, oo, co, ⟨z0, z1⟩, hov, hbo, hlast, e0, e1⟩ := own_last hown
       subst hov
       have t2 : IntKind.i64.wrap (no : Int) = (no : Int) := IntWalk.i64_in _ (by omega)
       have t4 : (no : Int) < (no : Int) + 1 := by omega
       have t5 : (no : Int) ≤ 40000 := by omega
       simp only at e0 e1
       rcases two_parts z0 z1 y0 y1 with ⟨rfl, rfl⟩ | hz
       ·go_wp2_with fail
        refine wp_region_calm (by kernel_rfl) (by kernel_rfl) ?_
        repeat (go_big_quiet_step ((go_at_call 74; exact calm_call (q1 _))))
        refine wpQuiet_nil ?_
        intro w3 g3
        have gB3 : Below w.heap.size wr w3 := g3.mono k0.size
        have ka := k0.size
        have m0 := (gB3.cell (p := ⟨bp, op, none⟩) hbp).trans d0
        have m1 := (gB3.cell (p := ⟨bp, op + 1, none⟩) hbp).trans d1
        have lb3 : bp < w3.heap.size := by have := g3.size; omega
        have j0 := (g3.cell (p := ⟨bo, oo + no * 2, none⟩) hbo).trans e0
        have j1 := (g3.cell (p := ⟨bo, oo + no * 2 + 1, none⟩) hbo).trans e1
        have lo3 : bo < w3.heap.size := by have := g3.size; omega
        go_wp2_with fail
        refine wp_region_calm (by kernel_rfl) (by kernel_rfl) ?_
        repeat (go_big_quiet_step (fail))
        refine wpQuiet_nil ?_
        intro w4 g4
        have gB4 : Below w.heap.size wr w4 := gB3.trans (g4.mono (by have := g3.size; omega))
        clear t2 t4 t5
        have k4 := below_call (below_call k0 g3) g4
        have own4 := own_call (own_call hown g3) g4
        have hEA := Lib.hid (show addE o (z0, z1) = o by unfold addE; rw [hlast, if_pos rfl])
        go_wp2_with fail
        go_roundg g
        case measure => omega
        case rel => exact ⟨o, b', ((x0, x1) :: a'), by simp only [List.length_cons] at hg ⊢; omega, rT.below gB4, hQ.below gB4, by rw [HN.out]; exact own4, Lib.hid (by rw [← hEA.out]; exact HM.out), Lib.hid ⟨(fun u hu => hok.out.2.1 u (List.mem_cons_of_mem _ hu)), hok.out.1, by rw [HN.out]; omega⟩, k4⟩
       ·have hne : ¬ ((z0, z1) : Tm) = (y0, y1) := by rcases hz with h | ⟨_, h⟩ <;> intro e <;> cases e <;> exact h rfl
        have hd : (z0 == y0) = false ∨ ((z0 == y0) = true ∧ (z1 == y1) = false) := by rcases hz with h | ⟨h, h'⟩; exact .inl (by simpa using h); exact .inr ⟨by simpa using h, by simpa using h'⟩
        clear hz
        rcases hd with v0 | ⟨v0, v1⟩
        all_goals
         go_wp2_with fail
         refine wp_region_calm (by kernel_rfl) (by kernel_rfl) ?_
         repeat (go_big_quiet_step ((go_at_call 74; exact calm_call (q1 _))))
         refine wpQuiet_nil ?_
         intro w3 g3
         have gB3 : Below w.heap.size wr w3 := g3.mono k0.size
         have ka := k0.size
         have m0 := (gB3.cell (p := ⟨bp, op, none⟩) hbp).trans d0
         have m1 := (gB3.cell (p := ⟨bp, op + 1, none⟩) hbp).trans d1
         have lb3 : bp < w3.heap.size := by have := g3.size; omega
         have j0 := (g3.cell (p := ⟨bo, oo + no * 2, none⟩) hbo).trans e0
         have j1 := (g3.cell (p := ⟨bo, oo + no * 2 + 1, none⟩) hbo).trans e1
         have lo3 : bo < w3.heap.size := by have := g3.size; omega
         go_wp2_with fail
         refine wp_region_calm (by kernel_rfl) (by kernel_rfl) ?_
         repeat (go_big_quiet_step (fail))
         refine wpQuiet_nil ?_
         intro w4 g4
         have gB4 : Below w.heap.size wr w4 := gB3.trans (g4.mono (by have := g3.size; omega))
         clear t2 t4 t5
         have f0 := (gB4.cell (p := ⟨bp, op, none⟩) hbp).trans d0
         have f1 := (gB4.cell (p := ⟨bp, op + 1, none⟩) hbp).trans d1
         have lb4 : bp < w4.heap.size := by have := k0.size; have := g3.size; have := g4.size; omega
         have k4 := below_call (below_call k0 g3) g4
         have own4 := own_call (own_call hown g3) g4
         have hEA := Lib.hid (show addE o (y0, y1) = o ++ [(y0, y1)] by unfold addE; rw [hlast, if_neg (fun h => hne (Option.some.inj h))])
         go_wp2_with (at_builtin; (refine wpList_append_any _ rfl (.tmp 50) (.tmp 54) 88 rfl w.heap.size 45 i0 _ 2 16 Tryz.underlying88 hi0 hz0 hz1 hz2 rfl (by omega) _ (no + 1) (csT o) rfl (own_call own4 (below_alloc (Below.refl _ _) _)) (w4.heap.size + 1) (some ⟨w4.heap.size, 0, none⟩) 1 1 (csT [(y0, y1)]) rfl (Reads.newAt _ _ _ 1 2 _ rfl rfl) (one_csT _) (by simp only [maxLen]; omega) (by omega) (by have := k4.size; simp; omega) ?_); intro v5 w5 hown5 hg5 hat5)
         have k5 : Below w.heap.size w w5 := Below.grown (B := w.heap.size) (a := w) (below_alloc k4 _) hg5 (by have := k4.size; simp; omega) (fun q hq => (hown.lt q hq).1)
         have gB5 : Below w.heap.size wr w5 := Below.grown (B := w.heap.size) (a := wr) (gB4.alloc (by have := k4.size; omega) _) hg5 (by have := k4.size; simp; omega) (fun q hq => (hown.lt q hq).1)
         go_roundg g
         case measure => omega
         case rel => exact ⟨o ++ [(y0, y1)], b', ((x0, x1) :: a'), by simp only [List.length_cons] at hg ⊢; omega, rT.below gB5, hQ.below gB5, by rw [List.length_append, HN.out, csT_append]; exact hown5, Lib.hid (by rw [← hEA.out]; exact HM.out), Lib.hid ⟨(fun u hu => hok.out.2.1 u (List.mem_cons_of_mem _ hu)), hok.out.1, by rw [List.length_append, HN.out]; simp; omega⟩, k5⟩
     ·have dr : decide (r < 0) = false := by rw [hc]; simpa using hyx
      have HM := Lib.hid (show mrg g (addE o x) a' (y :: b') = mrgS a b by rw [← hm.out, mrg_stay (by simpa [swapB] using hyx)]; rfl)
      have hQ := r2
      obtain ⟨bq, oq, nq, cq, hnq, rfl, hbq, z0c, z1c, _, _, _, _⟩ := r2.cons_form
      obtain ⟨bp, op, np, cp, hnp, rfl, hbp, d0, d1, A', c', rT, sT⟩ := r1.cons_form
      obtain ⟨y0, y1⟩ := y
      obtain ⟨x0, x1⟩ := x
      have dn : ((np : Int) == 0) = false := beq_eq_false_iff_ne.2 (by omega)
      have dg : decide ((0 : Int) < (np : Int)) = true := decide_eq_true (by omega)
      have hbp2 : bp < wr.heap.size := Nat.lt_of_lt_of_le hbp k0.size
      have hbq2 : bq < wr.heap.size := Nat.lt_of_lt_of_le hbq k0.size
      have dgn : decide (0 < np) = true := decide_eq_true (by omega)
      have dgqn : decide (0 < nq) = true := decide_eq_true (by omega)
      have dnq : ((nq : Int) == 0) = false := beq_eq_false_iff_ne.2 (by omega)
      have dgq : decide ((0 : Int) < (nq : Int)) = true := decide_eq_true (by omega)
      have dt : (1 : Int) ≤ (np : Int) := by omega
      have dnb : (np : Int) + (nq : Int) ≤ 40002 := by simp only [List.length_cons] at hg; omega
      have dnc : (0 : Int) ≤ (np : Int) ∧ (np : Int) ≤ 40002 ∧ (nq : Int) ≤ 40002 := by omega
      have dtq : (0 : Int) < (nq : Int) := by omega
      simp only at d0 d1 z0c z1c q1
      clear hm hnp hnq r1 r2 hc hr hyx hox hoy
      by_cases ho0 : N = 0
      ·subst ho0
       have o0 : o = [] := List.eq_nil_of_length_eq_zero HN.out
       subst o0
       obtain ⟨Ao, co, hov, _, _, _⟩ := own_reads hown
       subst hov
       go_wp2_with fail
       refine wp_region_calm (by kernel_rfl) (by kernel_rfl) ?_
       repeat (go_big_quiet_step ((go_at_call 74; exact calm_call (q1 _))))
       refine wpQuiet_nil ?_
       intro w3 g3
       have gB3 : Below w.heap.size wr w3 := g3.mono k0.size
       have ka := k0.size
       have m0 := (gB3.cell (p := ⟨bp, op, none⟩) hbp).trans d0
       have m1 := (gB3.cell (p := ⟨bp, op + 1, none⟩) hbp).trans d1
       have lb3 : bp < w3.heap.size := by have := g3.size; omega
       go_wp2_with fail
       refine wp_region_calm (by kernel_rfl) (by kernel_rfl) ?_
       repeat (go_big_quiet_step (fail))
       refine wpQuiet_nil ?_
       intro w4 g4
       have gB4 : Below w.heap.size wr w4 := gB3.trans (g4.mono (by have := g3.size; omega))
       have f0 := (gB4.cell (p := ⟨bp, op, none⟩) hbp).trans d0
       have f1 := (gB4.cell (p := ⟨bp, op + 1, none⟩) hbp).trans d1
       have lb4 : bp < w4.heap.size := by have := k0.size; have := g3.size; have := g4.size; omega
       have k4 := below_call (below_call k0 g3) g4
       have own4 := own_call (own_call hown g3) g4
       have hEA := Lib.hid (show addE [] (x0, x1) = [] ++ [(x0, x1)] by rfl)
       go_wp2_with (at_builtin; (refine wpList_append_any _ rfl (.tmp 50) (.tmp 54) 88 rfl w.heap.size 45 i0 _ 2 16 Tryz.underlying88 hi0 hz0 hz1 hz2 rfl (by omega) _ 0 (csT []) rfl (own_call own4 (below_alloc (Below.refl _ _) _)) (w4.heap.size + 1) (some ⟨w4.heap.size, 0, none⟩) 1 1 (csT [(x0, x1)]) rfl (Reads.newAt _ _ _ 1 2 _ rfl rfl) (one_csT _) (by simp only [maxLen]; omega) (by omega) (by have := k4.size; simp; omega) ?_); intro v5 w5 hown5 hg5 hat5)
       have k5 : Below w.heap.size w w5 := Below.grown (B := w.heap.size) (a := w) (below_alloc k4 _) hg5 (by have := k4.size; simp; omega) (fun q hq => (hown.lt q hq).1)
       have gB5 : Below w.heap.size wr w5 := Below.grown (B := w.heap.size) (a := wr) (gB4.alloc (by have := k4.size; omega) _) hg5 (by have := k4.size; simp; omega) (fun q hq => (hown.lt q hq).1)
       go_roundg g
       case measure => omega
       case rel => exact ⟨[] ++ [(x0, x1)], a', ((y0, y1) :: b'), by simp only [List.length_cons] at hg ⊢; omega, rT.below gB5, hQ.below gB5, by rw [csT_append]; exact hown5, Lib.hid (by rw [← hEA.out]; exact HM.out), Lib.hid ⟨(fun u hu => hok.out.1 u (List.mem_cons_of_mem _ hu)), hok.out.2.1, by simp; omega⟩, k5⟩
      ·obtain ⟨no, rfl⟩ : ∃ no, N = no + 1 := ⟨N - 1, by omega⟩
       have dz : ((no : Int) + 1 == 0) = false := beq_eq_false_iff_ne.2 (by omega)
       obtain ⟨bo, oo, co, ⟨z0, z1⟩, hov, hbo, hlast, e0, e1⟩ := own_last hown
       subst hov
       have t2 : IntKind.i64.wrap (no : Int) = (no : Int) := IntWalk.i64_in _ (by omega)
       have t4 : (no : Int) < (no : Int) + 1 := by omega
       have t5 : (no : Int) ≤ 40000 := by omega
       simp only at e0 e1
       rcases two_parts z0 z1 x0 x1 with ⟨rfl, rfl⟩ | hz
       ·go_wp2_with fail
        refine wp_region_calm (by kernel_rfl) (by kernel_rfl) ?_
        repeat (go_big_quiet_step ((go_at_call 74; exact calm_call (q1 _))))
        refine wpQuiet_nil ?_
        intro w3 g3
        have gB3 : Below w.heap.size wr w3 := g3.mono k0.size
        have ka := k0.size
        have m0 := (gB3.cell (p := ⟨bp, op, none⟩) hbp).trans d0
        have m1 := (gB3.cell (p := ⟨bp, op + 1, none⟩) hbp).trans d1
        have lb3 : bp < w3.heap.size := by have := g3.size; omega
        have j0 := (g3.cell (p := ⟨bo, oo + no * 2, none⟩) hbo).trans e0
        have j1 := (g3.cell (p := ⟨bo, oo + no * 2 + 1, none⟩) hbo).trans e1
        have lo3 : bo < w3.heap.size := by have := g3.size; omega
        go_wp2_with fail
        refine wp_region_calm (by kernel_rfl) (by kernel_rfl) ?_
        repeat (go_big_quiet_step (fail))
        refine wpQuiet_nil ?_
        intro w4 g4
        have gB4 : Below w.heap.size wr w4 := gB3.trans (g4.mono (by have := g3.size; omega))
        clear t2 t4 t5
        have k4 := below_call (below_call k0 g3) g4
        have own4 := own_call (own_call hown g3) g4
        have hEA := Lib.hid (show addE o (z0, z1) = o by unfold addE; rw [hlast, if_pos rfl])
        go_wp2_with fail
        go_roundg g
        case measure => omega
        case rel => exact ⟨o, a', ((y0, y1) :: b'), by simp only [List.length_cons] at hg ⊢; omega, rT.below gB4, hQ.below gB4, by rw [HN.out]; exact own4, Lib.hid (by rw [← hEA.out]; exact HM.out), Lib.hid ⟨(fun u hu => hok.out.1 u (List.mem_cons_of_mem _ hu)), hok.out.2.1, by rw [HN.out]; omega⟩, k4⟩
       ·have hne : ¬ ((z0, z1) : Tm) = (x0, x1) := by rcases hz with h | ⟨_, h⟩ <;> intro e <;> cases e <;> exact h rfl
        have hd : (z0 == x0) = false ∨ ((z0 == x0) = true ∧ (z1 == x1) = false) := by rcases hz with h | ⟨h, h'⟩; exact .inl (by simpa using h); exact .inr ⟨by simpa using h, by simpa using h'⟩
        clear hz
        rcases hd with v0 | ⟨v0, v1⟩
        all_goals
         go_wp2_with fail
         refine wp_region_calm (by kernel_rfl) (by kernel_rfl) ?_
         repeat (go_big_quiet_step ((go_at_call 74; exact calm_call (q1 _))))
         refine wpQuiet_nil ?_
         intro w3 g3
         have gB3 : Below w.heap.size wr w3 := g3.mono k0.size
         have ka := k0.size
         have m0 := (gB3.cell (p := ⟨bp, op, none⟩) hbp).trans d0
         have m1 := (gB3.cell (p := ⟨bp, op + 1, none⟩) hbp).trans d1
         have lb3 : bp < w3.heap.size := by have := g3.size; omega
         have j0 := (g3.cell (p := ⟨bo, oo + no * 2, none⟩) hbo).trans e0
         have j1 := (g3.cell (p := ⟨bo, oo + no * 2 + 1, none⟩) hbo).trans e1
         have lo3 : bo < w3.heap.size := by have := g3.size; omega
         go_wp2_with fail
         refine wp_region_calm (by kernel_rfl) (by kernel_rfl) ?_
         repeat (go_big_quiet_step (fail))
         refine wpQuiet_nil ?_
         intro w4 g4
         have gB4 : Below w.heap.size wr w4 := gB3.trans (g4.mono (by have := g3.size; omega))
         clear t2 t4 t5
         have f0 := (gB4.cell (p := ⟨bp, op, none⟩) hbp).trans d0
         have f1 := (gB4.cell (p := ⟨bp, op + 1, none⟩) hbp).trans d1
         have lb4 : bp < w4.heap.size := by have := k0.size; have := g3.size; have := g4.size; omega
         have k4 := below_call (below_call k0 g3) g4
         have own4 := own_call (own_call hown g3) g4
         have hEA := Lib.hid (show addE o (x0, x1) = o ++ [(x0, x1)] by unfold addE; rw [hlast, if_neg (fun h => hne (Option.some.inj h))])
         go_wp2_with (at_builtin; (refine wpList_append_any _ rfl (.tmp 50) (.tmp 54) 88 rfl w.heap.size 45 i0 _ 2 16 Tryz.underlying88 hi0 hz0 hz1 hz2 rfl (by omega) _ (no + 1) (csT o) rfl (own_call own4 (below_alloc (Below.refl _ _) _)) (w4.heap.size + 1) (some ⟨w4.heap.size, 0, none⟩) 1 1 (csT [(x0, x1)]) rfl (Reads.newAt _ _ _ 1 2 _ rfl rfl) (one_csT _) (by simp only [maxLen]; omega) (by omega) (by have := k4.size; simp; omega) ?_); intro v5 w5 hown5 hg5 hat5)
         have k5 : Below w.heap.size w w5 := Below.grown (B := w.heap.size) (a := w) (below_alloc k4 _) hg5 (by have := k4.size; simp; omega) (fun q hq => (hown.lt q hq).1)
         have gB5 : Below w.heap.size wr w5 := Below.grown (B := w.heap.size) (a := wr) (gB4.alloc (by have := k4.size; omega) _) hg5 (by have := k4.size; simp; omega) (fun q hq => (hown.lt q hq).1)
         go_roundg g
         case measure => omega
         case rel => exact ⟨o ++ [(x0, x1)], a', ((y0, y1) :: b'), by simp only [List.length_cons] at hg ⊢; omega, rT.below gB5, hQ.below gB5, by rw [List.length_append, HN.out, csT_append]; exact hown5, Lib.hid (by rw [← hEA.out]; exact HM.out), Lib.hid ⟨(fun u hu => hok.out.1 u (List.mem_cons_of_mem _ hu)), hok.out.2.1, by rw [List.length_append, HN.out]; simp; omega⟩, k5⟩
theorem with_any (u : Value) (m : List Tm) (y : Tm) (w : World) (hu : ReadsT w u m) (hn : m.length ≤ 100000) (hok : OkL m) (hy : ok y) :
  Calls Tryz.prog 77 #[u, .agg #[.int .i64 y.1, .int .i64 y.2]] w fun e w' => ∃ v, e = .returned v ∧ ReadsT w' v (withS m y) ∧ Below w.heap.size w w' := by
 obtain ⟨A, c, rfl, h, hnc, hcm⟩ := hu
 obtain ⟨n, hN⟩ : ∃ n, n = m.length := ⟨_, rfl⟩
 rw [← hN] at h hnc hn ⊢
 have HL := Lib.hid hN.symm
 have HOK := Lib.hid hok
 have HOy := Lib.hid hy
 have HW := Lib.hid (withS_pos m y)
 clear hN hok hy
 obtain ⟨y0, y1⟩ := y
 obtain ⟨i0, hi0, hz0, hz1, hz2⟩ := info_parts tm_info
 go_enter Tryz.func77, Tryz.ntmps77
 go_wp2
 go_loopw [5] (fun i wr => ∃ k : Nat, k ≤ n ∧ i = .int .i64 k ∧ Hid (∀ (j : Nat) x, j < k → m[j]? = some x → ltT x (y0, y1)) ∧ Below w.heap.size w wr ∧ Blk wr w.heap.size 45 #[.int .i64 y0, .int .i64 y1]) (fun i _ => n - (intOf i).toNat)
 case atStart => exact ⟨0, by omega, rfl, Lib.hid (fun j x h => by omega), by repeat (first | with_reducible (first | exact Below.refl _ _ | assumption | refine below_drewN ?_ _ | refine Below.drew ?_ | refine below_alloc ?_ _) | (with_reducible refine Below.setCell ?_ ?_ _; rotate_left; ((try simp only); omega))), by with_reducible exact Blk.new _ _ _⟩
 case round =>
  obtain ⟨k, hk, rfl, hp, k0, bY⟩ := hrel
  have y0c : wr.cell? ⟨w.heap.size, 0, none⟩ = some (.int .i64 y0) := bY.cell 0
  have y1c : wr.cell? ⟨w.heap.size, 1, none⟩ = some (.int .i64 y1) := bY.cell 1
  have lY := bY.lt
  -- the ways: the time at k is ahead; it is the time itself; it is behind; there is none
  have ways : (k < n ∧ ltT (mAt m k) (y0, y1)) ∨ (posW m (y0, y1) = k ∧ ((k < n ∧ ¬ ltT (mAt m k) (y0, y1) ∧ mAt m k = (y0, y1) ∧ withS m (y0, y1) = m) ∨ (k < n ∧ ¬ ltT (mAt m k) (y0, y1) ∧ mAt m k ≠ (y0, y1) ∧ withS m (y0, y1) = m.take k ++ (y0, y1) :: m.drop k) ∨ (k = n ∧ withS m (y0, y1) = m.take k ++ (y0, y1) :: m.drop k))) := by
   have hl := HL.out
   by_cases hkn : k < n
   ·have hx := mAt_some (m := m) (i := k) (by omega)
    by_cases hlt : ltT (mAt m k) (y0, y1)
    ·exact .inl ⟨hkn, hlt⟩
    ·have hpos : posW m (y0, y1) = k := posW_is hp.out (by omega) (fun x h => by rw [hx] at h; cases h; exact hlt)
     have hw := HW.out
     rw [hpos, hx] at hw
     by_cases he : mAt m k = (y0, y1)
     ·exact .inr ⟨hpos, .inl ⟨hkn, hlt, he, by rw [hw, if_pos (by rw [he])]⟩⟩
     ·exact .inr ⟨hpos, .inr (.inl ⟨hkn, hlt, he, by rw [hw, if_neg (fun h => he (Option.some.inj h))]⟩)⟩
   ·have hkn' : k = n := by omega
    have hpos : posW m (y0, y1) = k := posW_is hp.out (by omega) (fun x h => by rw [List.getElem?_eq_none (by omega)] at h; cases h)
    have hw := HW.out
    rw [hpos, List.getElem?_eq_none (by omega), if_neg (by simp)] at hw
    exact .inr ⟨hpos, .inr (.inr ⟨hkn', hw⟩)⟩
  rcases ways with ⟨hkn, hlt⟩ | ⟨hpos, ⟨hkn, hlt, he, hw⟩ | hrest⟩
  ·have hkn' : (k : Int) < (n : Int) := by omega
   have dk : decide (k < n) = true := by simpa using hkn
   have hx := mAt_some (m := m) (i := k) (by have := HL.out; omega)
   have hox := HOK.out _ (List.mem_of_getElem? hx)
   obtain ⟨b, off, rfl, hab, c0, c1⟩ := h.tm (Nat.le_refl _) k0 hkn hx
   have q1 := fun W => before_any (mAt m k) (y0, y1) W
   have el : lessB (mAt m k) (y0, y1) = true := by unfold lessB; rw [cmp_lt hox HOy.out]; simpa using hlt
   rw [el] at q1
   have HP := Lib.hid (show ∀ (j : Nat) x, j < k + 1 → m[j]? = some x → ltT x (y0, y1) from fun j x hj hjx => by
    by_cases hjk : j = k
    ·subst hjk; rw [hx] at hjx; cases hjx; exact hlt
    ·exact hp.out j x (by omega) hjx)
   obtain ⟨⟨x0, x1⟩, hxe⟩ : ∃ x, x = mAt m k := ⟨_, rfl⟩
   rw [← hxe] at q1 c0 c1
   clear hx hxe el hlt hox
   simp only at c0 c1 q1
   go_wp2_with fail
   refine wp_region_calm (by kernel_rfl) (by kernel_rfl) ?_
   repeat (go_big_quiet_step ((go_at_call 81; exact calm_call (q1 _))))
   refine wpQuiet_nil ?_
   intro w2 hb2
   go_wp2
   go_roundw
   case rel => exact ⟨k + 1, by omega, by go_num, HP, below_call k0 hb2, bY.kept hb2⟩
   case measure => simp [intOf]; omega
  ·have hkn' : (k : Int) < (n : Int) := by omega
   have dk : decide (k < n) = true := by simpa using hkn
   have hx := mAt_some (m := m) (i := k) (by have := HL.out; omega)
   have hox := HOK.out _ (List.mem_of_getElem? hx)
   have HR : ReadsT wr (.slice A n c) m := by
    have hl := HL.out
    subst hl
    exact ⟨A, c, rfl, (h.below (Nat.le_refl _) k0).more k0.size, hnc, hcm⟩
   obtain ⟨b, off, rfl, hab, c0, c1⟩ := h.tm (Nat.le_refl _) k0 hkn hx
   have q1 := fun W => before_any (mAt m k) (y0, y1) W
   have el : lessB (mAt m k) (y0, y1) = false := by unfold lessB; rw [cmp_lt hox HOy.out]; simpa using hlt
   rw [el, he] at q1
   rw [he] at c0 c1
   have HE := Lib.hid hw
   clear hx el hlt hox he hw hpos hp
   simp only at c0 c1 q1
   go_wp2_with fail
   refine wp_region_calm (by kernel_rfl) (by kernel_rfl) ?_
   repeat (go_big_quiet_step ((go_at_call 81; exact calm_call (q1 _))))
   refine wpQuiet_nil ?_
   intro w2 hb2
   have c0' := (hb2.cell (p := ⟨b, off + k * 2, none⟩) hab).trans c0
   have c1' := (hb2.cell (p := ⟨b, off + k * 2 + 1, none⟩) hab).trans c1
   have y0c' := (hb2.cell (p := ⟨w.heap.size, 0, none⟩) lY).trans y0c
   have y1c' := (hb2.cell (p := ⟨w.heap.size, 1, none⟩) lY).trans y1c
   have hab' : b < w2.heap.size := Nat.lt_of_lt_of_le hab hb2.size
   have lY' : w.heap.size < w2.heap.size := Nat.lt_of_lt_of_le lY hb2.size
   go_wp2_with fail
   refine wp_region_calm (by kernel_rfl) (by kernel_rfl) ?_
   repeat (go_big_quiet_step (fail))
   refine wpQuiet_nil ?_
   intro w3 hb3
   go_wp2
   go_ret
   rw [HE.out]
   exact ⟨_, rfl, HR.kept (below_call hb2 hb3), below_call (below_call k0 hb2) hb3⟩
  ·have HE : Hid (withS m (y0, y1) = m.take k ++ (y0, y1) :: m.drop k) := Lib.hid (by rcases hrest with ⟨_, _, _, h⟩ | ⟨_, h⟩ <;> exact h)
   obtain ⟨AH, hAH, s1⟩ := tm_head A k n c (by omega)
   obtain ⟨AT, hAT, s2⟩ := tm_tail A k n c hk hnc
   -- up to region 6, on both ways
   have hkc : (k : Int) ≤ (c : Int) := by omega
   have hkn2 : (k : Int) ≤ (n : Int) := by omega
   have tail : ∀ (wv : World), Below wr.heap.size wr wv → True := fun _ _ => trivial
   rcases hrest with ⟨hkn, hlt, hne, _⟩ | ⟨hkn, _⟩
   ·have hkn' : (k : Int) < (n : Int) := by omega
    have dk : decide (k < n) = true := by simpa using hkn
    have hx := mAt_some (m := m) (i := k) (by have := HL.out; omega)
    have hox := HOK.out _ (List.mem_of_getElem? hx)
    obtain ⟨b, off, hA, hab, c0, c1⟩ := h.tm (Nat.le_refl _) k0 hkn hx
    have q1 := fun W => before_any (mAt m k) (y0, y1) W
    have el : lessB (mAt m k) (y0, y1) = false := by unfold lessB; rw [cmp_lt hox HOy.out]; simpa using hlt
    rw [el] at q1
    obtain ⟨⟨x0, x1⟩, hxe⟩ : ∃ x, x = mAt m k := ⟨_, rfl⟩
    rw [← hxe] at q1 c0 c1 hne
    have hd : (x0 == y0) = false ∨ ((x0 == y0) = true ∧ (x1 == y1) = false) := by
     by_cases h0 : x0 = y0
     ·exact .inr ⟨by simpa using h0, by simp; intro h1; exact hne (by rw [h0, h1])⟩
     ·exact .inl (by simpa using h0)
    clear hx el hlt hox hxe hne hpos hp tail
    simp only at c0 c1 q1
    rw [hA] at h s1 s2 hAT
    subst hA
    subst hAH
    rcases hd with g0 | ⟨g0, g1⟩
    all_goals
     go_wp2_with fail
     refine wp_region_calm (by kernel_rfl) (by kernel_rfl) ?_
     repeat (go_big_quiet_step ((go_at_call 81; exact calm_call (q1 _))))
     refine wpQuiet_nil ?_
     intro w2 hb2
     have c0' := (hb2.cell (p := ⟨b, off + k * 2, none⟩) hab).trans c0
     have c1' := (hb2.cell (p := ⟨b, off + k * 2 + 1, none⟩) hab).trans c1
     have y0c' := (hb2.cell (p := ⟨w.heap.size, 0, none⟩) lY).trans y0c
     have y1c' := (hb2.cell (p := ⟨w.heap.size, 1, none⟩) lY).trans y1c
     have hab' : b < w2.heap.size := Nat.lt_of_lt_of_le hab hb2.size
     have lY' : w.heap.size < w2.heap.size := Nat.lt_of_lt_of_le lY hb2.size
     go_wp2_with fail
     refine wp_region_calm (by kernel_rfl) (by kernel_rfl) ?_
     repeat (go_big_quiet_step (fail))
     refine wpQuiet_nil ?_
     intro w3 hb3
     have k3 := below_call (below_call k0 hb2) hb3
     have bY3 := (bY.kept hb2).kept hb3
     clear y0c y1c lY
     obtain ⟨wv, hwv⟩ : ∃ wv, wv = w3 := ⟨_, rfl⟩
     subst hwv
     obtain ⟨gY, hgY⟩ : ∃ g, g = w.heap.size := ⟨_, rfl⟩
     rw [← hgY] at bY3 ⊢
     have y0c : wv.cell? ⟨gY, 0, none⟩ = some (.int .i64 y0) := bY3.cell 0
     have y1c : wv.cell? ⟨gY, 1, none⟩ = some (.int .i64 y1) := bY3.cell 1
     have lY := bY3.lt
     have hBv := k3.size
     have rT : Reads wv w.heap.size 2 (some ⟨b, off, none⟩) k (csT (m.take k)) := reads_take2 (h.below (Nat.le_refl _) k3) (by omega)
     clear hgY
     go_wp2_with fail
     go_region_held3 (fun w' => w'.cell? ⟨gY, 0, none⟩ = some (.int .i64 y0) ∧ w'.cell? ⟨gY, 1, none⟩ = some (.int .i64 y1) ∧ Below wv.heap.size wv w') ((refine (fun hb => ⟨(hb.cell (p := ⟨_, _, none⟩) lY).trans y0c, (hb.cell (p := ⟨_, _, none⟩) lY).trans y1c, hb⟩) ?_; repeat (first | with_reducible (first | exact Below.refl _ _ | exact hB3 | exact hB4 | exact (show _ ∧ _ ∧ Below wv.heap.size wv _ by assumption).2.2 | refine Below.drew ?_ | refine below_alloc ?_ _)))) ((first | ((refine step_is (.tmp 34) (.tmp 37) 88 (.slice (some ⟨wv.heap.size, 0, none⟩) 0 0) ?_ ?_ ?_); (focus rfl); (focus rfl); (refine step_app _ (by rfl) (.tmp 34) (.tmp 37) 88 (by rfl) wv.heap.size 45 i0 _ 2 16 Tryz.underlying88 hi0 hz0 hz1 hz2 rfl (by omega) (.slice (some ⟨wv.heap.size, 0, none⟩) 0 0) 0 [] (by rfl) (own_call (World.ownsRow_lit wv #[] 0 (Nat.le_refl _) (by simp [maxLen]) rfl) (by repeat (first | with_reducible (first | exact Below.refl _ _ | refine Below.drew ?_ | refine below_alloc ?_ _)))) _ (some ⟨b, off, none⟩) k c (csT (m.take k)) (by rfl) (rT.below hBv (show _ ∧ _ ∧ Below wv.heap.size wv _ by assumption).2.2) (one_csT _) (by simp only [maxLen]; omega) (by omega) ((show _ ∧ _ ∧ Below wv.heap.size wv _ by assumption).2.2).size ?_); intro v1 w3 hown3 hg3 hat3; have hB3 : Below wv.heap.size wv w3 := Below.grown (B := wv.heap.size) (a := wv) (show _ ∧ _ ∧ Below wv.heap.size wv _ by assumption).2.2 hg3 (by first | exact ((show _ ∧ _ ∧ Below wv.heap.size wv _ by assumption).2.2).size) (fun q hq => by simp [Value.ownBlock] at hq; omega); simp only [Nat.zero_add, List.nil_append] at hown3; (try (refine lay_grow hg3 (wv.heap.size) (t := 45) (cs := #[.int .i64 y0, .int .i64 y1]) ?_ ?_ ?_; (focus ((repeat (first | with_reducible exact Blk.new _ _ _ | (with_reducible refine Blk.newAt _ _ _ _ ?_; first | rfl | (simp; done)) | with_reducible (first | apply Blk.alloc | apply Blk.drewN | apply Blk.drew | assumption))); done)); (focus (simp [Value.ownBlock]; done)); intro hbB)); (try (refine lay_grow hg3 (wv.heap.size + 1) (t := 45) (cs := #[.int .i64 y0, .int .i64 y1]) ?_ ?_ ?_; (focus ((repeat (first | with_reducible exact Blk.new _ _ _ | (with_reducible refine Blk.newAt _ _ _ _ ?_; first | rfl | (simp; done)) | with_reducible (first | apply Blk.alloc | apply Blk.drewN | apply Blk.drew | assumption))); done)); (focus (simp [Value.ownBlock]; done)); intro hbB))) | ((refine step_is (.tmp 34) (.tmp 37) 88 (.slice (some ⟨wv.heap.size + 1, 0, none⟩) 0 0) ?_ ?_ ?_); (focus rfl); (focus rfl); (refine step_app _ (by rfl) (.tmp 34) (.tmp 37) 88 (by rfl) wv.heap.size 45 i0 _ 2 16 Tryz.underlying88 hi0 hz0 hz1 hz2 rfl (by omega) (.slice (some ⟨wv.heap.size + 1, 0, none⟩) 0 0) 0 [] (by rfl) (own_call (tm_lit (wv.alloc (.cells #[.int .i64 y0, .int .i64 y1] 45)) wv.heap.size (wv.heap.size + 1) (by simp) (by simp)) (by repeat (first | with_reducible (first | exact Below.refl _ _ | refine Below.drew ?_ | refine below_alloc ?_ _)))) _ (some ⟨b, off, none⟩) k c (csT (m.take k)) (by rfl) (rT.below hBv (show _ ∧ _ ∧ Below wv.heap.size wv _ by assumption).2.2) (one_csT _) (by simp only [maxLen]; omega) (by omega) ((show _ ∧ _ ∧ Below wv.heap.size wv _ by assumption).2.2).size ?_); intro v1 w3 hown3 hg3 hat3; have hB3 : Below wv.heap.size wv w3 := Below.grown (B := wv.heap.size) (a := wv) (show _ ∧ _ ∧ Below wv.heap.size wv _ by assumption).2.2 hg3 (by first | exact ((show _ ∧ _ ∧ Below wv.heap.size wv _ by assumption).2.2).size) (fun q hq => by simp [Value.ownBlock] at hq; omega); simp only [Nat.zero_add, List.nil_append] at hown3; (try (refine lay_grow hg3 (wv.heap.size) (t := 45) (cs := #[.int .i64 y0, .int .i64 y1]) ?_ ?_ ?_; (focus ((repeat (first | with_reducible exact Blk.new _ _ _ | (with_reducible refine Blk.newAt _ _ _ _ ?_; first | rfl | (simp; done)) | with_reducible (first | apply Blk.alloc | apply Blk.drewN | apply Blk.drew | assumption))); done)); (focus (simp [Value.ownBlock]; done)); intro hbB)); (try (refine lay_grow hg3 (wv.heap.size + 1) (t := 45) (cs := #[.int .i64 y0, .int .i64 y1]) ?_ ?_ ?_; (focus ((repeat (first | with_reducible exact Blk.new _ _ _ | (with_reducible refine Blk.newAt _ _ _ _ ?_; first | rfl | (simp; done)) | with_reducible (first | apply Blk.alloc | apply Blk.drewN | apply Blk.drew | assumption))); done)); (focus (simp [Value.ownBlock]; done)); intro hbB))) | ((refine step_is (.tmp 38) (.tmp 40) 88 v1 ?_ ?_ ?_); (focus rfl); (focus rfl); (refine step_app _ (by rfl) (.tmp 38) (.tmp 40) 88 (by rfl) wv.heap.size 45 i0 _ 2 16 Tryz.underlying88 hi0 hz0 hz1 hz2 rfl (by omega) v1 k (csT (m.take k)) (by rfl) (by first | exact hown3 | exact own_call hown3 (below_alloc (Below.refl _ _) _)) _ _ 1 1 (csT [(y0, y1)]) (by rfl) (tm_blk (by first | exact Blk.new _ _ _ | exact hbB)) (one_csT _) (by simp only [maxLen]; omega) (by omega) ((show _ ∧ _ ∧ Below wv.heap.size wv _ by assumption).2.2).size ?_); intro v2 w4 hown4 hg4 hat4; have hB4 : Below wv.heap.size wv w4 := Below.grown (B := wv.heap.size) (a := wv) (show _ ∧ _ ∧ Below wv.heap.size wv _ by assumption).2.2 hg4 ((show _ ∧ _ ∧ Below wv.heap.size wv _ by assumption).2.2).size (fun q hq => (hown3.lt q hq).1); rw [← csT_append] at hown4)))
     all_goals
      have k4 := below_call k3 hB4
      have rD : Reads w4 w.heap.size 2 AT (n - k) (csT (m.drop k)) := reads_drop2 (h.below (Nat.le_refl _) k4) (by omega) _ hAT
      have hsz4 := k4.size
      have hbv4 := hB4.size
      go_wp2_with (at_builtin; (refine wpList_append_any _ rfl (.tmp 42) (.tmp 45) 88 rfl wv.heap.size 45 i0 _ 2 16 Tryz.underlying88 hi0 hz0 hz1 hz2 rfl (by omega) v2 (k + 1) (csT (m.take k ++ [(y0, y1)])) rfl hown4 w.heap.size AT (n - k) _ (csT (m.drop k)) rfl rD (one_csT _) (by simp only [maxLen]; omega) (by omega) hbv4 ?_); intro v5 w5 hown5 hg5 hat5)
      go_ret
      rw [← csT_append] at hown5
      rw [HE.out]
      refine ⟨_, rfl, ReadsT.own (by rw [show m.take k ++ (y0, y1) :: m.drop k = m.take k ++ [(y0, y1)] ++ m.drop k by simp]; exact hown5) (by have := HL.out; rw [List.length_append, List.length_cons, List.length_take, List.length_drop]; omega), below_call k3 (Below.grown (B := wv.heap.size) (a := wv) hB4 hg5 hbv4 (fun q hq => (hown4.lt q hq).1))⟩
   ·subst hkn
    have dk : decide (k < k) = false := by simp
    subst hAH
    clear hpos hp tail
    go_wp2_with fail
    refine wp_region_calm (by kernel_rfl) (by kernel_rfl) ?_
    repeat (go_big_quiet_step (fail))
    refine wpQuiet_nil ?_
    intro w2 hb2
    go_wp2_with fail
    refine wp_region_calm (by kernel_rfl) (by kernel_rfl) ?_
    repeat (go_big_quiet_step (fail))
    refine wpQuiet_nil ?_
    intro w3 hb3
    have k3 := below_call (below_call k0 hb2) hb3
    have bY3 := (bY.kept hb2).kept hb3
    clear y0c y1c lY
    obtain ⟨wv, hwv⟩ : ∃ wv, wv = w3 := ⟨_, rfl⟩
    subst hwv
    obtain ⟨gY, hgY⟩ : ∃ g, g = w.heap.size := ⟨_, rfl⟩
    rw [← hgY] at bY3 ⊢
    have y0c : wv.cell? ⟨gY, 0, none⟩ = some (.int .i64 y0) := bY3.cell 0
    have y1c : wv.cell? ⟨gY, 1, none⟩ = some (.int .i64 y1) := bY3.cell 1
    have lY := bY3.lt
    have hBv := k3.size
    have rT : Reads wv w.heap.size 2 AH k (csT (m.take k)) := reads_take2 (h.below (Nat.le_refl _) k3) (by omega)
    clear hgY
    go_wp2_with fail
    go_region_held3 (fun w' => w'.cell? ⟨gY, 0, none⟩ = some (.int .i64 y0) ∧ w'.cell? ⟨gY, 1, none⟩ = some (.int .i64 y1) ∧ Below wv.heap.size wv w') ((refine (fun hb => ⟨(hb.cell (p := ⟨_, _, none⟩) lY).trans y0c, (hb.cell (p := ⟨_, _, none⟩) lY).trans y1c, hb⟩) ?_; repeat (first | with_reducible (first | exact Below.refl _ _ | exact hB3 | exact hB4 | exact (show _ ∧ _ ∧ Below wv.heap.size wv _ by assumption).2.2 | refine Below.drew ?_ | refine below_alloc ?_ _)))) ((first | ((refine step_is (.tmp 34) (.tmp 37) 88 (.slice (some ⟨wv.heap.size, 0, none⟩) 0 0) ?_ ?_ ?_); (focus rfl); (focus rfl); (refine step_app _ (by rfl) (.tmp 34) (.tmp 37) 88 (by rfl) wv.heap.size 45 i0 _ 2 16 Tryz.underlying88 hi0 hz0 hz1 hz2 rfl (by omega) (.slice (some ⟨wv.heap.size, 0, none⟩) 0 0) 0 [] (by rfl) (own_call (World.ownsRow_lit wv #[] 0 (Nat.le_refl _) (by simp [maxLen]) rfl) (by repeat (first | with_reducible (first | exact Below.refl _ _ | refine Below.drew ?_ | refine below_alloc ?_ _)))) _ AH k c (csT (m.take k)) (by rfl) (rT.below hBv (show _ ∧ _ ∧ Below wv.heap.size wv _ by assumption).2.2) (one_csT _) (by simp only [maxLen]; omega) (by omega) ((show _ ∧ _ ∧ Below wv.heap.size wv _ by assumption).2.2).size ?_); intro v1 w3 hown3 hg3 hat3; have hB3 : Below wv.heap.size wv w3 := Below.grown (B := wv.heap.size) (a := wv) (show _ ∧ _ ∧ Below wv.heap.size wv _ by assumption).2.2 hg3 (by first | exact ((show _ ∧ _ ∧ Below wv.heap.size wv _ by assumption).2.2).size) (fun q hq => by simp [Value.ownBlock] at hq; omega); simp only [Nat.zero_add, List.nil_append] at hown3; (try (refine lay_grow hg3 (wv.heap.size) (t := 45) (cs := #[.int .i64 y0, .int .i64 y1]) ?_ ?_ ?_; (focus ((repeat (first | with_reducible exact Blk.new _ _ _ | (with_reducible refine Blk.newAt _ _ _ _ ?_; first | rfl | (simp; done)) | with_reducible (first | apply Blk.alloc | apply Blk.drewN | apply Blk.drew | assumption))); done)); (focus (simp [Value.ownBlock]; done)); intro hbB)); (try (refine lay_grow hg3 (wv.heap.size + 1) (t := 45) (cs := #[.int .i64 y0, .int .i64 y1]) ?_ ?_ ?_; (focus ((repeat (first | with_reducible exact Blk.new _ _ _ | (with_reducible refine Blk.newAt _ _ _ _ ?_; first | rfl | (simp; done)) | with_reducible (first | apply Blk.alloc | apply Blk.drewN | apply Blk.drew | assumption))); done)); (focus (simp [Value.ownBlock]; done)); intro hbB))) | ((refine step_is (.tmp 34) (.tmp 37) 88 (.slice (some ⟨wv.heap.size + 1, 0, none⟩) 0 0) ?_ ?_ ?_); (focus rfl); (focus rfl); (refine step_app _ (by rfl) (.tmp 34) (.tmp 37) 88 (by rfl) wv.heap.size 45 i0 _ 2 16 Tryz.underlying88 hi0 hz0 hz1 hz2 rfl (by omega) (.slice (some ⟨wv.heap.size + 1, 0, none⟩) 0 0) 0 [] (by rfl) (own_call (tm_lit (wv.alloc (.cells #[.int .i64 y0, .int .i64 y1] 45)) wv.heap.size (wv.heap.size + 1) (by simp) (by simp)) (by repeat (first | with_reducible (first | exact Below.refl _ _ | refine Below.drew ?_ | refine below_alloc ?_ _)))) _ AH k c (csT (m.take k)) (by rfl) (rT.below hBv (show _ ∧ _ ∧ Below wv.heap.size wv _ by assumption).2.2) (one_csT _) (by simp only [maxLen]; omega) (by omega) ((show _ ∧ _ ∧ Below wv.heap.size wv _ by assumption).2.2).size ?_); intro v1 w3 hown3 hg3 hat3; have hB3 : Below wv.heap.size wv w3 := Below.grown (B := wv.heap.size) (a := wv) (show _ ∧ _ ∧ Below wv.heap.size wv _ by assumption).2.2 hg3 (by first | exact ((show _ ∧ _ ∧ Below wv.heap.size wv _ by assumption).2.2).size) (fun q hq => by simp [Value.ownBlock] at hq; omega); simp only [Nat.zero_add, List.nil_append] at hown3; (try (refine lay_grow hg3 (wv.heap.size) (t := 45) (cs := #[.int .i64 y0, .int .i64 y1]) ?_ ?_ ?_; (focus ((repeat (first | with_reducible exact Blk.new _ _ _ | (with_reducible refine Blk.newAt _ _ _ _ ?_; first | rfl | (simp; done)) | with_reducible (first | apply Blk.alloc | apply Blk.drewN | apply Blk.drew | assumption))); done)); (focus (simp [Value.ownBlock]; done)); intro hbB)); (try (refine lay_grow hg3 (wv.heap.size + 1) (t := 45) (cs := #[.int .i64 y0, .int .i64 y1]) ?_ ?_ ?_; (focus ((repeat (first | with_reducible exact Blk.new _ _ _ | (with_reducible refine Blk.newAt _ _ _ _ ?_; first | rfl | (simp; done)) | with_reducible (first | apply Blk.alloc | apply Blk.drewN | apply Blk.drew | assumption))); done)); (focus (simp [Value.ownBlock]; done)); intro hbB))) | ((refine step_is (.tmp 38) (.tmp 40) 88 v1 ?_ ?_ ?_); (focus rfl); (focus rfl); (refine step_app _ (by rfl) (.tmp 38) (.tmp 40) 88 (by rfl) wv.heap.size 45 i0 _ 2 16 Tryz.underlying88 hi0 hz0 hz1 hz2 rfl (by omega) v1 k (csT (m.take k)) (by rfl) (by first | exact hown3 | exact own_call hown3 (below_alloc (Below.refl _ _) _)) _ _ 1 1 (csT [(y0, y1)]) (by rfl) (tm_blk (by first | exact Blk.new _ _ _ | exact hbB)) (one_csT _) (by simp only [maxLen]; omega) (by omega) ((show _ ∧ _ ∧ Below wv.heap.size wv _ by assumption).2.2).size ?_); intro v2 w4 hown4 hg4 hat4; have hB4 : Below wv.heap.size wv w4 := Below.grown (B := wv.heap.size) (a := wv) (show _ ∧ _ ∧ Below wv.heap.size wv _ by assumption).2.2 hg4 ((show _ ∧ _ ∧ Below wv.heap.size wv _ by assumption).2.2).size (fun q hq => (hown3.lt q hq).1); rw [← csT_append] at hown4)))
    all_goals
     have k4 := below_call k3 hB4
     have rD : Reads w4 w.heap.size 2 AT 0 (csT (m.drop k)) := by have := reads_drop2 (h.below (Nat.le_refl _) k4) (Nat.le_refl _) AT hAT; rwa [Nat.sub_self] at this
     have hsz4 := k4.size
     have hbv4 := hB4.size
     go_wp2_with (at_builtin; (refine wpList_append_any _ rfl (.tmp 42) (.tmp 45) 88 rfl wv.heap.size 45 i0 _ 2 16 Tryz.underlying88 hi0 hz0 hz1 hz2 rfl (by omega) v2 (k + 1) (csT (m.take k ++ [(y0, y1)])) rfl hown4 w.heap.size AT 0 _ (csT (m.drop k)) rfl rD (one_csT _) (by simp only [maxLen]; omega) (by omega) hbv4 ?_); intro v5 w5 hown5 hg5 hat5)
     go_ret
     rw [← csT_append] at hown5
     rw [HE.out]
     refine ⟨_, rfl, ReadsT.own (by rw [show m.take k ++ (y0, y1) :: m.drop k = m.take k ++ [(y0, y1)] ++ m.drop k by simp]; exact hown5) (by have := HL.out; rw [List.length_append, List.length_cons, List.length_take, List.length_drop]; omega), below_call k3 (Below.grown (B := wv.heap.size) (a := wv) hB4 hg5 hbv4 (fun q hq => (hown4.lt q hq).1))⟩
end Go.Proofs.YtpkmiegccfhpnaaGreatDoor
