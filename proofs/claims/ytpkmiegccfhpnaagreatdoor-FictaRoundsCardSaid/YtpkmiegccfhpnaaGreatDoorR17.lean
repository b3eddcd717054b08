/- Parts of the proof of LawRounds31: FiLaw, FiAwake, FiRef, AlRefSlices, FiRMade, FiLight, ArgsF, FiRPl. -/
import Derived.Test.YtpkmiegccfhpnaaGreatDoorR16
set_option maxRecDepth 100000
set_option maxHeartbeats 16000000
namespace Go.Proofs.YtpkmiegccfhpnaaGreatDoor
open Go.RowKit
theorem sameFicta_any (A A' : Option Addr) (n c c' : Nat) (l : List Fic) (B B' : Nat) (w : World) (h : Reads w B 4 A n (csFic l)) (hB : B ≤ w.heap.size) (h' : Reads w B' 4 A' n (csFic l)) (hB' : B' ≤ w.heap.size) (hn : n ≤ 1000000) :
  Calls Tryz.prog 18 #[.slice A n c, .slice A' n c'] w fun e w' => e = .returned (.bool true) ∧ Below w.heap.size w w' := by
 have HL := Lib.hid (show l.length = n from h.len (size := 4) (l := l) (f := cFic) (fun _ => rfl) (by decide))
 have HA := Lib.hid h
 have HB := Lib.hid h'
 clear h h'
 go_enter Tryz.func18, Tryz.ntmps18
 go_wp2
 go_loopg [5] n (fun gh i wr => ∃ k : Nat, k + gh = n ∧ i = .int .i64 (k : Int) ∧ Below w.heap.size w wr)
 case atStart => exact ⟨0, by omega, rfl, Below.refl _ _⟩
 case round =>
  obtain ⟨k, hkg, rfl, k0⟩ := hrel
  have wk : IntKind.i64.wrap ((k : Int) + 1) = (k : Int) + 1 := IntWalk.i64_in _ (by omega)
  cases gk with
  | zero =>
   have hk : k = n := by omega
   have d0 : ¬ ((k : Int) < (n : Int)) := by omega
   clear hk hkg
   go_wp2
   go_ret
   exact ⟨rfl, k0⟩
  | succ g =>
   have hk : k < n := by omega
   have hlt' : (k : Int) < (n : Int) := by omega
   obtain ⟨⟨x1, x2, x3, x4⟩, hx⟩ := get_some (l := l) (k := k) (by have := HL.out; omega)
   obtain ⟨b, off, rfl, hab, hc⟩ := Reads.elem (f := cFic) (fun _ => rfl) (HA.out.below hB k0) hk hx
   obtain ⟨b', off', rfl, hab', hc'⟩ := Reads.elem (f := cFic) (fun _ => rfl) (HB.out.below hB' k0) hk hx
   have e0 := hc 0 _ rfl
   have e1 := hc 1 _ rfl
   have e2 := hc 2 _ rfl
   have e3 := hc 3 _ rfl
   have f0 := hc' 0 _ rfl
   have f1 := hc' 1 _ rfl
   have f2 := hc' 2 _ rfl
   have f3 := hc' 3 _ rfl
   simp only [Nat.add_zero, ← Nat.add_assoc] at e0 e1 e2 e3 f0 f1 f2 f3
   have l1 : b < wr.heap.size := by have := k0.size; omega
   have l2 : b' < wr.heap.size := by have := k0.size; omega
   clear hx hc hc' hab hab'
   go_wp2_with fail
   refine wp_region_calm (by kernel_rfl) (by kernel_rfl) ?_
   repeat (go_big_quiet_step (fail))
   refine wpQuiet_nil ?_
   intro wd gd
   have kd := below_call k0 gd
   clear e0 e1 e2 e3 f0 f1 f2 f3 l1 l2 gd
   go_wp2
   go_roundg g
   case measure => omega
   case rel => exact ⟨k + 1, by omega, by go_num, kd⟩
/-! ### A voice of steps -/
def vEv (i : Nat) (x : Int) : Ev := ⟨(2 * (i : Int), 1), (2, 1), (x % 7, 3 + x / 7, 0), false, i, 0⟩
def vFrom : Nat → List Int → List Ev
 | _, [] => []
 | i, x :: l => vEv i x :: vFrom (i + 1) l
def vL (l : List Int) : List Ev := vFrom 0 l
theorem vFrom_append : ∀ (l m : List Int) (i : Nat), vFrom i (l ++ m) = vFrom i l ++ vFrom (i + l.length) m
 | [], m, i => by simp [vFrom]
 | x :: l, m, i => by
  show vEv i x :: vFrom (i + 1) (l ++ m) = vEv i x :: (vFrom (i + 1) l ++ vFrom (i + (l.length + 1)) m)
  rw [vFrom_append l m (i + 1), show i + 1 + l.length = i + (l.length + 1) by omega]
theorem vL_next {l : List Int} {k : Nat} {x : Int} (h : l[k]? = some x) : vL (l.take (k + 1)) = vL (l.take k) ++ [vEv k x] := by
 have hk := (List.getElem?_eq_some_iff.1 h).1
 unfold vL
 rw [take_get h, vFrom_append, List.length_take, Nat.zero_add, Nat.min_eq_left (by omega)]
 rfl
theorem tS_one (n : Int) : tS n 1 = (n, 1) := by
 have e : gg n 1 = 1 := by unfold gg; simp
 unfold tS
 rw [e, if_neg (by omega)]; simp
theorem fvoice_any (A : Option Addr) (n c : Nat) (l : List Int) (w : World) (h : Reads w w.heap.size 1 A n (csN l)) (hn : n ≤ 1000) (hl : ∀ x ∈ l, 0 ≤ x ∧ x ≤ 1000) :
  Calls Tryz.prog 20 #[.slice A n c] w fun e w' => ∃ v, e = .returned v ∧ w'.ownsRow w.heap.size 49 10 v n (csE (vL l)) ∧ Below w.heap.size w w' := by
 have HL := Lib.hid (show l.length = n from h.len (size := 1) (l := l) (f := cI) (fun _ => rfl) (by decide))
 have HB := Lib.hid hl
 have HR := Lib.hid h
 clear hl h
 obtain ⟨i0, hi0, hz0, hz1, hz2⟩ := info_parts event_info
 go_enter Tryz.func20, Tryz.ntmps20
 go_wp2
 go_loopg [3, 4] n (fun gh o i wr => ∃ k : Nat, k + gh = n ∧ i = .int .i64 (k : Int) ∧ wr.ownsRow w.heap.size 49 10 o k (csE (vL (l.take k))) ∧ Below w.heap.size w wr)
 case atStart => exact ⟨0, by omega, by simp, ⟨rfl, .inl ⟨rfl, rfl⟩⟩, Below.refl _ _⟩
 case round =>
  obtain ⟨k, hkg, rfl, hown, kr⟩ := hrel
  have wk : IntKind.i64.wrap ((k : Int) + 1) = (k : Int) + 1 := IntWalk.i64_in _ (by omega)
  cases gk with
  | zero =>
   have hk : k = n := by omega
   have d0 : ¬ ((k : Int) < (n : Int)) := by omega
   rw [List.take_of_length_le (by have := HL.out; omega)] at hown
   have HX := Lib.hid hown
   clear hkg hown
   subst hk
   go_wp2
   go_ret
   exact ⟨u3, rfl, HX.out, kr⟩
  | succ g =>
   have hk : k < n := by omega
   have d0 : (k : Int) < (n : Int) := by omega
   obtain ⟨x, hx⟩ := get_some (l := l) (k := k) (by have := HL.out; omega)
   have hxb := HB.out x (List.mem_of_getElem? hx)
   have HN := Lib.hid (vL_next hx)
   obtain ⟨b, off, hA, hab, hc⟩ := Reads.elem (f := cI) (fun _ => rfl) (HR.out.below (Nat.le_refl _) kr) hk hx
   subst hA
   have c0 := hc 0 _ rfl
   simp only [Nat.mul_one, Nat.add_zero] at c0
   have lb : b < wr.heap.size := by have := kr.size; omega
   have HEV := Lib.hid (show vEv k x = ⟨(2 * (k : Int), 1), (2, 1), (x % 7, 3 + x / 7, 0), false, (k : Int), 0⟩ from rfl)
   have w2k : IntKind.i64.wrap (2 * (k : Int)) = 2 * (k : Int) := IntWalk.i64_in _ (by omega)
   have q1 := fun W => t_any (2 * (k : Int)) 1 W (by omega) (by omega) (by omega) (by omega)
   have q2 := fun W => t_any 2 1 W (by omega) (by omega) (by omega) (by omega)
   rw [tS_one] at q1 q2
   have hmE : x.tmod 7 = x % 7 := Int.tmod_eq_emod_of_nonneg (by omega)
   have hdE : x.tdiv 7 = x / 7 := Int.tdiv_eq_ediv_of_nonneg (by omega)
   have wm : IntKind.i64.wrap (x % 7) = x % 7 := IntWalk.i64_in _ (by omega)
   have wq : IntKind.i64.wrap (x / 7) = x / 7 := IntWalk.i64_in _ (by omega)
   have wm' : IntKind.i64.wrap (x.tmod 7) = x % 7 := by rw [hmE]; exact wm
   have wq' : IntKind.i64.wrap (x.tdiv 7) = x / 7 := by rw [hdE]; exact wq
   have w3 : IntKind.i64.wrap (3 + x / 7) = 3 + x / 7 := IntWalk.i64_in _ (by omega)
   have k1000 : k ≤ 1000 := by omega
   clear hc hx hxb hab
   go_wp2_with fail
   refine wp_region_calm_move 19 (by kernel_rfl) (.tmp 3) rfl rfl (by omega) (by kernel_rfl) ?_
   simp only [Nat.reduceSub, List.take_succ_cons, List.take_zero, List.drop_succ_cons, List.drop_zero]
   go_simp
   repeat (go_big_quiet_step ((go_at_call 39; with_reducible (first | exact calm_call (q1 _) | exact calm_call (q2 _)))))
   refine wpQuiet_nil ?_
   intro wd gd
   have kd := below_call kr gd
   have zd := kd.size
   go_wp2_with (at_builtin; (refine wpList_append_any _ rfl (.tmp 11) (.tmp 30) 36 rfl w.heap.size 49 i0 _ 10 80 Tryz.underlying36 hi0 hz0 hz1 hz2 rfl (by omega) u3 k (csE (vL (l.take k))) rfl (own_call (own_call hown gd) (below_alloc (Below.refl _ _) _)) (wd.heap.size + 1) (some ⟨wd.heap.size, 0, none⟩) 1 1 (csE [⟨(2 * (k : Int), 1), (2, 1), (x % 7, 3 + x / 7, 0), false, (k : Int), 0⟩]) rfl (Reads.newAt _ _ _ 1 10 _ rfl rfl) (one_csE _) (by simp only [maxLen]; omega) (by omega) (by simp; omega) ?_); intro v4 w4 hown4 hg4 hat4)
   have hB4 : Below w.heap.size w w4 := Below.grown (B := w.heap.size) (kd.alloc (by omega) _) hg4 (by simp; omega) (fun x hx => (hown.lt x hx).1)
   try refine NoPanic.normal ?_
   clear c0 hown
   go_wp2_with fail
   go_roundg g
   case measure => omega
   case rel => exact ⟨k + 1, by omega, by go_num, by rw [HN.out, csE_append, HEV.out]; exact hown4, hB4⟩
theorem ex_awake : allE [vL [11, 10, 11], vL [5, 5, 4]] = ([(0, 1, 1, 1)], 0) := of_decide_eq_true (by kernel_rfl)
theorem ex_rounds : roundsE [vL [11, 10, 11], vL [5, 5, 4]] = (1, 0) := of_decide_eq_true (by kernel_rfl)
def exX : List (List Ev) := [[⟨(0, 1), (2, 1), (4, 4, 0), false, 0, 0⟩, ⟨(2, 1), (2, 1), (3, 4, 1), false, 1, 0⟩, ⟨(4, 1), (2, 1), (4, 4, 0), false, 2, 0⟩], vL [5, 5, 4]]
theorem ex_apply : applyE [vL [11, 10, 11], vL [5, 5, 4]] [(0, 1, 1, 1)] = (exX, 0) := by
 unfold applyE
 rw [if_neg (show ¬ (checkF [vL [11, 10, 11], vL [5, 5, 4]] [(0, 1, 1, 1)]).1 ≠ 0 from of_decide_eq_true (by kernel_rfl))]
 rfl
theorem readsV_two {w : World} {B g : Nat} {v1 v2 : List Ev} {d1 d2 : Pl} (h : Reads w B 1 (some ⟨g, 0, none⟩) 2 (csV [d1, d2])) (h1 : Reads w B 10 d1.1 d1.2.1 (csE v1)) (h2 : Reads w B 10 d2.1 d2.2.1 (csE v2)) (l1 : d1.2.1 ≤ 9223372036854775807) (l2 : d2.2.1 ≤ 9223372036854775807) : ReadsV w B (some ⟨g, 0, none⟩) 2 [v1, v2] := by
 refine ⟨[d1, d2], rfl, h, fun k d v hd hv => ?_⟩
 match k with
 | 0 => simp at hd hv; subst hd hv; exact ⟨h1, l1⟩
 | 1 => simp at hd hv; subst hd hv; exact ⟨h2, l2⟩
 | k + 2 => simp at hd
theorem proposes_any (A : Option Addr) (n c : Nat) (l : List (List Ev)) (A2 : Option Addr) (m c2 : Nat) (L : List Fic) (w : World) (h : ReadsV w w.heap.size A n l) (h2 : Reads w w.heap.size 4 A2 m (csFic L)) (hn : n ≤ 1000) (hm : m ≤ 1000) (ht : Tabs w) (hE : allE l = (L, 0)) :
  Calls Tryz.prog 19 #[.slice A n c, .slice A2 m c2] w fun e w' => e = .returned (.bool true) ∧ Below w.heap.size w w' := by
 have q1 := fall_ok A n c l w.heap.size h (Nat.le_refl _) hn ht
 rw [hE] at q1
 have hlm : L.length = m := h2.len (size := 4) (l := L) (f := cFic) (fun _ => rfl) (by decide)
 clear h ht hE
 go_enter Tryz.func19, Tryz.ntmps19
 go_wp2_with fail
 refine q1.mono ?_
 rintro e w1 ⟨u, rfl, how, k1⟩
 obtain ⟨A1, c1, rfl, r1, _, _⟩ := own_reads how
 simp only at r1 ⊢
 rw [hlm] at r1 ⊢
 have q2 := sameFicta_any A1 A2 m c1 c2 L w1.heap.size w.heap.size w1 r1 (Nat.le_refl _) (h2.below (Nat.le_refl _) k1) k1.size (by omega)
 clear how r1 q1 h2 hlm
 go_wp2_with fail
 refine q2.mono ?_
 rintro e w2 ⟨rfl, k2⟩
 go_wp2
 refine ret_of (by simp [results, Tryz.results19, go_sem, *]; repeat' (first | rfl | apply And.intro)) rfl ⟨rfl, below_call k1 k2⟩
theorem awake_any (w : World) (ht : Tabs w) : Calls Tryz.prog 11 #[] w fun e w' => e = .returned (.bool true) ∧ Below w.heap.size w w' := by
 go_enter Tryz.func11, Tryz.ntmps11
 go_wp2_with fail
 obtain ⟨w1, hw1⟩ : ∃ x, x = w.alloc (.cells #[.int .i64 11, .int .i64 10, .int .i64 11] 3) := ⟨_, rfl⟩
 have b1 : Below w.heap.size w w1 := by rw [hw1]; exact below_alloc (Below.refl _ _) _
 have i1 : Reads w1 w1.heap.size 1 (some ⟨w.heap.size, 0, none⟩) 3 (csN [11, 10, 11]) := by rw [hw1]; exact (Reads.newAt _ _ _ 3 1 _ rfl rfl).more (by simp)
 rw [← hw1]
 clear hw1
 have k1 := b1
 clear b1
 refine Calls.mono (fvoice_any _ 3 3 [11, 10, 11] _ i1 (by omega) (by decide)) ?_
 rintro e w2 ⟨v2, rfl, o2, b2⟩
 obtain ⟨A2, c2, rfl, r2, _, _⟩ := own_reads o2
 clear o2 i1
 have k2 := below_call k1 b2
 clear k1
 clear b2
 go_wp2_with fail
 obtain ⟨w3, hw3⟩ : ∃ x, x = w2.alloc (.cells #[.int .i64 5, .int .i64 5, .int .i64 4] 3) := ⟨_, rfl⟩
 have b3 : Below w2.heap.size w2 w3 := by rw [hw3]; exact below_alloc (Below.refl _ _) _
 have i3 : Reads w3 w3.heap.size 1 (some ⟨w2.heap.size, 0, none⟩) 3 (csN [5, 5, 4]) := by rw [hw3]; exact (Reads.newAt _ _ _ 3 1 _ rfl rfl).more (by simp)
 rw [← hw3]
 clear hw3
 have k3 := below_call k2 b3
 clear k2
 have R2_3 := rd1 r2 b3
 clear r2
 clear b3
 refine Calls.mono (fvoice_any _ 3 3 [5, 5, 4] _ i3 (by omega) (by decide)) ?_
 rintro e w4 ⟨v4, rfl, o4, b4⟩
 obtain ⟨A4, c4, rfl, r4, _, _⟩ := own_reads o4
 clear o4 i3
 have k4 := below_call k3 b4
 clear k3
 have R2_4 := rd1 R2_3 b4
 clear R2_3
 clear b4
 go_wp2_with fail
 obtain ⟨w5, hw5⟩ : ∃ x, x = w4.alloc (.cells #[.slice A2 3 c2, .slice A4 3 c4] 36) := ⟨_, rfl⟩
 have b5 : Below w4.heap.size w4 w5 := by rw [hw5]; exact below_alloc (Below.refl _ _) _
 have s5 := readsV_two (d1 := (A2, 3, c2)) (d2 := (A4, 3, c4)) (by rw [hw5]; exact (Reads.newAt _ _ _ 2 1 _ rfl rfl).more (by simp) : Reads w5 w5.heap.size 1 (some ⟨w4.heap.size, 0, none⟩) 2 (csV [(A2, 3, c2), (A4, 3, c4)])) (rd1 R2_4 b5) (rd1 r4 b5) (by show 3 ≤ 9223372036854775807; omega) (by show 3 ≤ 9223372036854775807; omega)
 have hz5 := Lib.hid (show w5.heap.size = w4.heap.size + 1 by rw [hw5]; simp)
 rw [← hw5]
 clear hw5 R2_4 r4
 have k5 := below_call k4 b5
 clear k4
 clear b5
 obtain ⟨w6, hw6⟩ : ∃ x, x = w5.alloc (.cells #[.int .i64 0, .int .i64 1, .int .i64 1, .int .i64 1] 39) := ⟨_, rfl⟩
 have b6 : Below w5.heap.size w5 w6 := by rw [hw6]; exact below_alloc (Below.refl _ _) _
 have f6 : Reads w6 w6.heap.size 4 (some ⟨w4.heap.size + 1, 0, none⟩) 1 (csFic [(0, 1, 1, 1)]) := by rw [hw6]; exact (Reads.newAt _ _ _ 1 4 _ hz5.out.symm rfl).more (by simp; have := hz5.out; omega)
 rw [← hw6]
 clear hw6
 have k6 := below_call k5 b6
 clear k5
 have S5_6 := rdV s5 b6
 clear s5
 clear b6
 have qa := fapply_ok _ 2 2 _ _ S5_6 (Nat.le_refl _) (by omega) _ 1 1 _ _ f6 (Nat.le_refl _) (by omega)
 rw [ex_apply] at qa
 refine Calls.mono (qa) ?_
 rintro e w7 ⟨X, mX, cX, rfl, rX, b7⟩
 clear qa f6
 have k7 := below_call k6 b7
 clear k6
 have S5_7 := rdV S5_6 b7
 clear S5_6
 clear b7
 go_wp2_with fail
 have qr := frounds_ok _ 2 2 _ _ S5_7 (Nat.le_refl _) (by omega) (ht.kept k7)
 rw [ex_rounds] at qr
 refine Calls.mono (qr) ?_
 rintro e w8 ⟨rfl, b8⟩
 clear qr
 have k8 := below_call k7 b8
 clear k7
 have S5_8 := rdV S5_7 b8
 clear S5_7
 have RX_8 := rdV rX b8
 clear rX
 clear b8
 go_wp2_with fail
 obtain ⟨w9, hw9⟩ : ∃ x, x = w8.alloc (.cells #[.int .i64 0, .int .i64 1, .int .i64 1, .int .i64 1] 39) := ⟨_, rfl⟩
 have b9 : Below w8.heap.size w8 w9 := by rw [hw9]; exact below_alloc (Below.refl _ _) _
 have f9 : Reads w9 w9.heap.size 4 (some ⟨w8.heap.size, 0, none⟩) 1 (csFic [(0, 1, 1, 1)]) := by rw [hw9]; exact (Reads.newAt _ _ _ 1 4 _ rfl rfl).more (by simp)
 rw [← hw9]
 clear hw9
 have k9 := below_call k8 b9
 clear k8
 have S5_9 := rdV S5_8 b9
 clear S5_8
 have RX_9 := rdV RX_8 b9
 clear RX_8
 clear b9
 refine Calls.mono (proposes_any _ 2 _ _ _ 1 _ _ _ S5_9 f9 (by omega) (by omega) (ht.kept k9) ex_awake) ?_
 rintro e w10 ⟨rfl, b10⟩
 clear S5_9 f9
 have k10 := below_call k9 b10
 clear k9
 have RX_10 := rdV RX_9 b10
 clear RX_9
 clear b10
 obtain rfl : 2 = mX := RX_10.len
 obtain ⟨bx, ox, A', n', c', rfl, hab, cx, rv, _, hvn⟩ := ReadsV.voice (k := 0) RX_10 (Nat.le_refl _) (Below.refl _ _) (by omega) rfl
 obtain rfl : 3 = n' := hvn
 obtain ⟨be, oe, rfl, hbe, hce⟩ := rv.ev (k := 1) (Nat.le_refl _) (Below.refl _ _) (by omega) rfl
 obtain ⟨_, _, _, _, y4, y5, y6, _, _, _⟩ := ten hce
 simp only [Nat.add_zero, Nat.one_mul] at cx y4 y5 y6
 clear hce rv RX_10
 go_wp2
 refine ret_of (by simp [results, Tryz.results11, go_sem, *]; repeat' (first | rfl | apply And.intro)) rfl ⟨?_, by repeat (first | with_reducible (first | exact Below.refl _ _ | assumption | refine below_drewN ?_ _ | refine Below.drew ?_ | refine below_alloc ?_ _) | (with_reducible refine Below.setCell ?_ ?_ _; rotate_left; ((try simp only); omega)))⟩
 rfl
def vF (x : Fic) : Value := .agg #[.int .i64 x.1, .int .i64 x.2.1, .int .i64 x.2.2.1, .int .i64 x.2.2.2]
theorem rplain_ok (A : Option Addr) (n c : Nat) (l : List (List Ev)) (B : Nat) (w : World) (h : ReadsV w B A n l) (hB : B ≤ w.heap.size) {i j : Nat} {x : Ev} (hx : evA l ((i : Int), (j : Int)) = some x) :
  Calls Tryz.prog 34 #[.slice A n c, .int .i64 (i : Int), .int .i64 (j : Int)] w fun e w' => e = .returned (.bool (freeB l ((i : Int), (j : Int)))) ∧ Below w.heap.size w w' := by
 have E := Lib.hid (free_ev hx)
 obtain ⟨i', j', v, hp, hv, hj⟩ := evA_some hx
 obtain ⟨rfl, rfl⟩ : i' = i ∧ j' = j := by rw [Prod.mk.injEq] at hp; omega
 have hi := (List.getElem?_eq_some_iff.1 hv).1
 have hn := h.len
 obtain ⟨b, ob, A', n', c', rfl, hab, cv, rv, hn', hvn⟩ := h.voice hB (Below.refl _ _) (show i' < n by omega) hv
 have hjn : j' < n' := by have := (List.getElem?_eq_some_iff.1 hj).1; omega
 obtain ⟨be, oe, hA, hbe, hcx⟩ := rv.ev hB (Below.refl _ _) hjn hj
 subst hA
 obtain ⟨_, _, _, _, _, _, a6, a7, _, _⟩ := ten hcx
 have hin : (i' : Int) < (n : Int) := by omega
 have hjn2 : (j' : Int) < (n' : Int) := by omega
 obtain ⟨⟨a0, a1⟩, ⟨d0, d1⟩, ⟨p0, p1, p2⟩, rs, sg, ps⟩ := x
 simp only at a6 a7 E
 clear hx h hp hv hj hcx hn hi rv hvn
 cases rs with
 | true =>
  go_enter Tryz.func34, Tryz.ntmps34
  go_wp2
  refine ret_of (by simp [results, Tryz.results34, go_sem, *]; repeat' (first | rfl | apply And.intro)) rfl ⟨?_, Below.refl _ _⟩
  rw [E.out]
  rfl
 | false =>
  have b0 : (p2 == 0) = decide (p2 = 0) := by rw [Bool.eq_iff_iff]; simp
  go_enter Tryz.func34, Tryz.ntmps34
  go_wp2
  refine ret_of (by simp [results, Tryz.results34, go_sem, *]; repeat' (first | rfl | apply And.intro)) rfl ⟨?_, Below.refl _ _⟩
  rw [E.out]
  rfl
theorem rafter_ok (x y : Fic) (w : World) :
  Calls Tryz.prog 35 #[vF x, vF y] w fun e w' => e = .returned (.bool (decide (lessF y x))) ∧ Below w.heap.size w w' := by
 obtain ⟨x1, x2, x3, x4⟩ := x
 obtain ⟨y1, y2, y3, y4⟩ := y
 unfold vF
 simp only
 go_enter Tryz.func35, Tryz.ntmps35
 go_wp2_with fail
 all_goals
  refine ret_of (by simp [results, Tryz.results35, go_sem, *]; repeat' (first | rfl | apply And.intro)) rfl ⟨?_, by repeat (first | with_reducible (first | exact Below.refl _ _ | assumption | refine below_drewN ?_ _ | refine Below.drew ?_ | refine below_alloc ?_ _) | (with_reducible refine Below.setCell ?_ ?_ _; rotate_left; ((try simp only); omega)))⟩
  refine congrArg (fun b => Ending.returned (.bool b)) ?_
  rw [Bool.eq_iff_iff]
  simp only [decide_eq_true_eq, Bool.false_eq_true, true_iff, false_iff]
  unfold lessF
  first | omega | simp
theorem refSlices_any (A : Option Addr) (n c : Nat) (l : List (List Ev)) (B : Nat) (w : World) (h : ReadsV w B A n l) (hB : B ≤ w.heap.size) (hn : n ≤ 9223372036854775807) :
  Calls Tryz.prog 33 #[.slice A n c] w fun e w' => ∃ v, e = .returned (.tuple #[v, .int .i64 (slicesE l).2]) ∧ OwnS w' w.heap.size v (slicesE l).1 ∧ Below w.heap.size w w' := by
 have HL := Lib.hid h.len
 have q1 := refAlCheck_any A n c l B w h hB hn
 by_cases hz : (checkA l).1 = 0
 ·obtain ⟨f1, f2, f3, f4, f5⟩ := set_facts hz
  rw [hz] at q1
  have q2 := fun W (hW : Below w.heap.size w W) => refMoments_any A n c l B W (h.below hB hW) (Nat.le_trans hB hW.size) (by have := HL.out; omega) (fun v hv => ⟨(f2 v hv).2.1, (f2 v hv).2.2⟩)
  have hml := momS_len l (fun v hv => (f2 v hv).2.2)
  have HE := Lib.hid (show slicesE l = if durFrom (momS l) 0 ((momS l).length - 1) ≠ 0 then ([], durFrom (momS l) 0 ((momS l).length - 1)) else ((List.range ((momS l).length - 1)).map (slOf l (momS l)), 0) by unfold slicesE; rw [if_neg (fun h => h hz)])
  obtain ⟨m, hm⟩ : ∃ m, m = momS l := ⟨_, rfl⟩
  rw [← hm] at q2 hml HE f5
  have HOK := Lib.hid f5
  have HV := Lib.hid f2
  have hn8 : n ≤ 8 := by have := HL.out; omega
  clear hm f1 f2 f3 f4 f5 hz
  obtain ⟨M, hM⟩ : ∃ M, M = m.length := ⟨_, rfl⟩
  have HM := Lib.hid hM.symm
  rw [← hM] at hml HE
  have hMb : M ≤ 32000 := by have := HL.out; omega
  clear hM hml
  obtain ⟨i0, hi0, hz0, hz1, hz2⟩ := info_parts sl_info
  obtain ⟨j0, hj0, gz0, gz1, gz2⟩ := info_parts num_info
  go_enter Tryz.func33, Tryz.ntmps33
  go_wp2_with fail
  refine q1.mono ?_
  rintro e w1 ⟨rfl, hb1⟩
  go_wp2_with fail
  refine (q2 _ hb1).mono ?_
  rintro e w2 ⟨vm, rfl, hT2, hb2⟩
  have k2 := below_call hb1 hb2
  obtain ⟨Am, cm, rfl, rm, _, _⟩ := hT2
  rw [HM.out] at rm ⊢
  clear q1 q2
  go_wp2_with fail
  go_loopg [7, 8, 9, 10, 11, 12] (M - 1) (fun g v i _ _ _ _ wr => ∃ k : Nat, k + g = M - 1 ∧ i = .int .i64 k ∧ OwnS wr w2.heap.size v ((List.range k).map (slOf l m)) ∧ Hid (durFrom m k g = durFrom m 0 (M - 1)) ∧ Below w2.heap.size w2 wr)
  case atStart => exact ⟨0, by omega, rfl, OwnS.nil_ _ _, Lib.hid rfl, Below.refl _ _⟩
  case round =>
   obtain ⟨k, hkg, rfl, hO, hd, k0⟩ := hrel
   cases gk with
   | zero =>
    have dk : decide ((k : Int) + 1 < (M : Int)) = false := by simp; omega
    have HE2 := Lib.hid (show slicesE l = ((List.range k).map (slOf l m), 0) by
     have hd0 : durFrom m 0 (M - 1) = 0 := hd.out.symm
     rw [HE.out, hd0, if_neg (fun h => h rfl), show M - 1 = k by omega])
    go_wp2
    go_ret2
    rw [HE2.out]
    exact ⟨_, rfl, hO.lower k2.size, below_call k2 k0⟩
   | succ g =>
    have hk1 : k + 1 < M := by omega
    have dk : decide ((k : Int) + 1 < (M : Int)) = true := by simp; omega
    have hx := mAt_some (m := m) (i := k + 1) (by have := HM.out; omega)
    have hy := mAt_some (m := m) (i := k) (by have := HM.out; omega)
    have hoy := HOK.out _ (List.mem_of_getElem? hy)
    obtain ⟨b, off, rfl, hab, c0, c1⟩ := rm.tm (Nat.le_refl _) k0 hk1 hx
    obtain ⟨b', off', hA', _, d0, d1⟩ := rm.tm (Nat.le_refl _) k0 (show k < M by omega) hy
    cases hA'
    have q3 := refSub_any (mAt m (k + 1)) (mAt m k)
    have HD := Lib.hid (show durE m k = (((subS (mAt m (k + 1)) (mAt m k)).1, (subS (mAt m (k + 1)) (mAt m k)).2.1), (subS (mAt m (k + 1)) (mAt m k)).2.2) from rfl)
    obtain ⟨⟨s0, s1, r⟩, hs⟩ : ∃ s, s = subS (mAt m (k + 1)) (mAt m k) := ⟨_, rfl⟩
    rw [← hs] at q3 HD
    have HSL := Lib.hid (show slOf l m k = ⟨mAt m k, (durE m k).1, l.map fun v => onS v (mAt m k)⟩ from rfl)
    obtain ⟨⟨x0, x1⟩, hxe⟩ : ∃ x, x = mAt m (k + 1) := ⟨_, rfl⟩
    obtain ⟨⟨y0, y1⟩, hye⟩ : ∃ x, x = mAt m k := ⟨_, rfl⟩
    rw [← hxe] at q3 c0 c1
    rw [← hye] at q3 d0 d1 HSL hoy
    have HOy := Lib.hid hoy
    clear hs hxe hye hx hy hoy
    simp only at c0 c1 d0 d1 q3
    have t1 : ((k : Int) + 1).toNat = k + 1 := by omega
    have t2 : IntKind.i64.wrap ((k : Int) + 1) = (k : Int) + 1 := IntWalk.i64_in _ (by omega)
    have t3 : (k : Int) + 1 < (M : Int) := by omega
    have t4 : (0 : Int) ≤ (k : Int) + 1 := by omega
    have t5 : (k : Int) < (M : Int) := by omega
    obtain ⟨wq, hwq⟩ : ∃ wq, wq = wr := ⟨_, rfl⟩
    subst hwq
    go_wp2_with fail
    go_region_held3 (fun w' => w'.cell? ⟨b, off + (k + 1) * 2, none⟩ = some (.int .i64 x0) ∧ w'.cell? ⟨b, off + (k + 1) * 2 + 1, none⟩ = some (.int .i64 x1) ∧ w'.cell? ⟨b, off + k * 2, none⟩ = some (.int .i64 y0) ∧ w'.cell? ⟨b, off + k * 2 + 1, none⟩ = some (.int .i64 y1) ∧ Below wq.heap.size wq w') ((refine (fun hb => ⟨(hb.cell (p := ⟨_, _, none⟩) hab).trans c0, (hb.cell (p := ⟨_, _, none⟩) hab).trans c1, (hb.cell (p := ⟨_, _, none⟩) hab).trans d0, (hb.cell (p := ⟨_, _, none⟩) hab).trans d1, hb⟩) ?_; repeat (first | with_reducible (first | exact Below.refl _ _ | exact hBd | exact (show _ ∧ _ ∧ _ ∧ _ ∧ Below wq.heap.size wq _ by assumption).2.2.2.2 | refine Below.drew ?_ | refine below_alloc ?_ _) | (with_reducible refine Below.setCell ?_ ?_ _; rotate_left; (first | (have hz := hBd.size; show wq.heap.size ≤ _; simp only; omega) | (show wq.heap.size ≤ _; simp only; omega)))))) (first | (go_at_call 53; refine (q3 _).mono ?_; rintro e wd ⟨rfl, hbd⟩; have hBd := below_call (show _ ∧ _ ∧ _ ∧ _ ∧ Below wq.heap.size wq _ by assumption).2.2.2.2 hbd; have hcd := (bcell hbd).1; have hfd := (bcell hbd).2; try (have hzd : wq.heap.size < wd.heap.size := by have hz := hbd.size; simp at hz; omega)))
    all_goals
     have hB5 := (show _ ∧ _ ∧ _ ∧ _ ∧ Below wq.heap.size wq _ by assumption).2.2.2.2
     obtain ⟨wv, hwv⟩ := name_world hB5
     first
      | (refine pick_block (wv := wv) (lo := wq.heap.size) (t := 45) wd.heap.size #[.int .i64 s0, .int .i64 s1] ?_ ?_ ?_; (focus (have hz := hBd.size; omega)); (focus (rw [hwv]; repeat (first | with_reducible exact Blk.new _ _ _ | (with_reducible refine Blk.newAt _ _ _ _ ?_; first | rfl | (simp; done)) | with_reducible (first | apply Blk.alloc | apply Blk.drewN | apply Blk.drew | apply Blk.set_to) | (with_reducible apply Blk.far_; (simp only [ne_eq]; omega)) | (with_reducible apply Blk.kept (hb := hbd)) | rfl))); intro gx hgx hgq5 BX5)
      | (refine pick_block (wv := wv) (lo := wq.heap.size) (t := 45) wq.heap.size #[.int .i64 s0, .int .i64 s1] ?_ ?_ ?_; (focus omega); (focus (rw [hwv]; repeat (first | with_reducible exact Blk.new _ _ _ | (with_reducible refine Blk.newAt _ _ _ _ ?_; first | rfl | (simp; done)) | with_reducible (first | apply Blk.alloc | apply Blk.drewN | apply Blk.drew | apply Blk.set_to) | (with_reducible apply Blk.far_; (simp only [ne_eq]; omega)) | (with_reducible apply Blk.kept (hb := hbd)) | rfl))); intro gx hgx hgq5 BX5)
     rw [← hwv] at hB5 ⊢
     rw [← hgx]
     clear hwv hgx
     have kv := below_call k0 hB5
     have hO5 := hO.kept hB5
     have n0 := (hB5.cell (p := ⟨b, off + k * 2, none⟩) hab).trans d0
     have n1 := (hB5.cell (p := ⟨b, off + k * 2 + 1, none⟩) hab).trans d1
     have p0 : wv.cell? ⟨gx, 0, none⟩ = some (.int .i64 s0) := BX5.cell 0
     have p1 : wv.cell? ⟨gx, 1, none⟩ = some (.int .i64 s1) := BX5.cell 1
     have lg := BX5.lt
     have lb : b < wv.heap.size := Nat.lt_of_lt_of_le hab hB5.size
     try clear hcd hfd
     try clear hzd
     try clear hbd hBd
     clear c0 c1 d0 d1 hab hO k0 q3 t1 t2 t3 t4
     by_cases hr : r = 0
     ·subst hr
      have HDU := Lib.hid (show durE m k = ((s0, s1), 0) from HD.out)
      have HN := Lib.hid (show durFrom m (k + 1) g = durFrom m 0 (M - 1) by rw [← hd.out, durFrom_next (by rw [HDU.out])])
      go_wp2_with fail
      go_region
      all_goals
       go_wp2_with fail
       go_loopg [12] n (fun g2 j wy => ∃ (q : Nat) (sv : Value), q + g2 = n ∧ j = .int .i64 q ∧ Blk wy wv.heap.size 85 #[.int .i64 y0, .int .i64 y1, .int .i64 s0, .int .i64 s1, sv] ∧ wy.ownsRow (wv.heap.size + 1) 3 1 sv q (csN ((l.take q).map fun v => onS v (y0, y1))) ∧ Below wv.heap.size wv wy)
       case atStart => exact ⟨0, .slice none 0 0, by omega, rfl, by repeat (first | with_reducible exact BX5 | with_reducible exact Blk.new _ _ _ | (with_reducible refine Blk.newAt _ _ _ _ ?_; first | rfl | (simp; done)) | with_reducible (first | apply Blk.alloc | apply Blk.drewN | apply Blk.drew | apply Blk.set_to) | (with_reducible apply Blk.far_; (simp only [ne_eq]; omega)) | rfl), ⟨rfl, .inl ⟨rfl, rfl⟩⟩, by repeat (first | with_reducible (first | exact Below.refl _ _ | assumption | refine below_drewN ?_ _ | refine Below.drew ?_ | refine below_alloc ?_ _) | (with_reducible refine Below.setCell ?_ ?_ _; rotate_left; ((try simp only); omega)))⟩
       case round =>
        obtain ⟨q, sv, hqg, rfl, bS, hown, m0⟩ := hrel
        have lS := bS.lt
        have c4 : wr.cell? ⟨wv.heap.size, 4, none⟩ = some sv := bS.cell 4
        cases gk with
        | zero =>
         have hqn : q = n := by omega
         subst hqn
         obtain ⟨As, cs, hsv, _, _, _⟩ := own_reads hown
         subst hsv
         obtain ⟨ps, hps, hrow, hev⟩ := hO5.kept m0
         rw [List.length_map, List.length_range] at hrow
         have w0c : wr.cell? ⟨wv.heap.size, 0, none⟩ = some (.int .i64 y0) := bS.cell 0
         have w1c : wr.cell? ⟨wv.heap.size, 1, none⟩ = some (.int .i64 y1) := bS.cell 1
         have w2c : wr.cell? ⟨wv.heap.size, 2, none⟩ = some (.int .i64 s0) := bS.cell 2
         have w3c : wr.cell? ⟨wv.heap.size, 3, none⟩ = some (.int .i64 s1) := bS.cell 3
         have HSF := Lib.hid (show slOf l m k = ⟨(y0, y1), (s0, s1), l.map fun v => onS v (y0, y1)⟩ by rw [HSL.out, HDU.out])
         have HTK := Lib.hid (show l.take q = l by rw [List.take_of_length_le (by have := HL.out; omega)])
         rw [HTK.out] at hown
         have hszw := m0.size
         have hszv := kv.size
         go_wp2_with (at_builtin; (refine wpList_append_any _ rfl (.tmp 72) (.tmp 74) 55 rfl w2.heap.size 85 i0 _ 5 56 Tryz.underlying55 hi0 hz0 hz1 hz2 rfl (by omega) _ k (csS ps) rfl (own_call hrow (below_alloc (Below.refl _ _) _)) (wr.heap.size + 1) (some ⟨wr.heap.size, 0, none⟩) 1 1 (csS [(⟨(y0, y1), (s0, s1), l.map fun v => onS v (y0, y1)⟩, (As, q, cs))]) rfl (Reads.newAt _ _ _ 1 5 _ rfl rfl) (one_csS _) (by simp only [maxLen]; omega) (by omega) (by simp; omega) ?_); intro v5 w5 hown5 hg5 hat5)
         go_roundg g
         case measure => omega
         case rel =>
          have hO6 := OwnS.snoc (p := (⟨(y0, y1), (s0, s1), l.map fun v => onS v (y0, y1)⟩, (As, q, cs))) hps (by rw [List.length_map, List.length_range]) hown5 (own_call hrow (below_alloc (Below.refl _ _) _)) (hev.kept (below_alloc (Below.refl _ _) _)) ⟨by simp only [List.length_map]; exact HL.out, own_lower (own_call hown (below_alloc (Below.refl _ _) _)) (by omega)⟩ hg5
          refine ⟨k + 1, by omega, rfl, ?_, Lib.hid HN.out, Below.grown (B := w2.heap.size) (a := w2) (below_alloc (below_call kv m0) _) hg5 (by simp; omega) (fun x hx => (hrow.lt x hx).1)⟩
          rw [range_next, HSF.out]
          exact hO6
        | succ g2 =>
         have hqn : q < n := by omega
         have hqn' : (q : Int) < (n : Int) := by omega
         obtain ⟨v, hv⟩ := get_some (l := l) (k := q) (by have := HL.out; omega)
         obtain ⟨bl, offl, A', n', c', rfl, hbl, cl, hr, hn', hvn⟩ := h.voice hB (below_call k2 kv) hqn hv
         have hvf := HV.out v (List.mem_of_getElem? hv)
         have HT := Lib.hid (show (l.take (q + 1)).map (fun v => onS v (y0, y1)) = (l.take q).map (fun v => onS v (y0, y1)) ++ [onS v (y0, y1)] by rw [take_get hv, List.map_append]; rfl)
         have hBv : B ≤ wv.heap.size := Nat.le_trans hB (below_call k2 kv).size
         have q3 := fun W (hW : Below wv.heap.size wr W) => on_any A' n' c' v (y0, y1) B W (hr.below hBv (m0.trans hW)) (Nat.le_trans hBv (m0.trans hW).size) hn' hvf.2.1 HOy.out
         obtain ⟨on, hon⟩ : ∃ x, x = onS v (y0, y1) := ⟨_, rfl⟩
         rw [← hon] at q3 HT
         clear hon hv hvf hr
         have u0 := (m0.cell (p := ⟨b, off + k * 2, none⟩) lb).trans n0
         have u1 := (m0.cell (p := ⟨b, off + k * 2 + 1, none⟩) lb).trans n1
         have ul := (m0.cell (p := ⟨bl, offl + q, none⟩) hbl).trans cl
         have hsz := m0.size
         have hob : ∀ x, sv.ownBlock = some x → wv.heap.size + 1 ≤ x := fun x hx => (hown.lt x hx).1
         go_wp2_with fail
         go_region_law ((first | (go_simp; go_at_call 54; refine (q3 _ (show Below wv.heap.size wr _ by repeat (first | with_reducible (first | exact Below.refl _ _ | refine Below.drew ?_ | refine below_drewN ?_ _)))).mono ?_; rintro e wd ⟨rfl, hbd'⟩; have hbd := hbd'; have hBd : Below wv.heap.size wr wd := ((show Below wv.heap.size wr _ by repeat (first | with_reducible (first | exact Below.refl _ _ | refine Below.drew ?_ | refine below_drewN ?_ _)))).trans (hbd.mono (by simp; omega)); have hownd := own_call (own_call hown (by repeat (first | with_reducible (first | exact Below.refl _ _ | refine Below.drew ?_ | refine below_drewN ?_ _ | refine below_alloc ?_ _)))) hbd; have bSd := Blk.kept (Blk.kept bS (by repeat (first | with_reducible (first | exact Below.refl _ _ | refine Below.drew ?_ | refine below_drewN ?_ _ | refine below_alloc ?_ _)))) hbd; have c4d : wd.cell? ⟨wv.heap.size, 4, none⟩ = some sv := bSd.cell 4; have lSd := bSd.lt; have hszd := hBd.size) | ((refine step_is (.tmp 59) (.tmp 69) 40 sv ?_ ?_ ?_); (focus rfl); (focus rfl); (refine step_app _ (by rfl) (.tmp 59) (.tmp 69) 40 (by rfl) (wv.heap.size + 1) 3 j0 _ 1 8 Tryz.underlying40 hj0 gz0 gz1 gz2 rfl (by omega) sv q (csN ((l.take q).map fun v => onS v (y0, y1))) (by rfl) (own_call hownd (by repeat (first | with_reducible (first | exact Below.refl _ _ | refine Below.drew ?_ | refine below_drewN ?_ _ | refine below_alloc ?_ _)))) (wd.heap.size + 1) (some ⟨wd.heap.size, 0, none⟩) 1 1 (csN [on]) (by rfl) (Reads.newAt _ _ _ 1 1 _ rfl rfl) (one_csN _) (by simp only [maxLen]; omega) (by omega) (by simp; omega) ?_); intro v4 w4 hown4 hg4 hat4; have bS4 := Blk.grow (bSd.alloc (.cells #[.int .i64 on] 3)) hg4 (fun he => by have := hob _ he.symm; omega); have f4 := bS4.frozen 4; have c44 : w4.cell? ⟨wv.heap.size, 4, none⟩ = some sv := bS4.cell 4; have l4 := bS4.lt; have hB4 : Below wv.heap.size wr w4 := Below.grown (B := wv.heap.size) (a := wr) (hBd.alloc (Nat.le_trans hsz hBd.size) _) hg4 (by simp; omega) (fun x hx => Nat.le_of_succ_le (hob x hx)); clear hat4; obtain ⟨A4, c4v, hv4, _, _⟩ := own_reads hown4; subst hv4)))
         all_goals
          have hBt := m0.trans hB4
          go_wp2
          go_roundg g2
          case measure => omega
          case rel =>
           refine ⟨q + 1, _, by omega, rfl, (show Blk _ _ _ _ by repeat (first | with_reducible exact bS4 | with_reducible exact Blk.new _ _ _ | (with_reducible refine Blk.newAt _ _ _ _ ?_; first | rfl | (simp; done)) | with_reducible (first | apply Blk.alloc | apply Blk.drewN | apply Blk.drew | apply Blk.set_to) | (with_reducible apply Blk.far_; (simp only [ne_eq]; omega)) | rfl)), ?_, by repeat (first | with_reducible (first | exact Below.refl _ _ | assumption | refine below_drewN ?_ _ | refine Below.drew ?_ | refine below_alloc ?_ _) | (with_reducible refine Below.setCell ?_ ?_ _; rotate_left; ((try simp only); omega)))⟩
           rw [HT.out, csN_append]
           first | exact own_set hown4 (by simp) | exact own_drew (own_set hown4 (by simp)) _
     ·have hb : (r != 0) = true := by simpa using hr
      have HE2 := Lib.hid (show slicesE l = ([], r) by
       have h0 : durFrom m 0 (M - 1) = r := by rw [← hd.out, durFrom_bad (by rw [HD.out]; exact hr), HD.out]
       rw [HE.out, h0, if_pos hr])
      clear hr
      go_wp2
      go_ret2
      rw [HE2.out]
      exact ⟨_, rfl, OwnS.nil_ _ _, below_call k2 kv⟩
 ·have hb : ((checkA l).1 != 0) = true := by simpa using hz
  have E := Lib.hid (show slicesE l = ([], (checkA l).1) by unfold slicesE; rw [if_pos hz])
  clear hz
  go_enter Tryz.func33, Tryz.ntmps33
  go_wp2_with fail
  refine q1.mono ?_
  rintro e w1 ⟨rfl, hb1⟩
  go_wp2
  go_ret2
  rw [E.out]
  exact ⟨_, rfl, OwnS.nil_ _ _, hb1⟩
theorem rmade_ok (A : Option Addr) (n c : Nat) (l : List (List Ev)) (B : Nat) (w : World) (h : ReadsV w B A n l) (hB : B ≤ w.heap.size) (hn : n ≤ 10) (hv9 : ∀ v ∈ l, v.length ≤ 5000) (A2 : Option Addr) (m c2 : Nat) (L : List Fic) (B2 : Nat) (h2 : Reads w B2 4 A2 m (csFic L)) (hB2 : B2 ≤ w.heap.size) (hm : m ≤ 1000000) (hin : ∀ y ∈ L, inF l y = true) :
  Calls Tryz.prog 37 #[.slice A n c, .slice A2 m c2] w fun e w' => WRet n (withL l L) w e w' := by
 have HL := Lib.hid h.len
 have HV := Lib.hid h
 have HV9 := Lib.hid hv9
 have HR2 := Lib.hid h2
 have HLM := Lib.hid (show L.length = m from h2.len (size := 4) (l := L) (f := cFic) (fun _ => rfl) (by decide))
 have HIN := Lib.hid hin
 have HNE : 49 ≠ 36 := by decide
 obtain ⟨i0, hi0, hz0, hz1, hz2⟩ := info_parts voice_info
 obtain ⟨e0, he0, hy0, hy1, hy2⟩ := info_parts event_info
 clear hv9 h h2 hin
 go_enter Tryz.func37, Tryz.ntmps37
 go_wp2
 go_loopg [5, 6] n (fun gh u i wr => ∃ (k : Nat) (ds : List Pl), k + gh = n ∧ i = .int .i64 (k : Int) ∧ wr.ownsRow w.heap.size 36 1 u k (csV ds) ∧ ds.length = k ∧ VocAt wr w.heap.size ds l ∧ Far ds ∧ Below w.heap.size w wr)
 case atStart => exact ⟨0, [], by omega, by simp, ⟨rfl, .inl ⟨rfl, rfl⟩⟩, rfl, fun k d v hd _ => by simp at hd, Far.nil_, Below.refl _ _⟩
 case round =>
  obtain ⟨k, ds, hkg, rfl, hrow, hdl, hvs, hfar, k0⟩ := hrel
  have wk : IntKind.i64.wrap ((k : Int) + 1) = (k : Int) + 1 := IntWalk.i64_in _ (by omega)
  cases gk with
  | zero =>
   have hkn : k = n := by omega
   have d0 : ¬ ((k : Int) < (n : Int)) := by omega
   subst hkn
   have K0 := CopyAt.start hrow hdl HL.out hvs hfar
   obtain ⟨A9, c9, hu9, -, _, _⟩ := own_reads hrow
   subst hu9
   have HDL := Lib.hid hdl
   obtain ⟨lim, hlim⟩ : ∃ z, z = wr.heap.size := ⟨_, rfl⟩
   rw [← hlim] at K0
   have hlim2 : lim ≤ wr.heap.size := by omega
   clear hdl hkg hrow hvs hfar wk hlim
   go_wp2_with fail
   go_loopg [7] m (fun g2 i wy => ∃ q : Nat, q + g2 = m ∧ i = .int .i64 (q : Int) ∧ CopyAt wy w.heap.size lim (.slice A9 k c9) ds l (gW l (L.take q)) ∧ Below w.heap.size w wy ∧ lim ≤ wy.heap.size)
   case atStart => exact ⟨0, by omega, by simp, K0, k0, hlim2⟩
   case round =>
    clear K0 k0 hlim2
    obtain ⟨wy, hwy⟩ : ∃ z, z = wr := ⟨_, rfl⟩
    subst hwy
    obtain ⟨q, hqg, rfl, K, kr, hlm⟩ := hrel
    have wq : IntKind.i64.wrap ((q : Int) + 1) = (q : Int) + 1 := IntWalk.i64_in _ (by omega)
    cases gk with
    | zero =>
     have hq : q = m := by omega
     have d1 : ¬ ((q : Int) < (m : Int)) := by omega
     subst hq
     have HX := Lib.hid (show WRet k (withL l L) w (.returned (.slice A9 k c9)) wy from ⟨_, _, rfl, by
      have := K.readsW HL.out
      rwa [List.take_of_length_le (by rw [HLM.out]; exact Nat.le_refl _)] at this, kr⟩)
     clear K kr hlm
     go_wp2
     refine ret_of (by simp [results, Tryz.results37, go_sem, *]; repeat' (first | rfl | apply And.intro)) rfl HX.out
    | succ g2 =>
     have hqm : q < m := by omega
     have d1 : (q : Int) < (m : Int) := by omega
     obtain ⟨⟨y1, y2, y3, y4⟩, hy⟩ := get_some (l := L) (k := q) (by have := HLM.out; omega)
     obtain ⟨bf, off, hA2, hbf, hcf⟩ := Reads.elem (f := cFic) (fun _ => rfl) (HR2.out.below hB2 kr) hqm hy
     subst hA2
     have e0 := hcf 0 _ rfl
     have e1 := hcf 1 _ rfl
     have e2 := hcf 2 _ rfl
     have e3 := hcf 3 _ rfl
     simp only [Nat.add_zero, ← Nat.add_assoc] at e0 e1 e2 e3
     obtain ⟨i, j, v, hi, hj, hv, hjv⟩ := inF_nat (HIN.out _ (List.mem_of_getElem? hy))
     simp only at hi hj
     subst hi hj
     obtain ⟨done, x, rest, hg, hdn, hg2, hgo⟩ := gW_next (L := L.take q) (y := ((i : Int), (j : Int), y3, y4)) rfl rfl hv hjv
     rw [← take_get hy] at hg2 hgo
     obtain ⟨bu, cu, gi, cx, nv, hu, hbu, hbase, hcu, hds, hbg, hgl, hjn, hnv, how, ⟨z6, hz6⟩, hfz⟩ := K.evk hv hg hdn HDL.out
     have hik : i < k := by have := (List.getElem?_eq_some_iff.1 hv).1; have := HL.out; omega
     have hik' : (i : Int) < (k : Int) := by omega
     have hjn' : (j : Int) < (nv : Int) := by omega
     have hA9 : A9 = some ⟨bu, 0, none⟩ := by injection hu
     subst hA9
     have lbf : bf < wy.heap.size := by have := kr.size; omega
     have HG2 := Lib.hid hg2
     have HGO := Lib.hid hgo
     have HDN := Lib.hid hdn
     have HVV := Lib.hid hv
     have HDS := Lib.hid hds
     clear hy hcf hv hg hg2 hgo hdn hu hds hjv hnv
     go_wp2_with fail
     have K5 := K
     have kr5 := kr
     have o5 := how
     have hlm5 := hlm
     have hg5 := hgl
     have z5 := hz6
     clear K kr hz6 how hfz hgl hlm
     refine wp_region_calm_tail 19 (by kernel_rfl) (by kernel_rfl) ?_
     simp only [List.take_succ_cons, List.take_zero, List.drop_succ_cons, List.drop_zero]
     repeat (go_big_quiet_step (fail))
     refine wpQuiet_nil ?_
     intro wd gd
     have Kd := K5.kept gd hlm5
     have krd := below_call kr5 gd
     have od := own_call o5 gd
     have fd := od.frozenAt (j * 10 + 4 + 2)
     have zd : wd.cell? ⟨gi, j * 10 + 4 + 2, none⟩ = some (.int .i64 z6) := (gd.cell (p := ⟨gi, j * 10 + 6, none⟩) hg5).trans z5
     have lgd : gi < wd.heap.size := by have := gd.size; omega
     have hlmd : lim ≤ wd.heap.size := by have := gd.size; omega
     clear K5 kr5 o5 z5 gd
     go_wp2_with fail
     obtain ⟨w7, hw7⟩ : ∃ z, z = wd.setCell ⟨gi, j * 10 + 4 + 2, none⟩ (.int .i64 y3) := ⟨_, rfl⟩
     have K7 : CopyAt w7 w.heap.size lim (.slice (some ⟨bu, 0, none⟩) k c9) ds l (gW l (L.take (q + 1))) := by
      rw [hw7]
      refine Kd.put HVV.out HDS.out (fun _ _ _ _ _ _ h hne => st_one _ _ _ _ _ _ h hne) ?_ HGO.out
      have h1 := (od.stored (j * 10 + 6) (.int .i64 y3)).1
      have e := m_set_alt done rest x y3
      rw [HDN.out] at e
      rw [e] at h1
      rw [HG2.out]
      exact h1
     have kr7 : Below w.heap.size w w7 := by rw [hw7]; exact krd.setCell (by show w.heap.size ≤ gi; exact hbg) _
     have hl7 : lim ≤ w7.heap.size := by rw [hw7]; simpa using hlmd
     rw [← hw7]
     clear hw7 Kd krd od fd zd
     go_roundg g2
     case measure => omega
     case rel => exact ⟨q + 1, by omega, by go_num, K7, kr7, hl7⟩
  | succ g =>
   have hkn : k < n := by omega
   have d0 : (k : Int) < (n : Int) := by omega
   obtain ⟨v, hv⟩ := get_some (l := l) (k := k) (by have := HL.out; omega)
   have hv24 := HV9.out v (List.mem_of_getElem? hv)
   obtain ⟨b, off, A', n', c', rfl, hab, cv, rv, hn', hvn⟩ := HV.out.voice hB k0 hkn hv
   have rv2 := rv.below (Nat.le_trans hB k0.size) (below_alloc (Below.refl wr.heap.size wr) (.cells #[] 49))
   have HVK := Lib.hid hv
   have HDL := Lib.hid hdl
   have HN' := Lib.hid hn'
   have hn24 : n' ≤ 5000 := by omega
   have kz := k0.size
   clear hv hdl hvn hv24 hn' rv
   go_wp2_with (at_builtin; (first
    | ((refine wpList_append_any _ rfl (.tmp 15) (.tmp 19) 36 rfl wr.heap.size 49 e0 _ 10 80 Tryz.underlying36 he0 hy0 hy1 hy2 rfl (by omega) (.slice (some ⟨wr.heap.size, 0, none⟩) 0 0) 0 [] rfl (World.ownsRow_lit wr #[] 0 (Nat.le_refl _) (by simp [maxLen]) rfl) B A' n' c' (csE v) rfl rv2 (one_csE v) (by simp only [maxLen]; omega) (by omega) (by simp) ?_); intro v1 w3 hown1 hg1 hat1; simp only [Nat.zero_add, List.nil_append] at hown1; have k3 : Below wr.heap.size wr w3 := (below_alloc (Below.refl _ _) _).grown hg1 (by simp) (fun k hk => by simp [Value.ownBlock] at hk; omega); obtain ⟨A3, c3, hv1, ⟨hown3, hrA3, hcA3⟩⟩ := ownE_form hown1; subst hv1; have row3 := own_call hrow k3; have vs3 := hvs.kept k3; have z3 := k3.size; clear hown1 hat1 hrA3 hcA3)
    | ((refine wpList_append_any _ rfl (.tmp 14) (.tmp 21) 22 rfl w.heap.size 36 i0 _ 1 24 Tryz.underlying22 hi0 hz0 hz1 hz2 rfl (by omega) u5 k (csV ds) rfl (own_call row3 (below_alloc (Below.refl _ _) _)) (w3.heap.size + 1) (some ⟨w3.heap.size, 0, none⟩) 1 1 (csV [(A3, n', c3)]) rfl (Reads.newAt _ _ _ 1 1 _ rfl rfl) (one_csV _) (by simp only [maxLen]; omega) (by omega) (by simp; omega) ?_); intro v4 w4 hown4 hg4 hat4)))
   have HFAR := Lib.hid (show Far (ds ++ [(A3, n', c3)]) from hfar.snoc (hvs.lt (by rw [HDL.out, HL.out]; exact Nat.le_of_lt hkn)) (fun q hq => by
    have h1 : A3 = some q := hq
    rw [h1] at hown3
    exact own_base hown3))
   have k2 := below_call k0 k3
   have hB4 : Below w.heap.size w3 w4 := Below.grown (B := w.heap.size) (a := w3) ((below_alloc (Below.refl w3.heap.size w3) (.cells #[.slice A3 n' c3] 36)).mono (by omega)) hg4 (by simp; omega) (fun x hx => (row3.lt x hx).1)
   have rowA := own_call row3 (below_alloc (Below.refl w3.heap.size w3) (.cells #[.slice A3 n' c3] 36))
   have HNV := Lib.hid (show VocAt w4 w.heap.size (ds ++ [(A3, n', c3)]) l from fun j d u hd hu => by
    rcases Nat.lt_or_ge j ds.length with hj | hj
    ·rw [List.getElem?_append_left hj] at hd
     have h1 := vs3 j d u hd hu
     exact ⟨own_far (own_call h1.1 (below_alloc (Below.refl w3.heap.size w3) (.cells #[.slice A3 n' c3] 36))) rowA hg4 HNE, h1.2⟩
    ·have hjk : j = k := by
      have h9 := (List.getElem?_eq_some_iff.1 hd).1
      rw [List.length_append, HDL.out] at h9
      rw [HDL.out] at hj
      have h10 : j < k + 1 := h9
      omega
     subst hjk
     rw [List.getElem?_append_right (by rw [HDL.out]; exact Nat.le_refl _), HDL.out] at hd
     simp at hd
     subst hd
     rw [HVK.out] at hu
     cases hu
     exact ⟨own_far (own_call (own_lower hown3 kz) (below_alloc (Below.refl w3.heap.size w3) (.cells #[.slice A3 n' c3] 36))) rowA hg4 HNE, HN'.out⟩)
   go_roundg g
   case measure => omega
   case rel => exact ⟨k + 1, ds ++ [(A3, n', c3)], by omega, by go_num, by rw [csV_append]; exact hown4, by rw [List.length_append, HDL.out]; rfl, HNV.out, HFAR.out, k2.trans hB4⟩
theorem ownEvents_big (A : Option Addr) (n c : Nat) (l : List Ev) (B : Nat) (w : World) (h : Reads w B 10 A n (csE l)) (hB : B ≤ w.heap.size) (hn : n * 80 ≤ 140737488355328) :
  Calls Tryz.prog 28 #[.slice A n c] w fun e w' => ∃ A' c', e = .returned (.slice A' n c') ∧ OwnE w' w.heap.size n A' c' l ∧ Below w.heap.size w w' := by
 obtain ⟨i0, hi0, hz0, hz1, hz2⟩ := info_parts event_info
 go_enter Tryz.func28, Tryz.ntmps28
 go_wp2_with (at_builtin; (refine wpList_append_any _ rfl (.tmp 3) (.tmp 4) _ rfl w.heap.size 49 i0 _ 10 80 Tryz.underlying36 hi0 hz0 hz1 hz2 rfl (by omega) (.slice (some ⟨w.heap.size, 0, none⟩) 0 0) 0 [] rfl (World.ownsRow_lit w #[] 0 (Nat.le_refl _) (by simp [maxLen]) rfl) B A n c (csE l) rfl (h.below hB (below_alloc (Below.refl _ _) _)) (one_csE l) (by simp only [maxLen]; omega) (by omega) (by simp) ?_); intro v1 w1 hown1 hg1 hat1)
 go_ret
 simp only [Nat.zero_add, List.nil_append] at hown1
 obtain ⟨A', c', e, ho⟩ := ownE_form hown1
 subst e
 exact ⟨A', c', rfl, ho, (below_alloc (Below.refl _ _) _).grown hg1 (by simp) (fun k hk => by simp [Value.ownBlock] at hk; omega)⟩
def LRet31 (n : Nat) (w : World) (e : Ending) (w' : World) : Prop := ∃ b : Bool, e = .returned (.bool b) ∧ (b = true → n ≤ 9) ∧ Below w.heap.size w w'
def OwnRet31 (n : Nat) (l : List (List Ev)) (w : World) (e : Ending) (w' : World) : Prop := ∃ A' c', e = .returned (.slice A' n c') ∧ ReadsV w' w'.heap.size A' n l ∧ Below w.heap.size w w'
theorem light31_any (A : Option Addr) (n c : Nat) (l : List (List Ev)) (B : Nat) (w : World) (h : ReadsV w B A n l) (hB : B ≤ w.heap.size) (hn : n ≤ 9223372036854775807) :
  Calls Tryz.prog 10 #[.slice A n c] w fun e w' => LRet31 n w e w' := by
 have HL := Lib.hid h.len
 have HV := Lib.hid h
 clear h
 go_enter Tryz.func10, Tryz.ntmps10
 go_wp2_with fail
 go_loopg [3, 4] (min n 10) (fun gh u i wr => ∃ (k : Nat) (s : Int), k + gh = min n 10 ∧ i = .int .i64 (k : Int) ∧ u = .int .i64 s ∧ Below w.heap.size w wr)
 case atStart => exact ⟨0, 0, by omega, by simp, rfl, Below.refl _ _⟩
 case round =>
  obtain ⟨k, s, hkg, rfl, rfl, k0⟩ := hrel
  have wk : IntKind.i64.wrap ((k : Int) + 1) = (k : Int) + 1 := IntWalk.i64_in _ (by omega)
  cases gk with
  | zero =>
   by_cases hkn : k < n
   ·have d0 : (k : Int) < (n : Int) := by omega
    have d1 : ¬ ((k : Int) < 10) := by omega
    have d2 : ¬ ((n : Int) ≤ 9) := by omega
    have d2' : decide (n ≤ 9) = false := decide_eq_false (by omega)
    clear hkn hkg
    go_wp2
    refine ret_of (by simp [results, Tryz.results10, go_sem, *]; repeat' (first | rfl | apply And.intro)) rfl ⟨false, rfl, (fun h => by cases h), k0⟩
   ·have d0 : ¬ ((k : Int) < (n : Int)) := by omega
    have h9 : n ≤ 10 := by omega
    by_cases hn9 : n ≤ 9
    ·have d2 : (n : Int) ≤ 9 := by omega
     have d2' : decide (n ≤ 9) = true := decide_eq_true hn9
     have H9 := Lib.hid hn9
     clear hkn hkg hn9 h9
     go_wp2
     refine ret_of (by simp [results, Tryz.results10, go_sem, *]; repeat' (first | rfl | apply And.intro)) rfl ⟨_, rfl, fun _ => H9.out, k0⟩
    ·have d2 : ¬ ((n : Int) ≤ 9) := by omega
     have d2' : decide (n ≤ 9) = false := decide_eq_false hn9
     clear hkn hkg hn9 h9
     go_wp2
     refine ret_of (by simp [results, Tryz.results10, go_sem, *]; repeat' (first | rfl | apply And.intro)) rfl ⟨false, rfl, (fun h => by cases h), k0⟩
  | succ g =>
   have hkn : k < n := by omega
   have d0 : (k : Int) < (n : Int) := by omega
   have d1 : (k : Int) < 10 := by omega
   obtain ⟨v, hv⟩ := get_some (l := l) (k := k) (by have := HL.out; omega)
   obtain ⟨b, off, A', n', c', rfl, hab, cv, _, _, hvn⟩ := HV.out.voice hB k0 hkn hv
   clear hv hvn
   go_wp2
   go_roundg g
   case measure => omega
   case rel => exact ⟨k + 1, _, by omega, by go_num, rfl, k0⟩
theorem own31_any (A : Option Addr) (n c : Nat) (l : List (List Ev)) (B : Nat) (w : World) (h : ReadsV w B A n l) (hB : B ≤ w.heap.size) (hn : n ≤ 10) (hv9 : ∀ v ∈ l, v.length * 80 ≤ 140737488355328) :
  Calls Tryz.prog 12 #[.slice A n c] w fun e w' => OwnRet31 n l w e w' := by
 have HL := Lib.hid h.len
 have HV9 := Lib.hid hv9
 clear hv9
 obtain ⟨i0, hi0, hz0, hz1, hz2⟩ := info_parts voice_info
 go_enter Tryz.func12, Tryz.ntmps12
 go_wp2
 go_loopg [3, 4] n (fun gh u i wr => ∃ (k : Nat) (ds : List Pl), k + gh = n ∧ i = .int .i64 (k : Int) ∧ wr.ownsRow w.heap.size 36 1 u k (csV ds) ∧ ds.length = k ∧ VocAt wr w.heap.size ds l ∧ Below w.heap.size w wr)
 case atStart => exact ⟨0, [], by omega, by simp, ⟨rfl, .inl ⟨rfl, rfl⟩⟩, rfl, fun k d v hd _ => by simp at hd, Below.refl _ _⟩
 case round =>
  obtain ⟨k, ds, hkg, rfl, hrow, hdl, hvs, k0⟩ := hrel
  have wk : IntKind.i64.wrap ((k : Int) + 1) = (k : Int) + 1 := IntWalk.i64_in _ (by omega)
  cases gk with
  | zero =>
   obtain rfl : k = n := by omega
   have d0 : ¬ ((k : Int) < (k : Int)) := by omega
   obtain ⟨A9, c9, rfl, r9, _, _⟩ := own_reads hrow
   have HF := Lib.hid (show ReadsV wr wr.heap.size A9 k l from ⟨ds, by rw [hdl]; exact HL.out.symm, r9, fun j d v hd hv => by
    obtain ⟨h1, h2⟩ := hvs j d v hd hv
    obtain ⟨A8, c8, e8, r8, _, _⟩ := own_reads h1
    cases e8
    exact ⟨r8, h2⟩⟩)
   clear hdl
   go_wp2
   go_ret
   exact ⟨A9, c9, rfl, HF.out, k0⟩
  | succ g =>
   have hkn : k < n := by omega
   have d0 : (k : Int) < (n : Int) := by omega
   obtain ⟨v, hv⟩ := get_some (l := l) (k := k) (by have := HL.out; omega)
   have hv24 := HV9.out v (List.mem_of_getElem? hv)
   obtain ⟨b, off, A', n', c', rfl, hab, cv, rv, hn', hvn⟩ := h.voice hB k0 hkn hv
   have HVK := Lib.hid hv
   have HDL := Lib.hid hdl
   have q1 := ownEvents_big A' n' c' v B wr rv (Nat.le_trans hB k0.size) (by omega)
   clear hv hdl
   go_wp2_with fail
   refine q1.mono ?_
   rintro e w2 ⟨A2, c2, rfl, ho2, hb2⟩
   have row2 := own_call hrow hb2
   have vs2 := hvs.kept hb2
   have k2 := below_call k0 hb2
   have kz := k0.size
   have kz2 := hb2.size
   clear hvs hrow q1
   go_wp2_with (at_builtin; (refine wpList_append_any _ rfl (.tmp 11) (.tmp 17) 22 rfl w.heap.size 36 i0 _ 1 24 Tryz.underlying22 hi0 hz0 hz1 hz2 rfl (by omega) u3 k (csV ds) rfl (own_call row2 (below_alloc (Below.refl _ _) _)) (w2.heap.size + 1) (some ⟨w2.heap.size, 0, none⟩) 1 1 (csV [(A2, n', c2)]) rfl (Reads.newAt _ _ _ 1 1 _ rfl rfl) (one_csV _) (by simp only [maxLen]; omega) (by omega) (by simp; omega) ?_); intro v4 w4 hown4 hg4 hat4)
   have hB4 : Below w.heap.size w2 w4 := Below.grown (B := w.heap.size) (a := w2) ((below_alloc (Below.refl w2.heap.size w2) (.cells #[.slice A2 n' c2] 36)).mono (by omega)) hg4 (by simp; omega) (fun x hx => (row2.lt x hx).1)
   have rowA := own_call row2 (below_alloc (Below.refl w2.heap.size w2) (.cells #[.slice A2 n' c2] 36))
   have HNV := Lib.hid (show VocAt w4 w.heap.size (ds ++ [(A2, n', c2)]) l from fun j d u hd hu => by
    rcases Nat.lt_or_ge j ds.length with hj | hj
    ·rw [List.getElem?_append_left hj] at hd
     have h1 := vs2 j d u hd hu
     exact ⟨own_far (own_call h1.1 (below_alloc (Below.refl w2.heap.size w2) (.cells #[.slice A2 n' c2] 36))) rowA hg4 (by decide), h1.2⟩
    ·have hjk : j = k := by
      have h9 := (List.getElem?_eq_some_iff.1 hd).1
      rw [List.length_append, HDL.out] at h9
      rw [HDL.out] at hj
      have h10 : j < k + 1 := h9
      omega
     subst hjk
     rw [List.getElem?_append_right (by rw [HDL.out]; exact Nat.le_refl _), HDL.out] at hd
     simp at hd
     subst hd
     rw [HVK.out] at hu
     cases hu
     exact ⟨own_far (own_call (own_lower ho2.1 kz) (below_alloc (Below.refl w2.heap.size w2) (.cells #[.slice A2 n' c2] 36))) rowA hg4 (by decide), hn'⟩)
   go_roundg g
   case measure => omega
   case rel => exact ⟨k + 1, ds ++ [(A2, n', c2)], by omega, by go_num, by rw [csV_append]; exact hown4, by rw [List.length_append, HDL.out]; rfl, HNV.out, k2.trans hB4⟩
theorem same31_any (A A' : Option Addr) (n c c' : Nat) (l : List (List Ev)) (B B' : Nat) (w : World) (h : ReadsV w B A n l) (hB : B ≤ w.heap.size) (h' : ReadsV w B' A' n l) (hB' : B' ≤ w.heap.size) (hn : n ≤ 100000) :
  Calls Tryz.prog 17 #[.slice A n c, .slice A' n c'] w fun e w' => e = .returned (.bool true) ∧ Below w.heap.size w w' := by
 have HL := Lib.hid h.len
 go_enter Tryz.func17, Tryz.ntmps17
 go_wp2
 go_loopg [5] n (fun gh i wr => ∃ k : Nat, k + gh = n ∧ i = .int .i64 (k : Int) ∧ Below w.heap.size w wr)
 case atStart => exact ⟨0, by omega, by simp, Below.refl _ _⟩
 case round =>
  obtain ⟨k, hkg, rfl, k0⟩ := hrel
  have wk : IntKind.i64.wrap ((k : Int) + 1) = (k : Int) + 1 := IntWalk.i64_in _ (by omega)
  cases gk with
  | zero =>
   have d0 : ¬ ((k : Int) < (n : Int)) := by omega
   clear hkg
   go_wp2
   go_ret
   exact ⟨rfl, k0⟩
  | succ g =>
   have hkn : k < n := by omega
   have d0 : (k : Int) < (n : Int) := by omega
   obtain ⟨v, hv⟩ := get_some (l := l) (k := k) (by have := HL.out; omega)
   obtain ⟨b, off, A2, n2, c2, rfl, hab, cv, rv, hn2, hvn⟩ := h.voice hB k0 hkn hv
   obtain ⟨b', off', A3, n3, c3, rfl, hab', cv', rv', hn3, hvn'⟩ := h'.voice hB' k0 hkn hv
   have h23 : n3 = n2 := by omega
   subst h23
   have HQ := Lib.hid (fun W (hW : Below wr.heap.size wr W) => sameEvents_any A2 A3 n3 c2 c3 v B B' W (rv.below (Nat.le_trans hB k0.size) hW) (Nat.le_trans (Nat.le_trans hB k0.size) hW.size) (rv'.below (Nat.le_trans hB' k0.size) hW) (Nat.le_trans (Nat.le_trans hB' k0.size) hW.size) (by omega))
   clear hv
   go_wp2_with fail
   refine wp_region_calm (by kernel_rfl) (by kernel_rfl) ?_
   repeat (go_big_quiet_step ((go_at_call 38; exact calm_call (HQ.out _ (Calm.h _)))))
   refine wpQuiet_nil ?_
   intro wd gd
   go_wp2
   go_roundg g
   case measure => omega
   case rel => exact ⟨k + 1, by omega, by go_num, below_call k0 gd⟩
end Go.Proofs.YtpkmiegccfhpnaaGreatDoor
namespace Go.Proofs.YtpkmiegccfhpnaaGreatDoor
set_option maxRecDepth 100000
open Go.ChangeShapes Go.WideShapes Go.Deep Go.RowKit
section
variable {H : Type} {enc : TypeId × Value → H} {w : World} {base : Nat} {spare : Nat → Bool} {held : Bool}
theorem trod_ficta {n : Nat} {cs : List Value} {x : DataW H × List MemPlace} (h : DataW.trod enc Tryz.prog w base spare held n 39 cs = some x) : ∃ y : Fic, cs = cFic y := by
 obtain ⟨ys, m, rfl, _, hl, hyl, hf⟩ := DataW.trod_struct Tryz.underlying39 h
 rw [show Tryz.prog.cellsOf 39 = 4 from by kernel_rfl] at hl
 match cs, hl with
 | [a, b, c, d], _ =>
  have h0 : DataW.trod enc Tryz.prog w base spare held m 3 ((([a, b, c, d] : List Value).drop 0).take (Tryz.prog.cellsOf 3)) = ys[0]? := hf 0 _ rfl
  have h1 : DataW.trod enc Tryz.prog w base spare held m 3 ((([a, b, c, d] : List Value).drop 1).take (Tryz.prog.cellsOf 3)) = ys[1]? := hf 1 _ rfl
  have h2 : DataW.trod enc Tryz.prog w base spare held m 3 ((([a, b, c, d] : List Value).drop 2).take (Tryz.prog.cellsOf 3)) = ys[2]? := hf 2 _ rfl
  have h3 : DataW.trod enc Tryz.prog w base spare held m 3 ((([a, b, c, d] : List Value).drop 3).take (Tryz.prog.cellsOf 3)) = ys[3]? := hf 3 _ rfl
  rw [show Tryz.prog.cellsOf 3 = 1 from by kernel_rfl] at h0 h1 h2 h3
  simp only [List.drop_zero, List.drop_succ_cons, List.take_succ_cons, List.take_zero] at h0 h1 h2 h3
  rw [List.getElem?_eq_getElem (by rw [hyl]; decide)] at h0 h1 h2 h3
  obtain ⟨x1, e0, _, _⟩ := DataW.trod_int Tryz.underlying3 h0
  obtain ⟨x2, e1, _, _⟩ := DataW.trod_int Tryz.underlying3 h1
  obtain ⟨x3, e2, _, _⟩ := DataW.trod_int Tryz.underlying3 h2
  obtain ⟨x4, e3, _, _⟩ := DataW.trod_int Tryz.underlying3 h3
  simp at e0 e1 e2 e3
  subst e0 e1 e2 e3
  exact ⟨(x1, x2, x3, x4), rfl⟩
end
section
variable {H : Type} {enc : TypeId × Value → H} {W : World} {base b0 : Nat} {spare : Nat → Bool} {held : Bool} {r : Reach} {v : Value} {d : DataW H} {p : List MemPlace}
theorem arg_ficta (hv : Value.okWide Tryz.prog W r b0 23 v) (h : DataW.Trod enc Tryz.prog W base spare held 23 v d p) :
  ∃ (A : Option Addr) (n c : Nat) (l : List Fic), v = .slice A n c ∧ Reads W W.heap.size 4 A n (csFic l) ∧ n ≤ 9223372036854775807 := by
 obtain ⟨A, n, c, rfl⟩ := okWide_slice Tryz.underlying23 hv
 obtain ⟨fuel, hf⟩ := h
 rcases open_slice Tryz.underlying23 hf with ⟨hcs, _⟩ | ⟨a, len, cap, m, n', D, Pl, hcs, hb, hl, hm, hmm, hx, hi⟩
 ·simp [Value.cells] at hcs
  obtain ⟨rfl, rfl, rfl⟩ := hcs
  exact ⟨none, 0, 0, [], rfl, Reads.none_, by omega⟩
 ·simp [Value.cells] at hcs
  obtain ⟨rfl, rfl, rfl⟩ := hcs
  have hlm : n ≤ m := by rw [hmm]; split <;> omega
  rw [show Tryz.prog.cellsOf 39 = 4 from by kernel_rfl] at hi
  obtain ⟨l, hl1, hl2⟩ := list_of (fun i (x : Fic) => ∀ j u, (cFic x)[j]? = some u → W.cell? (a.add (i * 4 + j)) = some u) n fun i hin => by
   obtain ⟨cs', hc, ht'⟩ := hi i (by omega)
   obtain ⟨y, rfl⟩ := trod_ficta ht'
   obtain ⟨_, hcl, hat⟩ := World.cells?_some hc
   refine ⟨y, fun j u hu => ?_⟩
   have hj : j < 4 := by
    have := (List.getElem?_eq_some_iff.1 hu).1
    simpa [cFic] using this
   have := hat j hj
   rw [← Go.Deep.add_add, this, hu]
  exact ⟨some a, n, c, l, rfl, reads_of (f := cFic) (fun _ => rfl) (by omega) hl1 hl2, by unfold maxLen at hm; omega⟩
theorem weightsAll_mem {P : Program} {e : TypeId} : ∀ {l : List (DataW H)} {d : DataW H}, d ∈ l → ∀ n ∈ d.weights P e, n ∈ DataW.weightsAll P e l
 | x :: l, d, hd, n, hn => by
  simp only [DataW.weightsAll, List.mem_append]
  rcases List.mem_cons.1 hd with rfl | hd
  ·exact .inl hn
  ·exact .inr (weightsAll_mem hd n hn)
theorem trod_events_sz {fuel : Nat} {x : DataW H × List MemPlace} (hf : DataW.trod enc Tryz.prog W base spare held fuel 36 [v] = some x) :
  ∃ (A : Option Addr) (n c : Nat) (l : List Ev), v = .slice A n c ∧ Reads W W.heap.size 10 A n (csE l) ∧ n ≤ 9223372036854775807 ∧ ((∀ k ∈ x.1.weights Tryz.prog 36, k ≤ reachBytes) → n * 80 ≤ 140737488355328) := by
 rcases open_slice Tryz.underlying36 hf with ⟨hcs, _⟩ | ⟨a, len, cap, m, n', D, Pl, hcs, hb, hl, hm, hmm, hx, hi⟩
 ·simp at hcs
  subst hcs
  exact ⟨none, 0, 0, [], rfl, Reads.none_, by omega, fun _ => by omega⟩
 ·simp at hcs
  subst hcs
  have hlm : len ≤ m := by rw [hmm]; split <;> omega
  rw [show Tryz.prog.cellsOf 49 = 10 from by kernel_rfl] at hi
  obtain ⟨l, hl1, hl2⟩ := list_of (fun i (x : Ev) => ∀ j u, (cE x)[j]? = some u → W.cell? (a.add (i * 10 + j)) = some u) len fun i hin => by
   obtain ⟨cs', hc, ht'⟩ := hi i (by omega)
   obtain ⟨y, rfl⟩ := trod_event ht'
   obtain ⟨_, hcl, hat⟩ := World.cells?_some hc
   refine ⟨y, fun j u hu => ?_⟩
   have hj : j < 10 := by
    have := (List.getElem?_eq_some_iff.1 hu).1
    simpa [cE] using this
   have := hat j hj
   rw [← Go.Deep.add_add, this, hu]
  refine ⟨some a, len, cap, l, rfl, reads_of (f := cE) (fun _ => rfl) (by omega) hl1 hl2, by unfold maxLen at hm; omega, fun hz => ?_⟩
  rw [hx] at hz
  have hb80 : Tryz.prog.bytesOf 49 = 80 := by kernel_rfl
  have h1 := hz _ (by
   unfold DataW.weights
   rw [show Tryz.prog.underlying 36 = some (.slice 49) from Tryz.underlying36]
   exact List.mem_cons_self)
  rw [hb80] at h1
  simp at h1
  unfold reachBytes at h1
  omega
theorem arg_voicez (hv : Value.okWide Tryz.prog W r b0 22 v) (h : DataW.Trod enc Tryz.prog W base spare held 22 v d p) :
  ∃ (A : Option Addr) (n c : Nat) (l : List (List Ev)), v = .slice A n c ∧ ReadsV W W.heap.size A n l ∧ n ≤ 9223372036854775807 ∧ ((∀ k ∈ d.weights Tryz.prog 22, k ≤ reachBytes) → ∀ v ∈ l, v.length * 80 ≤ 140737488355328) := by
 obtain ⟨A, n, c, rfl⟩ := okWide_slice Tryz.underlying22 hv
 obtain ⟨fuel, hf⟩ := h
 rcases open_slice1 Tryz.underlying22 cells_events hf with ⟨hcs, _⟩ | ⟨a, len, cap, m, n', V, D, P9, hcs, hb, hl, hm, hmm, hx, hi⟩
 ·simp [Value.cells] at hcs
  obtain ⟨rfl, rfl, rfl⟩ := hcs
  exact ⟨none, 0, 0, [], rfl, ⟨[], rfl, Reads.none_, fun k d v hd _ => by simp at hd⟩, by omega, fun _ v hv => by cases hv⟩
 ·simp [Value.cells] at hcs
  obtain ⟨rfl, rfl, rfl⟩ := hcs
  have hlm : n ≤ m := by rw [hmm]; split <;> omega
  obtain ⟨ys, hy1, hy2⟩ := list_of (fun i (y : Pl × List Ev) => W.cell? (a.add i) = some (.slice y.1.1 y.1.2.1 y.1.2.2) ∧ Reads W W.heap.size 10 y.1.1 y.1.2.1 (csE y.2) ∧ y.1.2.1 ≤ 9223372036854775807 ∧ ((∀ k ∈ (D i).weights Tryz.prog 36, k ≤ reachBytes) → y.1.2.1 * 80 ≤ 140737488355328)) n fun i hin => by
   obtain ⟨h1, h2⟩ := hi i (by omega)
   obtain ⟨A', n'', c', l', e, hr, hn', hz⟩ := trod_events_sz h2
   rw [e] at h1
   exact ⟨((A', n'', c'), l'), h1, hr, hn', hz⟩
  have hR : ReadsV W W.heap.size (some a) n (ys.map (·.2)) := by
   refine ⟨ys.map (·.1), by simp, reads_of (f := slV) (size := 1) (l := ys.map (·.1)) (fun _ => rfl) (by omega) (by simpa using hy1) ?_, ?_⟩
   ·intro i x hx j u hu
    rw [List.getElem?_map] at hx
    cases hyi : ys[i]? with
    | none => rw [hyi] at hx; cases hx
    | some y =>
     rw [hyi] at hx
     simp at hx
     subst hx
     have hj : j = 0 := by
      have := (List.getElem?_eq_some_iff.1 hu).1
      simp [slV] at this; omega
     subst hj
     simp [slV] at hu
     subst hu
     simpa using (hy2 i y hyi).1
   ·intro k d v hd hv
    rw [List.getElem?_map] at hd hv
    cases hyi : ys[k]? with
    | none => rw [hyi] at hd; cases hd
    | some y =>
     rw [hyi] at hd hv
     simp at hd hv
     subst hd hv
     exact ⟨(hy2 k y hyi).2.1, (hy2 k y hyi).2.2.1⟩
  refine ⟨some a, n, c, ys.map (·.2), rfl, hR, by unfold maxLen at hm; omega, fun hz v hv => ?_⟩
  obtain ⟨y, hy, rfl⟩ := List.mem_map.1 hv
  obtain ⟨i, hyi⟩ := List.mem_iff_getElem?.1 hy
  obtain ⟨_, h2, _, h4⟩ := hy2 i y hyi
  have hin : i < n := by have := (List.getElem?_eq_some_iff.1 hyi).1; omega
  have hlen : y.2.length = y.1.2.1 := by have := h2.evlen; omega
  rw [hlen]
  refine h4 fun k hk => hz k ?_
  have hd : d = .slice ((List.range n).map D) ((List.range (m - n)).map fun j => D (n + j)) := congrArg Prod.fst hx
  rw [hd]
  unfold DataW.weights
  rw [show Tryz.prog.underlying 22 = some (.slice 36) from Tryz.underlying22]
  refine List.mem_cons_of_mem _ (List.mem_append.2 (.inl (weightsAll_mem (d := D i) (List.mem_map.2 ⟨i, List.mem_range.2 hin, rfl⟩) k hk)))
end
end Go.Proofs.YtpkmiegccfhpnaaGreatDoor
namespace Go.Proofs.YtpkmiegccfhpnaaGreatDoor
def plcF (y : Fic) : Plc := (y.1, y.2.1)
def funL : List Fic → Plc → Option Fic
 | [], _ => none
 | y :: O, p => if plcF y = p then some y else funL O p
theorem funL_nil : funL [] = fun _ => none := rfl
theorem funL_append (O M : List Fic) (p : Plc) : funL (O ++ M) p = match funL O p with
  | some x => some x
  | none => funL M p := by
 induction O with
 | nil => rfl
 | cons y O ih =>
  show (if plcF y = p then some y else funL (O ++ M) p) = match (if plcF y = p then some y else funL O p) with
   | some x => some x
   | none => funL M p
  by_cases h : plcF y = p
  ·rw [if_pos h, if_pos h]
  ·rw [if_neg h, if_neg h, ih]
theorem funL_snoc (O : List Fic) (y : Fic) (p : Plc) : funL (O ++ [y]) p = match funL O p with
  | some x => some x
  | none => if plcF y = p then some y else none := by rw [funL_append]; rfl
theorem funL_some : ∀ {O : List Fic} {p : Plc} {y : Fic}, funL O p = some y → y ∈ O ∧ plcF y = p
 | z :: O, p, y, h => by
  unfold funL at h
  split at h
  ·cases h; exact ⟨List.mem_cons_self, ‹_›⟩
  ·obtain ⟨h1, h2⟩ := funL_some h; exact ⟨List.mem_cons_of_mem _ h1, h2⟩
theorem funL_none : ∀ {O : List Fic} {p : Plc}, funL O p = none ↔ ∀ y ∈ O, plcF y ≠ p
 | [], p => ⟨fun _ y h => (by cases h), fun _ => rfl⟩
 | z :: O, p => by
  unfold funL
  by_cases h : plcF z = p
  ·rw [if_pos h]
   exact ⟨fun hh => (by cases hh), fun hh => absurd h (hh z List.mem_cons_self)⟩
  ·rw [if_neg h, funL_none]
   exact ⟨fun hh y hy => (List.mem_cons.1 hy).elim (fun e => e ▸ h) (hh y), fun hh y hy => hh y (List.mem_cons_of_mem _ hy)⟩
theorem funL_mem : ∀ {O : List Fic} (_ : (O.map plcF).Nodup) {y : Fic} (_ : y ∈ O), funL O (plcF y) = some y
 | z :: O, nd, y, hy => by
  rw [List.map_cons, List.nodup_cons] at nd
  unfold funL
  rcases List.mem_cons.1 hy with e | hy
  ·rw [e, if_pos rfl]
  ·rw [if_neg (fun e => nd.1 (by rw [e]; exact List.mem_map.2 ⟨y, hy, rfl⟩)), funL_mem nd.2 hy]
def addL (l : List (List Ev)) (T O : List Fic) (p : Plc) (a r : Int) : List Fic := if freeB l p = true ∧ (funL T p).isSome = false ∧ (funL O p).isSome = false then O ++ [(p.1, p.2, a, r)] else O
def addsL (l : List (List Ev)) (T : List Fic) (a r : Int) (O : List Fic) (L : List Plc) : List Fic := L.foldl (fun O p => addL l T O p a r) O
theorem addsL_snoc (l : List (List Ev)) (T : List Fic) (a r : Int) (O : List Fic) (L : List Plc) (p : Plc) : addsL l T a r O (L ++ [p]) = addL l T (addsL l T a r O L) p a r := by unfold addsL; rw [List.foldl_append]; rfl
theorem addsL_append (l : List (List Ev)) (T : List Fic) (a r : Int) (O : List Fic) (L M : List Plc) : addsL l T a r O (L ++ M) = addsL l T a r (addsL l T a r O L) M := by unfold addsL; rw [List.foldl_append]
theorem addL_off {l : List (List Ev)} {T O : List Fic} {p : Plc} {a r : Int} (h : freeB l p = false) : addL l T O p a r = O := by unfold addL; rw [if_neg (fun hh => by rw [h] at hh; cases hh.1)]
theorem addL_fun {l : List (List Ev)} {T O : List Fic} {p : Plc} {a r : Int} (hf : freeB l p = true) : funL (addL l T O p a r) = yld (funL T) r a (funL O) p := by
 unfold addL yld
 by_cases h : (funL T p).isSome = false ∧ (funL O p).isSome = false
 ·rw [if_pos ⟨hf, h⟩, if_pos h]
  funext q
  rw [funL_snoc]
  unfold updO
  by_cases e : q = p
  ·subst e
   have h2 : funL O q = none := by cases hh : funL O q; rfl; rw [hh] at h; cases h.2
   rw [h2, if_pos rfl]
   exact if_pos rfl
  ·rw [if_neg e]
   cases funL O q with
   | some x => rfl
   | none => exact if_neg (fun hh => e hh.symm)
 ·rw [if_neg (fun hh => h hh.2), if_neg h]
theorem addsL_fun {l : List (List Ev)} {T : List Fic} {a r : Int} : ∀ {L : List Plc} {O : List Fic}, (∀ p ∈ L, freeB l p = true) → funL (addsL l T a r O L) = ylds (funL T) r a (funL O) L
 | [], _, _ => rfl
 | p :: L, O, h => by
  show funL (addsL l T a r (addL l T O p a r) L) = ylds (funL T) r a (yld (funL T) r a (funL O) p) L
  rw [addsL_fun (fun q hq => h q (List.mem_cons_of_mem _ hq)), addL_fun (h p List.mem_cons_self)]
structure ProL (l : List (List Ev)) (T O : List Fic) : Prop where
 nd : (O.map plcF).Nodup
 free : ∀ y ∈ O, freeB l (plcF y) = true
 off : ∀ y ∈ O, funL T (plcF y) = none
theorem ProL.nil_ (l : List (List Ev)) (T : List Fic) : ProL l T [] := ⟨List.nodup_nil, fun _ h => (by cases h), fun _ h => (by cases h)⟩
theorem ProL.add {l : List (List Ev)} {T O : List Fic} (h : ProL l T O) (p : Plc) (a r : Int) : ProL l T (addL l T O p a r) := by
 unfold addL
 split
 ·rename_i hc
  obtain ⟨h1, h2, h3⟩ := hc
  have g2 : funL T p = none := by cases hh : funL T p; rfl; rw [hh] at h2; cases h2
  have g3 : funL O p = none := by cases hh : funL O p; rfl; rw [hh] at h3; cases h3
  refine ⟨?_, ?_, ?_⟩
  ·rw [List.map_append, List.nodup_append]
   refine ⟨h.nd, by simp, ?_⟩
   intro q hq q' hq' e
   obtain ⟨y, hy, rfl⟩ := List.mem_map.1 hq
   rw [List.map_cons, List.map_nil, List.mem_singleton] at hq'
   exact funL_none.1 g3 y hy (by rw [e, hq']; rfl)
  ·intro y hy
   rcases List.mem_append.1 hy with hy | hy
   ·exact h.free y hy
   ·rw [List.mem_singleton.1 hy]; exact h1
  ·intro y hy
   rcases List.mem_append.1 hy with hy | hy
   ·exact h.off y hy
   ·rw [List.mem_singleton.1 hy]; exact g2
 ·exact h
theorem free_plc {l : List (List Ev)} {p : Plc} (h : freeB l p = true) : p ∈ plcL l := by obtain ⟨x, hx, _⟩ := freeB_ev h; exact evA_plc.2 ⟨x, hx⟩
theorem nd_few {l : List (List Ev)} {O : List Fic} (nd : (O.map plcF).Nodup) (hp : ∀ y ∈ O, plcF y ∈ plcL l) : O.length ≤ (plcL l).length := by
 have : (O.map plcF).length ≤ (plcL l).length := len_of_sub nd fun p hp' => by
  obtain ⟨y, hy, rfl⟩ := List.mem_map.1 hp'
  exact hp y hy
 simpa using this
theorem ProL.few {l : List (List Ev)} {T O : List Fic} (h : ProL l T O) : O.length ≤ (plcL l).length := nd_few h.nd fun y hy => free_plc (h.free y hy)
theorem nd_fic {l : List (List Ev)} {O : List Fic} (hp : ∀ y ∈ O, plcF y ∈ plcL l) : FicOK l (funL O) := fun p y hy => by
 obtain ⟨h1, rfl⟩ := funL_some hy
 exact ⟨hp y h1, rfl, rfl⟩
theorem nd_perm {l : List (List Ev)} {O : List Fic} (nd : (O.map plcF).Nodup) (hp : ∀ y ∈ O, plcF y ∈ plcL l) : O.Perm (listF l (funL O)) := by
 have n2 : (listF l (funL O)).Nodup := by
  refine List.Pairwise.imp ?_ (listF_sorted (nd_fic hp))
  rintro a b hab rfl
  exact lessF_irr a hab
 refine (List.perm_ext_iff_of_nodup (nodup_of_map nd) n2).2 fun y => ?_
 rw [mem_listF]
 exact ⟨fun hy => ⟨plcF y, hp y hy, funL_mem nd hy⟩, fun ⟨p, _, h⟩ => (funL_some h).1⟩
def OrdF (O : List Fic) : Prop := O.Pairwise fun x y => ¬ lessF y x
theorem ord_eq {l : List (List Ev)} {O M : List Fic} (nd : (O.map plcF).Nodup) (hp : ∀ y ∈ O, plcF y ∈ plcL l) (hM : M.Perm O) (hs : OrdF M) : M = listF l (funL O) := eq_of_orders (hM.trans (nd_perm nd hp)) hs (listF_sorted (nd_fic hp))
theorem ord_insert {M : List Fic} {x : Fic} {k : Nat} (h : OrdF M) (h1 : ∀ y ∈ M.take k, lessF y x) (h2 : ∀ y, M[k]? = some y → ¬ lessF y x) : OrdF (M.take k ++ [x] ++ M.drop k) := by
 have hs : OrdF (M.take k ++ M.drop k) := by rw [List.take_append_drop]; exact h
 unfold OrdF at hs ⊢
 rw [List.pairwise_append] at hs
 obtain ⟨s1, s2, s3⟩ := hs
 rw [List.append_assoc, List.pairwise_append]
 have h3 : ∀ y ∈ M.drop k, ¬ lessF y x := by
  intro y hy
  cases hd : M.drop k with
  | nil => rw [hd] at hy; cases hy
  | cons z D =>
   have hz : M[k]? = some z := by
    have := congrArg (fun L : List Fic => L[0]?) hd
    simpa using this
   have := h2 z hz
   rw [hd] at hy s2
   rcases List.mem_cons.1 hy with e | hy
   ·rw [e]; exact this
   ·have := (List.pairwise_cons.1 s2).1 y hy
    unfold lessF at *
    omega
 refine ⟨s1, ?_, ?_⟩
 ·show List.Pairwise _ (x :: M.drop k)
  rw [List.pairwise_cons]
  exact ⟨h3, s2⟩
 ·intro y hy z hz
  rcases List.mem_cons.1 (show z ∈ x :: M.drop k from hz) with e | hz
  ·rw [e]; exact lessF_asym (h1 y hy)
  ·exact s3 y hy z hz
theorem perm_insert {M O : List Fic} {x : Fic} {k : Nat} (h : M.Perm O) : (M.take k ++ [x] ++ M.drop k).Perm (O ++ [x]) := by
 have h1 : (M.take k ++ [x] ++ M.drop k).Perm (M.take k ++ M.drop k ++ [x]) := by
  rw [List.append_assoc, List.append_assoc]
  exact List.Perm.append_left _ List.perm_append_comm
 rw [List.take_append_drop] at h1
 exact h1.trans (List.Perm.append_right _ h)
/-! ### A round -/
theorem tri_free {l : List (List Ev)} {p : Plc} (h : p ∈ triL l) : freeB l p = true := by
 obtain ⟨t, a, b, _, _, h2⟩ := triL_mem h
 obtain ⟨x, hx, hr, ha, _⟩ := triP_mem h2
 exact ev_free hx hr ha
theorem sup_free {l : List (List Ev)} {p : Plc} (h : p ∈ supL l) : freeB l p = true := by
 obtain ⟨v, e, a, b, c, rfl, _, _, hb, _, hr, _, _, hz, _⟩ := supL_mem h
 exact ev_free (by rw [evA_nat']; exact hb) hr.2.1 hz
def outL (l : List (List Ev)) (T : List Fic) (L : List Plc) : List Fic := addsL l T (-1) 3 (addsL l T (-1) 2 (addsL l T 1 1 [] L) (triL l)) (supL l)
theorem outL_fun {l : List (List Ev)} {T : List Fic} {L : List Plc} (hL : ∀ p, p ∈ L ↔ leadB l p = true) : funL (outL l T L) = rnd l (funL T) := by
 unfold outL
 rw [addsL_fun (fun p hp => sup_free hp), addsL_fun (fun p hp => tri_free hp), addsL_fun (fun p hp => lead_free ((hL p).1 hp)), funL_nil, rnd_eq hL]
structure RndL (l : List (List Ev)) (T O : List Fic) : Prop where
 pro : ProL l T O
 eq_ : funL O = rnd l (funL T)
/-! ### All rounds -/
theorem withL_append (l : List (List Ev)) (T O : List Fic) : withL l (T ++ O) = withL (withL l T) O := by unfold withL; rw [List.foldl_append]
theorem fold_fun {O : List Fic} (nd : (O.map plcF).Nodup) (p : Plc) (x : Ev) : foldAlt p O x = altBy (funL O p) x := by
 cases hf : funL O p with
 | none => exact fold_none x fun y hy => funL_none.1 hf y hy
 | some y =>
  obtain ⟨h1, h2⟩ := funL_some hf
  refine fold_some x (fun z hz e => ?_) h1 h2
  have h3 := funL_mem nd hz
  rw [show plcF z = p from e, hf] at h3
  exact (Option.some.inj h3).symm
theorem plc_nonneg {l : List (List Ev)} {O : List Fic} (hp : ∀ y ∈ O, plcF y ∈ plcL l) : nonneg O := fun y hy => by
 obtain ⟨i, j, v, e, _⟩ := mem_plc.1 (hp y hy)
 unfold plcF at e
 rw [Prod.mk.injEq] at e
 omega
theorem with_same {l : List (List Ev)} {O : List Fic} (nd : (O.map plcF).Nodup) (hp : ∀ y ∈ O, plcF y ∈ plcL l) : withL l O = withL l (listF l (funL O)) := by
 refine ext_ev (by rw [withL_len, withL_len]) fun p => ?_
 rw [evA_withL (plc_nonneg hp), evA_list (nd_fic hp)]
 congr 1
 funext x
 exact fold_fun nd p x
theorem RndL.merge {l : List (List Ev)} {T O : List Fic} (h : RndL l T O) : funL (T ++ O) = mergeF (funL T) (rnd l (funL T)) := by
 funext p
 rw [funL_append, h.eq_]
 unfold mergeF
 cases hr : rnd l (funL T) p with
 | none => cases funL T p <;> rfl
 | some y => rw [(rnd_some' hr).1]
structure RdsL (l : List (List Ev)) (T : List Fic) (k m : Nat) : Prop where
 beh : Behind l (withL l T) (funL T)
 nd : (T.map plcF).Nodup
 fuel : openN l (funL T) ≤ m
 all : (allF l).1 = (allR m (withL l T) (funL T)).1
 num : (allF l).2 = k + (allR m (withL l T) (funL T)).2
theorem RdsL.start (l : List (List Ev)) : RdsL l [] 0 (plcL l).length where
 beh := Behind.start l
 nd := List.nodup_nil
 fuel := by rw [funL_nil, openN_start]; exact Nat.le_refl _
 all := rfl
 num := by rw [Nat.zero_add]; rfl
section
variable {l : List (List Ev)} {T O : List Fic} {k m : Nat}
theorem RdsL.free (h : RdsL l T k m) : ∀ y ∈ T, freeB l (plcF y) = true := fun _ hy => (h.beh.okf _ _ (funL_mem h.nd hy)).1
theorem RdsL.good (h : RdsL l T k m) : ∀ y ∈ T, inF l y = true := fun y hy => by
 obtain ⟨i, j, v, e, hv, hj⟩ := mem_plc.1 (free_plc (h.free y hy))
 unfold plcF at e
 rw [Prod.mk.injEq] at e
 unfold inF
 rw [decide_eq_true_eq, e.1, e.2, Int.toNat_natCast, getD_at hv]
 have := (List.getElem?_eq_some_iff.1 hv).1
 omega
theorem RdsL.few (h : RdsL l T k m) : T.length ≤ (plcL l).length := nd_few h.nd fun y hy => free_plc (h.free y hy)
theorem RdsL.perm (_h : RdsL l T k m) (hO : RndL (withL l T) T O) : O.Perm (listF (withL l T) (rnd (withL l T) (funL T))) := by
 have := nd_perm hO.pro.nd fun y hy => free_plc (hO.pro.free y hy)
 rwa [hO.eq_] at this
theorem RdsL.stop (h : RdsL l T k m) (hO : RndL (withL l T) T []) : (allF l).1 = funL T ∧ (allF l).2 = k := by
 have h0 : listF (withL l T) (rnd (withL l T) (funL T)) = [] := List.nil_perm.1 (h.perm hO)
 have h1 := h.all
 have h2 := h.num
 rw [allR_stop h0] at h1 h2
 exact ⟨h1, by simpa using h2⟩
theorem RdsL.next (h : RdsL l T k m) (hO : RndL (withL l T) T O) (hne : O ≠ []) : ∃ m', m = m' + 1 ∧ RdsL l (T ++ O) (k + 1) m' := by
 have h0 : listF (withL l T) (rnd (withL l T) (funL T)) ≠ [] := fun e => hne (by have := h.perm hO; rw [e] at this; exact List.perm_nil.1 this)
 have hm : m ≠ 0 := fun e => h0 (openN_zero h.beh (by have := h.fuel; omega))
 obtain ⟨m', rfl⟩ : ∃ m', m = m' + 1 := ⟨m - 1, by omega⟩
 have ew : withL l (T ++ O) = withL (withL l T) (listF (withL l T) (rnd (withL l T) (funL T))) := by
  rw [withL_append, with_same hO.pro.nd (fun y hy => free_plc (hO.pro.free y hy)), hO.eq_]
 have ef := hO.merge
 refine ⟨m', rfl, ⟨?_, ?_, ?_, ?_, ?_⟩⟩
 ·rw [ew, ef]; exact h.beh.next
 ·rw [List.map_append, List.nodup_append]
  refine ⟨h.nd, hO.pro.nd, ?_⟩
  intro q hq q' hq' e
  obtain ⟨y, hy, rfl⟩ := List.mem_map.1 hq
  obtain ⟨z, hz, rfl⟩ := List.mem_map.1 hq'
  exact funL_none.1 (hO.pro.off z hz) y hy e
 ·have h1 := openN_next (l := l) (dn := funL T) (now := rnd (withL l T) (funL T)) (fun _ _ hy => (rnd_some' hy).1) (by
   unfold listF at h0 ⊢
   rwa [h.beh.plc] at h0)
  have h2 := h.fuel
  rw [ef]
  omega
 ·have h1 := h.all
  rw [allR_go h0] at h1
  rw [ew, ef]
  exact h1
 ·have h1 := h.num
  rw [allR_go h0] at h1
  rw [ew, ef, h1]
  dsimp only
  omega
theorem RdsL.set (h : RdsL l T k m) (hl : SetV l) : SetV (withL l T) := h.beh.set hl
theorem RdsL.sl (h : RdsL l T k m) (hs : (slicesE l).2 = 0) : (slicesE (withL l T)).2 = 0 := h.beh.sl hs
theorem RdsL.list {M : List Fic} (h : RdsL l T k m) (hO : RndL (withL l T) T []) (hM : M.Perm T) (hs : OrdF M) : M = allFi l := by
 unfold allFi
 rw [(h.stop hO).1]
 exact ord_eq h.nd (fun y hy => free_plc (h.free y hy)) hM hs
end
theorem RndL.list {l : List (List Ev)} {O M : List Fic} (hO : RndL l [] O) (hM : M.Perm O) (hs : OrdF M) : M = roundS l := by
 have := ord_eq hO.pro.nd (fun y hy => free_plc (hO.pro.free y hy)) hM hs
 rw [this, hO.eq_, funL_nil]
 rfl
end Go.Proofs.YtpkmiegccfhpnaaGreatDoor
