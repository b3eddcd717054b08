
/- The law's own functions: two rows of motions alike, a voice by numbers, whether a setting has motions, the chapter's examples. -/
import Derived.Test.YtigfcbofbcpiaaaDoorPaCount
import Derived.Deep.LoopGhost
import Derived.BigRegion
namespace Go.Proofs.YtigfcbofbcpiaaaDoor
open Go.RowKit
set_option maxRecDepth 100000 in
set_option maxHeartbeats 1000000 in
theorem samePar_any (A A' : Option Addr) (n c c' : Nat) (l : List Par) (w : World) (h : Reads w w.heap.size 5 A n (csPar l)) (h' : Reads w w.heap.size 5 A' n (csPar l)) (hn : n ≤ 9223372036854775807) :
    Calls Tryd.prog 12 #[.slice A n c, .slice A' n c'] w fun e w' => e = .returned (.bool true) ∧ Below w.heap.size w w' := by
  have HL := Lib.hid h.plen
  go_enter Tryd.func12, Tryd.ntmps12
  go_wp2
  go_loopg [5] n (fun gh i wr => ∃ k : Nat, k + gh = n ∧ i = .int .i64 k ∧ Below w.heap.size w wr)
  case atStart => exact ⟨0, by omega, rfl, Below.refl _ _⟩
  case round =>
    obtain ⟨k, hkg, rfl, k0⟩ := hrel
    have wk : k + 1 ≤ n → IntKind.i64.wrap ((k : Int) + 1) = (k : Int) + 1 := fun _ => IntWalk.i64_in _ (by omega)
    cases gk with
    | zero =>
      have hk : k = n := by omega
      have d0 : ¬ ((k : Int) < (n : Int)) := by omega
      clear hk hkg
      go_wp2
      go_ret
      exact ⟨rfl, k0⟩
    | succ g =>
      have hk : k < n := by omega
      have wk2 := wk (by omega)
      have hlt' : (k : Int) < (n : Int) := by omega
      obtain ⟨x, hx⟩ := get_some (l := l) (k := k) (by have := HL.out; omega)
      obtain ⟨b, off, rfl, hab, c0, c1, c2, c3, c4⟩ := h.par (Nat.le_refl _) k0 hk hx
      obtain ⟨b', off', rfl, hab', e0, e1, e2, e3, e4⟩ := h'.par (Nat.le_refl _) k0 hk hx
      clear hx wk
      go_wp2_with fail
      refine wp_region_calm (by kernel_rfl) (by kernel_rfl) ?_
      repeat (go_big_quiet_step (fail))
      refine wpQuiet_nil ?_
      intro wd gd
      go_wp2
      go_roundg g
      case measure => omega
      case rel => exact ⟨k + 1, by omega, by go_num, below_call k0 gd⟩
/-- Event i of a voice by numbers. -/
def vcEv (i : Nat) (x : Int) : Ev := if x < 0 then ⟨((i : Int), 1), (1, 1), (0, 0, 0), true, 0, 0⟩ else ⟨((i : Int), 1), (1, 1), (x % 7, x / 7, 0), false, 0, 0⟩
def vcFrom : Nat → List Int → List Ev
  | _, [] => []
  | i, x :: l => vcEv i x :: vcFrom (i + 1) l
theorem vc_append (l m : List Int) : ∀ i, vcFrom i (l ++ m) = vcFrom i l ++ vcFrom (i + l.length) m := by
  induction l with
  | nil => intro i; simp [vcFrom]
  | cons x l ih => intro i; rw [List.cons_append, vcFrom, vcFrom, ih, List.cons_append, List.length_cons]; congr 2; rw [show i + 1 + l.length = i + (l.length + 1) by omega]
theorem vc_len (l : List Int) : ∀ i, (vcFrom i l).length = l.length := by
  induction l with
  | nil => intro i; rfl
  | cons x l ih => intro i; rw [vcFrom, List.length_cons, ih, List.length_cons]
theorem vc_next {l : List Int} {k : Nat} {x : Int} (h : l[k]? = some x) : vcFrom 0 (l.take (k + 1)) = vcFrom 0 (l.take k) ++ [vcEv k x] := by
  have hk := (List.getElem?_eq_some_iff.1 h).1
  rw [take_get h, vc_append, List.length_take, show 0 + min k l.length = k by omega]
  rfl
theorem tS_unit (n : Int) : tS n 1 = (n, 1) := by
  have e : gg n 1 = 1 := by unfold gg; simp
  unfold tS
  rw [e, if_neg (by omega)]; simp
set_option maxRecDepth 100000 in
set_option maxHeartbeats 8000000 in
theorem vc_any (A : Option Addr) (n c : Nat) (l : List Int) (B : Nat) (w : World) (h : Reads w B 1 A n (csN l)) (hB : B ≤ w.heap.size) (hn : n ≤ 1000) (hl : ∀ x ∈ l, x ≤ 1000) :
    Calls Tryd.prog 19 #[.slice A n c] w fun e w' => ∃ v, e = .returned v ∧ w'.ownsRow w.heap.size 70 10 v n (csE (vcFrom 0 l)) ∧ Below w.heap.size w w' := by
  have HL := Lib.hid (show l.length = n from h.len (size := 1) (l := l) (f := cI) (fun _ => rfl) (by decide))
  have HB := Lib.hid hl
  clear hl
  obtain ⟨i0, hi0, hz0, hz1, hz2⟩ := info_parts event_info
  go_enter Tryd.func19, Tryd.ntmps19
  go_wp2
  go_loopg [3, 4, 5] n (fun gh o i _ wr => ∃ k : Nat, k + gh = n ∧ i = .int .i64 k ∧ wr.ownsRow w.heap.size 70 10 o k (csE (vcFrom 0 (l.take k))) ∧ Below w.heap.size w wr)
  case atStart => exact ⟨0, by omega, rfl, ⟨rfl, .inl ⟨rfl, rfl⟩⟩, Below.refl _ _⟩
  case round =>
    obtain ⟨k, hkg, rfl, hown, k0⟩ := hrel
    have wk : IntKind.i64.wrap ((k : Int) + 1) = (k : Int) + 1 := IntWalk.i64_in _ (by omega)
    cases gk with
    | zero =>
      obtain rfl : k = n := by omega
      have d0 : ¬ ((k : Int) < (k : Int)) := by omega
      have HF := Lib.hid (show l.take k = l from List.take_of_length_le (by have := HL.out; omega))
      rw [HF.out] at hown
      clear hkg
      go_wp2
      go_ret
      exact ⟨u3, rfl, hown, k0⟩
    | succ g =>
      have hk : k < n := by omega
      have d0 : (k : Int) < (n : Int) := by omega
      obtain ⟨x, hx⟩ := get_some (l := l) (k := k) (by have := HL.out; omega)
      have hxb := HB.out x (List.mem_of_getElem? hx)
      have HN := Lib.hid (vc_next hx)
      obtain ⟨b, off, rfl, hab, hc⟩ := Reads.elem (f := cI) (fun _ => rfl) (h.below hB k0) hk hx
      have c0 := hc 0 _ rfl
      simp only [Nat.mul_one, Nat.add_zero] at c0
      have lb : b < wr.heap.size := by have := k0.size; omega
      have q1 := fun W => t_any (k : Int) 1 W (by omega) (by omega) (by omega) (by omega)
      have q2 := fun W => t_any 1 1 W (by omega) (by omega) (by omega) (by omega)
      rw [tS_unit] at q1 q2
      clear hc hx
      go_wp2_with fail
      refine (q1 _).mono ?_
      rintro e w1 ⟨rfl, b1⟩
      go_wp2_with fail
      refine (q2 _).mono ?_
      rintro e w2 ⟨rfl, b2⟩
      have k2 := below_call b1 b2
      have c2 : w2.cell? ⟨b, off + k, none⟩ = some (.int .i64 x) := (k2.cell (p := ⟨b, off + k, none⟩) lb).trans c0
      have lb2 : b < w2.heap.size := by have := k2.size; omega
      have own2 := own_call hown k2
      have kw := below_call k0 k2
      have z0 := k0.size
      have z2 := k2.size
      clear c0 b1 b2
      by_cases hx0 : x < 0
      · have HE := Lib.hid (show vcEv k x = ⟨((k : Int), 1), (1, 1), (0, 0, 0), true, 0, 0⟩ by unfold vcEv; rw [if_pos hx0])
        go_wp2_with (at_builtin; (refine wpList_append_any _ rfl (.tmp 34) (.tmp 36) 23 rfl w.heap.size 70 i0 _ 10 80 Tryd.underlying23 hi0 hz0 hz1 hz2 rfl (by omega) u3 k (csE (vcFrom 0 (l.take k))) rfl (own_call own2 (by repeat (first | with_reducible exact Below.refl _ _ | with_reducible assumption | with_reducible refine below_drewN ?_ _ | with_reducible refine Below.drew ?_ | with_reducible refine below_alloc ?_ _ | (with_reducible refine Below.setCell ?_ ?_ _; rotate_left; ((try simp only); omega))))) (w2.heap.size + 1 + 1) (some ⟨w2.heap.size + 1, 0, none⟩) 1 1 (csE [⟨((k : Int), 1), (1, 1), (0, 0, 0), true, 0, 0⟩]) rfl (Reads.newAt _ _ _ 1 10 _ (by first | rfl | simp) rfl) (one_csE _) (by simp only [maxLen]; omega) (by omega) (by simp; omega) ?_); intro v4 w4 hown4 hg4 hat4)
        have hB4 : Below w.heap.size w w4 := Below.grown (B := w.heap.size) (show Below w.heap.size w _ from by repeat (first | with_reducible exact Below.refl _ _ | with_reducible assumption | with_reducible refine below_drewN ?_ _ | with_reducible refine Below.drew ?_ | with_reducible refine below_alloc ?_ _ | (with_reducible refine Below.setCell ?_ ?_ _; rotate_left; ((try simp only); omega)))) hg4 (by simp; omega) (fun x hx => (own2.lt x hx).1)
        go_roundg g
        case measure => omega
        case rel => exact ⟨k + 1, by omega, by go_num, by rw [HN.out, HE.out, csE_append]; exact hown4, hB4⟩
      · have HE := Lib.hid (show vcEv k x = ⟨((k : Int), 1), (1, 1), (x % 7, x / 7, 0), false, 0, 0⟩ by unfold vcEv; rw [if_neg hx0])
        have hmE : x.tmod 7 = x % 7 := Int.tmod_eq_emod_of_nonneg (by omega)
        have hdE : x.tdiv 7 = x / 7 := Int.tdiv_eq_ediv_of_nonneg (by omega)
        have hm0 := Int.tmod_nonneg 7 (show 0 ≤ x by omega)
        have hm1 := Int.tmod_lt_of_pos x (show (0 : Int) < 7 by omega)
        have hd0 : 0 ≤ x.tdiv 7 := by rw [Int.tdiv_eq_ediv_of_nonneg (by omega)]; omega
        have hd1 : x.tdiv 7 ≤ 1000 := by rw [Int.tdiv_eq_ediv_of_nonneg (by omega)]; omega
        have wm : IntKind.i64.wrap (x.tmod 7) = x.tmod 7 := IntWalk.i64_in _ (by omega)
        have wq : IntKind.i64.wrap (x.tdiv 7) = x.tdiv 7 := IntWalk.i64_in _ (by omega)
        go_wp2_with fail
        obtain ⟨wv, hwv⟩ : ∃ wv, wv = w2.alloc (.cells #[.int .i64 (k : Int), .int .i64 1, .int .i64 1, .int .i64 1, .int .i64 0, .int .i64 0, .int .i64 0, .bool false, .int .i64 0, .int .i64 0] 70) := ⟨_, rfl⟩
        rw [← hwv]
        have rX : Blk wv w2.heap.size 70 #[.int .i64 (k : Int), .int .i64 1, .int .i64 1, .int .i64 1, .int .i64 0, .int .i64 0, .int .i64 0, .bool false, .int .i64 0, .int .i64 0] := by rw [hwv]; exact Blk.new _ _ _
        have kvw := below_call kw (show Below w2.heap.size w2 wv by rw [hwv]; exact below_alloc (Below.refl _ _) _)
        have kv : Below w2.heap.size w2 wv := by rw [hwv]; exact below_alloc (Below.refl _ _) _
        have c3 : wv.cell? ⟨b, off + k, none⟩ = some (.int .i64 x) := (kv.cell (p := ⟨b, off + k, none⟩) lb2).trans c2
        have lv := rX.lt
        have cX := rX.cell
        have fX := rX.frozen
        have lb3 : b < wv.heap.size := by omega
        have nb : b ≠ w2.heap.size := by omega
        clear hwv c2
        go_region
        go_wp2_with (at_builtin; (refine wpList_append_any _ rfl (.tmp 34) (.tmp 36) 23 rfl w.heap.size 70 i0 _ 10 80 Tryd.underlying23 hi0 hz0 hz1 hz2 rfl (by omega) u3 k (csE (vcFrom 0 (l.take k))) rfl (own_call own2 (by repeat (first | with_reducible exact Below.refl _ _ | with_reducible assumption | with_reducible refine below_drewN ?_ _ | with_reducible refine Below.drew ?_ | with_reducible refine below_alloc ?_ _ | (with_reducible refine Below.setCell ?_ ?_ _; rotate_left; ((try simp only); omega))))) (wv.heap.size + 1) (some ⟨wv.heap.size, 0, none⟩) 1 1 (csE [⟨((k : Int), 1), (1, 1), (Int.emod x 7, Int.ediv x 7, 0), false, 0, 0⟩]) rfl (Reads.newAt _ _ _ 1 10 _ (by first | rfl | simp) rfl) (one_csE _) (by simp only [maxLen]; omega) (by omega) (by simp; omega) ?_); intro v4 w4 hown4 hg4 hat4)
        have hB4 : Below w.heap.size w w4 := Below.grown (B := w.heap.size) (show Below w.heap.size w _ from by repeat (first | with_reducible exact Below.refl _ _ | with_reducible assumption | with_reducible refine below_drewN ?_ _ | with_reducible refine Below.drew ?_ | with_reducible refine below_alloc ?_ _ | (with_reducible refine Below.setCell ?_ ?_ _; rotate_left; ((try simp only); omega)))) hg4 (by simp; omega) (fun x hx => (own2.lt x hx).1)
        go_roundg g
        case measure => omega
        case rel => exact ⟨k + 1, by omega, by go_num, by rw [HN.out, HE.out, csE_append]; exact hown4, hB4⟩
set_option maxRecDepth 100000 in
set_option maxHeartbeats 1000000 in
theorem onePar_any (a b k s : Int) (w : World) : Calls Tryd.prog 20 #[.int .i64 a, .int .i64 b, .int .i64 k, .int .i64 s] w fun e w' => e = .returned (vPar ⟨1, a, b, k, s⟩) ∧ Below w.heap.size w w' := by
  have r0 : Blk (w.alloc (.cells #[.int .i64 0, .int .i64 0, .int .i64 0, .int .i64 0, .int .i64 0] 41)) w.heap.size 41 #[.int .i64 0, .int .i64 0, .int .i64 0, .int .i64 0, .int .i64 0] := Blk.new _ _ _
  go_enter Tryd.func20, Tryd.ntmps20
  go_wp2
  refine ret_of (by simp [results, Tryd.results20, go_sem, *]; repeat' (first | rfl | apply And.intro)) rfl ⟨rfl, by repeat (first | with_reducible exact Below.refl _ _ | with_reducible assumption | with_reducible refine below_drewN ?_ _ | with_reducible refine Below.drew ?_ | with_reducible refine below_alloc ?_ _ | (with_reducible refine Below.setCell ?_ ?_ _; rotate_left; ((try simp only); omega)))⟩
set_option maxRecDepth 100000 in
set_option maxHeartbeats 1000000 in
theorem has_any (A A' : Option Addr) (n c m c' : Nat) (l : List (List Ev)) (L : List Par) (w : World) (h : ReadsV w w.heap.size A n l) (hn : n ≤ 9223372036854775807) (h' : Reads w w.heap.size 5 A' m (csPar L)) (hE : findE l = (L, 0)) (ht : Tabs w) :
    Calls Tryd.prog 18 #[.slice A n c, .slice A' m c'] w fun e w' => e = .returned (.bool true) ∧ Below w.heap.size w w' := by
  have q1 := find_any A n c l _ w h (Nat.le_refl _) hn ht
  rw [hE] at q1
  have hm : L.length = m := h'.plen
  rw [hm] at q1
  go_enter Tryd.func18, Tryd.ntmps18
  go_wp2_with fail
  refine q1.mono ?_
  rintro e w1 ⟨v1, rfl, o1, k1⟩
  obtain ⟨S, d, rfl, rs, hcap⟩ := own_reads o1
  unfold maxLen at hcap
  have q2 := samePar_any S A' m d c' L w1 rs (rd1 h' k1) (by omega)
  clear q1 hm o1 hcap
  go_wp2_with fail
  refine q2.mono ?_
  rintro e w2 ⟨rfl, k2⟩
  go_wp2
  go_ret
  exact ⟨rfl, below_call k1 k2⟩
/-- Voices in rows, as the voices of a setting. -/
def AllV (w : World) (B : Nat) : List Pl → List (List Ev) → Prop
  | [], [] => True
  | d :: ds, v :: l => (Reads w B 10 d.1 d.2.1 (csE v) ∧ d.2.1 ≤ 9223372036854775807) ∧ AllV w B ds l
  | _, _ => False
theorem AllV.len {w : World} {B : Nat} : ∀ {ds : List Pl} {l : List (List Ev)}, AllV w B ds l → ds.length = l.length
  | [], [], _ => rfl
  | _ :: _, _ :: _, h => by rw [List.length_cons, List.length_cons, AllV.len h.2]
  | [], _ :: _, h => h.elim
  | _ :: _, [], h => h.elim
theorem AllV.get {w : World} {B : Nat} : ∀ {ds : List Pl} {l : List (List Ev)}, AllV w B ds l → ∀ (k : Nat) d v, ds[k]? = some d → l[k]? = some v → Reads w B 10 d.1 d.2.1 (csE v) ∧ d.2.1 ≤ 9223372036854775807
  | [], [], _, _, _, _, hd, _ => by simp at hd
  | _ :: _, _ :: _, h, 0, _, _, hd, hv => by simp at hd hv; subst hd; subst hv; exact h.1
  | _ :: _, _ :: _, h, k + 1, _, _, hd, hv => AllV.get h.2 k _ _ (by simpa using hd) (by simpa using hv)
  | [], _ :: _, h, _, _, _, _, _ => h.elim
  | _ :: _, [], h, _, _, _, _, _ => h.elim
theorem readsV_row {w : World} {B n : Nat} {A : Option Addr} {ds : List Pl} {l : List (List Ev)} (h : Reads w B 1 A n (csV ds)) (ha : AllV w B ds l) : ReadsV w B A n l := ⟨ds, ha.len, h, fun k d v hd hv => ha.get k d v hd hv⟩
theorem ex_same : findE [vcFrom 0 [28, 29], vcFrom 0 [32, 33]] = ([⟨1, 0, 1, 1, 4⟩], 0) := by kernel_rfl
theorem ex_hidden : findE [vcFrom 0 [28, 29], vcFrom 0 [30, 33]] = ([⟨1, 0, 1, 2, 4⟩], 0) := by kernel_rfl
theorem ex_contrary : findE [vcFrom 0 [28, 32], vcFrom 0 [35, 25]] = ([⟨1, 0, 1, 3, 0⟩], 0) := by kernel_rfl
theorem ex_none1 : findE [vcFrom 0 [28, 29], vcFrom 0 [32, 29]] = ([], 0) := by kernel_rfl
theorem ex_none2 : findE [vcFrom 0 [28, 28], vcFrom 0 [32, 32]] = ([], 0) := by kernel_rfl
theorem ex_none3 : findE [vcFrom 0 [28, -1, 29], vcFrom 0 [32, -1, 33]] = ([], 0) := by kernel_rfl
theorem ex_none4 : findE [vcFrom 0 [28, 29], vcFrom 0 [34, 33]] = ([], 0) := by kernel_rfl
theorem ex_oct : findE [vcFrom 0 [28, 29], vcFrom 0 [35, 36]] = ([⟨1, 0, 1, 1, 0⟩], 0) := by kernel_rfl
theorem ex_three : findE [vcFrom 0 [28, 31], vcFrom 0 [30, 35], vcFrom 0 [35, 38]] = ([⟨1, 0, 1, 2, 4⟩, ⟨1, 0, 2, 1, 0⟩], 0) := by kernel_rfl
theorem ex_moves : movesE [vcFrom 0 [28, 31], vcFrom 0 [30, 35]] 1 1 = (5, 0) := by kernel_rfl
theorem ex_moves0 : movesE [vcFrom 0 [28, 31], vcFrom 0 [30, 35]] 1 0 = (0, 18) := by kernel_rfl
end Go.Proofs.YtigfcbofbcpiaaaDoor
