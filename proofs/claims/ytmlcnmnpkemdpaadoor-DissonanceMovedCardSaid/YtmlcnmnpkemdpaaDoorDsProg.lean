
/- The program's All, Untreated and Count. -/
import Derived.Test.YtmlcnmnpkemdpaaDoorDsAllP
namespace Go.Proofs.YtmlcnmnpkemdpaaDoor
open Go.RowKit
theorem Reads.dis {w W : World} {B n : Nat} {A : Option Addr} {l : List Dis} (h : Reads w B 5 A n (csDis l)) (hB : B ≤ w.heap.size) (hb : Below w.heap.size w W) {k : Nat} {x : Dis} (hk : k < n) (hx : l[k]? = some x) :
    ∃ b off, A = some ⟨b, off, none⟩ ∧ b < W.heap.size ∧ W.cell? ⟨b, off + k * 5, none⟩ = some (.int .i64 x.n) ∧ W.cell? ⟨b, off + k * 5 + 1, none⟩ = some (.int .i64 x.a) ∧ W.cell? ⟨b, off + k * 5 + 2, none⟩ = some (.int .i64 x.b) ∧
      W.cell? ⟨b, off + k * 5 + 3, none⟩ = some (.int .i64 x.kind) ∧ W.cell? ⟨b, off + k * 5 + 4, none⟩ = some (.int .i64 x.treat) := by
  obtain ⟨b, off, hA, hbB, hc⟩ := h.elem (f := cDis) (fun _ => rfl) hk hx
  have hall : ∀ j u, (cDis x)[j]? = some u → W.cell? ⟨b, off + k * 5 + j, none⟩ = some u := fun j u hj => by
    rw [hb.cell (by simp; omega), Nat.add_assoc]
    exact hc j u hj
  exact ⟨b, off, hA, by have := hb.size; omega, hall 0 _ rfl, hall 1 _ rfl, hall 2 _ rfl, hall 3 _ rfl, hall 4 _ rfl⟩
theorem Reads.dlen {w : World} {B n : Nat} {A : Option Addr} {l : List Dis} (h : Reads w B 5 A n (csDis l)) : l.length = n := h.len (size := 5) (l := l) (f := cDis) (fun _ => rfl) (by decide)
theorem dis_filter {α : Type} (f : α → Bool) {l : List α} {k : Nat} {x : α} (h : l[k]? = some x) : (l.take (k + 1)).filter f = (l.take k).filter f ++ (if f x = true then [x] else []) := by
  rw [take_get h, List.filter_append]
  congr 1
  by_cases hf : f x = true <;> simp [hf]
theorem dis_filter_bd {α : Type} (f : α → Bool) (l : List α) (k : Nat) : ((l.take k).filter f).length ≤ l.length := by
  have := List.length_filter_le f (l.take k)
  have h2 : (l.take k).length ≤ l.length := by rw [List.length_take]; omega
  omega
theorem cntT_next (k : Int) {l : List Dis} {i : Nat} {x : Dis} (h : l[i]? = some x) : cntT k (l.take (i + 1)) = cntT k (l.take i) + (if x.treat = k then 1 else 0) := by
  unfold cntT
  rw [dis_filter _ h, List.length_append]
  by_cases hk : x.treat = k <;> simp [hk]
theorem cntT_bd (k : Int) (l : List Dis) (i : Nat) : 0 ≤ cntT k (l.take i) ∧ cntT k (l.take i) ≤ l.length := by
  unfold cntT
  have := dis_filter_bd (fun p : Dis => decide (p.treat = k)) l i
  omega
theorem dissE_err {l : List (List Ev)} (h : (slicesE l).2 ≠ 0) : dissE l = ([], (slicesE l).2) := by unfold dissE; rw [if_pos h]
theorem dissE_ok {l : List (List Ev)} (h : (slicesE l).2 = 0) : dissE l = (allD l (momS l), 0) := by unfold dissE; rw [if_neg (fun hh => hh h)]
theorem dissE_len (l : List (List Ev)) : (dissE l).1.length ≤ 2100000 := by
  by_cases h : (slicesE l).2 = 0
  · rw [dissE_ok h]
    obtain ⟨hz, _⟩ := slicesE_ok h
    have h1 := allD_len l (momS l)
    have h2 := allT_len l.length ((momS l).length - 1) (checkA_all hz).1
    have h3 := mom_big hz
    simp only
    omega
  · rw [dissE_err h]; simp
theorem dissE_treat {l : List (List Ev)} {d : Dis} (hd : d ∈ (dissE l).1) : d.treat = 1 ∨ d.treat = 2 ∨ d.treat = 3 ∨ d.treat = 4 := by
  by_cases h : (slicesE l).2 = 0
  · rw [dissE_ok h] at hd
    obtain ⟨n, a, b, _, _, _, _, rfl⟩ := (mem_allD _ _).1 hd
    have := treat_bd l (momS l) n a b
    show treatD l (momS l) n a b = 1 ∨ treatD l (momS l) n a b = 2 ∨ treatD l (momS l) n a b = 3 ∨ treatD l (momS l) n a b = 4
    omega
  · rw [dissE_err h] at hd; cases hd
def DissERet (r : List Dis × Int) (w : World) (e : Ending) (w' : World) : Prop :=
  ∃ A c, e = .returned (.tuple #[.slice A r.1.length c, .int .i64 r.2]) ∧ Reads w' w'.heap.size 5 A r.1.length (csDis r.1) ∧ Below w.heap.size w w'
def CntRet (r : List Int × Int) (w : World) (e : Ending) (w' : World) : Prop :=
  ∃ A c, e = .returned (.tuple #[.slice A r.1.length c, .int .i64 r.2]) ∧ Reads w' w'.heap.size 1 A r.1.length (csN r.1) ∧ Below w.heap.size w w'
set_option maxRecDepth 100000 in
set_option maxHeartbeats 2000000 in
theorem diss_any (A : Option Addr) (n c : Nat) (l : List (List Ev)) (w : World) (h : ReadsV w w.heap.size A n l) (hn : n ≤ 9223372036854775807) (ht : Tabs w) :
    Calls Tryd.prog 23 #[.slice A n c] w fun e w' => DissERet (dissE l) w e w' := by
  by_cases he : (slicesE l).2 = 0
  · have E := Lib.hid (dissE_ok he)
    have q1 := begin_ok A n c l w h hn he ht
    clear he h
    go_enter Tryd.func23, Tryd.ntmps23
    go_wp2_with fail
    refine q1.mono ?_
    rintro e w1 ⟨g, S, Q, K, d, q, rfl, hs, k1⟩
    have q2 := all_ok hs (ht.kept k1)
    go_wp2_with fail
    refine q2.mono ?_
    rintro e w2 ⟨A2, c2, rfl, r2, k2⟩
    go_wp2
    refine ret_of (by simp [results, Tryd.results23, go_sem, *]; repeat' (first | rfl | apply And.intro)) rfl ?_
    rw [E.out]
    exact ⟨A2, c2, rfl, r2, below_call k1 k2⟩
  · have E := Lib.hid (dissE_err he)
    have q1 := begin_err A n c l w h hn he
    have hne : ((slicesE l).2 != 0) = true := by simpa using he
    obtain ⟨er, her⟩ : ∃ x, x = (slicesE l).2 := ⟨_, rfl⟩
    rw [← her] at q1 hne E
    clear he h her
    go_enter Tryd.func23, Tryd.ntmps23
    go_wp2_with fail
    refine q1.mono ?_
    rintro e w1 ⟨rfl, k1⟩
    go_wp2
    refine ret_of (by simp [results, Tryd.results23, go_sem, *]; repeat' (first | rfl | apply And.intro)) rfl ?_
    rw [E.out]
    exact ⟨none, 0, rfl, Reads.none_, k1⟩
set_option maxRecDepth 100000 in
set_option maxHeartbeats 4000000 in
theorem untr_any (A : Option Addr) (n c : Nat) (l : List (List Ev)) (w : World) (h : ReadsV w w.heap.size A n l) (hn : n ≤ 9223372036854775807) (ht : Tabs w) :
    Calls Tryd.prog 29 #[.slice A n c] w fun e w' => DissERet (untrE l) w e w' := by
  have q1 := diss_any A n c l w h hn ht
  have hlen := dissE_len l
  obtain ⟨⟨F, er⟩, hF⟩ : ∃ F, F = dissE l := ⟨_, rfl⟩
  have E := Lib.hid (show untrE l = (F.filter (fun d => decide (d.treat = 4)), er) by unfold untrE; rw [← hF])
  rw [← hF] at q1 hlen
  simp only at hlen
  obtain ⟨i0, hi0, hz0, hz1, hz2⟩ := info_parts dis_info
  clear h ht hF
  go_enter Tryd.func29, Tryd.ntmps29
  go_wp2_with fail
  refine q1.mono ?_
  rintro e w1 ⟨A1, c1, rfl, r1, k1⟩
  simp only at r1 ⊢
  obtain ⟨N, hN⟩ : ∃ N, N = F.length := ⟨_, rfl⟩
  have HN := Lib.hid hN
  have HB := Lib.hid (fun k => dis_filter_bd (fun d : Dis => decide (d.treat = 4)) F k)
  rw [← hN] at r1 hlen ⊢
  clear hN
  go_wp2_with fail
  go_loopg [6, 8, 16] N (fun gh o _ x wr => ∃ k : Nat, k + gh = N ∧ x = .int .i64 (k : Int) ∧ Hid (wr.ownsRow w1.heap.size 48 5 o ((F.take k).filter (fun d => decide (d.treat = 4))).length (csDis ((F.take k).filter (fun d => decide (d.treat = 4))))) ∧ Below w1.heap.size w1 wr)
  case atStart => exact ⟨0, by omega, by simp, Lib.hid ⟨rfl, .inl ⟨rfl, rfl⟩⟩, Below.refl _ _⟩
  case round =>
    obtain ⟨k, hkg, rfl, hown, kr⟩ := hrel
    have wk : IntKind.i64.wrap ((k : Int) + 1) = (k : Int) + 1 := IntWalk.i64_in _ (by omega)
    cases gk with
    | zero =>
      have hk : k = N := by omega
      have d0 : ¬ ((k : Int) < (N : Int)) := by omega
      have HF := Lib.hid (show F.take k = F by rw [List.take_of_length_le]; rw [← HN.out]; omega)
      rw [HF.out] at hown
      obtain ⟨A2, c2, rfl, r2, _, _⟩ := own_reads hown.out
      have kw := below_call k1 kr
      clear hk hkg hown r1
      go_wp2
      refine ret_of (by simp [results, Tryd.results29, go_sem, *]; repeat' (first | rfl | apply And.intro)) rfl ?_
      rw [E.out]
      exact ⟨A2, c2, rfl, r2, kw⟩
    | succ gh =>
      have hk : k < N := by omega
      have d0 : (k : Int) < (N : Int) := by omega
      obtain ⟨x, hx⟩ := get_some (l := F) (k := k) (by have := HN.out; omega)
      obtain ⟨bb, off, hA, hbb, c0, c1', c2, c3, c4⟩ := r1.dis (Nat.le_refl _) kr hk hx
      subst hA
      have HNX := Lib.hid (dis_filter (fun d : Dis => decide (d.treat = 4)) hx)
      have hb5 : ((F.take k).filter (fun d => decide (d.treat = 4))).length ≤ 2100000 := by have := HB.out k; have := HN.out; omega
      obtain ⟨o, ho⟩ : ∃ o, o = (F.take k).filter (fun d => decide (d.treat = 4)) := ⟨_, rfl⟩
      rw [← ho] at hown hb5 HNX
      obtain ⟨M, hM⟩ : ∃ M, M = o.length := ⟨_, rfl⟩
      have HM := Lib.hid hM
      rw [← hM] at hown hb5
      obtain ⟨x0, xa, xb, xk, xt⟩ := x
      simp only at c0 c1' c2 c3 c4 HNX
      have hkr := kr.size
      clear hx ho hM
      by_cases h4 : xt = 4
      · subst h4
        have HN2 := Lib.hid (show (F.take (k + 1)).filter (fun d => decide (d.treat = 4)) = o ++ [⟨x0, xa, xb, xk, 4⟩] by rw [HNX.out]; rfl)
        clear HNX
        go_wp2_with (at_builtin; (refine wpList_append_any _ rfl (.tmp 23) (.tmp 25) 44 rfl w1.heap.size 48 i0 _ 5 40 Tryd.underlying44 hi0 hz0 hz1 hz2 rfl (by omega) u6 M (csDis o) rfl (own_call hown.out (below_alloc (below_alloc (Below.refl _ _) _) _)) (wr.heap.size + 1 + 1) (some ⟨wr.heap.size + 1, 0, none⟩) 1 1 (csDis [⟨x0, xa, xb, xk, 4⟩]) rfl (Reads.newAt _ _ _ 1 5 _ (by simp) rfl) (one_csDis _) (by simp only [maxLen]; omega) (by omega) (by simp; omega) ?_); intro v9 w9 hown9 hg9 hat9)
        have k9 : Below w1.heap.size w1 w9 := Below.grown (B := w1.heap.size) ((kr.alloc (by omega) _).alloc (by simp; omega) _) hg9 (by simp; omega) (fun x hx => (hown.out.lt x hx).1)
        go_roundg gh
        case measure => omega
        case rel => exact ⟨k + 1, by omega, by go_num, Lib.hid (by rw [HN2.out, List.length_append, List.length_singleton, ← HM.out, csDis_append]; exact hown9), k9⟩
      · have f4 : (xt == 4) = false := by simpa using h4
        have HN2 := Lib.hid (show (F.take (k + 1)).filter (fun d => decide (d.treat = 4)) = o by rw [HNX.out, if_neg (by simpa using h4), List.append_nil])
        clear HNX h4
        go_wp2_with fail
        go_roundg gh
        case measure => omega
        case rel => exact ⟨k + 1, by omega, by go_num, Lib.hid (by rw [HN2.out, ← HM.out]; exact own_call hown.out (below_alloc (Below.refl _ _) _)), by repeat (first | with_reducible exact Below.refl _ _ | with_reducible assumption | with_reducible refine below_drewN ?_ _ | with_reducible refine Below.drew ?_ | with_reducible refine below_alloc ?_ _ | (with_reducible refine Below.setCell ?_ ?_ _; rotate_left; ((try simp only); omega)))⟩
end Go.Proofs.YtmlcnmnpkemdpaaDoor
