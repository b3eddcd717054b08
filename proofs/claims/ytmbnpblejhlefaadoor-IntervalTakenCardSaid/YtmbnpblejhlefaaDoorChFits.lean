/- The walks through Fits, the program's and the reference's. -/
import Derived.Test.YtmbnpblejhlefaaDoorChWhole
namespace Go.Proofs.YtmbnpblejhlefaaDoor
open Go.RowKit
theorem step_append_any {P : Program} (w : World) {ops : Array Oper} {o : Oper} {a : Act} {K : Act → World → Prop} {Q : Exit → Act → World → Prop} {E : Prop} (hgd : o.guard = none) (s x : Operand) (t : TypeId)
    (ho : o.op = .call { callee := .builtin .append, args := #[s, x], argTypes := #[t, t] })
    (base : Nat) (e : TypeId) (i : TypeInfo) (z : Value) (size bytes : Nat) (ht : P.underlying t = some (.slice e)) (hi : P.info? e = some i) (hz : i.zero = some z)
    (hsize : i.size = size) (hby : i.bytes = bytes) (hzs : z.cells.size = size) (hsz : 0 < size)
    (v : Value) (n : Nat) (xs : List Value) (hs : a.eval s = v) (hown : w.ownsRow base e size v n xs)
    (B : Nat) (A : Option Addr) (m c : Nat) (news : List Value) (hx : a.eval x = .slice A m c) (hr : Reads w B size A m news) (h1 : ∀ u ∈ news, u.oneCell' = true)
    (h63 : n + m ≤ maxLen) (hbytes : (n + m) * bytes ≤ 140737488355328) (hbase : base ≤ w.heap.size)
    (h : ∀ v' w', w'.ownsRow base e size v' (n + m) (xs ++ news) → w.grownBy w' v.ownBlock → (v'.ownBlock = v.ownBlock ∨ v'.ownBlock = some w.heap.size) → K (a.put o.dst v') w') :
    if Region.wanted o (yielded ops a.tmps) = true then Oper.wp P o a w K Q else E := by
  have hw : Region.wanted o (yielded ops a.tmps) = true := by simp [Region.wanted, hgd]
  rw [if_pos hw]
  exact wp_append_any w s x t ho base e i z size bytes ht hi hz hsize hby hzs hsz v n xs hs hown B A m c news hx hr h1 h63 hbytes hbase h
theorem lit_at (w : World) (base g : Nat) (hg : g = w.heap.size) (hb : base ≤ w.heap.size) : (w.alloc (.cells #[] 36)).ownsRow base 36 3 (.slice (some ⟨g, 0, none⟩) 0 0) 0 [] := by
  subst hg; exact World.ownsRow_lit w #[] 0 hb (by simp [maxLen]) rfl
theorem step_guard {P : Program} {w : World} {ops : Array Oper} {o : Oper} {a : Act} {K : Act → World → Prop} {Q : Exit → Act → World → Prop} {E : Prop} (s x : Operand) (t : TypeId) (v : Value)
    (_ : o.op = .call { callee := .builtin .append, args := #[s, x], argTypes := #[t, t] }) (_ : a.eval s = v) (h : if Region.wanted o (yielded ops a.tmps) = true then Oper.wp P o a w K Q else E) :
    if Region.wanted o (yielded ops a.tmps) = true then Oper.wp P o a w K Q else E := h
theorem lay3 {W w' : World} {row : Option Nat} {t : TypeId} {cs : Array Value} {G : Prop} (hg : W.grownBy w' row) (g : Nat) (hB : Blk W g t cs) (hne : some g ≠ row) (k : Blk w' g t cs → G) : G := k (Blk.grown_ hB hg hne)
theorem reads_blk {w : World} {g : Nat} {t : TypeId} {p0 p1 p2 : Int} (h : Blk w g t #[.int .i64 p0, .int .i64 p1, .int .i64 p2]) : Reads w w.heap.size 3 (some ⟨g, 0, none⟩) 1 (csP [(p0, p1, p2)]) :=
  ⟨rfl, fun _ => ⟨g, 0, rfl, h.lt, fun j u hu => by rw [Nat.zero_add, h.cell]; simpa [csP, cP] using hu⟩⟩
theorem fitsN_next {l : List (Int × Int × Int)} {f : Int} {k : Nat} (h : fullC (l ++ [nP (f + k)]) = []) : fitsN l f (k + 1) = fitsN l f k ++ [nP (f + k)] := by
  conv => lhs; unfold fitsN
  rw [if_pos h]
theorem fitsN_same {l : List (Int × Int × Int)} {f : Int} {k : Nat} (h : ¬ fullC (l ++ [nP (f + k)]) = []) : fitsN l f (k + 1) = fitsN l f k := by
  conv => lhs; unfold fitsN
  rw [if_neg h, List.append_nil]
set_option maxRecDepth 100000 in
set_option maxHeartbeats 4000000 in
theorem Fits_any (A : Option Addr) (n c : Nat) (l : List (Int × Int × Int)) (f t : Int) (B : Nat) (w : World) (h : Reads w B 3 A n (csP l)) (hB : B ≤ w.heap.size) (hn : n ≤ 9223372036854775807) (ht : Tabs w) :
    Calls Tryd.prog 15 #[.slice A n c, .int .i64 f, .int .i64 t] w fun e w' => ∃ A' c', e = .returned (.tuple #[.slice A' (fitsE l f t).1.length c', .int .i64 (fitsE l f t).2]) ∧ Reads w' w'.heap.size 3 A' (fitsE l f t).1.length (csP (fitsE l f t).1) ∧ Below w.heap.size w w' := by
  have HL : Hid (l.length = n) := Lib.hid h.ptlen
  obtain ⟨i0, hi0, hz0, hz1, hz2⟩ := info_parts pitch_info
  have q1 := check_any A n c l B w h hB hn
  by_cases hz : chordE l = 0
  · rw [hz] at q1
    have hok := chordE_ok hz
    by_cases hr : f < 0 ∨ 62 < f ∨ t < 0 ∨ 62 < t
    · have E := Lib.hid (show fitsE l f t = ([], 2) by unfold fitsE; rw [hz, if_neg (fun h => h rfl), if_pos hr])
      clear hz hok
      have parts : f < 0 ∨ (¬ f < 0 ∧ 62 < f) ∨ (¬ f < 0 ∧ ¬ 62 < f ∧ t < 0) ∨ (¬ f < 0 ∧ ¬ 62 < f ∧ ¬ t < 0 ∧ 62 < t) := by omega
      clear hr
      rcases parts with a1 | ⟨a1, a2⟩ | ⟨a1, a2, a3⟩ | ⟨a1, a2, a3, a4⟩
      · have d1 : decide (f < 0) = true := by simpa using a1
        clear a1
        go_enter Tryd.func15, Tryd.ntmps15
        go_wp2_with fail
        refine q1.mono ?_
        rintro e w1 ⟨rfl, hb1⟩
        go_wp2
        go_ret2
        rw [E.out]
        first | exact ⟨none, 0, rfl, Reads.none_, hb1⟩ | exact ⟨none, ⟨0, rfl⟩, Reads.none_, hb1⟩
      · have d1 : decide (f < 0) = false := by simpa using a1
        have d2 : decide (62 < f) = true := by simpa using a2
        clear a1 a2
        go_enter Tryd.func15, Tryd.ntmps15
        go_wp2_with fail
        refine q1.mono ?_
        rintro e w1 ⟨rfl, hb1⟩
        go_wp2
        go_ret2
        rw [E.out]
        first | exact ⟨none, 0, rfl, Reads.none_, hb1⟩ | exact ⟨none, ⟨0, rfl⟩, Reads.none_, hb1⟩
      · have d1 : decide (f < 0) = false := by simpa using a1
        have d2 : decide (62 < f) = false := by simpa using a2
        have d3 : decide (t < 0) = true := by simpa using a3
        clear a1 a2 a3
        go_enter Tryd.func15, Tryd.ntmps15
        go_wp2_with fail
        refine q1.mono ?_
        rintro e w1 ⟨rfl, hb1⟩
        go_wp2
        go_ret2
        rw [E.out]
        first | exact ⟨none, 0, rfl, Reads.none_, hb1⟩ | exact ⟨none, ⟨0, rfl⟩, Reads.none_, hb1⟩
      · have d1 : decide (f < 0) = false := by simpa using a1
        have d2 : decide (62 < f) = false := by simpa using a2
        have d3 : decide (t < 0) = false := by simpa using a3
        have d4 : decide (62 < t) = true := by simpa using a4
        clear a1 a2 a3 a4
        go_enter Tryd.func15, Tryd.ntmps15
        go_wp2_with fail
        refine q1.mono ?_
        rintro e w1 ⟨rfl, hb1⟩
        go_wp2
        go_ret2
        rw [E.out]
        first | exact ⟨none, 0, rfl, Reads.none_, hb1⟩ | exact ⟨none, ⟨0, rfl⟩, Reads.none_, hb1⟩
    · have f0 : 0 ≤ f := by omega
      have f1 : f ≤ 62 := by omega
      have t0 : 0 ≤ t := by omega
      have t1 : t ≤ 62 := by omega
      have hn8 : n ≤ 8 := by have := HL.out; omega
      have E := Lib.hid (show fitsE l f t = (fitsN l f (fitsK l f t), 0) by unfold fitsE; rw [hz, if_neg (fun h => h rfl), if_neg hr])
      have EK := Lib.hid (show fitsK l f t = if n < 8 then (t + 1 - f).toNat else 0 by unfold fitsK; rw [HL.out])
      have z0 : decide (f < 0) = false := by simp; omega
      have z1 : decide (62 < f) = false := by simp; omega
      have z2 : decide (t < 0) = false := by simp; omega
      have z3 : decide (62 < t) = false := by simp; omega
      clear hz hr
      go_enter Tryd.func15, Tryd.ntmps15
      go_wp2_with fail
      refine q1.mono ?_
      rintro e w1 ⟨rfl, hb1⟩
      go_wp2_with fail
      go_loopg [9, 10, 11, 12] (fitsK l f t) (fun g v i _ _ wr => ∃ k : Nat, k + g = fitsK l f t ∧ i = .int .i64 (f + k) ∧ wr.ownsRow w.heap.size 36 3 v (fitsN l f k).length (csP (fitsN l f k)) ∧ Below w.heap.size w wr)
      case atStart => exact ⟨0, by omega, by simp, ⟨rfl, .inl ⟨rfl, rfl⟩⟩, hb1⟩
      case round =>
        obtain ⟨k, hkg, rfl, hown, k0⟩ := hrel
        have hKt : fitsK l f t ≤ 63 := by rw [EK.out]; split <;> omega
        cases gk with
        | zero =>
          have hkk : k = fitsK l f t := by omega
          have hstop : ¬ (f + (k : Int) ≤ t ∧ (n : Int) < 8) := by
            rw [hkk, EK.out]; split <;> omega
          have E2 := Lib.hid (show fitsE l f t = (fitsN l f k, 0) by rw [E.out, ← hkk])
          clear hkk hkg
          have hs2 : (decide (f + (k : Int) ≤ t) = false) ∨ (decide (f + (k : Int) ≤ t) = true ∧ decide ((n : Int) < 8) = false) := by
            by_cases h1 : f + (k : Int) ≤ t
            · exact Or.inr ⟨by simpa using h1, by simp; omega⟩
            · exact Or.inl (by simpa using h1)
          rcases hs2 with s1 | ⟨s1, s2⟩
          · go_wp2
            go_ret2
            obtain ⟨A', c', hv, ho⟩ := own3_form hown
            subst hv
            rw [E2.out]
            exact ⟨A', c', rfl, ho.2.1, k0⟩
          · go_wp2
            go_ret2
            obtain ⟨A', c', hv, ho⟩ := own3_form hown
            subst hv
            rw [E2.out]
            exact ⟨A', c', rfl, ho.2.1, k0⟩
        | succ g =>
          have hgo : f + (k : Int) ≤ t ∧ n < 8 := by
            have := EK.out
            split at this
            · omega
            · omega
          have hgo1 : decide (f + (k : Int) ≤ t) = true := by simp; omega
          have hgo2 : decide ((n : Int) < 8) = true := by simp; omega
          obtain ⟨o, ho⟩ : ∃ o, o = fitsN l f k := ⟨_, rfl⟩
          have hol : o.length ≤ 63 := by rw [ho]; have := fitsN_len l f k; omega
          have HNX := Lib.hid (fun hh => fitsN_next (l := l) (f := f) (k := k) hh)
          have HSM := Lib.hid (fun hh => fitsN_same (l := l) (f := f) (k := k) hh)
          rw [← ho] at hown HNX HSM
          clear ho
          have q2 := fun W => pOf_any (f + k) 0 W
          rw [ofP_nP (by omega) (by omega)] at q2
          have hpv := nP_ok (n := f + k) (by omega) (by omega)
          have hpl : ∀ p ∈ l ++ [nP (f + k)], pchk p = 0 := by
            intro p hp
            rcases List.mem_append.1 hp with hp | hp
            · exact hok.2 p hp
            · rw [List.mem_singleton.1 hp]; exact hpv
          have q3 := fun A' c' B' W hR hB' hT => clashes_ok A' (n + 1) c' (l ++ [nP (f + k)]) 1 B' W hR hB' (by omega) hpl hT (Or.inr rfl)
          have hfl : (f + (k : Int)) ≤ 62 := by omega
          obtain ⟨⟨p0, p1, p2⟩, hp⟩ : ∃ p, p = nP (f + k) := ⟨_, rfl⟩
          rw [← hp] at q2 q3 HNX HSM
          clear hp hpv hpl
          go_wp2_with fail
          refine (q2 _).mono ?_
          rintro e w2 ⟨rfl, hb2⟩
          go_wp2_with fail
          have k2 : Below w.heap.size w (w2.alloc (.cells #[.int .i64 p0, .int .i64 p1, .int .i64 p2] 36)) := below_alloc (below_call k0 hb2) _
          have bP : Blk (w2.alloc (.cells #[.int .i64 p0, .int .i64 p1, .int .i64 p2] 36)) w2.heap.size 36 #[.int .i64 p0, .int .i64 p1, .int .i64 p2] := Blk.new _ _ _
          have own2 := own_call (own_call hown hb2) (below_alloc (Below.refl w2.heap.size w2) (.cells #[.int .i64 p0, .int .i64 p1, .int .i64 p2] 36))
          obtain ⟨gP, hgP⟩ : ∃ g, g = w2.heap.size := ⟨_, rfl⟩
          obtain ⟨wv, hwv⟩ := name_world k2
          rw [← hwv] at k2 bP own2 ⊢
          rw [← hgP] at bP ⊢
          have hA := h.below hB k2
          have hBv : B ≤ wv.heap.size := Nat.le_trans hB k2.size
          have ht2 := ht.kept k2
          have lP := bP.lt
          clear hwv hgP hown k0 hb2
          -- region 48 49 50 52 prog
          go_region_held3 (fun w' => w'.cell? ⟨gP, 0, none⟩ = some (.int .i64 p0) ∧ w'.cell? ⟨gP, 1, none⟩ = some (.int .i64 p1) ∧ w'.cell? ⟨gP, 2, none⟩ = some (.int .i64 p2) ∧ Below wv.heap.size wv w') ((refine (fun hb => ⟨(hb.cell (p := ⟨_, _, none⟩) lP).trans (bP.cell 0), (hb.cell (p := ⟨_, _, none⟩) lP).trans (bP.cell 1), (hb.cell (p := ⟨_, _, none⟩) lP).trans (bP.cell 2), hb⟩) ?_; repeat (first | with_reducible exact Below.refl _ _ | with_reducible exact hB3 | with_reducible exact hB4 | with_reducible exact hB5 | with_reducible exact (show _ ∧ _ ∧ _ ∧ Below wv.heap.size wv _ by assumption).2.2.2 | with_reducible refine Below.drew ?_ | with_reducible refine below_alloc ?_ _))) ((first | ((refine step_guard (.tmp 48) (.tmp 49) 22 (.slice (some ⟨wv.heap.size, 0, none⟩) 0 0) ?_ ?_ ?_); (focus rfl); (focus rfl); (refine step_append_any _ (by rfl) (.tmp 48) (.tmp 49) 22 (by rfl) wv.heap.size 36 i0 _ 3 24 Tryd.underlying22 hi0 hz0 hz1 hz2 rfl (by omega) (.slice (some ⟨wv.heap.size, 0, none⟩) 0 0) 0 [] (by rfl) (own_call (World.ownsRow_lit wv #[] 0 (Nat.le_refl _) (by simp [maxLen]) rfl) (by repeat (first | with_reducible exact Below.refl _ _ | with_reducible refine Below.drew ?_ | with_reducible refine below_alloc ?_ _))) B A n c (csP l) (by rfl) (hA.below hBv (show _ ∧ _ ∧ _ ∧ Below wv.heap.size wv _ by assumption).2.2.2) (one_csP l) (by simp only [maxLen]; omega) (by omega) ((show _ ∧ _ ∧ _ ∧ Below wv.heap.size wv _ by assumption).2.2.2).size ?_); intro v1 w3 hown3 hg3 hat3; have hB3 : Below wv.heap.size wv w3 := Below.grown (B := wv.heap.size) (a := wv) (show _ ∧ _ ∧ _ ∧ Below wv.heap.size wv _ by assumption).2.2.2 hg3 (by first | exact ((show _ ∧ _ ∧ _ ∧ Below wv.heap.size wv _ by assumption).2.2.2).size) (fun q hq => by simp [Value.ownBlock] at hq; omega); simp only [Nat.zero_add, List.nil_append] at hown3; (try (refine lay3 hg3 (wv.heap.size) (t := 36) (cs := #[.int .i64 p0, .int .i64 p1, .int .i64 p2]) ?_ ?_ ?_; (focus ((repeat (first | with_reducible exact Blk.new _ _ _ | (with_reducible refine Blk.newAt _ _ _ _ ?_; first | rfl | (simp; done)) | with_reducible apply Blk.alloc | with_reducible apply Blk.drewN | with_reducible apply Blk.drew | with_reducible assumption)); done)); (focus (simp [Value.ownBlock]; done)); intro hbB)); (try (refine lay3 hg3 (wv.heap.size + 1) (t := 36) (cs := #[.int .i64 p0, .int .i64 p1, .int .i64 p2]) ?_ ?_ ?_; (focus ((repeat (first | with_reducible exact Blk.new _ _ _ | (with_reducible refine Blk.newAt _ _ _ _ ?_; first | rfl | (simp; done)) | with_reducible apply Blk.alloc | with_reducible apply Blk.drewN | with_reducible apply Blk.drew | with_reducible assumption)); done)); (focus (simp [Value.ownBlock]; done)); intro hbB))) | ((refine step_guard (.tmp 48) (.tmp 49) 22 (.slice (some ⟨wv.heap.size + 1, 0, none⟩) 0 0) ?_ ?_ ?_); (focus rfl); (focus rfl); (refine step_append_any _ (by rfl) (.tmp 48) (.tmp 49) 22 (by rfl) wv.heap.size 36 i0 _ 3 24 Tryd.underlying22 hi0 hz0 hz1 hz2 rfl (by omega) (.slice (some ⟨wv.heap.size + 1, 0, none⟩) 0 0) 0 [] (by rfl) (own_call (lit_at (wv.alloc (.cells #[.int .i64 p0, .int .i64 p1, .int .i64 p2] 36)) wv.heap.size (wv.heap.size + 1) (by simp) (by simp)) (by repeat (first | with_reducible exact Below.refl _ _ | with_reducible refine Below.drew ?_ | with_reducible refine below_alloc ?_ _))) B A n c (csP l) (by rfl) (hA.below hBv (show _ ∧ _ ∧ _ ∧ Below wv.heap.size wv _ by assumption).2.2.2) (one_csP l) (by simp only [maxLen]; omega) (by omega) ((show _ ∧ _ ∧ _ ∧ Below wv.heap.size wv _ by assumption).2.2.2).size ?_); intro v1 w3 hown3 hg3 hat3; have hB3 : Below wv.heap.size wv w3 := Below.grown (B := wv.heap.size) (a := wv) (show _ ∧ _ ∧ _ ∧ Below wv.heap.size wv _ by assumption).2.2.2 hg3 (by first | exact ((show _ ∧ _ ∧ _ ∧ Below wv.heap.size wv _ by assumption).2.2.2).size) (fun q hq => by simp [Value.ownBlock] at hq; omega); simp only [Nat.zero_add, List.nil_append] at hown3; (try (refine lay3 hg3 (wv.heap.size) (t := 36) (cs := #[.int .i64 p0, .int .i64 p1, .int .i64 p2]) ?_ ?_ ?_; (focus ((repeat (first | with_reducible exact Blk.new _ _ _ | (with_reducible refine Blk.newAt _ _ _ _ ?_; first | rfl | (simp; done)) | with_reducible apply Blk.alloc | with_reducible apply Blk.drewN | with_reducible apply Blk.drew | with_reducible assumption)); done)); (focus (simp [Value.ownBlock]; done)); intro hbB)); (try (refine lay3 hg3 (wv.heap.size + 1) (t := 36) (cs := #[.int .i64 p0, .int .i64 p1, .int .i64 p2]) ?_ ?_ ?_; (focus ((repeat (first | with_reducible exact Blk.new _ _ _ | (with_reducible refine Blk.newAt _ _ _ _ ?_; first | rfl | (simp; done)) | with_reducible apply Blk.alloc | with_reducible apply Blk.drewN | with_reducible apply Blk.drew | with_reducible assumption)); done)); (focus (simp [Value.ownBlock]; done)); intro hbB))) | ((refine step_guard (.tmp 50) (.tmp 52) 22 v1 ?_ ?_ ?_); (focus rfl); (focus rfl); (refine step_append_any _ (by rfl) (.tmp 50) (.tmp 52) 22 (by rfl) wv.heap.size 36 i0 _ 3 24 Tryd.underlying22 hi0 hz0 hz1 hz2 rfl (by omega) v1 n (csP l) (by rfl) (by first | exact hown3 | exact own_call hown3 (below_alloc (Below.refl _ _) _)) _ _ 1 1 (csP [(p0, p1, p2)]) (by rfl) (reads_blk (by first | exact Blk.new _ _ _ | exact hbB)) (one_csP _) (by simp only [maxLen]; omega) (by omega) ((show _ ∧ _ ∧ _ ∧ Below wv.heap.size wv _ by assumption).2.2.2).size ?_); intro v2 w4 hown4 hg4 hat4; have hB4 : Below wv.heap.size wv w4 := Below.grown (B := wv.heap.size) (a := wv) (show _ ∧ _ ∧ _ ∧ Below wv.heap.size wv _ by assumption).2.2.2 hg4 ((show _ ∧ _ ∧ _ ∧ Below wv.heap.size wv _ by assumption).2.2.2).size (fun q hq => (hown3.lt q hq).1); rw [← csP_append] at hown4; obtain ⟨A4, c4, hv4, hr4, _⟩ := own_reads hown4; subst hv4) | (go_at_call 42; refine Calls.mono (q3 A4 c4 w4.heap.size _ hr4 (Nat.le_refl _) (ht2.kept (show _ ∧ _ ∧ _ ∧ Below wv.heap.size wv _ by assumption).2.2.2)) ?_; rintro e w5 ⟨r, A5, c5, rfl, ho5, hb5, hf5⟩; have hB5 := below_call (show _ ∧ _ ∧ _ ∧ Below wv.heap.size wv _ by assumption).2.2.2 hb5)))
          all_goals
            have k5 := below_call k2 hB5
            have own5 := own_call own2 hB5
            have bP5 := bP.kept hB5
            have cP5 := bP5.cell
            have lP5 := bP5.lt
            have lP6 : gP < w5.heap.size + 1 := by omega
            by_cases hr0 : r = []
            · have HQ := Lib.hid (HNX.out (hf5.2.1 hr0))
              subst hr0
              go_wp2_with (at_builtin; (refine wpList_append_any _ rfl (.tmp 57) (.tmp 59) 22 rfl w.heap.size 36 i0 _ 3 24 Tryd.underlying22 hi0 hz0 hz1 hz2 rfl (by omega) _ o.length (csP o) rfl (own_call own5 (below_alloc (Below.refl _ _) _)) (w5.heap.size + 1) (some ⟨w5.heap.size, 0, none⟩) 1 1 (csP [(p0, p1, p2)]) rfl (Reads.newAt _ _ _ 1 3 _ rfl rfl) (one_csP _) (by simp only [maxLen]; omega) (by omega) (by have := k5.size; simp; omega) ?_); intro v6 w6 hown6 hg6 hat6)
              go_roundg g
              case measure => omega
              case rel => exact ⟨k + 1, by omega, congrArg (Value.int .i64) (by push_cast; omega), by rw [HQ.out, List.length_append, csP_append]; exact hown6, Below.grown (B := w.heap.size) (a := w) (below_alloc k5 _) hg6 (by have := k5.size; simp; omega) (fun q hq => (own5.lt q hq).1)⟩
            · have HQ := Lib.hid (HSM.out (fun hh => hr0 (hf5.2.2 hh)))
              have dr : ((r.length : Int) == 0) = false := by
                have : r.length ≠ 0 := fun h0 => hr0 (List.eq_nil_of_length_eq_zero h0)
                exact beq_eq_false_iff_ne.2 (by omega)
              clear hr0
              go_wp2
              go_roundg g
              case measure => omega
              case rel => exact ⟨k + 1, by omega, congrArg (Value.int .i64) (by push_cast; omega), by rw [HQ.out]; exact own5, k5⟩
  · have E := Lib.hid (show fitsE l f t = ([], chordE l) by unfold fitsE; rw [if_pos hz])
    have hb : (chordE l != 0) = true := by simpa using hz
    clear hz
    go_enter Tryd.func15, Tryd.ntmps15
    go_wp2_with fail
    refine (q1).mono ?_
    rintro e w1 ⟨rfl, hb1⟩
    have hs1 : w.heap.size ≤ w1.heap.size := by have h := hb1.size; (try simp at h); omega
    go_wp2
    go_ret2
    rw [E.out]
    exact ⟨none, 0, rfl, Reads.none_, by repeat (first | exact Below.refl _ _ | refine below_drewN ?_ _ | refine Below.drew ?_ | refine below_alloc ?_ _ | (refine below_call ?_ (by assumption)) | (refine Below.setCell ?_ ?_ _; rotate_left; (simp; try omega)))⟩
end Go.Proofs.YtmbnpblejhlefaaDoor
