/- IntervalTaken: for every list of numbers and every number: a consonant chord of the pitches that they make stays consonant with what fits, with a pitch doubled, and without a pitch that does not change the bass. -/
import Derived.Test.YtmbnpblejhlefaaDoorChSentOf
import Derived.Test.YtmbnpblejhlefaaDoorChMany
import Derived.IntWalk
namespace Go.Proofs.YtmbnpblejhlefaaDoor.intervalTaken
open Go.RowKit Go.ChangeShapes Go.WideShapes Go.ChangeAt
theorem chord_ok {l : List Pt} (hv : ∀ p ∈ l, pchk p = 0) (hl : l.length ≤ 8) : chordE l = 0 := by
  unfold chordE
  rw [if_neg (by omega)]
  induction l with
  | nil => rfl
  | cons p l ih =>
    unfold firstE
    rw [hv p (by simp), if_neg (fun h => h rfl)]
    exact ih (fun q hq => hv q (List.mem_cons_of_mem _ hq)) (by simp at hl; omega)
theorem clash_nil {l : List Pt} (hv : ∀ p ∈ l, pchk p = 0) (hl : l.length ≤ 8) (h : fullC l = []) : clashE l = ([], 0) := by
  unfold clashE; rw [chord_ok hv hl, if_neg (fun h => h rfl), h]
theorem less_sub (l : List Pt) (i : Nat) : (l.take i ++ l.drop (i + 1)).Sublist l := by
  have : (l.take i ++ l.drop (i + 1)).Sublist (l.take i ++ l.drop i) := by
    refine List.Sublist.append (List.Sublist.refl _) ?_
    rw [← List.drop_drop]
    exact List.drop_sublist _ _
  rwa [List.take_append_drop] at this
/-- A slice's head, and its tail. -/
theorem reads_take {w : World} {B n k : Nat} {A : Option Addr} {l : List Pt} (h : Reads w B 3 A n (csP l)) (hk : k ≤ n) : Reads w B 3 A k (csP (l.take k)) := by
  have hl := h.ptlen
  refine ⟨by rw [csP_len, List.length_take]; omega, fun h0 => ?_⟩
  obtain ⟨b, off, e, hb, hc⟩ := h.2 (by omega)
  refine ⟨b, off, e, hb, fun j u hu => hc j u ?_⟩
  have e2 : csP l = csP (l.take k) ++ csP (l.drop k) := by rw [← csP_append, List.take_append_drop]
  rw [e2]
  have hj : j < (csP (l.take k)).length := by
    rcases Nat.lt_or_ge j (csP (l.take k)).length with h1 | h1
    · exact h1
    · rw [List.getElem?_eq_none h1] at hu; cases hu
  rw [List.getElem?_append_left hj, hu]
theorem reads_drop {w : World} {B n k b off : Nat} {l : List Pt} (h : Reads w B 3 (some ⟨b, off, none⟩) n (csP l)) (hk : k ≤ n) (A : Option Addr) (hA : k < n → A = some ⟨b, off + k * 3, none⟩) : Reads w B 3 A (n - k) (csP (l.drop k)) := by
  have hl := h.ptlen
  refine ⟨by rw [csP_len, List.length_drop]; omega, fun h0 => ?_⟩
  obtain ⟨b', off', e, hb, hc⟩ := h.2 (by omega)
  cases e
  refine ⟨b, off + k * 3, hA (by omega), hb, fun j u hu => ?_⟩
  rw [Nat.add_assoc]
  refine hc (k * 3 + j) u ?_
  have e2 : csP l = csP (l.take k) ++ csP (l.drop k) := by rw [← csP_append, List.take_append_drop]
  have e3 : (csP (l.take k)).length = k * 3 := by rw [csP_len, List.length_take]; omega
  rw [e2, List.getElem?_append_right (by omega), e3, show k * 3 + j - k * 3 = j by omega, hu]
set_option maxRecDepth 100000 in
theorem run_head (W : World) (I N c b off : Nat) (h : I ≤ c) (hc : 0 < c) :
    (Instr.slice 22 (.slice (some ⟨b, off, none⟩) N c) none (some (.int .i64 (I : Int))) none).run Tryd.prog W = .ok (.slice (some ⟨b, off, none⟩) I c) W := by
  rw [run_slice_h W 22 _ _ _ Tryd.underlying22 .i64 _ (by omega) (by omega), show (Go.sizeOf (Tryd.prog.elem 22)).run Tryd.prog W = .ok 3 W by kernel_rfl]
  have hne : ¬ c = 0 := by omega
  simp [Result.andThen, sliced, Addr.add, hne]
set_option maxRecDepth 100000 in
theorem run_tail (I N c b off : Nat) (h : I + 1 ≤ N) (hc : N ≤ c) : ∃ Ad : Option Addr, (I + 1 < N → Ad = some ⟨b, off + (I + 1) * 3, none⟩) ∧
    ∀ W : World, (Instr.slice 22 (.slice (some ⟨b, off, none⟩) N c) (some (.int .i64 ((I : Int) + 1))) none none).run Tryd.prog W = .ok (.slice Ad (N - (I + 1)) (c - (I + 1))) W := by
  refine ⟨if c = I + 1 then some ⟨b, off, none⟩ else some ⟨b, off + (I + 1) * 3, none⟩, fun h0 => by rw [if_neg (by omega)], fun W => ?_⟩
  rw [run_slice_l W 22 _ _ _ Tryd.underlying22 .i64 _ (by omega) (by omega), show (Go.sizeOf (Tryd.prog.elem 22)).run Tryd.prog W = .ok 3 W by kernel_rfl]
  rw [show ((I : Int) + 1).toNat = I + 1 by omega]
  by_cases hne : c = I + 1 <;> simp [Result.andThen, sliced, Addr.add, hne]
set_option maxRecDepth 100000 in
set_option maxHeartbeats 8000000 in
theorem walk (A : Option Addr) (n c : Nat) (nums : List Int) (x : Int) (w : World) (hA : Reads w w.heap.size 1 A n (csI nums)) (hn : n ≤ 9223372036854775807) (hv : ∀ x ∈ nums, -9223372036854775808 ≤ x ∧ x ≤ 9223372036854775807)
    (hx : -9223372036854775808 ≤ x ∧ x ≤ 9223372036854775807) (ht : Tabs2 w) :
    Calls Tryd.prog 8 #[.slice A n c, .int .i64 x] w fun e w' => e = .returned (.bool true) ∧ Below w.heap.size w w' := by
  have ql := fun W (hW : Below w.heap.size w W) => list_any A n c nums w.heap.size W (hA.below (Nat.le_refl _) hW) hW.size hn hv
  have hLv := listP_ok nums
  have hL7 := listP_len nums
  obtain ⟨L, hL⟩ : ∃ L, L = listP nums := ⟨_, rfl⟩
  rw [← hL] at ql hLv hL7
  clear hL
  obtain ⟨N, hN⟩ : ∃ N, N = L.length := ⟨_, rfl⟩
  rw [← hN] at ql hL7
  obtain ⟨i0, hi0, hz0, hz1, hz2⟩ := info_parts pitch_info
  have eL := chord_ok hLv (by omega)
  have cL : clashE L = (fullC L, 0) := by unfold clashE; rw [eL, if_neg (fun h => h rfl)]
  have qcL := fun (A' : Option Addr) (c' : Nat) B W (h : Reads W B 3 A' N (csP L)) (hB : B ≤ W.heap.size) (hW : Tabs2 W) => Clashes_any A' N c' L B W h hB (by omega) hW.tabs
  rw [cL] at qcL
  simp only at qcL
  by_cases hcl : fullC L = []
  · rw [hcl] at qcL
    by_cases h0 : N = 0
    · subst h0
      clear eL cL hcl hN hLv
      go_enter Tryd.func8, Tryd.ntmps8
      go_wp2_with fail
      refine (known_any _ ht).mono ?_
      rintro e w1 ⟨rfl, hb1⟩
      go_wp2_with fail
      refine (ql _ hb1).mono ?_
      rintro e w2 ⟨A2, c2, rfl, o2, hb2⟩
      have k2 := below_call hb1 hb2
      go_wp2_with fail
      refine (qcL A2 c2 w2.heap.size w2 o2.2.1 (Nat.le_refl _) (ht.kept k2)).mono ?_
      rintro e w3 ⟨A3, c3, rfl, r3, hb3⟩
      have k3 := below_call k2 hb3
      go_wp2
      go_ret
      exact ⟨rfl, k3⟩
    · have hd0 : ((N : Int) == 0) = false := by simpa using h0
      have qm := fun W => mod_any x (N : Int) W (by omega) (by omega) hx.1 hx.2
      obtain ⟨I, hI⟩ : ∃ I : Nat, x % (N : Int) = (I : Int) := ⟨(x % (N : Int)).toNat, by have := Int.emod_nonneg x (show (N : Int) ≠ 0 by omega); omega⟩
      have hIN : I < N := by have := Int.emod_lt_of_pos x (show (0 : Int) < (N : Int) by omega); omega
      rw [hI] at qm
      clear hI
      -- what fits
      have fL : fitsE L 20 40 = (fitsN L 20 (fitsK L 20 40), 0) := by unfold fitsE; rw [eL, if_neg (fun h => h rfl), if_neg (by omega)]
      obtain ⟨F, hF⟩ : ∃ F, F = fitsN L 20 (fitsK L 20 40) := ⟨_, rfl⟩
      rw [← hF] at fL
      have hFm : ∀ p ∈ F, clashE (L ++ [p]) = ([], 0) := fun p hp => by
        rw [hF] at hp
        obtain ⟨h1, j, h2, h3⟩ := mem_fits hp
        have hK : fitsK L 20 40 ≤ 21 := by unfold fitsK; split <;> omega
        refine clash_nil (fun q hq => ?_) (by rw [List.length_append]; simp; omega) h1
        rcases List.mem_append.1 hq with hq | hq
        · exact hLv q hq
        · rw [List.mem_singleton.1 hq, h3]; exact nP_ok (by omega) (by omega)
      have hFl : F.length ≤ 21 := by
        rw [hF]
        have := fitsN_len L 20 (fitsK L 20 40)
        have hK : fitsK L 20 40 ≤ 21 := by unfold fitsK; split <;> omega
        omega
      have qf := fun (A' : Option Addr) (c' : Nat) B W (h : Reads W B 3 A' N (csP L)) (hB : B ≤ W.heap.size) (hW : Tabs2 W) => Fits_any A' N c' L 20 40 B W h hB (by omega) hW.tabs
      rw [fL] at qf
      simp only at qf
      obtain ⟨M, hM⟩ : ∃ M, M = F.length := ⟨_, rfl⟩
      rw [← hM] at qf hFl
      -- a pitch doubled, a pitch taken out
      have hdb : clashE (L ++ [pAt L I]) = ([], 0) := by
        refine clash_nil (fun q hq => ?_) (by rw [List.length_append]; simp; omega) (cons_double hLv hcl (pAt_mem (by omega)))
        rcases List.mem_append.1 hq with hq | hq
        · exact hLv q hq
        · rw [List.mem_singleton.1 hq]; exact hLv _ (pAt_mem (by omega))
      obtain ⟨S, hS⟩ : ∃ S, S = L.take I ++ L.drop (I + 1) := ⟨_, rfl⟩
      have HS := Lib.hid hS
      have hSs : S.Sublist L := by rw [hS]; exact less_sub L I
      have hSl : S.length = N - 1 := by rw [hS, List.length_append, List.length_take, List.length_drop]; omega
      have hSv : ∀ p ∈ S, pchk p = 0 := fun p hp => hLv p (hSs.subset hp)
      have HSc := Lib.hid (fun h : bassP S = bassP L => clash_nil hSv (by omega) (cons_less hcl hSs h))
      have HbL := Lib.hid (show bassE L = (((bassL L : Nat) : Int), 0) by unfold bassE; rw [eL, if_neg (fun h => h rfl), if_neg (by omega)])
      have HbS := Lib.hid (fun h : S.length ≠ 0 => show bassE S = (((bassL S : Nat) : Int), 0) by unfold bassE; rw [chord_ok hSv (by omega), if_neg (fun h => h rfl), if_neg h])
      have HSl := Lib.hid hSl
      clear hS hSs hSl hSv
      have HLlen := Lib.hid hN.symm
      have HFlen := Lib.hid hM.symm
      have HFm := Lib.hid hFm
      have HLv := Lib.hid hLv
      have Hcl := Lib.hid hcl
      have HeL := Lib.hid eL
      have gI := pAt_some (l := L) (k := I) (by omega)
      obtain ⟨⟨z0, z1, z2⟩, hz⟩ : ∃ p, p = pAt L I := ⟨_, rfl⟩
      rw [← hz] at gI hdb
      clear hz hM hF hN fL eL cL hcl hFm hLv h0
      have q4 := fun A' c' B' W hR hB' (hT : Tabs2 W) => clash_is A' none (N + 1) c' 0 0 (L ++ [(z0, z1, z2)]) [] B' W.heap.size W hR hB' Reads.none_ (Nat.le_refl _) (by omega) hT.tabs hdb
      clear hdb
      go_enter Tryd.func8, Tryd.ntmps8
      go_wp2_with fail
      refine (known_any _ ht).mono ?_
      rintro e w1 ⟨rfl, hb1⟩
      go_wp2_with fail
      refine (ql _ hb1).mono ?_
      rintro e w2 ⟨A2, c2, rfl, o2, hb2⟩
      have k2 := below_call hb1 hb2
      have r2 := o2.2.1
      have hc2 := o2.2.2
      have hcm : c2 ≤ 9223372036854775807 := by
        obtain ⟨_, _, e, _, _, hm⟩ := own_reads o2.1
        cases e
        unfold maxLen at hm; omega
      clear o2 ql
      go_wp2_with fail
      refine (qcL A2 c2 w2.heap.size w2 r2 (Nat.le_refl _) (ht.kept k2)).mono ?_
      rintro e w3 ⟨A3, c3, rfl, r3, hb3⟩
      have k3 := below_call k2 hb3
      clear qcL r3
      go_wp2_with fail
      refine (qf A2 c2 w2.heap.size w3 (r2.below (Nat.le_refl _) hb3) hb3.size (ht.kept k3)).mono ?_
      rintro e w4 ⟨A4, c4, rfl, r4, hb4⟩
      have k4 := below_call k3 hb4
      have b24 := below_call hb3 hb4
      clear qf
      go_wp2_with fail
      go_loopw [11] (fun i wr => ∃ j : Nat, j ≤ M ∧ i = .int .i64 j ∧ Below w4.heap.size w4 wr) (fun i _ => M - (intOf i).toNat)
      case atStart => exact ⟨0, by omega, rfl, Below.refl _ _⟩
      case round =>
        obtain ⟨j, hj, rfl, k0⟩ := hrel
        by_cases hlt : j < M
        · have hlt' : (j : Int) < (M : Int) := by omega
          have gj := pAt_some (l := F) (k := j) (by have := HFlen.out; omega)
          have hcj := HFm.out _ (pAt_mem (l := F) (k := j) (by have := HFlen.out; omega))
          obtain ⟨b, off, rfl, hab, c0, c1, c2'⟩ := r4.pt (Nat.le_refl _) k0 hlt gj
          obtain ⟨⟨y0, y1, y2⟩, hy⟩ : ∃ y, y = pAt F j := ⟨_, rfl⟩
          rw [← hy] at c0 c1 c2' hcj
          simp only at c0 c1 c2'
          have q3 := fun A' c' B' W hR hB' (hT : Tabs2 W) => clash_is A' none (N + 1) c' 0 0 (L ++ [(y0, y1, y2)]) [] B' W.heap.size W hR hB' Reads.none_ (Nat.le_refl _) (by omega) hT.tabs hcj
          have ht2 := ht.kept (below_call k4 k0)
          have b2 := below_call b24 k0
          have hA2 := r2.below (Nat.le_refl _) b2
          have hBv := b2.size
          clear gj hy hcj
          obtain ⟨wv, hwv⟩ : ∃ wv, wv = wr := ⟨_, rfl⟩
          subst hwv
          go_wp2_with fail
          go_region_held3 (fun w' => w'.cell? ⟨b, off + j * 3, none⟩ = some (.int .i64 y0) ∧ w'.cell? ⟨b, off + j * 3 + 1, none⟩ = some (.int .i64 y1) ∧ w'.cell? ⟨b, off + j * 3 + 2, none⟩ = some (.int .i64 y2) ∧ Below wv.heap.size wv w') ((refine (fun hb => ⟨(hb.cell (p := ⟨_, _, none⟩) hab).trans c0, (hb.cell (p := ⟨_, _, none⟩) hab).trans c1, (hb.cell (p := ⟨_, _, none⟩) hab).trans c2', hb⟩) ?_; repeat (first | with_reducible exact Below.refl _ _ | with_reducible exact hB3 | with_reducible exact hB4 | with_reducible exact hB5 | with_reducible exact (show _ ∧ _ ∧ _ ∧ Below wv.heap.size wv _ by assumption).2.2.2 | with_reducible refine Below.drew ?_ | with_reducible refine below_alloc ?_ _))) ((first | ((refine step_guard (.tmp 50) (.tmp 51) 22 (.slice (some ⟨wv.heap.size, 0, none⟩) 0 0) ?_ ?_ ?_); (focus rfl); (focus rfl); (refine step_append_any _ (by rfl) (.tmp 50) (.tmp 51) 22 (by rfl) wv.heap.size 36 i0 _ 3 24 Tryd.underlying22 hi0 hz0 hz1 hz2 rfl (by omega) (.slice (some ⟨wv.heap.size, 0, none⟩) 0 0) 0 [] (by rfl) (own_call (World.ownsRow_lit wv #[] 0 (Nat.le_refl _) (by simp [maxLen]) rfl) (by repeat (first | with_reducible exact Below.refl _ _ | with_reducible refine Below.drew ?_ | with_reducible refine below_alloc ?_ _))) _ A2 N c2 (csP L) (by rfl) (hA2.below hBv (show _ ∧ _ ∧ _ ∧ Below wv.heap.size wv _ by assumption).2.2.2) (one_csP _) (by simp only [maxLen]; omega) (by omega) ((show _ ∧ _ ∧ _ ∧ Below wv.heap.size wv _ by assumption).2.2.2).size ?_); intro v1 w3 hown3 hg3 hat3; have hB3 : Below wv.heap.size wv w3 := Below.grown (B := wv.heap.size) (a := wv) (show _ ∧ _ ∧ _ ∧ Below wv.heap.size wv _ by assumption).2.2.2 hg3 (by first | exact ((show _ ∧ _ ∧ _ ∧ Below wv.heap.size wv _ by assumption).2.2.2).size) (fun q hq => by simp [Value.ownBlock] at hq; omega); simp only [Nat.zero_add, List.nil_append] at hown3; (try (refine lay3 hg3 (wv.heap.size) (t := 36) (cs := #[.int .i64 y0, .int .i64 y1, .int .i64 y2]) ?_ ?_ ?_; (focus ((repeat (first | with_reducible exact Blk.new _ _ _ | (with_reducible refine Blk.newAt _ _ _ _ ?_; first | rfl | (simp; done)) | with_reducible apply Blk.alloc | with_reducible apply Blk.drewN | with_reducible apply Blk.drew | with_reducible assumption)); done)); (focus (simp [Value.ownBlock]; done)); intro hbB)); (try (refine lay3 hg3 (wv.heap.size + 1) (t := 36) (cs := #[.int .i64 y0, .int .i64 y1, .int .i64 y2]) ?_ ?_ ?_; (focus ((repeat (first | with_reducible exact Blk.new _ _ _ | (with_reducible refine Blk.newAt _ _ _ _ ?_; first | rfl | (simp; done)) | with_reducible apply Blk.alloc | with_reducible apply Blk.drewN | with_reducible apply Blk.drew | with_reducible assumption)); done)); (focus (simp [Value.ownBlock]; done)); intro hbB))) | ((refine step_guard (.tmp 50) (.tmp 51) 22 (.slice (some ⟨wv.heap.size + 1, 0, none⟩) 0 0) ?_ ?_ ?_); (focus rfl); (focus rfl); (refine step_append_any _ (by rfl) (.tmp 50) (.tmp 51) 22 (by rfl) wv.heap.size 36 i0 _ 3 24 Tryd.underlying22 hi0 hz0 hz1 hz2 rfl (by omega) (.slice (some ⟨wv.heap.size + 1, 0, none⟩) 0 0) 0 [] (by rfl) (own_call (lit_at (wv.alloc (.cells #[.int .i64 y0, .int .i64 y1, .int .i64 y2] 36)) wv.heap.size (wv.heap.size + 1) (by simp) (by simp)) (by repeat (first | with_reducible exact Below.refl _ _ | with_reducible refine Below.drew ?_ | with_reducible refine below_alloc ?_ _))) _ A2 N c2 (csP L) (by rfl) (hA2.below hBv (show _ ∧ _ ∧ _ ∧ Below wv.heap.size wv _ by assumption).2.2.2) (one_csP _) (by simp only [maxLen]; omega) (by omega) ((show _ ∧ _ ∧ _ ∧ Below wv.heap.size wv _ by assumption).2.2.2).size ?_); intro v1 w3 hown3 hg3 hat3; have hB3 : Below wv.heap.size wv w3 := Below.grown (B := wv.heap.size) (a := wv) (show _ ∧ _ ∧ _ ∧ Below wv.heap.size wv _ by assumption).2.2.2 hg3 (by first | exact ((show _ ∧ _ ∧ _ ∧ Below wv.heap.size wv _ by assumption).2.2.2).size) (fun q hq => by simp [Value.ownBlock] at hq; omega); simp only [Nat.zero_add, List.nil_append] at hown3; (try (refine lay3 hg3 (wv.heap.size) (t := 36) (cs := #[.int .i64 y0, .int .i64 y1, .int .i64 y2]) ?_ ?_ ?_; (focus ((repeat (first | with_reducible exact Blk.new _ _ _ | (with_reducible refine Blk.newAt _ _ _ _ ?_; first | rfl | (simp; done)) | with_reducible apply Blk.alloc | with_reducible apply Blk.drewN | with_reducible apply Blk.drew | with_reducible assumption)); done)); (focus (simp [Value.ownBlock]; done)); intro hbB)); (try (refine lay3 hg3 (wv.heap.size + 1) (t := 36) (cs := #[.int .i64 y0, .int .i64 y1, .int .i64 y2]) ?_ ?_ ?_; (focus ((repeat (first | with_reducible exact Blk.new _ _ _ | (with_reducible refine Blk.newAt _ _ _ _ ?_; first | rfl | (simp; done)) | with_reducible apply Blk.alloc | with_reducible apply Blk.drewN | with_reducible apply Blk.drew | with_reducible assumption)); done)); (focus (simp [Value.ownBlock]; done)); intro hbB))) | ((refine step_guard (.tmp 52) (.tmp 57) 22 v1 ?_ ?_ ?_); (focus rfl); (focus rfl); (refine step_append_any _ (by rfl) (.tmp 52) (.tmp 57) 22 (by rfl) wv.heap.size 36 i0 _ 3 24 Tryd.underlying22 hi0 hz0 hz1 hz2 rfl (by omega) v1 N (csP L) (by rfl) (by first | exact hown3 | exact own_call hown3 (below_alloc (Below.refl _ _) _)) _ _ 1 1 (csP [(y0, y1, y2)]) (by rfl) (reads_blk (by first | exact Blk.new _ _ _ | exact hbB)) (one_csP _) (by simp only [maxLen]; omega) (by omega) ((show _ ∧ _ ∧ _ ∧ Below wv.heap.size wv _ by assumption).2.2.2).size ?_); intro v2 w4 hown4 hg4 hat4; have hB4 : Below wv.heap.size wv w4 := Below.grown (B := wv.heap.size) (a := wv) (show _ ∧ _ ∧ _ ∧ Below wv.heap.size wv _ by assumption).2.2.2 hg4 ((show _ ∧ _ ∧ _ ∧ Below wv.heap.size wv _ by assumption).2.2.2).size (fun q hq => (hown3.lt q hq).1); rw [← csP_append] at hown4; obtain ⟨A4, c4, hv4, hr4, _⟩ := own_reads hown4; subst hv4) | (go_at_call 31; refine Calls.mono (q3 A4 c4 w4.heap.size _ hr4 (Nat.le_refl _) (ht2.kept (show _ ∧ _ ∧ _ ∧ Below wv.heap.size wv _ by assumption).2.2.2)) ?_; rintro e w5 ⟨rfl, hb5⟩; have hB5 := below_call (show _ ∧ _ ∧ _ ∧ Below wv.heap.size wv _ by assumption).2.2.2 hb5)))
          all_goals
            have k5 := below_call k0 hB5
            go_wp2_with fail
            go_roundw
            case rel => exact ⟨j + 1, by omega, by go_num, k5⟩
            case measure => simp [intOf]; omega
        · have hjM : j = M := by omega
          subst hjM
          have b2 := below_call b24 k0
          obtain ⟨b, off, rfl, hab, c0, c1, c2'⟩ := r2.pt (Nat.le_refl _) b2 hIN gI
          simp only at c0 c1 c2'
          have kk := below_call k4 k0
          have ht2 := ht.kept kk
          have hA2 := r2.below (Nat.le_refl _) b2
          have hBv := b2.size
          have hIi : (I : Int) < (N : Int) := by omega
          obtain ⟨wv, hwv⟩ : ∃ wv, wv = wr := ⟨_, rfl⟩
          subst hwv
          go_wp2_with fail
          refine (qm _).mono ?_
          rintro e w5 ⟨rfl, rfl⟩
          go_wp2_with fail
          go_region_held3 (fun w' => w'.cell? ⟨b, off + I * 3, none⟩ = some (.int .i64 z0) ∧ w'.cell? ⟨b, off + I * 3 + 1, none⟩ = some (.int .i64 z1) ∧ w'.cell? ⟨b, off + I * 3 + 2, none⟩ = some (.int .i64 z2) ∧ Below wv.heap.size wv w') ((refine (fun hb => ⟨(hb.cell (p := ⟨_, _, none⟩) hab).trans c0, (hb.cell (p := ⟨_, _, none⟩) hab).trans c1, (hb.cell (p := ⟨_, _, none⟩) hab).trans c2', hb⟩) ?_; repeat (first | with_reducible exact Below.refl _ _ | with_reducible exact hB3 | with_reducible exact hB4 | with_reducible exact hB5 | with_reducible exact (show _ ∧ _ ∧ _ ∧ Below wv.heap.size wv _ by assumption).2.2.2 | with_reducible refine Below.drew ?_ | with_reducible refine below_alloc ?_ _))) ((first | ((refine step_guard (.tmp 65) (.tmp 66) 22 (.slice (some ⟨wv.heap.size, 0, none⟩) 0 0) ?_ ?_ ?_); (focus rfl); (focus rfl); (refine step_append_any _ (by rfl) (.tmp 65) (.tmp 66) 22 (by rfl) wv.heap.size 36 i0 _ 3 24 Tryd.underlying22 hi0 hz0 hz1 hz2 rfl (by omega) (.slice (some ⟨wv.heap.size, 0, none⟩) 0 0) 0 [] (by rfl) (own_call (World.ownsRow_lit wv #[] 0 (Nat.le_refl _) (by simp [maxLen]) rfl) (by repeat (first | with_reducible exact Below.refl _ _ | with_reducible refine Below.drew ?_ | with_reducible refine below_alloc ?_ _))) _ (some ⟨b, off, none⟩) N c2 (csP L) (by rfl) (hA2.below hBv (show _ ∧ _ ∧ _ ∧ Below wv.heap.size wv _ by assumption).2.2.2) (one_csP _) (by simp only [maxLen]; omega) (by omega) ((show _ ∧ _ ∧ _ ∧ Below wv.heap.size wv _ by assumption).2.2.2).size ?_); intro v1 w3 hown3 hg3 hat3; have hB3 : Below wv.heap.size wv w3 := Below.grown (B := wv.heap.size) (a := wv) (show _ ∧ _ ∧ _ ∧ Below wv.heap.size wv _ by assumption).2.2.2 hg3 (by first | exact ((show _ ∧ _ ∧ _ ∧ Below wv.heap.size wv _ by assumption).2.2.2).size) (fun q hq => by simp [Value.ownBlock] at hq; omega); simp only [Nat.zero_add, List.nil_append] at hown3; (try (refine lay3 hg3 (wv.heap.size) (t := 36) (cs := #[.int .i64 z0, .int .i64 z1, .int .i64 z2]) ?_ ?_ ?_; (focus ((repeat (first | with_reducible exact Blk.new _ _ _ | (with_reducible refine Blk.newAt _ _ _ _ ?_; first | rfl | (simp; done)) | with_reducible apply Blk.alloc | with_reducible apply Blk.drewN | with_reducible apply Blk.drew | with_reducible assumption)); done)); (focus (simp [Value.ownBlock]; done)); intro hbB)); (try (refine lay3 hg3 (wv.heap.size + 1) (t := 36) (cs := #[.int .i64 z0, .int .i64 z1, .int .i64 z2]) ?_ ?_ ?_; (focus ((repeat (first | with_reducible exact Blk.new _ _ _ | (with_reducible refine Blk.newAt _ _ _ _ ?_; first | rfl | (simp; done)) | with_reducible apply Blk.alloc | with_reducible apply Blk.drewN | with_reducible apply Blk.drew | with_reducible assumption)); done)); (focus (simp [Value.ownBlock]; done)); intro hbB))) | ((refine step_guard (.tmp 65) (.tmp 66) 22 (.slice (some ⟨wv.heap.size + 1, 0, none⟩) 0 0) ?_ ?_ ?_); (focus rfl); (focus rfl); (refine step_append_any _ (by rfl) (.tmp 65) (.tmp 66) 22 (by rfl) wv.heap.size 36 i0 _ 3 24 Tryd.underlying22 hi0 hz0 hz1 hz2 rfl (by omega) (.slice (some ⟨wv.heap.size + 1, 0, none⟩) 0 0) 0 [] (by rfl) (own_call (lit_at (wv.alloc (.cells #[.int .i64 z0, .int .i64 z1, .int .i64 z2] 36)) wv.heap.size (wv.heap.size + 1) (by simp) (by simp)) (by repeat (first | with_reducible exact Below.refl _ _ | with_reducible refine Below.drew ?_ | with_reducible refine below_alloc ?_ _))) _ (some ⟨b, off, none⟩) N c2 (csP L) (by rfl) (hA2.below hBv (show _ ∧ _ ∧ _ ∧ Below wv.heap.size wv _ by assumption).2.2.2) (one_csP _) (by simp only [maxLen]; omega) (by omega) ((show _ ∧ _ ∧ _ ∧ Below wv.heap.size wv _ by assumption).2.2.2).size ?_); intro v1 w3 hown3 hg3 hat3; have hB3 : Below wv.heap.size wv w3 := Below.grown (B := wv.heap.size) (a := wv) (show _ ∧ _ ∧ _ ∧ Below wv.heap.size wv _ by assumption).2.2.2 hg3 (by first | exact ((show _ ∧ _ ∧ _ ∧ Below wv.heap.size wv _ by assumption).2.2.2).size) (fun q hq => by simp [Value.ownBlock] at hq; omega); simp only [Nat.zero_add, List.nil_append] at hown3; (try (refine lay3 hg3 (wv.heap.size) (t := 36) (cs := #[.int .i64 z0, .int .i64 z1, .int .i64 z2]) ?_ ?_ ?_; (focus ((repeat (first | with_reducible exact Blk.new _ _ _ | (with_reducible refine Blk.newAt _ _ _ _ ?_; first | rfl | (simp; done)) | with_reducible apply Blk.alloc | with_reducible apply Blk.drewN | with_reducible apply Blk.drew | with_reducible assumption)); done)); (focus (simp [Value.ownBlock]; done)); intro hbB)); (try (refine lay3 hg3 (wv.heap.size + 1) (t := 36) (cs := #[.int .i64 z0, .int .i64 z1, .int .i64 z2]) ?_ ?_ ?_; (focus ((repeat (first | with_reducible exact Blk.new _ _ _ | (with_reducible refine Blk.newAt _ _ _ _ ?_; first | rfl | (simp; done)) | with_reducible apply Blk.alloc | with_reducible apply Blk.drewN | with_reducible apply Blk.drew | with_reducible assumption)); done)); (focus (simp [Value.ownBlock]; done)); intro hbB))) | ((refine step_guard (.tmp 67) (.tmp 72) 22 v1 ?_ ?_ ?_); (focus rfl); (focus rfl); (refine step_append_any _ (by rfl) (.tmp 67) (.tmp 72) 22 (by rfl) wv.heap.size 36 i0 _ 3 24 Tryd.underlying22 hi0 hz0 hz1 hz2 rfl (by omega) v1 N (csP L) (by rfl) (by first | exact hown3 | exact own_call hown3 (below_alloc (Below.refl _ _) _)) _ _ 1 1 (csP [(z0, z1, z2)]) (by rfl) (reads_blk (by first | exact Blk.new _ _ _ | exact hbB)) (one_csP _) (by simp only [maxLen]; omega) (by omega) ((show _ ∧ _ ∧ _ ∧ Below wv.heap.size wv _ by assumption).2.2.2).size ?_); intro v2 w4 hown4 hg4 hat4; have hB4 : Below wv.heap.size wv w4 := Below.grown (B := wv.heap.size) (a := wv) (show _ ∧ _ ∧ _ ∧ Below wv.heap.size wv _ by assumption).2.2.2 hg4 ((show _ ∧ _ ∧ _ ∧ Below wv.heap.size wv _ by assumption).2.2.2).size (fun q hq => (hown3.lt q hq).1); rw [← csP_append] at hown4; obtain ⟨A4, c4, hv4, hr4, _⟩ := own_reads hown4; subst hv4) | (go_at_call 31; refine Calls.mono (q4 A4 c4 w4.heap.size _ hr4 (Nat.le_refl _) (ht2.kept (show _ ∧ _ ∧ _ ∧ Below wv.heap.size wv _ by assumption).2.2.2)) ?_; rintro e w5 ⟨rfl, hb5⟩; have hB5 := below_call (show _ ∧ _ ∧ _ ∧ Below wv.heap.size wv _ by assumption).2.2.2 hb5)))
          all_goals
            have b25 := below_call b2 hB5
            have kk5 := below_call kk hB5
            obtain ⟨wz, hwz⟩ : ∃ wz, wz = w5 := ⟨_, rfl⟩
            subst hwz
            have rT : Reads wz w2.heap.size 3 (some ⟨b, off, none⟩) I (csP (L.take I)) := reads_take (r2.below (Nat.le_refl _) b25) (by omega)
            have hBz := b25.size
            have ht3 := ht.kept kk5
            clear hB5 hb5 c0 c1 c2' hab hA2 hBv ht2 k0 b2 kk
            have rZ := r2.below (Nat.le_refl _) b25
            have s1 := fun W => run_head W I N c2 b off (by omega) (by omega)
            obtain ⟨Ad, hAd, s2⟩ := run_tail I N c2 b off (by omega) hc2
            have rD : Reads wz w2.heap.size 3 Ad (N - (I + 1)) (csP (L.drop (I + 1))) := reads_drop rZ (by omega) _ hAd
            have hi1 : (I : Int) + 1 ≤ (N : Int) := by omega
            clear hAd
            go_wp2_with fail
            have hw1 : IntKind.i64.wrap ((I : Int) + 1) = (I : Int) + 1 := IntWalk.i64_in _ (by omega)
            go_region_held3 (fun w' => True ∧ True ∧ True ∧ Below wz.heap.size wz w') ((refine (fun hb => ⟨trivial, trivial, trivial, hb⟩) ?_; repeat (first | with_reducible exact Below.refl _ _ | with_reducible exact hB3 | with_reducible exact hB4 | with_reducible exact (show _ ∧ _ ∧ _ ∧ Below wz.heap.size wz _ by assumption).2.2.2 | with_reducible refine Below.drew ?_ | with_reducible refine below_alloc ?_ _))) ((first | ((refine step_guard (.tmp 76) (.tmp 79) 22 (.slice (some ⟨wz.heap.size, 0, none⟩) 0 0) ?_ ?_ ?_); (focus rfl); (focus rfl); (refine step_append_any _ (by rfl) (.tmp 76) (.tmp 79) 22 (by rfl) wz.heap.size 36 i0 _ 3 24 Tryd.underlying22 hi0 hz0 hz1 hz2 rfl (by omega) (.slice (some ⟨wz.heap.size, 0, none⟩) 0 0) 0 [] (by rfl) (own_call (World.ownsRow_lit wz #[] 0 (Nat.le_refl _) (by simp [maxLen]) rfl) (by repeat (first | with_reducible exact Below.refl _ _ | with_reducible refine Below.drew ?_ | with_reducible refine below_alloc ?_ _))) _ (some ⟨b, off, none⟩) I c2 (csP (L.take I)) (by rfl) (rT.below hBz (show _ ∧ _ ∧ _ ∧ Below wz.heap.size wz _ by assumption).2.2.2) (one_csP _) (by simp only [maxLen]; omega) (by omega) ((show _ ∧ _ ∧ _ ∧ Below wz.heap.size wz _ by assumption).2.2.2).size ?_); intro v1 w3 hown3 hg3 hat3; have hB3 : Below wz.heap.size wz w3 := Below.grown (B := wz.heap.size) (a := wz) (show _ ∧ _ ∧ _ ∧ Below wz.heap.size wz _ by assumption).2.2.2 hg3 (by first | exact ((show _ ∧ _ ∧ _ ∧ Below wz.heap.size wz _ by assumption).2.2.2).size) (fun q hq => by simp [Value.ownBlock] at hq; omega); simp only [Nat.zero_add, List.nil_append] at hown3) | ((refine step_guard (.tmp 80) (.tmp 84) 22 v1 ?_ ?_ ?_); (focus rfl); (focus rfl); (refine step_append_any _ (by rfl) (.tmp 80) (.tmp 84) 22 (by rfl) wz.heap.size 36 i0 _ 3 24 Tryd.underlying22 hi0 hz0 hz1 hz2 rfl (by omega) v1 I (csP (L.take I)) (by rfl) hown3 _ _ (N - (I + 1)) _ (csP (L.drop (I + 1))) (by rfl) (rD.below hBz ((show _ ∧ _ ∧ _ ∧ Below wz.heap.size wz _ by assumption).2.2.2)) (one_csP _) (by simp only [maxLen]; omega) (by omega) ((show _ ∧ _ ∧ _ ∧ Below wz.heap.size wz _ by assumption).2.2.2).size ?_); intro v2 w4 hown4 hg4 hat4; have hB4 : Below wz.heap.size wz w4 := Below.grown (B := wz.heap.size) (a := wz) (show _ ∧ _ ∧ _ ∧ Below wz.heap.size wz _ by assumption).2.2.2 hg4 ((show _ ∧ _ ∧ _ ∧ Below wz.heap.size wz _ by assumption).2.2.2).size (fun q hq => (hown3.lt q hq).1); rw [← csP_append] at hown4; obtain ⟨A4, c4, hv4, hr4, _⟩ := own_reads hown4; subst hv4)))
            all_goals
                have kk6 := below_call kk5 hB4
                have b26 := below_call b25 hB4
                rw [← HS.out] at hr4
                obtain ⟨Q, hQ⟩ : ∃ Q, Q = I + (N - (I + 1)) := ⟨_, rfl⟩
                have hQ1 : Q = N - 1 := by omega
                rw [← hQ] at hr4 ⊢
                clear hown4 hown3 hg4 hg3 hat3 hat4 hB3 s1 s2 rD rT hQ
                have hQ7 : Q ≤ 7 := by omega
                by_cases hQ0 : Q = 0
                · subst hQ0
                  clear hQ1
                  go_wp2_with fail
                  go_ret
                  exact ⟨rfl, kk6⟩
                · have dQ : ((Q : Int) == 0) = false := by simpa using hQ0
                  have hQl : S.length = Q := by rw [HSl.out, hQ1]
                  clear hQ1
                  have qbL := fun W (hW : Below w4.heap.size w4 W) => Bass_any (some ⟨b, off, none⟩) N c2 L w2.heap.size W (r2.below (Nat.le_refl _) (below_call b26 hW)) (below_call b26 hW).size (by omega) (ht.kept (below_call kk6 hW)).tabs
                  have qbS := fun W (hW : Below w4.heap.size w4 W) => Bass_any A4 Q c4 S w4.heap.size W (hr4.below (Nat.le_refl _) hW) hW.size (by omega) (ht.kept (below_call kk6 hW)).tabs
                  rw [HbL.out] at qbL
                  rw [HbS.out (by omega)] at qbS
                  have lL : bassL L < N := by have := bassL_lt (l := L) (by have := HLlen.out; omega); have := HLlen.out; omega
                  have lS : bassL S < Q := by have := bassL_lt (l := S) (by omega); omega
                  have gL := pAt_some (l := L) (k := bassL L) (by have := HLlen.out; omega)
                  have gS := pAt_some (l := S) (k := bassL S) (by omega)
                  have HSc2 := HSc.out
                  have e1 : bassP S = pAt S (bassL S) := rfl
                  have e2 : bassP L = pAt L (bassL L) := rfl
                  rw [e1, e2] at HSc2
                  clear e1 e2 hQl
                  obtain ⟨⟨p0, p1, p2⟩, hp⟩ : ∃ p, p = pAt L (bassL L) := ⟨_, rfl⟩
                  obtain ⟨⟨q0, q1, q2⟩, hq⟩ : ∃ p, p = pAt S (bassL S) := ⟨_, rfl⟩
                  rw [← hp] at gL HSc2
                  rw [← hq] at gS HSc2
                  obtain ⟨mL, hmL⟩ : ∃ m, m = bassL L := ⟨_, rfl⟩
                  obtain ⟨mS, hmS⟩ : ∃ m, m = bassL S := ⟨_, rfl⟩
                  rw [← hmL] at qbL lL gL
                  rw [← hmS] at qbS lS gS
                  clear hp hq hmL hmS
                  have y1 : decide ((mL : Int) < 0) = false := by simp
                  have y2 : decide ((mS : Int) < 0) = false := by simp
                  have y3 : decide (N ≤ mL) = false := by simp; omega
                  have y4 : decide (Q ≤ mS) = false := by simp; omega
                  have lLi : (mL : Int) < (N : Int) := by omega
                  have lSi : (mS : Int) < (Q : Int) := by omega
                  go_wp2_with fail
                  refine (qbL _ (Below.refl _ _)).mono ?_
                  rintro e v1 ⟨rfl, f1⟩
                  go_wp2_with fail
                  refine (qbS _ f1).mono ?_
                  rintro e v2 ⟨rfl, f2⟩
                  have f12 := below_call f1 f2
                  have kk8 := below_call kk6 f12
                  obtain ⟨b3, off3, e3, hab3, d0, d1, d2⟩ := r2.pt (Nat.le_refl _) (below_call b26 f12) lL gL
                  cases e3
                  obtain ⟨b4, off4, rfl, hab4, e0, e1, e2⟩ := hr4.pt (Nat.le_refl _) f12 lS gS
                  simp only at d0 d1 d2 e0 e1 e2
                  go_wp2_with fail
                  rcases three_parts p0 p1 p2 q0 q1 q2 with ⟨rfl, rfl, rfl⟩ | g0 | ⟨g0, g1⟩ | ⟨g0, g1, g2⟩
                  · have qcl := fun W (hW : Below w4.heap.size w4 W) => clash_is (some ⟨b4, off4, none⟩) none Q c4 0 0 S [] w4.heap.size W.heap.size W (hr4.below (Nat.le_refl _) hW) hW.size Reads.none_ (Nat.le_refl _) (by omega) (ht.kept (below_call kk6 hW)).tabs (HSc2 rfl)
                    clear HSc2
                    refine wp_region_calm (by kernel_rfl) (by kernel_rfl) ?_
                    repeat (go_big_quiet_step ((go_at_call 31; exact calm_call (qcl _ (below_call f12 (Calm.h _))))))
                    refine wpQuiet_nil ?_
                    intro w9 g9
                    go_wp2
                    go_ret
                    exact ⟨rfl, below_call kk8 g9⟩
                  · have g0' : (p0 == q0) = false := by simpa using g0
                    clear g0 HSc2
                    refine wp_region_calm (by kernel_rfl) (by kernel_rfl) ?_
                    repeat (go_big_quiet_step (fail))
                    refine wpQuiet_nil ?_
                    intro w9 g9
                    go_wp2
                    go_ret
                    exact ⟨rfl, below_call kk8 g9⟩
                  · have g0' : (p0 == q0) = true := by simpa using g0
                    have g1' : (p1 == q1) = false := by simpa using g1
                    clear g0 g1 HSc2
                    refine wp_region_calm (by kernel_rfl) (by kernel_rfl) ?_
                    repeat (go_big_quiet_step (fail))
                    refine wpQuiet_nil ?_
                    intro w9 g9
                    go_wp2
                    go_ret
                    exact ⟨rfl, below_call kk8 g9⟩
                  · have g0' : (p0 == q0) = true := by simpa using g0
                    have g1' : (p1 == q1) = true := by simpa using g1
                    have g2' : (p2 == q2) = false := by simpa using g2
                    clear g0 g1 g2 HSc2
                    refine wp_region_calm (by kernel_rfl) (by kernel_rfl) ?_
                    repeat (go_big_quiet_step (fail))
                    refine wpQuiet_nil ?_
                    intro w9 g9
                    go_wp2
                    go_ret
                    exact ⟨rfl, below_call kk8 g9⟩
  · obtain ⟨CL, hCL⟩ : ∃ C, C = fullC L := ⟨_, rfl⟩
    rw [← hCL] at qcL hcl
    obtain ⟨M, hM⟩ : ∃ M, M = CL.length := ⟨_, rfl⟩
    have hM0 : 0 < M := by rw [hM]; exact List.length_pos_iff.2 hcl
    rw [← hM] at qcL
    have dM : decide ((0 : Int) < (M : Int)) = true := by simp; omega
    have HM := Lib.hid hM
    clear hM hCL hN eL cL hLv hcl
    go_enter Tryd.func8, Tryd.ntmps8
    go_wp2_with fail
    refine (known_any _ ht).mono ?_
    rintro e w1 ⟨rfl, hb1⟩
    go_wp2_with fail
    refine (ql _ hb1).mono ?_
    rintro e w2 ⟨A2, c2, rfl, o2, hb2⟩
    have k2 := below_call hb1 hb2
    go_wp2_with fail
    refine (qcL A2 c2 w2.heap.size w2 o2.2.1 (Nat.le_refl _) (ht.kept k2)).mono ?_
    rintro e w3 ⟨A3, c3, rfl, r3, hb3⟩
    have k3 := below_call k2 hb3
    go_wp2
    go_ret
    exact ⟨rfl, k3⟩
def laids : List (String × DataW Unit) := Rows.intervalTakenRow.laid
theorem door_met (os : Os) (args : Array Value) : laidMetH Tryd.prog laids ((World.doorLaid Tryd.prog 80 os).forCall (fun _ _ => 0) ⟨#[], args, []⟩).memory :=
  laidMetH_of_parts3 (fuel := 8) (laidMet_of_run' 8 (by kernel_rfl) (by kernel_rfl)) (by kernel_rfl) (by kernel_rfl)
theorem tabs_of {W : World} (h : laidMetH Tryd.prog laids W) : Tabs2 W := by
  rw [MakeChecks.laidMetH_plain _ _ _ (by kernel_rfl)] at h
  exact ⟨tabs_of_list h (by kernel_rfl) (by kernel_rfl) (by kernel_rfl), sent_of_list h (by kernel_rfl)⟩
set_option maxRecDepth 100000 in
theorem lifted (os : Os) (started : os.Started) (H : Type) (enc : TypeId × Value → H) :
    ReturnsInHanded {} Tryd.checked os 8 .any (fun w args => (Rows.intervalTakenSpec.pre enc Tryd.prog Tryd.f8 [] false w args ∧ laidMetH Tryd.prog laids w) ∧ sizedMet enc Tryd.prog Tryd.f8 (OpenSpec.ofChange Rows.intervalTakenSpec) false w args) (Rows.intervalTakenSpec.post enc Tryd.prog Tryd.f8 false true false false) := by
  refine returnsInHanded_of_change_and (C := Tryd.checked) (X := fun w _ => laidMetH Tryd.prog laids w) (fun _ _ _ hh h => h.of_heap hh) own started (by kernel_rfl) Tryd.func8
    (ChangeSpec.witness_shaped (enc := enc) (C := Tryd.checked) (os := os) (X := fun w _ => laidMetH Tryd.prog laids w) false (World.doorLaid Tryd.prog 80 os) #[.slice none 0 0, .int .i64 0] 8 rfl (World.shaped_of_RefB (by kernel_rfl) (by kernel_rfl)) (by kernel_rfl) (by kernel_rfl) (by kernel_rfl) (door_met os _)) ?_
  intro W base args ds gs before hval0 hW _ _ hL _
  have hval : ∀ (j : Nat) t v, Tryd.f8.params[j]? = some t → args[j]? = some v → Value.okWide Tryd.prog W .any base t v := hval0
  have hW' := hW
  obtain ⟨p, q, hA0, hV, rfl, hfz, hnd⟩ := hW
  have hA : DataW.TrodAll enc Tryd.prog W 0 (fun _ => true) true Tryd.f8.params.toList args.toList ds p := hA0
  rw [Tryd.params8] at hA hval
  obtain ⟨v0, vs0, d0, ds0, p0, q0, hargs, rfl, rfl, h0, r0⟩ := trodAll_cons hA
  obtain ⟨v1, vs1, d1, ds1, p1, q1, rfl, rfl, rfl, h1, r1⟩ := trodAll_cons r0
  obtain ⟨rfl, rfl, rfl⟩ := trodAll_nil r1
  obtain rfl : args = #[v0, v1] := by cases args; simp_all
  obtain ⟨rfl, rfl⟩ := trodVars_none hV
  have k0 := h0
  have lt0 : ∀ x ∈ p0, x.block < W.heap.size := by obtain ⟨m, hm⟩ := k0; exact DataW.trod_lt m _ _ _ hm
  obtain ⟨A0, n0, c0, l0, rfl, w0⟩ := arg_ints (hval 0 58 v0 rfl rfl) h0
  have k1 := h1
  have lt1 : ∀ x ∈ p1, x.block < W.heap.size := by obtain ⟨m, hm⟩ := k1; exact DataW.trod_lt m _ _ _ hm
  obtain ⟨a1, rfl, w1⟩ := arg_int (hval 1 3 v1 rfl rfl) h1
  clear hA0 hval0
  refine (walk A0 n0 c0 l0 a1 W w0.1 w0.2.1 w0.2.2 w1 (tabs_of hL)).mono fun e W' ⟨he, bel⟩ => ?_
  subst he
  exact ⟨_, rfl, _, _, _, [], _, [], hW', trodAll_mk1 (shut_bool Tryd.underlying4 _), (trodAll_cons_mk (Below.trod laidOut (by kernel_rfl) (of_decide_eq_true (by kernel_rfl)) k0 bel lt0) (trodAll_cons_mk (Below.trod laidOut (by kernel_rfl) (of_decide_eq_true (by kernel_rfl)) k1 bel lt1) trodAll_mk0)), rfl, bel.frame _, fun h => by cases h⟩

theorem over : Rows.IntervalTakenSaid :=
  OpenClaim.holds_of_wide 8 Tryd.f8 rfl rfl rfl rfl rfl rfl rfl ⟨rfl, rfl, rfl, rfl, rfl⟩ rfl rfl rfl rfl rfl (by kernel_rfl) Tryd.func8 (by kernel_rfl)
    (of_decide_eq_true (by kernel_rfl)) (by unfold Func.isWrapper; first | (rw [if_pos (by decide +kernel)]; kernel_rfl) | (rw [if_neg (by decide +kernel)]; exact ⟨rfl, rfl⟩))
    (fun os started H enc _ => lifted os started H enc)

/-- The card: the row, its variables tied to the program's text. -/
theorem proved : Rows.IntervalTakenCardSaid :=
  Claim7.holds_tied_plain_at .later [] [.data, .data, .data, .sentinel, .sentinel, .data, .data, .data] true Rows.intervalTakenCard.stood.harness Rows.intervalTakenCard.stood.looks
    over (fun _ h => by cases h) (by kernel_rfl) (fun _ h => by cases h) intervalTaken_row_tie rfl ⟨rfl, rfl⟩ (by kernel_rfl) rfl
    (fun f fn hf hfn => by
      obtain rfl : f = 8 := Option.some.inj ((show Tryd.prog.funcNamed Tryd.f8.name = some 8 by kernel_rfl).symm.trans hf) |>.symm
      obtain rfl : fn = Tryd.f8 := (Option.some.inj (Tryd.func8.symm.trans hfn)).symm
      exact ⟨by kernel_rfl, fun j t ht => by
        rw [Tryd.params8] at ht
        have hm : t ∈ Tryd.f8.params.toList := by rw [Tryd.params8]; simpa using Array.mem_of_getElem? ht
        have hall : (Tryd.f8.params.toList.all fun u => !Tryd.prog.wantsStandIn u) = true := by kernel_rfl
        exact (show Tryd.prog.wantsStandIn t = false by simpa using List.all_eq_true.1 hall t hm)⟩)
    (by kernel_rfl)

end Go.Proofs.YtmbnpblejhlefaaDoor.intervalTaken
